/- The black ones: a range over a function. No condition. -/
import Derived.Test.YtmlhdmnnijapjaaVCR
import Derived.Test.YtmlhdmnnijapjaaMark
namespace Go.Proofs.Ytmlhdmnnijapjaa.V
open Go Go.RowKit

/-- The places of a colour, rising. -/
def ofc (k : Int) (cs : List Int) : List Int := ((List.range cs.length).filter fun i => cs.getD i 0 == k).map Int.ofNat

theorem ofc_snoc (k : Int) (cs : List Int) (i : Nat) (h : i < cs.length) : ofc k (cs.take (i + 1)) = ofc k (cs.take i) ++ (if cs.getD i 0 == k then [(i : Int)] else []) := by
  unfold ofc
  have e1 : (cs.take (i + 1)).length = i + 1 := by simp; omega
  have e2 : (cs.take i).length = i := by simp; omega
  rw [e1, e2, List.range_succ, List.filter_append, List.map_append]
  have e3 : ((List.range i).filter fun j => (cs.take (i + 1)).getD j 0 == k) = ((List.range i).filter fun j => (cs.take i).getD j 0 == k) := by
    refine List.filter_congr fun j hj => ?_
    rw [List.mem_range] at hj
    simp [List.getD_eq_getElem?_getD, List.getElem?_take, hj, show j < i + 1 by omega]
  rw [e3]
  have e4 : (cs.take (i + 1)).getD i 0 = cs.getD i 0 := by simp [List.getD_eq_getElem?_getD, List.getElem?_take]
  congr 1
  simp only [List.filter_cons, List.filter_nil, e4]
  split <;> simp

theorem ofc_len (k : Int) (cs : List Int) : (ofc k cs).length ≤ cs.length := by
  unfold ofc
  rw [List.length_map]
  exact Nat.le_trans (List.length_filter_le _ _) (by simp)

/-- What lay below n is as it lay, and so is block b. -/
def Kp2 (n b : Nat) (A B : World) : Prop := Below n A B ∧ B.heap[b]? = A.heap[b]?

attribute [local go_sem] Oper.semAt_some

set_option maxRecDepth 100000 in
set_option maxHeartbeats 1000000 in
theorem of1_in (n l b1 b3 wb n₀ : Nat) (hn : 1 ≤ n) (k : Int) (a : Option Addr) (c : Nat) (cs : List Int) (J Jx : List Int → World → Prop)
    (hY : ∀ pre x W, J pre W → pre.length < cs.length → YieldAt Fence.wide (n - 1) Try.prog l #[.int .i64 x] W fun e W' =>
      (e = .returned (.bool true) ∧ J (pre ++ [x]) W' ∧ Kp2 n₀ b3 W W') ∨ (e = .returned (.bool false) ∧ Jx (pre ++ [x]) W'))
    (W : World) (hc1 : W.cell? ⟨b1, 0, none⟩ = some (.pointer (some ⟨wb, 0, none⟩))) (hc2 : W.cell? ⟨wb, 0, none⟩ = some (.slice a cs.length c)) (hc3 : W.cell? ⟨b3, 0, none⟩ = some (.int .i64 k))
    (hs : ∀ i, i < cs.length → ∃ p, a = some p ∧ p.block < n₀ ∧ W.cell? (Addr.add p (i * 1)) = some (.int .i64 (cs.getD i 0))) (hl : cs.length ≤ 1000000) (h0 : J [] W) :
    CallsIn Fence.wide n Try.prog 67 #[.func (.yield l) #[] #[], .pointer (some ⟨b1, 0, none⟩), .pointer (some ⟨b3, 0, none⟩)] W fun e W' => (∃ v, e = .returned v) ∧
      ((∃ ys, ys = ofc k cs ∧ J ys W') ∨ (∃ pre, True ∧ Jx pre W')) := by
  refine callsIn_of_wp Try.func67 rfl trivial ?_ rfl
  simp only [Try.ntmps67, List.size_toArray, List.length_cons, List.length_nil, Nat.reduceAdd, Nat.reduceSub, Array.replicate_succ, Array.replicate_zero, List.push_toArray, List.append_toArray, List.nil_append, List.cons_append]
  gi_wp2
  gi_loopw [11] (fun p wr => ∃ i : Nat, p = .int .i64 i ∧ i ≤ cs.length ∧ Kp2 n₀ b3 W wr ∧ J (ofc k (cs.take i)) wr)
    (fun p _ => match p with | .int _ j => cs.length - j.toNat | _ => 0)
  case atStart => exact ⟨0, rfl, Nat.zero_le _, ⟨Below.refl _ _, rfl⟩, h0⟩
  case round =>
    obtain ⟨i, rfl, hi, ⟨hB, hb⟩, hJ⟩ := hrel
    have hc3' : wr.cell? ⟨b3, 0, none⟩ = some (.int .i64 k) := by rw [World.cell?_of_block hb]; exact hc3
    by_cases hlt : i < cs.length
    · obtain ⟨p, rfl, hp, hcp⟩ := hs i hlt
      have hcp' : wr.cell? (p.add (i * 1)) = some (.int .i64 (cs.getD i 0)) := by
        rw [World.cell?_of_block (hB.block _ (by rw [show (p.add (i * 1)).block = p.block by unfold Addr.add; split <;> rfl]; exact hp))]; exact hcp
      rw [Nat.mul_one] at hcp'
      have hsn := ofc_snoc k cs i hlt
      have hln : (ofc k (cs.take i)).length < cs.length := Nat.lt_of_le_of_lt (ofc_len _ _) (by simp; omega)
      have hw1 : wrap64 ((i : Int) + 1) = ((i + 1 : Nat) : Int) := by unfold wrap64; omega
      generalize hz : cs.getD i 0 = z at hcp' hsn
      by_cases hk : z = k
      · subst hk
        rw [if_pos (by simp)] at hsn
        obtain ⟨fn, tmps, assign, body, hy, hR⟩ := hY _ (i : Int) wr hJ hln
        gi_wp2
        refine hR.mono ?_
        rintro e W3 (⟨rfl, hJ3, hk3, hb3⟩ | ⟨rfl, hJx3⟩)
        · gi_wp2
          go_roundw
          case rel => exact ⟨i + 1, by simp, hlt, ⟨belowK_t hB hk3, hb3.trans hb⟩, by rw [hsn]; exact hJ3⟩
          case measure => simp [hw1]; omega
        · gi_wp2
          refine bodyPost_ret (results_none rfl _ _ _) rfl ?_
          exact ⟨⟨_, rfl⟩, .inr ⟨_, trivial, hJx3⟩⟩
      · rw [if_neg (by simp [hk])] at hsn
        gi_wp2
        refine ⟨fun _ _ => trivial, ?_⟩
        simp only [show (z == k) = false by simp [hk]]
        gi_wp2
        go_roundw
        case rel => exact ⟨i + 1, by simp, hlt, ⟨hB, hb⟩, by rw [hsn, List.append_nil]; exact hJ⟩
        case measure => simp [hw1]; omega
    · obtain rfl : i = cs.length := by omega
      gi_wp2
      go_end0
      exact ⟨⟨_, rfl⟩, .inl ⟨_, rfl, by rw [List.take_length] at hJ; exact hJ⟩⟩

theorem ret_any {K : Value → World → Prop} {e : Ending} {w : World} (h : Ret [.leaf .any] K e w) : ∃ v, e = .returned v ∧ K v w := by
  obtain ⟨vs, rfl, h⟩ := h
  match vs, h with
  | [v], h => exact ⟨v, rfl, h⟩
  | [], h => exact h.elim
  | v :: _ :: _, h => exact h.elim

/-- What the round has gathered. -/
structure Bi (w0 : World) (ob0 b1 b3 n : Nat) (pre : List Int) (W : World) : Prop where
  bl : Below n w0 W
  hob : n ≤ ob0 ∧ ob0 < b1 ∧ b1 < b3 ∧ b3 < W.heap.size
  got : ∃ ra rc, Blk W ob0 [.slice ra pre.length rc] ∧ SI W ra rc pre ∧ ∀ b ∈ ablk ra, b3 < b

theorem Bi.grown {w0 W W' : World} {ob b1 b3 n B : Nat} {pre : List Int} {row : Option Nat} (h : Bi w0 ob b1 b3 n pre W) (hn : n ≤ B) (hg : W.grownBy W' row) (hr : ∀ r, row = some r → B ≤ r ∧ ∃ o : Obj, W.heap[r]? = some o ∧ o.isCells = false) : Bi w0 ob b1 b3 n pre W' := by
  obtain ⟨bl, hob, ra, rc, h1, h2, h3⟩ := h
  have f : Fr row.toList W W' := Fr.of_grown hg (fun k hk => by rw [hk]; simp)
  have nc : ∀ b cs, Blk W b cs → b ∉ row.toList := fun b cs hb hm => by
    cases hrow : row with
    | none => rw [hrow] at hm; simp at hm
    | some r =>
      rw [hrow] at hm
      simp at hm
      subst hm
      obtain ⟨_, o, ho, hc⟩ := hr _ hrow
      obtain ⟨T, hb⟩ := hb
      rw [hb] at ho
      cases ho
      cases hc
  refine ⟨?_, ⟨hob.1, hob.2.1, hob.2.2.1, Nat.lt_of_lt_of_le hob.2.2.2 f.size⟩, ra, rc, h1.fr f (nc _ _ h1), h2.fr f ?_, h3⟩
  · refine bl.grown hg (by have := f.size; omega) fun r hr2 => ?_
    have := (hr r hr2).1
    omega
  · intro b hb
    obtain ⟨_, _, _, h4 | ⟨b', off, cs, rfl, hb', _⟩⟩ := h2
    · rw [h4.1] at hb; simp [ablk] at hb
    · simp [ablk] at hb; subst hb; exact nc _ _ hb'

theorem kp2_t {n b : Nat} {A B C : World} (h : Kp2 n b A B) (k : Kp2 n b B C) : Kp2 n b A C := ⟨belowK_t h.1 k.1, k.2.trans h.2⟩
theorem kp2_b {n b : Nat} {w : World} (hn : n ≤ w.heap.size) (hb : b < w.heap.size) (W : World) (l : Nat) (o o' : Obj) (hl : w.heap.size ≤ l) (h : W.heap[l]? = some o) (hc : o.isCells = false) (hw : o.isWalk = false) : Kp2 n b W (W.putObj l o') :=
  ⟨belowK_b hn W l o o' hl h hc hw, (World.putObj_heap_other (by omega))⟩

set_option maxRecDepth 100000 in
set_option maxHeartbeats 1000000 in
theorem black_in {w : World} {wb : Nat} {a qa : Option Addr} {c qc : Nat} {cs queue : List Int} (h : Mw w wb a c cs qa qc queue) (hl : cs.length ≤ 1000000) :
    CallsIn Fence.wide 9 Try.prog 28 #[.pointer (some ⟨wb, 0, none⟩)] w fun e W' => ∃ ra rc, e = .returned (.slice ra (ofc 3 cs).length rc) ∧ SI W' ra rc (ofc 3 cs) ∧ Below w.heap.size w W' ∧ ∀ b ∈ ablk ra, w.heap.size ≤ b := by
  refine callsIn_of_wp_marks Try.func28 rfl trivial ?_ rfl
  simp only [Try.ntmps28, List.size_toArray, List.length_cons, List.length_nil, Nat.reduceAdd, Nat.reduceSub, Array.replicate_succ, Array.replicate_zero, List.push_toArray, List.append_toArray, List.nil_append, List.cons_append]
  gi_wp2
  refine ⟨trivial, callsIn_wide.2 ((r_f45 wb 3 _ (fun v w2 => ∃ b1 b3, v = .func (.func 67) #[] #[.pointer (some ⟨b1, 0, none⟩), .pointer (some ⟨b3, 0, none⟩)] ∧ ∃ w1, NewAt (w.alloc (.cells #[.slice none 0 0] 38)) w1 b1 #[.pointer (some ⟨wb, 0, none⟩)] 35 ∧ NewAt w1 w2 b3 #[.int .i64 3] 3)
    (fun b1 w1 n1 b3 w2 n2 => ⟨b1, b3, rfl, w1, n1, n2⟩)).mono ?_)⟩
  rintro e w2 hret
  obtain ⟨v, rfl, b1, b3, rfl, w1, n1, n2⟩ := ret_any hret
  have N0 : NewAt w (w.alloc (.cells #[.slice none 0 0] 38)) w.heap.size #[.slice none 0 0] 38 := ⟨rfl, rfl⟩
  have fr2 : Fr [] w w2 := ((N0.fr []).more (n1.fr [])).more (n2.fr [])
  obtain ⟨ob, hob⟩ : ∃ ob, ob = w.heap.size := ⟨_, rfl⟩
  have e1 : b1 = w.heap.size + 1 := by rw [n1.1, World.size_alloc]
  have e3 : b3 = w.heap.size + 2 := by rw [n2.1, n1.2, World.size_alloc, World.size_alloc]
  have es : w2.heap.size = w.heap.size + 3 := by rw [n2.2, n1.2, World.size_alloc, World.size_alloc, World.size_alloc]
  have B0 : Blk w2 w.heap.size [.slice none 0 0] := ((N0.blk).fr (n1.fr []) (by simp)).fr (n2.fr []) (by simp)
  have B1 : Blk w2 b1 [.pointer (some ⟨wb, 0, none⟩)] := (n1.blk).fr (n2.fr []) (by simp)
  have B3 : Blk w2 b3 [.int .i64 3] := n2.blk
  have h2 := h.fr fr2 (by simp) (by simp [Apart]) (by simp [Apart])
  gi_wp2
  have lowA : ∀ b ∈ ablk a, b < w.heap.size := h.C.low
  have hseq : SeqStopsK Fence.wide (9 - 1) Try.prog 67 #[.pointer (some ⟨w.heap.size + 1, 0, none⟩), .pointer (some ⟨w.heap.size + 2, 0, none⟩)] (fun x : Int => #[Value.int .i64 x]) (Kp2 w.heap.size (w.heap.size + 2)) (fun ys => ys = ofc 3 cs) (fun _ => True) cs.length w2 := by
    intro l J Jx W hW _ _ hY h0
    have at_ : ∀ {b : Nat} {cs : List Value}, Blk w2 b cs → Blk W b cs := fun {b cs} hb => by
      have := hb.lt
      obtain ⟨T, hb⟩ := hb
      exact ⟨T, by rw [hW.block _ this]; exact hb⟩
    refine of1_in (9 - 1) l _ _ wb w.heap.size (by decide) 3 a c cs J Jx hY W ((at_ (e1 ▸ B1)).cell rfl) ((at_ h2.hd).cell rfl) ((at_ (e3 ▸ B3)).cell rfl) ?_ hl h0
    intro i hi
    obtain ⟨b, off, rfl, hc, _⟩ := h2.C.at (i := (i : Int)) (by omega) (by omega)
    have hb := lowA b (by simp [ablk])
    refine ⟨_, rfl, hb, ?_⟩
    rw [World.cell?_of_block (hW.block _ (by rw [show (Addr.add ⟨b, off, none⟩ (i * 1)).block = b by unfold Addr.add; split <;> rfl]; omega))]
    simpa using hc
  refine wpIn_rangeFunc_ownF rfl (by decide) (gf := 67) (lb := #[.pointer (some ⟨w.heap.size + 1, 0, none⟩), .pointer (some ⟨w.heap.size + 2, 0, none⟩)]) rfl trivial (Go.Proofs.enters_of Try.func67 (by kernel_rfl) rfl)
    hseq kp2_t (kp2_b (by omega) (by omega)) (Below.refl _ _) (fun _ => rfl)
    (fun pre W => Bi w w.heap.size (w.heap.size + 1) (w.heap.size + 2) w.heap.size pre W ∧ pre.length ≤ cs.length) (fun _ _ _ => False)
    (fun s A B row hs hg hr => ⟨hs.1.grown (by omega) hg hr, hs.2⟩) (fun _ _ _ _ _ hs _ _ => hs)
    ⟨⟨⟨fr2.os, fr2.tape, fr2.output, fr2.size, fun k hk => fr2.same k hk (by simp)⟩, ⟨by omega, by omega, by omega, by omega⟩, none, 0, B0, SI.nil _, by simp [ablk]⟩, Nat.zero_le _⟩
    (fun x => { tmps := [.pointer (some ⟨wb, 0, none⟩), undef, .slice none 0 0, .pointer (some ⟨w.heap.size, 0, none⟩), .int .i64 x, .pointer (some ⟨wb, 0, none⟩), .bool false, .pointer (some ⟨wb, 0, none⟩),
      .func (.func 67) #[] #[.pointer (some ⟨w.heap.size + 1, 0, none⟩), .pointer (some ⟨w.heap.size + 2, 0, none⟩)], .int .i64 x, undef, undef, undef, undef, undef].toArray, defers := [] }) ?assign ?body ?done ?stop
  case assign =>
    intro l x W K hK
    gi_wp2
    exact hK
  case body =>
    rintro l pre x W ⟨⟨bl, hob, ra, rc, hB, hS, hlt⟩, _⟩ hpl
    refine wpIn_block (region_in (cfg true (fun _ => [])) 15 (argEnv _) (fun w' => KeepsOthers W w' ∧ Kp2 w.heap.size (w.heap.size + 2) W w' ∧ Bi w w.heap.size (w.heap.size + 1) (w.heap.size + 2) w.heap.size (pre ++ [x]) w' ∧ (pre ++ [x]).length ≤ cs.length)
      (V := ∃ (a1 : Option Addr) (l1 c1 : Nat), World.cell? W ⟨w.heap.size, 0, none⟩ = some (.slice a1 l1 c1) ∧
        ∀ (b2 : Nat) (w3 : World), NewAt W w3 b2 #[.int .i64 x] 3 →
        RunF Try.prog (Builtin.append_ #[38, 38] 38 #[.slice a1 l1 c1, .slice (some ⟨b2, 0, none⟩) 1 1]) w3 [.leaf .slice] fun (a4 : Option Addr) (l4 c4 : Nat) (w5 : World) =>
        May w5 ⟨w.heap.size, 0, none⟩ ∧ ∀ w6 : World, SetC w5 w6 ⟨w.heap.size, 0, none⟩ (.slice a4 l4 c4) →
          KeepsOthers W w6 ∧ Kp2 w.heap.size (w.heap.size + 2) W w6 ∧ Bi w w.heap.size (w.heap.size + 1) (w.heap.size + 2) w.heap.size (pre ++ [x]) w6 ∧ (pre ++ [x]).length ≤ cs.length)
      (by kernel_rfl) (rel_list rfl) (by kernel_rfl) ⟨_, _, _, hB.cell rfl, fun b2 w3 n3 => ?_⟩ (fun a' w' h => h))
    have l1 := hB.lt
    have ap : Apart (ablk ra) [w.heap.size] := fun b hb hb2 => by simp at hb2; have := hlt b hb; omega
    obtain ⟨rfl, rfl⟩ := n3
    refine append_int (P := Try.prog) (t := 38) (e := 3) (i := Try.t3) (by kernel_rfl) (by kernel_rfl) rfl rfl hS x 3 (by omega) (by decide) 38 fun a4 c4 w4 Q4 f4 g4 => ?_
    have hd4 := hB.fr f4 (fun hm => ap _ hm (by simp))
    refine ⟨hd4.may (by simp), fun w6 s6 => ?_⟩
    have B6 := s6.blk hd4
    have f6 : Fr [w.heap.size] w4 w6 := s6.fr (by simp)
    have h4 : ∀ b ∈ ablk a4, w.heap.size + 2 < b := fun b hb => by
      rcases g4 b hb with q | q
      · exact hlt b q
      · have := hob.2.2.2; omega
    have f46 : Fr (w.heap.size :: ablk ra) W w6 := (f4.mono (fun k hk => .inl (by simp [hk]))).trans f6 (fun k hk => .inl (by simp at hk; simp [hk]))
    have bl6 : Below w.heap.size W w6 := ⟨f46.os, f46.tape, f46.output, f46.size, fun k hk => f46.same k (by omega) (fun hm => by
      rcases List.mem_cons.1 hm with rfl | hm
      · omega
      · have := hlt k hm; omega)⟩
    refine ⟨⟨f46.size, fun k o hk ho => ?_⟩, ⟨bl6, ?_⟩, ⟨⟨bl.trans bl6, ⟨hob.1, hob.2.1, hob.2.2.1, Nat.lt_of_lt_of_le hob.2.2.2 f46.size⟩, a4, c4, by rw [List.length_append]; simpa using B6, Q4.fr f6 (fun b hb hb2 => by simp at hb2; have := h4 b hb; omega), h4⟩, by rw [List.length_append]; simp; omega⟩⟩
    · rw [f46.same k (Array.getElem?_eq_some_iff.1 hk).1 ?_]
      · exact hk
      · intro hm
        have nc : ∀ cs, ¬ Blk W k cs := fun cs ⟨T, hb⟩ => by rw [hb] at hk; cases hk; cases ho
        rcases List.mem_cons.1 hm with rfl | hm
        · exact nc _ hB
        · obtain ⟨_, _, _, h5 | ⟨b', off, cs, rfl, hb', _⟩⟩ := hS
          · rw [h5.1] at hm; simp [ablk] at hm
          · simp [ablk] at hm; subst hm; exact nc _ hb'
    · exact f46.same _ (by omega) (fun hm => by
        rcases List.mem_cons.1 hm with hm | hm
        · omega
        · have := hlt _ hm; omega)
  case done =>
    rintro D ys W hD rfl ⟨⟨bl, hob, ra, rc, hB, hS, hlt⟩, _⟩ hK
    have hcl : W.cell? ⟨w.heap.size, 0, none⟩ = some (.slice ra (ofc 3 cs).length rc) := hB.cell rfl
    gi_wp2
    refine ⟨by simp, .inl ⟨_, _, rfl, run_takeDeferred hK, ?_⟩⟩
    have gD : W.grownBy (W.putObj D (.deferred none)) (some D) := grownBy_putObj' _ _ _
    have nD : ∀ b cs, Blk W b cs → b ∉ [D] := fun b cs ⟨T, hb⟩ hm => by simp at hm; subst hm; rw [hb] at hK; cases hK
    have fD : Fr [D] W (W.putObj D (.deferred none)) := Fr.of_grown gD (fun k hk => by cases hk; simp)
    refine ⟨_, results_tmp rfl _ _ _, ra, rc, rfl, hS.fr fD ?_, bl.trans ⟨fD.os, fD.tape, fD.output, fD.size, fun k hk => fD.same k (by have := bl.size; omega) (by simp; omega)⟩, fun b hb => by have := hlt b hb; omega⟩
    intro b hb
    obtain ⟨_, _, _, h5 | ⟨b', off, cs, rfl, hb', _⟩⟩ := hS
    · rw [h5.1] at hb; simp [ablk] at hb
    · simp [ablk] at hb; subst hb; exact nD _ _ hb'
  case stop =>
    rintro D c pre W _ _ h _
    exact h.elim

/-- The black ones, in a new place. -/
theorem mblack_c {w : World} {wb : Nat} {a qa : Option Addr} {c qc : Nat} {cs queue : List Int} (h : Mw w wb a c cs qa qc queue) (hl : cs.length ≤ 1000000) {K : Option Addr → Nat → Nat → World → Prop}
    (hK : ∀ w' ra rc, SI w' ra rc (ofc 3 cs) → Fr [] w w' → (∀ b ∈ ablk ra, w.heap.size ≤ b) → K ra (ofc 3 cs).length rc w') : C28 (some ⟨wb, 0, none⟩) w K := by
  refine (callsIn_wide.1 (black_in h hl)).mono ?_
  rintro e w' ⟨ra, rc, rfl, hS, bl, hb⟩
  exact ⟨[.slice ra (ofc 3 cs).length rc], rfl, hK w' ra rc hS ⟨bl.os, bl.tape, bl.output, bl.size, fun k hk _ => bl.block k hk⟩ hb⟩
end Go.Proofs.Ytmlhdmnnijapjaa.V
