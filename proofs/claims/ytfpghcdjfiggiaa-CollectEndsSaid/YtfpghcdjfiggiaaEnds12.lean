/- CollectEnds: just what is reached is there. No condition. -/
import Derived.Test.YtfpghcdjfiggiaaAlive12
namespace Go.Proofs.Ytfpghcdjfiggiaa.V
open Go Go.RowKit

/-- The cells of the law: each one's last word is its link. -/
structure Endy (xs : List XC) (ns tos : List Int) (l : Nat) : Prop where
  len : xs.length = l
  nl : ns.length = l
  tl : tos.length = l
  cell : ∀ (i : Nat) x, xs[i]? = some x → x.ref = (i : Int) + 1 ∧ (x.kind = 1 ∨ x.kind = 3) ∧ x.n = ns.getD i 0 ∧ 1 ≤ x.n ∧ x.n ≤ 40 ∧ x.vs = List.replicate (x.n - 1).toNat 0 ++ [tos.getD i 0]
  sum : xsum xs ≤ 56 * l

theorem xsum_app_e (a b : List XC) : xsum (a ++ b) = xsum a + xsum b := by
  induction a with
  | nil => simp [xsum]
  | cons x a ih => simp only [List.cons_append, xsum, ih]; omega

theorem Endy.more {xs : List XC} {ns tos : List Int} {l : Nat} (h : Endy xs ns tos l) {kind cls n : Int} (hk : kind = 1 ∨ kind = 3) (hn : 1 ≤ n ∧ n ≤ 40) : Endy (xs ++ [⟨(l : Int) + 1, kind, cls, n, List.replicate n.toNat 0⟩]) (ns ++ [n]) (tos ++ [0]) (l + 1) := by
  obtain ⟨h1, h2, h3, h4, h5⟩ := h
  refine ⟨by simp [h1], by simp [h2], by simp [h3], fun i x hx => ?_, by rw [xsum_app_e]; simp only [xsum]; omega⟩
  rcases Nat.lt_or_ge i l with q | q
  · rw [List.getElem?_append_left (by omega)] at hx
    obtain ⟨g1, g2, g3, g4, g5, g6⟩ := h4 i x hx
    refine ⟨g1, g2, ?_, g4, g5, ?_⟩
    · rw [List.getD_eq_getElem?_getD, List.getElem?_append_left (by omega), ← List.getD_eq_getElem?_getD]; exact g3
    · rw [List.getD_eq_getElem?_getD, List.getElem?_append_left (by omega), ← List.getD_eq_getElem?_getD]; exact g6
  · have hi := (List.getElem?_eq_some_iff.1 hx).1
    simp at hi
    have : i = l := by omega
    subst this
    rw [List.getElem?_append_right (by omega), h1, Nat.sub_self] at hx
    simp at hx
    subst hx
    refine ⟨rfl, hk, ?_, hn.1, hn.2, ?_⟩
    · rw [List.getD_eq_getElem?_getD, List.getElem?_append_right (by omega), h2, Nat.sub_self]; rfl
    · rw [List.getD_eq_getElem?_getD, List.getElem?_append_right (by omega), h3, Nat.sub_self]
      have : n.toNat = (n - 1).toNat + 1 := by omega
      dsimp only
      rw [this, List.replicate_succ']; rfl

theorem Endy.at {xs : List XC} {ns tos : List Int} {l : Nat} (h : Endy xs ns tos l) {i : Nat} (hi : i < l) : ∃ x, xs[i]? = some x ∧ x ∈ xs ∧ x.ref = (i : Int) + 1 ∧ (x.kind = 1 ∨ x.kind = 3) ∧ x.n = ns.getD i 0 ∧ 1 ≤ x.n ∧ x.n ≤ 40 ∧ x.vs = List.replicate (x.n - 1).toNat 0 ++ [tos.getD i 0] := by
  obtain ⟨x, hx⟩ : ∃ x, xs[i]? = some x := ⟨_, List.getElem?_eq_getElem (by have := h.len; omega)⟩
  exact ⟨_, hx, List.mem_of_getElem? hx, h.cell i _ hx⟩

theorem Endy.put {xs : List XC} {ns tos : List Int} {l : Nat} (h : Endy xs ns tos l) {i : Nat} (hi : i < l) (v : Int) : Endy (xput xs ((i : Int) + 1) (ns.getD i 0 - 1) v) ns (tos.set i v) l := by
  obtain ⟨h1, h2, h3, h4, h5⟩ := h
  refine ⟨by simp [xput, h1], h2, by simp [h3], fun j x hx => ?_, by rw [show xsum (xput xs ((i : Int) + 1) (ns.getD i 0 - 1) v) = xsum xs from cxsum_map (fun x => by split <;> rfl) xs]; exact h5⟩
  unfold xput at hx
  rw [List.getElem?_map] at hx
  cases hy : xs[j]? with
  | none => rw [hy] at hx; cases hx
  | some y =>
    rw [hy] at hx
    obtain ⟨g1, g2, g3, g4, g5, g6⟩ := h4 j y hy
    have hjl : j < l := by have := (List.getElem?_eq_some_iff.1 hy).1; omega
    by_cases e : j = i
    · subst e
      simp only [Option.map_some, Option.some.injEq] at hx
      rw [if_pos g1] at hx
      subst hx
      refine ⟨g1, g2, g3, g4, g5, ?_⟩
      dsimp only
      rw [g6, ← g3, List.getD_eq_getElem?_getD (l := tos.set j v), List.getElem?_set, if_pos rfl, if_pos (by omega)]
      rw [List.set_append_right _ _ (by simp)]
      simp
    · simp only [Option.map_some, Option.some.injEq] at hx
      rw [if_neg (by omega)] at hx
      subst hx
      refine ⟨g1, g2, g3, g4, g5, ?_⟩
      rw [g6, List.getD_eq_getElem?_getD (l := tos.set i v), List.getElem?_set, if_neg (fun q => e q.symm), ← List.getD_eq_getElem?_getD]

theorem Endy.isref {xs : List XC} {ns tos : List Int} {l : Nat} (h : Endy xs ns tos l) {r : Int} : V.isref xs r = true ↔ 1 ≤ r ∧ r ≤ l := by
  rw [isref_iff]
  constructor
  · rintro ⟨x, hx, rfl⟩
    obtain ⟨i, hi⟩ := List.getElem?_of_mem hx
    have := (h.cell i x hi).1
    have := (List.getElem?_eq_some_iff.1 hi).1
    have := h.len
    omega
  · intro q
    obtain ⟨x, _, hx, e, _⟩ := h.at (i := (r - 1).toNat) (by omega)
    exact ⟨x, hx, by omega⟩

theorem Endy.reach {xs : List XC} {ns tos : List Int} {l : Nat} (h : Endy xs ns tos l) {keep : Int} (hk : 0 ≤ keep ∧ keep ≤ l) (hv : ∀ i : Nat, i < l → 0 ≤ tos.getD i 0 ∧ tos.getD i 0 ≤ l) {S : List Int} (hS : ∀ r, r ∈ S ↔ 1 ≤ r ∧ r ≤ keep) (r : Int) : Rch leads xs S r ↔ Lk tos keep r := by
  constructor
  · intro hr
    induction hr with
    | root r h1 _ => exact .root r ((hS r).1 h1).1 ((hS r).1 h1).2
    | step q x r _ hx e hp hr hi ih =>
      obtain ⟨i, hxi⟩ := List.getElem?_of_mem hx
      obtain ⟨g1, g2, g3, g4, g5, g6⟩ := h.cell i x hxi
      have hr0 := h.isref.1 hi
      rw [g6] at hr
      rcases List.mem_append.1 hr with q1 | q1
      · have := (List.mem_replicate.1 q1).2; omega
      · simp only [List.mem_singleton] at q1
        have ei : (q - 1).toNat = i := by omega
        rw [q1, ← ei]
        exact .step q ih (by rw [ei, ← q1]; omega)
  · intro hr
    have gen : ∀ r, Lk tos keep r → Rch leads xs S r ∧ 1 ≤ r ∧ r ≤ l := fun r hr => by
      induction hr with
      | root r h1 h2 => exact ⟨.root r ((hS r).2 ⟨h1, h2⟩) (h.isref.2 ⟨h1, by omega⟩), h1, by omega⟩
      | step q hq hne ih =>
        obtain ⟨ih, q1, q2⟩ := ih
        obtain ⟨x, _, hx, e, g2, g3, g4, g5, g6⟩ := h.at (i := (q - 1).toNat) (by omega)
        have hvq := hv (q - 1).toNat (by omega)
        refine ⟨.step q x _ ih hx (by omega) ?_ (by rw [g6]; simp) (h.isref.2 ⟨by omega, hvq.2⟩), by omega, hvq.2⟩
        unfold leads
        rcases g2 with g | g <;> rw [g] <;> decide
    exact (gen r hr).1

theorem cnt12_filter {α : Type} (P : α → Bool) : ∀ xs : List α, ((xs.filter P).length : Int) = cnt12 (xs.map P)
  | [] => rfl
  | x :: xs => by
    have := cnt12_filter P xs
    rw [List.filter_cons, List.map_cons]
    simp only [cnt12]
    split <;> simp <;> omega
theorem one12_succ (n : Nat) : one12 (n + 1) = one12 n ++ [(n : Int) + 1] := by unfold one12; rw [List.range_succ]; simp
theorem one12_take {l k : Nat} (h : k ≤ l) : (one12 l).take k = one12 k := by
  unfold one12; rw [← List.map_take, List.take_range]; congr 2; omega
theorem mem_one12 {l : Nat} {r : Int} : r ∈ one12 l ↔ 1 ≤ r ∧ r ≤ l := by
  unfold one12; rw [List.mem_map]
  exact ⟨by rintro ⟨i, hi, rfl⟩; rw [List.mem_range] at hi; omega, fun q => ⟨(r - 1).toNat, List.mem_range.2 (by omega), by omega⟩⟩

section
variable {W w w' : World} {own own' : Nat → Nat} {cb : Nat} {roots : List (List Int)} {words cycles last : Int} {xs xs0 : List XC}

/-- A step, and two threads answer. -/
theorem turn2_c {k m : Nat} (h : Cm W w own cb roots words cycles last xs0 k m) (hk : k = 0 ∨ k = 2) (hT : roots.length = 2) (pw : (xs0.map (·.ref)).Pairwise (· < ·)) (hxl : xs0.length ≤ 100000) (hul : ∀ rs ∈ roots, rs.length ≤ 1000) (hc : 0 ≤ cycles ∧ cycles ≤ 1000) (A : List Int) (hA : ∀ r, Rch leads xs0 roots.flatten r ↔ r ∈ A) {K : Bool → Int → World → Prop}
    (hgo : ∀ w' own' m', m' ≤ m → (k ≠ 0 → m' < m) → Cm W w' own' cb roots words cycles last xs0 2 m' → StN 15 w w' own own' → K true 0 w')
    (hend : ∀ w' own', Cq W w' own' cb roots words (cycles + 1) last (xs0.filter fun x => decide (x.ref ∈ A)) → StN 15 w w' own own' → K false 0 w') :
    C124 (some ⟨cb, 0, none⟩) w fun b75 n76 w77 => C125 (some ⟨cb, 0, none⟩) 0 w77 fun _ w79 => C125 (some ⟨cb, 0, none⟩) 1 w79 fun _ w81 => K b75 n76 w81 := by
  have ans : ∀ w1 own1 m1, m1 ≤ m → (k ≠ 0 → m1 < m) → Cm W w1 own1 cb roots words cycles last xs0 k m1 → StN 15 w w1 own own1 →
      C125 (some ⟨cb, 0, none⟩) 0 w1 fun _ w79 => C125 (some ⟨cb, 0, none⟩) 1 w79 fun _ w81 => K true 0 w81 := fun w1 own1 m1 hm1 hm2 h1 st1 => by
    rcases hk with rfl | rfl
    · refine qcanswer h1 hxl hul (by omega) fun w2 own2 m2 hm3 h2 st2 => ?_
      exact qcanswer h2 hxl hul (by omega) fun w3 own3 m3 hm4 h3 st3 => hgo w3 own3 m3 (by omega) (fun q => absurd rfl q) h3 ((st1.trans st2).trans st3)
    · have h1' : Cm W w1 own1 cb roots words cycles last xs0 roots.length m1 := by rw [hT]; exact h1
      exact qcanswer_done h1' hxl hul (k := 0) (by omega) (qcanswer_done h1' hxl hul (k := 1) (by omega) (hgo w1 own1 m1 hm1 hm2 h1 st1))
  refine qcstep h (by omega) pw hxl hc A hA (fun hlt => ans w own m (Nat.le_refl _) (fun q => by omega) h (StN.still fun S => Fr.refl S w)) (fun w1 own1 m1 hm1 h1 st1 => ans w1 own1 m1 (by omega) (fun _ => hm1) h1 st1) (fun w1 own1 h1 st1 => ?_)
  have hxf : (xs0.filter fun x => decide (x.ref ∈ A)).length ≤ 100000 := Nat.le_trans (List.length_filter_le _ _) hxl
  exact qcanswer_idle h1 hxf hul (k := 0) (by omega) (qcanswer_idle h1 hxf hul (k := 1) (by omega) (hend w1 own1 h1 st1))
end

section
variable {w w' : World} {own own' : Nat → Nat} {a : Option Addr} {c k : Nat}
/-- A slice of bools of one's own. -/
structure Sdb (w : World) (own : Nat → Nat) (a : Option Addr) (c k : Nat) (xs : List Bool) : Prop where
  sb : SB w a c xs
  tg : Tag own (ablk a) k
theorem Sdb.step {n : Nat} {xs : List Bool} (h : Sdb w own a c k xs) (s : StN n w w' own own') (hk : n ≤ k) : Sdb w' own' a c k xs := by
  have t := s.tag h.tg h.sb.low
  obtain ⟨⟨S, f, hS⟩, ag⟩ := s
  exact ⟨h.sb.fr f (fun b hb hb2 => by have := hS b hb2; have := h.tg b hb; omega), t⟩
end

theorem Sd.app2 {w : World} {own : Nat → Nat} {a : Option Addr} {c k l : Nat} {xs : List Int} (h : Sd w own a c k xs) {n : Int} {b : Nat} {w1 : World} (n1 : NewAt w w1 b #[.int .i64 n] 3) (hl : l = xs.length) (h63 : l + 1 ≤ 1048576) {K : Option Addr → Nat → Nat → World → Prop}
    (hK : ∀ a' c' w', Sd w' (ext own w.heap.size k) a' c' k (xs ++ [n]) → Fr (ablk a) w w' → K a' (l + 1) c' w') :
    RunF Try.prog (Builtin.append_ #[42, 42] 42 #[.slice a l c, .slice (some ⟨b, 0, none⟩) 1 1]) w1 [.leaf .slice] K := by
  subst hl
  exact h.app n1 h63 fun a' c' w' S f _ => hK a' c' w' S f

theorem collectEnds_c (drops : Int) {W : World} {a1 a2 : Option Addr} {zs1 zs2 : List Int} {c1 c2 : Nat} (ga1 : ArgI W.heap.size W a1 zs1) (ga2 : ArgI W.heap.size W a2 zs2) {K : Bool → World → Prop} (hK : ∀ w', Fr [] W w' → K true w') : C31 a1 zs1.length c1 a2 zs2.length c2 drops W K := by
  refine r_f31 _ _ _ _ _ _ _ _ _ (awake12_c fun w1 f1 => ifb_f (qcnew 16384 2 (by decide) fun w2 own2 cb R2 => ?_))
  replace ga1 : ∀ w', Fr [] w1 w' → ArgI W.heap.size w' a1 zs1 := fun w' f => ga1.fr (f1.more f) (by simp)
  replace ga2 : ∀ w', Fr [] w1 w' → ArgI W.heap.size w' a2 zs2 := fun w' f => ga2.fr (f1.more f) (by simp)
  replace hK : ∀ w', Fr [] w1 w' → K true w' := fun w' f => hK w' (f1.more f)
  have R2 : Cq w1 w2 own2 cb [one12 0, []] 16384 0 ((0 : Nat) : Int) [] := R2
  have wu : ∀ z : Int, 0 ≤ IntKind.wrap .u64 z := fun z => by
    simp only [IntKind.wrap, IntKind.signed, IntKind.bits]; simp; omega
  have wus : ∀ z : Nat, z ≤ 1000 → IntKind.wrap .u64 (z : Int) = z := fun z h => by
    simp only [IntKind.wrap, IntKind.signed, IntKind.bits]; simp; omega
  have hsz : ∀ z : Int, ∃ k : Int, IntKind.wrap .i64 (1 + IntKind.wrap .i64 (Int.tmod (IntKind.wrap .u64 z) 40)) = k ∧ 1 ≤ k ∧ k ≤ 40 := fun z => by
    have h1 := wu z
    rw [Int.tmod_eq_emod_of_nonneg h1]
    have h2 := Int.emod_nonneg (IntKind.wrap .u64 z) (b := 40) (by decide)
    have h3 := Int.emod_lt_of_pos (IntKind.wrap .u64 z) (b := 40) (by decide)
    rw [w64_c (z := IntKind.wrap .u64 z % 40) (by omega) (by omega), w64_c (by omega) (by omega)]
    exact ⟨_, rfl, by omega, by omega⟩
  -- the cells are made
  refine ⟨fun a7 l7 c7 a8 l8 c8 n9 w' => ∃ (own : Nat → Nat) (xs : List XC) (ns : List Int), l8 = l7 ∧ l7 ≤ 20 ∧ 0 ≤ n9 ∧ n9 ≤ 40 * l7 ∧ Endy xs ns (List.replicate l7 0) l7 ∧ Sd w' own a7 c7 1000 (one12 l7) ∧ Sd w' own a8 c8 1001 ns ∧ Cq w1 w' own cb [one12 l7, []] 16384 0 (l7 : Int) xs, ?_, ?_⟩
  · refine ⟨fun a7 l7 c7 a8 l8 c8 n9 i w' => i = (l7 : Int) ∧ ∃ (own : Nat → Nat) (xs : List XC) (ns : List Int), l8 = l7 ∧ l7 ≤ 20 ∧ 0 ≤ n9 ∧ n9 ≤ 40 * l7 ∧ Endy xs ns (List.replicate l7 0) l7 ∧ Sd w' own a7 c7 1000 (one12 l7) ∧ Sd w' own a8 c8 1001 ns ∧ Cq w1 w' own cb [one12 l7, []] 16384 0 (l7 : Int) xs, fun _ _ _ _ _ _ _ i _ => (20 - i).toNat,
      ⟨rfl, own2, [], [], rfl, by decide, by decide, by decide, ⟨rfl, rfl, rfl, fun i x h => by simp at h, by decide⟩, Sd.nil _ _ _, Sd.nil _ _ _, R2⟩, ?_⟩
    rintro - a13 _ c13 a14 j c14 n15 _ w3 ⟨rfl, own3, xs3, ns3, rfl, hj, hn0, hn1, E3, A3, B3, R3⟩
    have out : ∃ (own : Nat → Nat) (xs : List XC) (ns : List Int), j = j ∧ j ≤ 20 ∧ 0 ≤ n15 ∧ n15 ≤ 40 * j ∧ Endy xs ns (List.replicate j 0) j ∧ Sd w3 own a13 c13 1000 (one12 j) ∧ Sd w3 own a14 c14 1001 ns ∧ Cq w1 w3 own cb [one12 j, []] 16384 0 (j : Int) xs := ⟨own3, xs3, ns3, rfl, hj, hn0, hn1, E3, A3, B3, R3⟩
    refine IfB.dec (fun hil => IfB.dec (fun hi20 => ?_) (fun _ => out)) (fun _ => out)
    clear out
    refine (ga1 w3 R3.bs).get (by omega) hil fun p hp _ => ⟨⟨by omega, hil⟩, _, hp, by decide, fun b20 w21 n20 => ?_⟩
    have A21 := A3.other (S := []) (n20.fr []) (j := 1020) (by simp [Tag]) (by decide) 1020
    have B21 := B3.other (S := []) (n20.fr []) (j := 1020) (by simp [Tag]) (by decide) 1020
    have R21 := R3.other (S := []) (n20.fr []) (k := 1020) (by simp [Tag]) (by decide)
    generalize ext own3 w3.heap.size 1020 = own21 at A21 B21 R21
    obtain ⟨q, hq⟩ : ∃ q, bits .and .i64 (j : Int) 1 = q := ⟨_, rfl⟩
    have hq1 := and_range 1 1 (by decide) rfl (j : Int)
    rw [hq] at hq1 ⊢
    have a1' : ∀ (j : Nat) (bb : Nat), Addr.add ⟨bb, 0, none⟩ (j * 1) = ⟨bb, j, none⟩ := fun j bb => by simp [Addr.add]; omega
    obtain ⟨kd, hkd, hk13⟩ : ∃ kd : Int, w21.cell? (Addr.add ⟨b20, 0, none⟩ (Int.toNat q * 1)) = some (.int .i64 kd) ∧ (kd = 1 ∨ kd = 3) := by
      rw [a1']
      have : q = 0 ∨ q = 1 := by omega
      rcases this with rfl | rfl
      · exact ⟨1, n20.blk.cell rfl, .inl rfl⟩
      · exact ⟨3, n20.blk.cell rfl, .inr rfl⟩
    obtain ⟨N, eN, hN⟩ := hsz (zs1.getD (Int.toNat (j : Int)) 0)
    rw [eN]
    refine ⟨by omega, kd, hkd, ?_⟩
    have hf : formE kd (j : Int) N = 0 := by
      unfold formE
      rcases hk13 with rfl | rfl
      · rw [if_pos rfl, if_pos (by omega)]
      · rw [if_neg (by decide), if_pos (by decide), if_pos (by omega)]
    have hsum := E3.sum
    refine qcmake R21 (by omega) (rs := one12 j) (by decide) rfl (by omega) hf (fun h => absurd h (by rw [one12_len]; omega)) (fun _ h => absurd h (by omega)) fun _ _ w25 own25 R25 st25 => ifb_nyes rfl fun b26 w27 n27 => ?_
    have A25 := A21.step st25 (by decide)
    have B25 := B21.step st25 (by decide)
    have lenA := one12_len j
    have nl := E3.nl
    refine A25.app2 n27 lenA.symm (by omega) fun a28 c28 w29 A29 f29 b30 w31 n31 => ?_
    have B29 := B25.other f29 A25.tg (by decide) 1000
    have R29 := R25.other f29 A25.tg (by decide)
    generalize ext own25 w25.heap.size 1000 = own29 at A29 B29 R29
    refine B29.app2 n31 nl.symm (by omega) fun a32 c32 w33 B33 f33 => ?_
    have A33 := A29.other f33 B29.tg (by decide) 1001
    have R33 := R29.other f33 B29.tg (by decide)
    rw [w64_c (z := n15 + N) (by omega) (by omega), w64_c (z := (j : Int) + 1) (by omega) (by omega)]
    refine ⟨⟨by omega, _, xs3 ++ [⟨(j : Int) + 1, kd, (j : Int), N, List.replicate N.toNat 0⟩], _, rfl, by omega, by omega, by omega, ?_, ?_, B33, ?_⟩, by dsimp only; omega⟩
    · rw [List.replicate_succ']; exact E3.more hk13 hN
    · rw [one12_succ]; exact A33
    · rw [one12_succ]; exact R33
  rintro - a7 _ c7 a8 l c8 n9 w10 ⟨own10, xs10, ns, rfl, hl20, hS0, hS1, E10, A10, B10, R10⟩
  -- the links are set
  refine mk_int (by omega) (by omega) fun b34 w35 T35 f35 g35 => ?_
  rw [show Int.toNat (l : Int) = l by omega] at T35 ⊢
  have A35 := A10.other (S := []) (f35 []) (j := 1002) (by simp [Tag]) (by decide) 1002
  have B35 := B10.other (S := []) (f35 []) (j := 1002) (by simp [Tag]) (by decide) 1002
  have R35 := R10.other (S := []) (f35 []) (k := 1002) (by simp [Tag]) (by decide)
  have D35 : Sd w35 (ext own10 w10.heap.size 1002) (some ⟨b34, 0, none⟩) l 1002 (List.replicate l 0) := ⟨T35, Tag.fresh _ (by simp [ablk]; exact g35)⟩
  generalize ext own10 w10.heap.size 1002 = own35 at A35 B35 R35 D35
  have lenA := one12_len l
  refine ⟨fun i w' => 0 ≤ i ∧ i ≤ l ∧ ∃ (own : Nat → Nat) (xs : List XC) (tos : List Int), Endy xs ns tos l ∧ (∀ q : Nat, q < l → 0 ≤ tos.getD q 0 ∧ tos.getD q 0 ≤ l) ∧ Sd w' own a7 c7 1000 (one12 l) ∧ Sd w' own a8 c8 1001 ns ∧ Sd w' own (some ⟨b34, 0, none⟩) l 1002 tos ∧ Cq w1 w' own cb [one12 l, []] 16384 0 (l : Int) xs, fun i _ => (l - i).toNat,
    ⟨by decide, by omega, own35, xs10, _, E10, fun q hq => by rw [List.getD_eq_getElem?_getD, List.getElem?_replicate, if_pos hq]; simp, A35, B35, D35, R35⟩, ?_⟩
  rintro - i w11 ⟨hi0, hi1, own11, xs11, tos, E11, hv11, A11, B11, D11, R11⟩
  have ei : ((i.toNat : Nat) : Int) = i := by omega
  refine IfB.dec (fun hlt => ?_) (fun hge => ?_)
  · rw [w64_c (z := i + 1) (by omega) (by omega)]
    refine IfB.dec (fun hlk => ?_) (fun _ => ⟨⟨by omega, by omega, own11, xs11, tos, E11, hv11, A11, B11, D11, R11⟩, by dsimp only; omega⟩)
    refine (ga2 w11 R11.bs).get hi0 hlk fun p hp _ => ⟨⟨hi0, hlk⟩, _, hp, by rw [wus l (by omega)]; omega, ?_⟩
    obtain ⟨q, hq, hq0, hq1⟩ : ∃ q, IntKind.wrap .i64 (Int.tmod (IntKind.wrap .u64 (zs2.getD i.toNat 0)) (IntKind.wrap .u64 (l : Int))) = q ∧ 0 ≤ q ∧ q < l := by
      have h1 := wu (zs2.getD i.toNat 0)
      rw [wus l (by omega), Int.tmod_eq_emod_of_nonneg h1]
      have h2 := Int.emod_nonneg (IntKind.wrap .u64 (zs2.getD i.toNat 0)) (b := (l : Int)) (by omega)
      have h3 := Int.emod_lt_of_pos (IntKind.wrap .u64 (zs2.getD i.toNat 0)) (b := (l : Int)) (by omega)
      rw [w64_c (by omega) (by omega)]
      exact ⟨_, rfl, h2, h3⟩
    rw [hq]
    have eq : ((q.toNat : Nat) : Int) = q := by omega
    have tl := E11.tl
    have nl := E11.nl
    refine A11.si.get hq0 (by omega) fun p2 hp2 => ⟨⟨hq0, hq1⟩, _, hp2, ?_⟩
    rw [one12_getD (by omega), eq]
    refine D11.si.put hi0 (by omega) (q + 1) fun p3 m3 _ s3 => ⟨⟨hi0, hlt⟩, m3, fun w12 c12 => fun w13 d13 => ?_⟩
    obtain ⟨D12, f12⟩ := s3 w12 c12
    have A12 := A11.other f12 D11.tg (by decide) 1002
    have B12 := B11.other f12 D11.tg (by decide) 1002
    have R12 := R11.other f12 D11.tg (by decide)
    have D12' : Sd w12 (ext own11 w11.heap.size 1002) (some ⟨b34, 0, none⟩) l 1002 (tos.set i.toNat (q + 1)) := ⟨D12, D11.tg.keep D11.si.low 1002⟩
    have st13 : ∀ o, StN 15 w12 w13 o o := fun o => StN.still d13.fr
    have A13 := A12.step (st13 _) (by decide)
    have B13 := B12.step (st13 _) (by decide)
    have D13 := D12'.step (st13 _) (by decide)
    have R13 : Cq w1 w13 (ext own11 w11.heap.size 1002) cb [one12 l, []] 16384 0 (l : Int) xs11 := by
      obtain ⟨s, c, e1, e2, e3, e4⟩ := R12
      exact ⟨s, ⟨c.C.still d13.fr, c.wd, c.tk, c.cy, c.la, c.ln, c.rt, c.bs.step (st13 _) (by decide)⟩, e1, e2, e3, e4⟩
    generalize ext own11 w11.heap.size 1002 = own13 at A13 B13 D13 R13
    refine A13.si.get hi0 (by omega) fun p4 hp4 => ⟨⟨hi0, hlt⟩, _, hp4, B13.si.get hi0 (by omega) fun p5 hp5 => ⟨⟨hi0, by omega⟩, _, hp5, D13.si.get hi0 (by rw [List.length_set]; omega) fun p6 hp6 => ⟨⟨hi0, hlt⟩, _, hp6, ?_⟩⟩⟩
    have eto : (tos.set i.toNat (q + 1)).getD i.toNat 0 = q + 1 := by rw [List.getD_eq_getElem?_getD, List.getElem?_set, if_pos rfl, if_pos (by omega)]; rfl
    rw [one12_getD (by omega), ei, eto]
    obtain ⟨x, hxi, hxm, ex, hxk, hxn, hx1, hx2, hxv⟩ := E11.at (i := i.toNat) (by omega)
    rw [w64_c (z := ns.getD i.toNat 0 - 1) (by omega) (by omega)]
    refine qcput R13 _ (by simp) hxm (by omega) (by omega) fun w14 own14 R14 st14 => ⟨⟨by omega, by omega, own14, _, _, ?_, fun q' hq' => ?_, A13.step st14 (by decide), B13.step st14 (by decide), D13.step st14 (by decide), R14⟩, by dsimp only; omega⟩
    · have := E11.put (i := i.toNat) (by omega) (q + 1)
      rwa [ei] at this
    · rw [List.getD_eq_getElem?_getD, List.getElem?_set]
      split
      · split
        · simp; omega
        · simp
      · rw [← List.getD_eq_getElem?_getD]; exact hv11 q' hq'
  -- some are let go
  refine ⟨fun n56 w' => 0 ≤ n56 ∧ n56 ≤ l ∧ w' = w11, IfB.dec (fun h0 => ?_) (fun h0 => ⟨by omega, by omega, rfl⟩), ?_⟩
  · have h1 := wu drops
    rw [w64_c (z := (l : Int) + 1) (by omega) (by omega), show ((l : Int) + 1) = ((l + 1 : Nat) : Int) by omega, wus (l + 1) (by omega), Int.tmod_eq_emod_of_nonneg h1]
    have h2 := Int.emod_nonneg (IntKind.wrap .u64 drops) (b := ((l + 1 : Nat) : Int)) (by omega)
    have h3 := Int.emod_lt_of_pos (IntKind.wrap .u64 drops) (b := ((l + 1 : Nat) : Int)) (by omega)
    refine ⟨by omega, ?_, ?_, rfl⟩
    · rw [w64_c (by omega) (by omega)]; exact h2
    · rw [w64_c (by omega) (by omega)]; omega
  rintro - keep _ ⟨hk0, hk1, rfl⟩
  rename_i w11
  refine ⟨fun n w' => keep ≤ n ∧ n ≤ l ∧ ∃ own, Sd w' own a7 c7 1000 (one12 l) ∧ Sd w' own a8 c8 1001 ns ∧ Sd w' own (some ⟨b34, 0, none⟩) l 1002 tos ∧ Cq w1 w' own cb [one12 n.toNat, []] 16384 0 (l : Int) xs11, fun n _ => n.toNat, ⟨by omega, by omega, own11, A11, B11, D11, by rw [show Int.toNat (l : Int) = l by omega]; exact R11⟩, ?_⟩
  rintro - n w12 ⟨hn0, hn1, own12, A12, B12, D12, R12⟩
  refine IfB.dec (fun hlt => ?_) (fun hge2 => ?_)
  · rw [show n.toNat = (n - 1).toNat + 1 by omega, one12_succ] at R12
    refine qcpop R12 (rs := one12 (n - 1).toNat ++ [(((n - 1).toNat : Nat) : Int) + 1]) (by decide) rfl (fun e => by simp at e) fun l' f el w13 own13 R13 st13 => ?_
    obtain ⟨e1, _⟩ := List.append_inj' el rfl
    subst e1
    rw [w64_c (z := n - 1) (by omega) (by omega)]
    exact ⟨⟨by omega, by omega, own13, A12.step st13 (by decide), B12.step st13 (by decide), D12.step st13 (by decide), R13⟩, by dsimp only; omega⟩
  obtain rfl : n = keep := by omega
  have tl := E11.tl
  have lenX := E11.len
  refine alive_c A12.si D12.si tl (by omega) hv11 ⟨hk0, hk1⟩ fun b65 w13 bs S13 hbl hbs f13 g13 => ?_
  have A13 := A12.other (S := []) (f13 []) (j := 1003) (by simp [Tag]) (by decide) 1003
  have B13 := B12.other (S := []) (f13 []) (j := 1003) (by simp [Tag]) (by decide) 1003
  have D13 := D12.other (S := []) (f13 []) (j := 1003) (by simp [Tag]) (by decide) 1003
  have R13 := R12.other (S := []) (f13 []) (k := 1003) (by simp [Tag]) (by decide)
  have T13 : Sdb w13 (ext own12 w12.heap.size 1003) (some ⟨b65, 0, none⟩) l 1003 bs := ⟨S13, Tag.fresh _ (by simp [ablk]; exact g13)⟩
  generalize ext own12 w12.heap.size 1003 = own13 at A13 B13 D13 R13 T13
  obtain ⟨Al, hAl⟩ : ∃ Al : List Int, ∀ r, r ∈ Al ↔ (1 ≤ r ∧ r ≤ l) ∧ bs.getD (r - 1).toNat false = true := ⟨(one12 l).filter fun r => bs.getD (r - 1).toNat false, fun r => by rw [List.mem_filter, mem_one12]⟩
  have hlk : ∀ i : Nat, i < l → (bs.getD i false = true ↔ Lk tos n ((i : Int) + 1)) := hbs
  have hS : ∀ r, r ∈ ([one12 n.toNat, []] : List (List Int)).flatten ↔ 1 ≤ r ∧ r ≤ n := fun r => by simp [mem_one12]; omega
  have hA : ∀ r, Rch leads xs11 ([one12 n.toNat, []] : List (List Int)).flatten r ↔ r ∈ Al := fun r => by
    rw [hAl, E11.reach ⟨hk0, hk1⟩ hv11 hS r]
    constructor
    · intro h
      have hi := E11.isref.1 ((E11.reach ⟨hk0, hk1⟩ hv11 hS r).2 h).isref
      refine ⟨hi, (hlk (r - 1).toNat (by omega)).2 ?_⟩
      rwa [show (((r - 1).toNat : Nat) : Int) + 1 = r by omega]
    · rintro ⟨h1, h2⟩
      have := (hlk (r - 1).toNat (by omega)).1 h2
      rwa [show (((r - 1).toNat : Nat) : Int) + 1 = r by omega] at this
  have pw := R13.srt
  have hul : ∀ rs ∈ ([one12 n.toNat, []] : List (List Int)), rs.length ≤ 1000 := fun rs h => by
    simp at h
    rcases h with rfl | rfl
    · rw [one12_len]; omega
    · simp
  refine qcbegin R13 (by decide) fun w14 own14 C14 st14 => ?_
  have hbound : IntKind.wrap .i64 (IntKind.wrap .i64 (IntKind.wrap .i64 (64 + IntKind.wrap .i64 (24 * (l : Int))) + IntKind.wrap .i64 (8 * n9)) + IntKind.wrap .i64 (8 * (l : Int))) = 64 + 24 * l + 8 * n9 + 8 * l := by
    rw [w64_c (z := 24 * (l : Int)) (by omega) (by omega), w64_c (z := 8 * n9) (by omega) (by omega), w64_c (z := 8 * (l : Int)) (by omega) (by omega), w64_c (z := 64 + 24 * (l : Int)) (by omega) (by omega), w64_c (z := 64 + 24 * (l : Int) + 8 * n9) (by omega) (by omega), w64_c (by omega) (by omega)]
  rw [hbound]
  refine ⟨fun t bb w' => 0 ≤ t ∧ ∃ own, Sd w' own a7 c7 1000 (one12 l) ∧ Sd w' own a8 c8 1001 ns ∧ Sd w' own (some ⟨b34, 0, none⟩) l 1002 tos ∧ Sdb w' own (some ⟨b65, 0, none⟩) l 1003 bs ∧
      ((bb = true ∧ ∃ k m : Nat, (k = 0 ∨ k = 2) ∧ t + m + (if k = 0 then 1 else 0) ≤ 3 * l + 4 ∧ Cm w1 w' own cb [one12 n.toNat, []] 16384 0 (l : Int) xs11 k m) ∨ (bb = false ∧ Cq w1 w' own cb [one12 n.toNat, []] 16384 (0 + 1) (l : Int) (xs11.filter fun x => decide (x.ref ∈ Al)))),
    fun t bb _ => if bb = true then (3 * (l : Int) + 5 - t).toNat + 1 else 0, ⟨by decide, own14, A13.step st14 (by decide), B13.step st14 (by decide), D13.step st14 (by decide), T13.step st14 (by decide), .inl ⟨rfl, 0, _, .inl rfl, by rw [lenX]; simp; omega, C14⟩⟩, ?_⟩
  rintro - t bb w15 ⟨ht0, own15, A15, B15, D15, T15, hs⟩
  rcases hs with ⟨rfl, k, m, hk, hm, C15⟩ | ⟨rfl, R15⟩
  · have ht1 : t ≤ 3 * l + 4 := by omega
    refine ifb_t (turn2_c C15 hk rfl pw (by omega) hul (by decide) Al hA (fun w16 own16 m16 hm1 hm2 C16 st16 => ?_) (fun w16 own16 R16 st16 => ?_))
    · rw [w64_c (z := t + 1) (by omega) (by omega)]
      refine ifb_nyes rfl (ifb_no (decide_eq_false (by omega)) ⟨⟨by omega, own16, A15.step st16 (by decide), B15.step st16 (by decide), D15.step st16 (by decide), T15.step st16 (by decide), .inl ⟨rfl, 2, m16, .inr rfl, ?_, C16⟩⟩, by dsimp only; rw [if_pos rfl, if_pos rfl]; omega⟩)
      rw [if_neg (by decide)]
      by_cases e : k = 0
      · rw [if_pos e] at hm; omega
      · rw [if_neg e] at hm
        have := hm2 e
        omega
    · rw [w64_c (z := t + 1) (by omega) (by omega)]
      exact ifb_nyes rfl (ifb_no (decide_eq_false (by omega)) ⟨⟨by omega, own16, A15.step st16 (by decide), B15.step st16 (by decide), D15.step st16 (by decide), T15.step st16 (by decide), .inr ⟨rfl, R16⟩⟩, by dsimp only; rw [if_neg (by decide), if_pos rfl]; omega⟩)
  refine ifb_f ?_
  have hfl : (xs11.filter fun x => decide (x.ref ∈ Al)).length ≤ 100000 := Nat.le_trans (List.length_filter_le _ _) (by omega)
  have hcnt : ((xs11.filter fun x => decide (x.ref ∈ Al)).length : Int) = cnt12 bs := by
    rw [cnt12_filter]
    congr 1
    apply List.ext_getElem?
    intro i
    rw [List.getElem?_map]
    cases hx : xs11[i]? with
    | none =>
      have : bs[i]? = none := by rw [List.getElem?_eq_none_iff] at hx ⊢; omega
      rw [this]; rfl
    | some x =>
      have hil : i < l := by have := (List.getElem?_eq_some_iff.1 hx).1; omega
      have e1 := (E11.cell i x hx).1
      have e2 : bs[i]? = some (bs.getD i false) := by rw [List.getD_eq_getElem?_getD, List.getElem?_eq_getElem (by omega)]; rfl
      rw [e2, Option.map_some]
      congr 1
      rw [Bool.eq_iff_iff, decide_eq_true_iff, hAl, e1, show ((i : Int) + 1 - 1).toNat = i by omega]
      exact ⟨fun h => h.2, fun h => ⟨by omega, h⟩⟩
  refine qcrefs R15 hfl fun a82 c82 w16 R16 f16 => ?_
  have A16 := A15.step (StN.still (n := 15) f16) (by decide)
  have B16 := B15.step (StN.still (n := 15) f16) (by decide)
  have D16 := D15.step (StN.still (n := 15) f16) (by decide)
  have T16 := T15.step (StN.still (n := 15) f16) (by decide)
  refine ⟨fun w' => w' = w16, ifb_nyes rfl (ifb_nyes rfl (ifb_nyes (decide_eq_true hcnt) rfl)), ?_⟩
  rintro - w17 rfl
  refine ⟨fun i w' => 0 ≤ i ∧ i ≤ l ∧ ∃ own, Sd w' own a7 c7 1000 (one12 l) ∧ Sd w' own a8 c8 1001 ns ∧ Sd w' own (some ⟨b34, 0, none⟩) l 1002 tos ∧ Sdb w' own (some ⟨b65, 0, none⟩) l 1003 bs ∧ Cq w1 w' own cb [one12 n.toNat, []] 16384 (0 + 1) (l : Int) (xs11.filter fun x => decide (x.ref ∈ Al)), fun i _ => (l - i).toNat, ⟨by decide, by omega, own15, A16, B16, D16, T16, R16⟩, ?_⟩
  rintro - i w18 ⟨hi0', hi1', own18, A18, B18, D18, T18, R18⟩
  have nl := E11.nl
  refine IfB.dec (fun hlt2 => ?_) (fun hge3 => qccycles R18 (ifb_yes rfl (qcphase R18 (hK w18 R18.bs))))
  refine SB.get T18.sb hi0' (by omega) fun p hp => ⟨⟨hi0', by omega⟩, _, hp, ?_⟩
  rw [w64_c (z := i + 1) (by omega) (by omega)]
  have hb2 : bs.getD i.toNat false = true ∨ bs.getD i.toNat false = false := by cases bs.getD i.toNat false <;> simp
  rcases hb2 with hb | hb
  · rw [hb]
    refine ifb_f ⟨fun v e w' => e = 0 ∧ v = tos.getD i.toNat 0 ∧ ∃ own, Sd w' own a7 c7 1000 (one12 l) ∧ Sd w' own a8 c8 1001 ns ∧ Sd w' own (some ⟨b34, 0, none⟩) l 1002 tos ∧ Sdb w' own (some ⟨b65, 0, none⟩) l 1003 bs ∧ Cq w1 w' own cb [one12 n.toNat, []] 16384 (0 + 1) (l : Int) (xs11.filter fun x => decide (x.ref ∈ Al)), fun w19 d19 => ?_, ?_⟩
    · have st : StN 15 w18 w19 own18 own18 := StN.still d19.fr
      have R19 : Cq w1 w19 own18 cb [one12 n.toNat, []] 16384 (0 + 1) (l : Int) (xs11.filter fun x => decide (x.ref ∈ Al)) := by
        obtain ⟨s, c, e1, e2, e3, e4⟩ := R18
        exact ⟨s, ⟨c.C.still d19.fr, c.wd, c.tk, c.cy, c.la, c.ln, c.rt, c.bs.step st (by decide)⟩, e1, e2, e3, e4⟩
      have A19 := A18.step st (by decide)
      have B19 := B18.step st (by decide)
      have D19 := D18.step st (by decide)
      have T19 := T18.step st (by decide)
      refine A19.si.get hi0' (by omega) fun p4 hp4 => ⟨⟨hi0', hlt2⟩, _, hp4, B19.si.get hi0' (by omega) fun p5 hp5 => ⟨⟨hi0', by omega⟩, _, hp5, ?_⟩⟩
      obtain ⟨x, hxi, hxm, ex, hxk, hxn, hx1, hx2, hxv⟩ := E11.at (i := i.toNat) (by omega)
      rw [one12_getD (by omega), w64_c (z := ns.getD i.toNat 0 - 1) (by omega) (by omega)]
      have hxf : x ∈ xs11.filter fun x => decide (x.ref ∈ Al) := by
        rw [List.mem_filter, decide_eq_true_iff, hAl, ex, show (((i.toNat : Nat) : Int) + 1 - 1).toNat = i.toNat by omega]
        exact ⟨hxm, by omega, hb⟩
      refine qcload R19 (by simp) hxf ex (by omega) fun w20 own20 R20 st20 => ⟨rfl, ?_, own20, A19.step st20 (by decide), B19.step st20 (by decide), D19.step st20 (by decide), T19.step st20 (by decide), R20⟩
      rw [hxv, ← hxn, List.getD_eq_getElem?_getD, List.getElem?_append_right (by simp)]
      simp
    · rintro - _ _ w20 ⟨rfl, rfl, own20, A20, B20, D20, T20, R20⟩
      refine ifb_nyes rfl (D20.si.get hi0' (by omega) fun p6 hp6 => ⟨⟨hi0', hlt2⟩, _, hp6, ifb_nyes (decide_eq_true rfl) ⟨⟨by omega, by omega, own20, A20, B20, D20, T20, R20⟩, by dsimp only; omega⟩⟩)
  · rw [hb]
    exact ifb_t ⟨⟨by omega, by omega, own18, A18, B18, D18, T18, R18⟩, by dsimp only; omega⟩
end Go.Proofs.Ytfpghcdjfiggiaa.V
