/- Copies: things in a row are appended to a new row. No condition. CopyProgram: new memory of the same. Condition: no list is longer than 1048576. (The region of many orders is printed by gen7.py.) A program's bulk bounds its lists and its bytes. No condition. Arguments that are programs, and their bulk. (Printed by gen8.py.) No condition. A program's bytes, by both writers; no list of the program is longer than 1048576, and its bytes are no more than 10^12. -/
import Derived.Test.YtmlhdmnnijapjaaClassM
import Derived.Test.YtmlhdmnnijapjaaGClsM
import Derived.Test.YtmlhdmnnijapjaaClassS
import Derived.Test.YtmlhdmnnijapjaaClassEr
import Derived.Test.YtmlhdmnnijapjaaClassB
import Derived.Test.YtmlhdmnnijapjaaRows
import Derived.Test.YtmlhdmnnijapjaaClassWt
import Derived.Test.YtmlhdmnnijapjaaClassA
import Derived.Test.YtmlhdmnnijapjaaGClsL5
namespace Go.Proofs.Ytmlhdmnnijapjaa.V
open Go Go.RowKit

theorem add_add (p : Addr) (m n : Nat) : Addr.add (Addr.add p m) n = Addr.add p (m + n) := by
  unfold Addr.add
  by_cases h1 : m = 0
  · subst h1; simp
  · by_cases h2 : n = 0
    · subst h2; simp
    · rw [if_neg h1, if_neg h2, if_neg (by omega)]
      simp [Nat.add_assoc]

theorem app_rseq {α : Type} {R : List Value → α → Prop} {U : Nat → Prop} {m : Prop} {w : World} {a : Option Addr} {l c k b1 : Nat} {xs : List α} {t e : TypeId} {i : TypeInfo} {z : Value} (ht : Try.prog.underlying t = some (.slice e)) (hi : Try.prog.info? e = some i) (hz : i.zero = some z) (hs : i.size = k) (hzs : z.cells.size = k) (hk : 0 < k) (hby : i.bytes ≤ 1048576)
    (D : rSeq U m w k R a l xs) (B : Blk w b1 []) (hcell : ∀ vs x, R vs x → ∀ u ∈ vs, isCell u = true) (hl : xs.length ≤ 1048576) {K : Option Addr → Nat → Nat → World → Prop}
    (hK : ∀ a' c' w' (rows : List (List Value)), SV w' a' l c' k rows.flatten → rows.length = xs.length → (∀ r ∈ rows, r.length = k) → (∀ (i : Nat) (r : List Value) (x : α), rows[i]? = some r → xs[i]? = some x → R r x) → Fr [b1] w w' → (∀ b ∈ ablk a', b = b1 ∨ w.heap.size ≤ b) → K a' l c' w') :
    RunF Try.prog (Builtin.append_ #[t, t] t #[.slice (some ⟨b1, 0, none⟩) 0 0, .slice a l c]) w [.leaf .slice] K := by
  have S0 : SV w (some ⟨b1, 0, none⟩) 0 0 k [] := ⟨by simp, Nat.le_refl _, by decide, .inr ⟨b1, 0, [], rfl, B, by simp, by simp⟩⟩
  obtain ⟨el, hD⟩ := D
  rcases Nat.eq_zero_or_pos l with h0 | h0
  · subst h0
    have ex : xs = [] := List.eq_nil_of_length_eq_zero el.symm
    subst ex
    have fin := hK (some ⟨b1, 0, none⟩) 0 w [] (by simpa using S0) rfl (by simp) (by simp) (Fr.refl _ _) (by simp [ablk])
    refine ⟨[.slice (some ⟨b1, 0, none⟩) 0 0], w, ?_, fin⟩
    cases a <;> simp [Builtin.append_, run_underlying ht, sizeOf, typeInfo, hi, Builtin.lenOf, Builtin.firstCells, storeCells, loadCells, loadCellsFrom, packs, Sh.take, one]
  · have each : ∀ j, j < xs.length → ∃ vs : List Value, vs.length = k ∧ (∀ x, xs[j]? = some x → R vs x) ∧ ∃ p, a = some p ∧ CellsAt w (Addr.add p (j * k)) vs := fun j hj => by
      obtain ⟨p, vs, h1, h2, h3, h4, h5, h6, h7⟩ := hD j _ (List.getElem?_eq_getElem hj)
      exact ⟨vs, h4, fun x hx => by rw [List.getElem?_eq_getElem hj] at hx; cases hx; exact h7, p, h1, h5⟩
    obtain ⟨p, rfl⟩ : ∃ p, a = some p := by obtain ⟨_, _, _, p, h, _⟩ := each 0 (by omega); exact ⟨p, h⟩
    have rowsOk : ∃ rows : List (List Value), rows.length = xs.length ∧ (∀ r ∈ rows, r.length = k) ∧ ∀ (j : Nat) (r : List Value), rows[j]? = some r → (∀ x, xs[j]? = some x → R r x) ∧ CellsAt w (Addr.add p (j * k)) r := by
      refine ⟨List.ofFn fun j : Fin xs.length => Classical.choose (each j j.2), by simp, fun r hr => ?_, fun j r hr => ?_⟩
      · obtain ⟨j, rfl⟩ := List.mem_ofFn.1 hr
        exact (Classical.choose_spec (each j j.2)).1
      · have hj : j < xs.length := by have := (List.getElem?_eq_some_iff.1 hr).1; simpa using this
        rw [List.getElem?_ofFn, dif_pos hj] at hr
        cases hr
        obtain ⟨_, h2, p', h3, h4⟩ := Classical.choose_spec (each j hj)
        cases h3
        exact ⟨h2, h4⟩
    obtain ⟨rows, q1, q2, q3⟩ := rowsOk
    have hfl : rows.flatten.length = l * k := by
      have : ∀ (rs : List (List Value)), (∀ r ∈ rs, r.length = k) → rs.flatten.length = rs.length * k := fun rs => by
        induction rs with
        | nil => simp
        | cons r rs ih =>
          intro h
          rw [List.flatten_cons, List.length_append, ih fun r hr => h r (by simp [hr]), h r (by simp), List.length_cons, Nat.succ_mul, Nat.add_comm]
      rw [this rows q2, q1, el]
    refine append_c (m := l) (news := rows.flatten) ht hi hz hs hzs hk S0 h0 hfl (fun j u hj => ?_) (fun u hu => ?_) (by omega) hby t fun a' c' w' g1 g2 g3 => ?_
    · have hjl : j < l * k := by rw [← hfl]; exact (List.getElem?_eq_some_iff.1 hj).1
      have hdiv : j / k < l := Nat.div_lt_of_lt_mul (by rw [Nat.mul_comm]; exact hjl)
      have hr : rows[j / k]? = some (rows[j / k]'(by omega)) := List.getElem?_eq_getElem (by omega)
      have hm : j % k < k := Nat.mod_lt _ hk
      have hj2 : j = (j / k) * k + j % k := by rw [Nat.mul_comm]; exact (Nat.div_add_mod j k).symm
      have h5 := rows_get q2 hr hm
      rw [← hj2, hj] at h5
      have h6 := (q3 _ _ hr).2 _ _ h5.symm
      have e : Addr.add (Addr.add p (j / k * k)) (j % k) = Addr.add p j := by
        rw [add_add, ← hj2]
      rw [e] at h6; exact h6
    · obtain ⟨r, hr, hur⟩ := List.mem_flatten.1 hu
      obtain ⟨j, hj⟩ := List.getElem?_of_mem hr
      have hjx : j < xs.length := by have := (List.getElem?_eq_some_iff.1 hj).1; omega
      exact hcell r _ ((q3 j r hj).1 _ (List.getElem?_eq_getElem hjx)) u hur
    · have e : 0 + l = l := Nat.zero_add l
      rw [e] at g1 ⊢
      exact hK a' c' w' rows (by simpa using g1) q1 q2 (fun i r x hr hx => (q3 i r hr).1 x hx) (by simpa [ablk] using g2) (fun b hb => (g3 b hb).imp (by simp [ablk]) id)

theorem rseq_svU {α : Type} {R : List Value → α → Prop} {U : Nat → Prop} {w : World} {a : Option Addr} {l c k : Nat} {rows : List (List Value)} {xs : List α} (h : SV w a l c k rows.flatten) (hk : 0 < k) (hr : ∀ r ∈ rows, r.length = k) (hl : l = xs.length) (hl2 : rows.length = xs.length) (hU : ∀ b ∈ ablk a, U b)
    (hR : ∀ (i : Nat) (r : List Value) (x : α), rows[i]? = some r → xs[i]? = some x → R r x) : rSeq U True w k R a l xs := by
  refine ⟨hl, fun i x hx => ?_⟩
  have hi : i < xs.length := (List.getElem?_eq_some_iff.1 hx).1
  have hr1 : rows[i]? = some (rows[i]'(by omega)) := List.getElem?_eq_getElem (by omega)
  generalize rows[i]'(by omega) = r at hr1
  have hrl : r.length = k := hr r (List.mem_of_getElem? hr1)
  obtain ⟨b, off, rfl, hc⟩ := h.at (i := i) (by omega)
  refine ⟨_, r, rfl, hU b (by simp [ablk]), h.low b (by simp [ablk]), hrl, fun j v hj => ?_, fun _ j hj => (hc j hj).2, hR i r x hr1 hx⟩
  have hjk : j < k := by have := (List.getElem?_eq_some_iff.1 hj).1; omega
  rw [(hc j hjk).1, rows_get hr hr1 hjk]
  exact hj

theorem copy59 {w : World} {m : Prop} {a : Option Addr} {l c : Nat} {xs : List Int} {U : Nat → Prop} (D : rSeq U m w 1 RInt a l xs) (hl : xs.length ≤ 1048576) {K : Option Addr → Nat → Nat → World → Prop}
    (hK : ∀ a' c' w', rSeq (fun b => w.heap.size ≤ b) True w' 1 RInt a' l xs → Fr [] w w' → K a' l c' w') : C59 a l c w K := by
  refine r_f59 _ _ _ _ _ fun b1 w2 n1 => ?_
  have f2 := n1.fr []
  refine app_rseq (e := 3) (i := Try.t3) (k := 1) (by kernel_rfl) (by kernel_rfl) rfl rfl rfl (by decide) (by decide) (rel_seq1 (U' := U) D (SameU.of_fr f2 (by simp)) f2.size fun b hb _ => hb) n1.blk (fun vs x h => by cases h; simp [isCell]) hl fun a' c' w' rows S q1 q2 q3 f hb => ?_
  have g := n1.ge
  refine hK a' c' w' (rseq_svU S (by decide) q2 D.1 q1 (fun b h => (hb b h).elim (fun e => by omega) (fun h => by have := f2.size; omega)) q3) ((f2.trans f (fun k hk => .inr (by simp at hk; omega))))

theorem copy60 {w : World} {m : Prop} {a : Option Addr} {l c : Nat} {xs : List Fld} {U : Nat → Prop} (D : rSeq U m w 2 RFld a l xs) (hl : xs.length ≤ 1048576) {K : Option Addr → Nat → Nat → World → Prop}
    (hK : ∀ a' c' w', rSeq (fun b => w.heap.size ≤ b) True w' 2 RFld a' l xs → Fr [] w w' → K a' l c' w') : C60 a l c w K := by
  refine r_f60 _ _ _ _ _ fun b1 w2 n1 => ?_
  have f2 := n1.fr []
  refine app_rseq (e := 77) (i := Try.t77) (k := 2) (by kernel_rfl) (by kernel_rfl) rfl rfl rfl (by decide) (by decide) (rel_seq1 (U' := U) D (SameU.of_fr f2 (by simp)) f2.size fun b hb _ => hb) n1.blk (fun vs x h => by cases h; simp [isCell]) hl fun a' c' w' rows S q1 q2 q3 f hb => ?_
  have g := n1.ge
  refine hK a' c' w' (rseq_svU S (by decide) q2 D.1 q1 (fun b h => (hb b h).elim (fun e => by omega) (fun h => by have := f2.size; omega)) q3) ((f2.trans f (fun k hk => .inr (by simp at hk; omega))))
end Go.Proofs.Ytmlhdmnnijapjaa.V
namespace Go.Proofs.Ytmlhdmnnijapjaa.V
open Go Go.RowKit

def Mpe.few (x : Mpe) : Prop := x.ls.length ≤ 1048576 ∧ x.st.length ≤ 1048576
def Mth.few (x : Mth) : Prop := x.args.length ≤ 1048576 ∧ x.code.length ≤ 1048576 ∧ x.tab.length ≤ 1048576 ∧ x.maps.length ≤ 1048576 ∧ ∀ y ∈ x.maps, y.few
def Cls.few (x : Cls) : Prop := x.faces.length ≤ 1048576 ∧ x.flds.length ≤ 1048576 ∧ x.stats.length ≤ 1048576 ∧ x.mths.length ≤ 1048576 ∧ ∀ y ∈ x.mths, y.few
def Prg.few (x : Prg) : Prop := x.clss.length ≤ 1048576 ∧ ∀ y ∈ x.clss, y.few

theorem pre_next {α : Type} {xs ys : List α} (h : ∃ t, ys = xs ++ t) (hl : xs.length < ys.length) : ∃ x, ys[xs.length]? = some x ∧ x ∈ ys ∧ ∃ t, ys = (xs ++ [x]) ++ t := by
  obtain ⟨t, rfl⟩ := h
  match t with
  | [] => simp at hl
  | x :: t => exact ⟨x, by simp, by simp, t, by simp⟩
theorem pre_all {α : Type} {xs ys : List α} (h : ∃ t, ys = xs ++ t) (hl : ¬ xs.length < ys.length) : xs = ys := by
  obtain ⟨t, rfl⟩ := h
  match t with
  | [] => simp
  | x :: t => simp at hl

/-- New memory stays where only older blocks turn. -/
theorem up_fr {α : Type} {R : (Nat → Prop) → Prop → World → List Value → α → Prop} (hR : Rel1 R) {n n' : Nat} {m : Prop} {w w' : World} {k : Nat} {a : Option Addr} {l : Nat} {xs : List α} (g : rSeq (fun b => n ≤ b) m w k (R (fun b => n ≤ b) m w) a l xs)
    {S : List Nat} (f : Fr S w w') (hS : ∀ b ∈ S, b < n) (hn : n' ≤ n) : rSeq (fun b => n' ≤ b) m w' k (R (fun b => n' ≤ b) m w') a l xs :=
  rel_seq hR g (SameU.of_fr f fun b hb hm => by have := hS b hm; omega) f.size fun b hb _ => Nat.le_trans hn hb
theorem up_fr1 {α : Type} {R : List Value → α → Prop} {n n' : Nat} {m : Prop} {w w' : World} {k : Nat} {a : Option Addr} {l : Nat} {xs : List α} (g : rSeq (fun b => n ≤ b) m w k R a l xs)
    {S : List Nat} (f : Fr S w w') (hS : ∀ b ∈ S, b < n) (hn : n' ≤ n) : rSeq (fun b => n' ≤ b) m w' k R a l xs := up_fr (R := fun _ _ _ vs x => R vs x) rel_plain g f hS hn
theorem al_seq {α : Type} {R : (Nat → Prop) → Prop → World → List Value → α → Prop} (hR : Rel1 R) {m : Prop} {w w' : World} {k : Nat} {a : Option Addr} {l : Nat} {xs : List α} (g : rSeq Al m w k (R Al m w) a l xs) (f : Fr [] w w') : rSeq Al m w' k (R Al m w') a l xs :=
  rel_seq hR g (SameU.of_fr f (by simp)) f.size fun _ _ _ => trivial
theorem al_seq1 {α : Type} {R : List Value → α → Prop} {m : Prop} {w w' : World} {k : Nat} {a : Option Addr} {l : Nat} {xs : List α} (g : rSeq Al m w k R a l xs) (f : Fr [] w w') : rSeq Al m w' k R a l xs := al_seq (R := fun _ _ _ vs x => R vs x) rel_plain g f

def MapRec (a74 : Option Addr) (l74 : Nat) (n78 : Int) (b55 : Nat) (w79 : World) (F : World → Prop) : Prop :=
∀ w80 : World, Drew w79 w80 →
 PtrOK a74 fun (p81 : Addr) =>
 ((0 : Int) ≤ n78 ∧ n78 < (l74 : Int)) ∧
 PtrOK a74 fun (p82 : Addr) =>
 ((0 : Int) ≤ n78 ∧ n78 < (l74 : Int)) ∧
 ∃ (a83 : Option Addr) (l83 c83 : Nat), World.cell? w80 (Addr.add (Addr.add p82 (Int.toNat n78 * 3)) 1) = some (.slice a83 l83 c83) ∧
 PtrOK a74 fun (p84 : Addr) =>
 ((0 : Int) ≤ n78 ∧ n78 < (l74 : Int)) ∧
 (∃ (a85 : Option Addr) (l85 c85 : Nat), World.cell? w80 ⟨b55, 8, none⟩ = some (.slice a85 l85 c85) ∧
 (∃ (n86 : Int), World.cell? w80 (Addr.add (Addr.add p81 (Int.toNat n78 * 3)) 0) = some (.int .i64 n86) ∧
 (C59 a83 l83 c83 w80 fun a87 l87 c87 w88 =>
 ∃ (a89 : Option Addr) (l89 c89 : Nat), World.cell? w88 (Addr.add (Addr.add p84 (Int.toNat n78 * 3)) 2) = some (.slice a89 l89 c89) ∧
 C59 a89 l89 c89 w88 fun a90 l90 c90 w91 =>
 ∀ (b92 : Nat) (w93 : World), NewAt w91 w93 b92 #[.int .i64 n86, .slice a87 l87 c87, .slice a90 l90 c90] 89 →
 RunF Try.prog (Builtin.append_ #[80, 80] 80 #[.slice a85 l85 c85, .slice (some ⟨b92, 0, none⟩) 1 1]) w93 [.leaf .slice] fun (a94 : Option Addr) (l94 c94 : Nat) (w95 : World) =>
 May w95 ⟨b55, 8, none⟩ ∧ ∀ w96 : World, SetC w95 w96 ⟨b55, 8, none⟩ (.slice a94 l94 c94) →
 F w96) ∧
 (∃ (a97 : Option Addr) (l97 c97 : Nat), World.cell? w80 (Addr.add (Addr.add p84 (Int.toNat n78 * 3)) 2) = some (.slice a97 l97 c97) ∧
 C59 a83 l83 c83 w80 fun a98 l98 c98 w99 =>
 C59 a97 l97 c97 w99 fun a100 l100 c100 w101 =>
 ∀ (b102 : Nat) (w103 : World), NewAt w101 w103 b102 #[.int .i64 n86, .slice a98 l98 c98, .slice a100 l100 c100] 89 →
 RunF Try.prog (Builtin.append_ #[80, 80] 80 #[.slice a85 l85 c85, .slice (some ⟨b102, 0, none⟩) 1 1]) w103 [.leaf .slice] fun (a104 : Option Addr) (l104 c104 : Nat) (w105 : World) =>
 May w105 ⟨b55, 8, none⟩ ∧ ∀ w106 : World, SetC w105 w106 ⟨b55, 8, none⟩ (.slice a104 l104 c104) →
 F w106)) ∧
 (C59 a83 l83 c83 w80 fun a107 l107 c107 w108 =>
 ∃ (a109 : Option Addr) (l109 c109 : Nat), World.cell? w108 (Addr.add (Addr.add p84 (Int.toNat n78 * 3)) 2) = some (.slice a109 l109 c109) ∧
 (∃ (n110 : Int), World.cell? w108 (Addr.add (Addr.add p81 (Int.toNat n78 * 3)) 0) = some (.int .i64 n110) ∧
 C59 a109 l109 c109 w108 fun a111 l111 c111 w112 =>
 ∀ (b113 : Nat) (w114 : World), NewAt w112 w114 b113 #[.int .i64 n110, .slice a107 l107 c107, .slice a111 l111 c111] 89 →
 RunF Try.prog (Builtin.append_ #[80, 80] 80 #[.slice a85 l85 c85, .slice (some ⟨b113, 0, none⟩) 1 1]) w114 [.leaf .slice] fun (a115 : Option Addr) (l115 c115 : Nat) (w116 : World) =>
 May w116 ⟨b55, 8, none⟩ ∧ ∀ w117 : World, SetC w116 w117 ⟨b55, 8, none⟩ (.slice a115 l115 c115) →
 F w117) ∧
 (C59 a109 l109 c109 w108 fun a118 l118 c118 w119 =>
 ∃ (n120 : Int), World.cell? w119 (Addr.add (Addr.add p81 (Int.toNat n78 * 3)) 0) = some (.int .i64 n120) ∧
 ∀ (b121 : Nat) (w122 : World), NewAt w119 w122 b121 #[.int .i64 n120, .slice a107 l107 c107, .slice a118 l118 c118] 89 →
 RunF Try.prog (Builtin.append_ #[80, 80] 80 #[.slice a85 l85 c85, .slice (some ⟨b121, 0, none⟩) 1 1]) w122 [.leaf .slice] fun (a123 : Option Addr) (l123 c123 : Nat) (w124 : World) =>
 May w124 ⟨b55, 8, none⟩ ∧ ∀ w125 : World, SetC w124 w125 ⟨b55, 8, none⟩ (.slice a123 l123 c123) →
 F w125)) ∧
 (∃ (a126 : Option Addr) (l126 c126 : Nat), World.cell? w80 (Addr.add (Addr.add p84 (Int.toNat n78 * 3)) 2) = some (.slice a126 l126 c126) ∧
 (∃ (n127 : Int), World.cell? w80 (Addr.add (Addr.add p81 (Int.toNat n78 * 3)) 0) = some (.int .i64 n127) ∧
 C59 a83 l83 c83 w80 fun a128 l128 c128 w129 =>
 C59 a126 l126 c126 w129 fun a130 l130 c130 w131 =>
 ∀ (b132 : Nat) (w133 : World), NewAt w131 w133 b132 #[.int .i64 n127, .slice a128 l128 c128, .slice a130 l130 c130] 89 →
 RunF Try.prog (Builtin.append_ #[80, 80] 80 #[.slice a85 l85 c85, .slice (some ⟨b132, 0, none⟩) 1 1]) w133 [.leaf .slice] fun (a134 : Option Addr) (l134 c134 : Nat) (w135 : World) =>
 May w135 ⟨b55, 8, none⟩ ∧ ∀ w136 : World, SetC w135 w136 ⟨b55, 8, none⟩ (.slice a134 l134 c134) →
 F w136) ∧
 (C59 a83 l83 c83 w80 fun a137 l137 c137 w138 =>
 (∃ (n139 : Int), World.cell? w138 (Addr.add (Addr.add p81 (Int.toNat n78 * 3)) 0) = some (.int .i64 n139) ∧
 C59 a126 l126 c126 w138 fun a140 l140 c140 w141 =>
 ∀ (b142 : Nat) (w143 : World), NewAt w141 w143 b142 #[.int .i64 n139, .slice a137 l137 c137, .slice a140 l140 c140] 89 →
 RunF Try.prog (Builtin.append_ #[80, 80] 80 #[.slice a85 l85 c85, .slice (some ⟨b142, 0, none⟩) 1 1]) w143 [.leaf .slice] fun (a144 : Option Addr) (l144 c144 : Nat) (w145 : World) =>
 May w145 ⟨b55, 8, none⟩ ∧ ∀ w146 : World, SetC w145 w146 ⟨b55, 8, none⟩ (.slice a144 l144 c144) →
 F w146) ∧
 (C59 a126 l126 c126 w138 fun a147 l147 c147 w148 =>
 ∃ (n149 : Int), World.cell? w148 (Addr.add (Addr.add p81 (Int.toNat n78 * 3)) 0) = some (.int .i64 n149) ∧
 ∀ (b150 : Nat) (w151 : World), NewAt w148 w151 b150 #[.int .i64 n149, .slice a137 l137 c137, .slice a147 l147 c147] 89 →
 RunF Try.prog (Builtin.append_ #[80, 80] 80 #[.slice a85 l85 c85, .slice (some ⟨b150, 0, none⟩) 1 1]) w151 [.leaf .slice] fun (a152 : Option Addr) (l152 c152 : Nat) (w153 : World) =>
 May w153 ⟨b55, 8, none⟩ ∧ ∀ w154 : World, SetC w153 w154 ⟨b55, 8, none⟩ (.slice a152 l152 c152) →
 F w154)))) ∧
 (∃ (n155 : Int), World.cell? w80 (Addr.add (Addr.add p81 (Int.toNat n78 * 3)) 0) = some (.int .i64 n155) ∧
 (∃ (a156 : Option Addr) (l156 c156 : Nat), World.cell? w80 ⟨b55, 8, none⟩ = some (.slice a156 l156 c156) ∧
 (C59 a83 l83 c83 w80 fun a157 l157 c157 w158 =>
 ∃ (a159 : Option Addr) (l159 c159 : Nat), World.cell? w158 (Addr.add (Addr.add p84 (Int.toNat n78 * 3)) 2) = some (.slice a159 l159 c159) ∧
 C59 a159 l159 c159 w158 fun a160 l160 c160 w161 =>
 ∀ (b162 : Nat) (w163 : World), NewAt w161 w163 b162 #[.int .i64 n155, .slice a157 l157 c157, .slice a160 l160 c160] 89 →
 RunF Try.prog (Builtin.append_ #[80, 80] 80 #[.slice a156 l156 c156, .slice (some ⟨b162, 0, none⟩) 1 1]) w163 [.leaf .slice] fun (a164 : Option Addr) (l164 c164 : Nat) (w165 : World) =>
 May w165 ⟨b55, 8, none⟩ ∧ ∀ w166 : World, SetC w165 w166 ⟨b55, 8, none⟩ (.slice a164 l164 c164) →
 F w166) ∧
 (∃ (a167 : Option Addr) (l167 c167 : Nat), World.cell? w80 (Addr.add (Addr.add p84 (Int.toNat n78 * 3)) 2) = some (.slice a167 l167 c167) ∧
 C59 a83 l83 c83 w80 fun a168 l168 c168 w169 =>
 C59 a167 l167 c167 w169 fun a170 l170 c170 w171 =>
 ∀ (b172 : Nat) (w173 : World), NewAt w171 w173 b172 #[.int .i64 n155, .slice a168 l168 c168, .slice a170 l170 c170] 89 →
 RunF Try.prog (Builtin.append_ #[80, 80] 80 #[.slice a156 l156 c156, .slice (some ⟨b172, 0, none⟩) 1 1]) w173 [.leaf .slice] fun (a174 : Option Addr) (l174 c174 : Nat) (w175 : World) =>
 May w175 ⟨b55, 8, none⟩ ∧ ∀ w176 : World, SetC w175 w176 ⟨b55, 8, none⟩ (.slice a174 l174 c174) →
 F w176)) ∧
 (C59 a83 l83 c83 w80 fun a177 l177 c177 w178 =>
 ∃ (a179 : Option Addr) (l179 c179 : Nat), World.cell? w178 (Addr.add (Addr.add p84 (Int.toNat n78 * 3)) 2) = some (.slice a179 l179 c179) ∧
 (∃ (a180 : Option Addr) (l180 c180 : Nat), World.cell? w178 ⟨b55, 8, none⟩ = some (.slice a180 l180 c180) ∧
 C59 a179 l179 c179 w178 fun a181 l181 c181 w182 =>
 ∀ (b183 : Nat) (w184 : World), NewAt w182 w184 b183 #[.int .i64 n155, .slice a177 l177 c177, .slice a181 l181 c181] 89 →
 RunF Try.prog (Builtin.append_ #[80, 80] 80 #[.slice a180 l180 c180, .slice (some ⟨b183, 0, none⟩) 1 1]) w184 [.leaf .slice] fun (a185 : Option Addr) (l185 c185 : Nat) (w186 : World) =>
 May w186 ⟨b55, 8, none⟩ ∧ ∀ w187 : World, SetC w186 w187 ⟨b55, 8, none⟩ (.slice a185 l185 c185) →
 F w187) ∧
 (C59 a179 l179 c179 w178 fun a188 l188 c188 w189 =>
 (∃ (a190 : Option Addr) (l190 c190 : Nat), World.cell? w189 ⟨b55, 8, none⟩ = some (.slice a190 l190 c190) ∧
 ∀ (b191 : Nat) (w192 : World), NewAt w189 w192 b191 #[.int .i64 n155, .slice a177 l177 c177, .slice a188 l188 c188] 89 →
 RunF Try.prog (Builtin.append_ #[80, 80] 80 #[.slice a190 l190 c190, .slice (some ⟨b191, 0, none⟩) 1 1]) w192 [.leaf .slice] fun (a193 : Option Addr) (l193 c193 : Nat) (w194 : World) =>
 May w194 ⟨b55, 8, none⟩ ∧ ∀ w195 : World, SetC w194 w195 ⟨b55, 8, none⟩ (.slice a193 l193 c193) →
 F w195) ∧
 (∀ (b196 : Nat) (w197 : World), NewAt w189 w197 b196 #[.int .i64 n155, .slice a177 l177 c177, .slice a188 l188 c188] 89 →
 ∃ (a198 : Option Addr) (l198 c198 : Nat), World.cell? w197 ⟨b55, 8, none⟩ = some (.slice a198 l198 c198) ∧
 RunF Try.prog (Builtin.append_ #[80, 80] 80 #[.slice a198 l198 c198, .slice (some ⟨b196, 0, none⟩) 1 1]) w197 [.leaf .slice] fun (a199 : Option Addr) (l199 c199 : Nat) (w200 : World) =>
 May w200 ⟨b55, 8, none⟩ ∧ ∀ w201 : World, SetC w200 w201 ⟨b55, 8, none⟩ (.slice a199 l199 c199) →
 F w201))) ∧
 (∃ (a202 : Option Addr) (l202 c202 : Nat), World.cell? w80 (Addr.add (Addr.add p84 (Int.toNat n78 * 3)) 2) = some (.slice a202 l202 c202) ∧
 (∃ (a203 : Option Addr) (l203 c203 : Nat), World.cell? w80 ⟨b55, 8, none⟩ = some (.slice a203 l203 c203) ∧
 C59 a83 l83 c83 w80 fun a204 l204 c204 w205 =>
 C59 a202 l202 c202 w205 fun a206 l206 c206 w207 =>
 ∀ (b208 : Nat) (w209 : World), NewAt w207 w209 b208 #[.int .i64 n155, .slice a204 l204 c204, .slice a206 l206 c206] 89 →
 RunF Try.prog (Builtin.append_ #[80, 80] 80 #[.slice a203 l203 c203, .slice (some ⟨b208, 0, none⟩) 1 1]) w209 [.leaf .slice] fun (a210 : Option Addr) (l210 c210 : Nat) (w211 : World) =>
 May w211 ⟨b55, 8, none⟩ ∧ ∀ w212 : World, SetC w211 w212 ⟨b55, 8, none⟩ (.slice a210 l210 c210) →
 F w212) ∧
 (C59 a83 l83 c83 w80 fun a213 l213 c213 w214 =>
 (∃ (a215 : Option Addr) (l215 c215 : Nat), World.cell? w214 ⟨b55, 8, none⟩ = some (.slice a215 l215 c215) ∧
 C59 a202 l202 c202 w214 fun a216 l216 c216 w217 =>
 ∀ (b218 : Nat) (w219 : World), NewAt w217 w219 b218 #[.int .i64 n155, .slice a213 l213 c213, .slice a216 l216 c216] 89 →
 RunF Try.prog (Builtin.append_ #[80, 80] 80 #[.slice a215 l215 c215, .slice (some ⟨b218, 0, none⟩) 1 1]) w219 [.leaf .slice] fun (a220 : Option Addr) (l220 c220 : Nat) (w221 : World) =>
 May w221 ⟨b55, 8, none⟩ ∧ ∀ w222 : World, SetC w221 w222 ⟨b55, 8, none⟩ (.slice a220 l220 c220) →
 F w222) ∧
 (C59 a202 l202 c202 w214 fun a223 l223 c223 w224 =>
 (∃ (a225 : Option Addr) (l225 c225 : Nat), World.cell? w224 ⟨b55, 8, none⟩ = some (.slice a225 l225 c225) ∧
 ∀ (b226 : Nat) (w227 : World), NewAt w224 w227 b226 #[.int .i64 n155, .slice a213 l213 c213, .slice a223 l223 c223] 89 →
 RunF Try.prog (Builtin.append_ #[80, 80] 80 #[.slice a225 l225 c225, .slice (some ⟨b226, 0, none⟩) 1 1]) w227 [.leaf .slice] fun (a228 : Option Addr) (l228 c228 : Nat) (w229 : World) =>
 May w229 ⟨b55, 8, none⟩ ∧ ∀ w230 : World, SetC w229 w230 ⟨b55, 8, none⟩ (.slice a228 l228 c228) →
 F w230) ∧
 (∀ (b231 : Nat) (w232 : World), NewAt w224 w232 b231 #[.int .i64 n155, .slice a213 l213 c213, .slice a223 l223 c223] 89 →
 ∃ (a233 : Option Addr) (l233 c233 : Nat), World.cell? w232 ⟨b55, 8, none⟩ = some (.slice a233 l233 c233) ∧
 RunF Try.prog (Builtin.append_ #[80, 80] 80 #[.slice a233 l233 c233, .slice (some ⟨b231, 0, none⟩) 1 1]) w232 [.leaf .slice] fun (a234 : Option Addr) (l234 c234 : Nat) (w235 : World) =>
 May w235 ⟨b55, 8, none⟩ ∧ ∀ w236 : World, SetC w235 w236 ⟨b55, 8, none⟩ (.slice a234 l234 c234) →
 F w236))))) ∧
 (C59 a83 l83 c83 w80 fun a237 l237 c237 w238 =>
 ∃ (a239 : Option Addr) (l239 c239 : Nat), World.cell? w238 (Addr.add (Addr.add p84 (Int.toNat n78 * 3)) 2) = some (.slice a239 l239 c239) ∧
 (∃ (a240 : Option Addr) (l240 c240 : Nat), World.cell? w238 ⟨b55, 8, none⟩ = some (.slice a240 l240 c240) ∧
 (∃ (n241 : Int), World.cell? w238 (Addr.add (Addr.add p81 (Int.toNat n78 * 3)) 0) = some (.int .i64 n241) ∧
 C59 a239 l239 c239 w238 fun a242 l242 c242 w243 =>
 ∀ (b244 : Nat) (w245 : World), NewAt w243 w245 b244 #[.int .i64 n241, .slice a237 l237 c237, .slice a242 l242 c242] 89 →
 RunF Try.prog (Builtin.append_ #[80, 80] 80 #[.slice a240 l240 c240, .slice (some ⟨b244, 0, none⟩) 1 1]) w245 [.leaf .slice] fun (a246 : Option Addr) (l246 c246 : Nat) (w247 : World) =>
 May w247 ⟨b55, 8, none⟩ ∧ ∀ w248 : World, SetC w247 w248 ⟨b55, 8, none⟩ (.slice a246 l246 c246) →
 F w248) ∧
 (C59 a239 l239 c239 w238 fun a249 l249 c249 w250 =>
 ∃ (n251 : Int), World.cell? w250 (Addr.add (Addr.add p81 (Int.toNat n78 * 3)) 0) = some (.int .i64 n251) ∧
 ∀ (b252 : Nat) (w253 : World), NewAt w250 w253 b252 #[.int .i64 n251, .slice a237 l237 c237, .slice a249 l249 c249] 89 →
 RunF Try.prog (Builtin.append_ #[80, 80] 80 #[.slice a240 l240 c240, .slice (some ⟨b252, 0, none⟩) 1 1]) w253 [.leaf .slice] fun (a254 : Option Addr) (l254 c254 : Nat) (w255 : World) =>
 May w255 ⟨b55, 8, none⟩ ∧ ∀ w256 : World, SetC w255 w256 ⟨b55, 8, none⟩ (.slice a254 l254 c254) →
 F w256)) ∧
 (∃ (n257 : Int), World.cell? w238 (Addr.add (Addr.add p81 (Int.toNat n78 * 3)) 0) = some (.int .i64 n257) ∧
 (∃ (a258 : Option Addr) (l258 c258 : Nat), World.cell? w238 ⟨b55, 8, none⟩ = some (.slice a258 l258 c258) ∧
 C59 a239 l239 c239 w238 fun a259 l259 c259 w260 =>
 ∀ (b261 : Nat) (w262 : World), NewAt w260 w262 b261 #[.int .i64 n257, .slice a237 l237 c237, .slice a259 l259 c259] 89 →
 RunF Try.prog (Builtin.append_ #[80, 80] 80 #[.slice a258 l258 c258, .slice (some ⟨b261, 0, none⟩) 1 1]) w262 [.leaf .slice] fun (a263 : Option Addr) (l263 c263 : Nat) (w264 : World) =>
 May w264 ⟨b55, 8, none⟩ ∧ ∀ w265 : World, SetC w264 w265 ⟨b55, 8, none⟩ (.slice a263 l263 c263) →
 F w265) ∧
 (C59 a239 l239 c239 w238 fun a266 l266 c266 w267 =>
 (∃ (a268 : Option Addr) (l268 c268 : Nat), World.cell? w267 ⟨b55, 8, none⟩ = some (.slice a268 l268 c268) ∧
 ∀ (b269 : Nat) (w270 : World), NewAt w267 w270 b269 #[.int .i64 n257, .slice a237 l237 c237, .slice a266 l266 c266] 89 →
 RunF Try.prog (Builtin.append_ #[80, 80] 80 #[.slice a268 l268 c268, .slice (some ⟨b269, 0, none⟩) 1 1]) w270 [.leaf .slice] fun (a271 : Option Addr) (l271 c271 : Nat) (w272 : World) =>
 May w272 ⟨b55, 8, none⟩ ∧ ∀ w273 : World, SetC w272 w273 ⟨b55, 8, none⟩ (.slice a271 l271 c271) →
 F w273) ∧
 (∀ (b274 : Nat) (w275 : World), NewAt w267 w275 b274 #[.int .i64 n257, .slice a237 l237 c237, .slice a266 l266 c266] 89 →
 ∃ (a276 : Option Addr) (l276 c276 : Nat), World.cell? w275 ⟨b55, 8, none⟩ = some (.slice a276 l276 c276) ∧
 RunF Try.prog (Builtin.append_ #[80, 80] 80 #[.slice a276 l276 c276, .slice (some ⟨b274, 0, none⟩) 1 1]) w275 [.leaf .slice] fun (a277 : Option Addr) (l277 c277 : Nat) (w278 : World) =>
 May w278 ⟨b55, 8, none⟩ ∧ ∀ w279 : World, SetC w278 w279 ⟨b55, 8, none⟩ (.slice a277 l277 c277) →
 F w279))) ∧
 (C59 a239 l239 c239 w238 fun a280 l280 c280 w281 =>
 ∃ (n282 : Int), World.cell? w281 (Addr.add (Addr.add p81 (Int.toNat n78 * 3)) 0) = some (.int .i64 n282) ∧
 (∃ (a283 : Option Addr) (l283 c283 : Nat), World.cell? w281 ⟨b55, 8, none⟩ = some (.slice a283 l283 c283) ∧
 ∀ (b284 : Nat) (w285 : World), NewAt w281 w285 b284 #[.int .i64 n282, .slice a237 l237 c237, .slice a280 l280 c280] 89 →
 RunF Try.prog (Builtin.append_ #[80, 80] 80 #[.slice a283 l283 c283, .slice (some ⟨b284, 0, none⟩) 1 1]) w285 [.leaf .slice] fun (a286 : Option Addr) (l286 c286 : Nat) (w287 : World) =>
 May w287 ⟨b55, 8, none⟩ ∧ ∀ w288 : World, SetC w287 w288 ⟨b55, 8, none⟩ (.slice a286 l286 c286) →
 F w288) ∧
 (∀ (b289 : Nat) (w290 : World), NewAt w281 w290 b289 #[.int .i64 n282, .slice a237 l237 c237, .slice a280 l280 c280] 89 →
 ∃ (a291 : Option Addr) (l291 c291 : Nat), World.cell? w290 ⟨b55, 8, none⟩ = some (.slice a291 l291 c291) ∧
 RunF Try.prog (Builtin.append_ #[80, 80] 80 #[.slice a291 l291 c291, .slice (some ⟨b289, 0, none⟩) 1 1]) w290 [.leaf .slice] fun (a292 : Option Addr) (l292 c292 : Nat) (w293 : World) =>
 May w293 ⟨b55, 8, none⟩ ∧ ∀ w294 : World, SetC w293 w294 ⟨b55, 8, none⟩ (.slice a292 l292 c292) →
 F w294))) ∧
 (∃ (a295 : Option Addr) (l295 c295 : Nat), World.cell? w80 (Addr.add (Addr.add p84 (Int.toNat n78 * 3)) 2) = some (.slice a295 l295 c295) ∧
 (∃ (a296 : Option Addr) (l296 c296 : Nat), World.cell? w80 ⟨b55, 8, none⟩ = some (.slice a296 l296 c296) ∧
 (∃ (n297 : Int), World.cell? w80 (Addr.add (Addr.add p81 (Int.toNat n78 * 3)) 0) = some (.int .i64 n297) ∧
 C59 a83 l83 c83 w80 fun a298 l298 c298 w299 =>
 C59 a295 l295 c295 w299 fun a300 l300 c300 w301 =>
 ∀ (b302 : Nat) (w303 : World), NewAt w301 w303 b302 #[.int .i64 n297, .slice a298 l298 c298, .slice a300 l300 c300] 89 →
 RunF Try.prog (Builtin.append_ #[80, 80] 80 #[.slice a296 l296 c296, .slice (some ⟨b302, 0, none⟩) 1 1]) w303 [.leaf .slice] fun (a304 : Option Addr) (l304 c304 : Nat) (w305 : World) =>
 May w305 ⟨b55, 8, none⟩ ∧ ∀ w306 : World, SetC w305 w306 ⟨b55, 8, none⟩ (.slice a304 l304 c304) →
 F w306) ∧
 (C59 a83 l83 c83 w80 fun a307 l307 c307 w308 =>
 (∃ (n309 : Int), World.cell? w308 (Addr.add (Addr.add p81 (Int.toNat n78 * 3)) 0) = some (.int .i64 n309) ∧
 C59 a295 l295 c295 w308 fun a310 l310 c310 w311 =>
 ∀ (b312 : Nat) (w313 : World), NewAt w311 w313 b312 #[.int .i64 n309, .slice a307 l307 c307, .slice a310 l310 c310] 89 →
 RunF Try.prog (Builtin.append_ #[80, 80] 80 #[.slice a296 l296 c296, .slice (some ⟨b312, 0, none⟩) 1 1]) w313 [.leaf .slice] fun (a314 : Option Addr) (l314 c314 : Nat) (w315 : World) =>
 May w315 ⟨b55, 8, none⟩ ∧ ∀ w316 : World, SetC w315 w316 ⟨b55, 8, none⟩ (.slice a314 l314 c314) →
 F w316) ∧
 (C59 a295 l295 c295 w308 fun a317 l317 c317 w318 =>
 ∃ (n319 : Int), World.cell? w318 (Addr.add (Addr.add p81 (Int.toNat n78 * 3)) 0) = some (.int .i64 n319) ∧
 ∀ (b320 : Nat) (w321 : World), NewAt w318 w321 b320 #[.int .i64 n319, .slice a307 l307 c307, .slice a317 l317 c317] 89 →
 RunF Try.prog (Builtin.append_ #[80, 80] 80 #[.slice a296 l296 c296, .slice (some ⟨b320, 0, none⟩) 1 1]) w321 [.leaf .slice] fun (a322 : Option Addr) (l322 c322 : Nat) (w323 : World) =>
 May w323 ⟨b55, 8, none⟩ ∧ ∀ w324 : World, SetC w323 w324 ⟨b55, 8, none⟩ (.slice a322 l322 c322) →
 F w324))) ∧
 (∃ (n325 : Int), World.cell? w80 (Addr.add (Addr.add p81 (Int.toNat n78 * 3)) 0) = some (.int .i64 n325) ∧
 (∃ (a326 : Option Addr) (l326 c326 : Nat), World.cell? w80 ⟨b55, 8, none⟩ = some (.slice a326 l326 c326) ∧
 C59 a83 l83 c83 w80 fun a327 l327 c327 w328 =>
 C59 a295 l295 c295 w328 fun a329 l329 c329 w330 =>
 ∀ (b331 : Nat) (w332 : World), NewAt w330 w332 b331 #[.int .i64 n325, .slice a327 l327 c327, .slice a329 l329 c329] 89 →
 RunF Try.prog (Builtin.append_ #[80, 80] 80 #[.slice a326 l326 c326, .slice (some ⟨b331, 0, none⟩) 1 1]) w332 [.leaf .slice] fun (a333 : Option Addr) (l333 c333 : Nat) (w334 : World) =>
 May w334 ⟨b55, 8, none⟩ ∧ ∀ w335 : World, SetC w334 w335 ⟨b55, 8, none⟩ (.slice a333 l333 c333) →
 F w335) ∧
 (C59 a83 l83 c83 w80 fun a336 l336 c336 w337 =>
 (∃ (a338 : Option Addr) (l338 c338 : Nat), World.cell? w337 ⟨b55, 8, none⟩ = some (.slice a338 l338 c338) ∧
 C59 a295 l295 c295 w337 fun a339 l339 c339 w340 =>
 ∀ (b341 : Nat) (w342 : World), NewAt w340 w342 b341 #[.int .i64 n325, .slice a336 l336 c336, .slice a339 l339 c339] 89 →
 RunF Try.prog (Builtin.append_ #[80, 80] 80 #[.slice a338 l338 c338, .slice (some ⟨b341, 0, none⟩) 1 1]) w342 [.leaf .slice] fun (a343 : Option Addr) (l343 c343 : Nat) (w344 : World) =>
 May w344 ⟨b55, 8, none⟩ ∧ ∀ w345 : World, SetC w344 w345 ⟨b55, 8, none⟩ (.slice a343 l343 c343) →
 F w345) ∧
 (C59 a295 l295 c295 w337 fun a346 l346 c346 w347 =>
 (∃ (a348 : Option Addr) (l348 c348 : Nat), World.cell? w347 ⟨b55, 8, none⟩ = some (.slice a348 l348 c348) ∧
 ∀ (b349 : Nat) (w350 : World), NewAt w347 w350 b349 #[.int .i64 n325, .slice a336 l336 c336, .slice a346 l346 c346] 89 →
 RunF Try.prog (Builtin.append_ #[80, 80] 80 #[.slice a348 l348 c348, .slice (some ⟨b349, 0, none⟩) 1 1]) w350 [.leaf .slice] fun (a351 : Option Addr) (l351 c351 : Nat) (w352 : World) =>
 May w352 ⟨b55, 8, none⟩ ∧ ∀ w353 : World, SetC w352 w353 ⟨b55, 8, none⟩ (.slice a351 l351 c351) →
 F w353) ∧
 (∀ (b354 : Nat) (w355 : World), NewAt w347 w355 b354 #[.int .i64 n325, .slice a336 l336 c336, .slice a346 l346 c346] 89 →
 ∃ (a356 : Option Addr) (l356 c356 : Nat), World.cell? w355 ⟨b55, 8, none⟩ = some (.slice a356 l356 c356) ∧
 RunF Try.prog (Builtin.append_ #[80, 80] 80 #[.slice a356 l356 c356, .slice (some ⟨b354, 0, none⟩) 1 1]) w355 [.leaf .slice] fun (a357 : Option Addr) (l357 c357 : Nat) (w358 : World) =>
 May w358 ⟨b55, 8, none⟩ ∧ ∀ w359 : World, SetC w358 w359 ⟨b55, 8, none⟩ (.slice a357 l357 c357) →
 F w359)))) ∧
 (C59 a83 l83 c83 w80 fun a360 l360 c360 w361 =>
 (∃ (a362 : Option Addr) (l362 c362 : Nat), World.cell? w361 ⟨b55, 8, none⟩ = some (.slice a362 l362 c362) ∧
 (∃ (n363 : Int), World.cell? w361 (Addr.add (Addr.add p81 (Int.toNat n78 * 3)) 0) = some (.int .i64 n363) ∧
 C59 a295 l295 c295 w361 fun a364 l364 c364 w365 =>
 ∀ (b366 : Nat) (w367 : World), NewAt w365 w367 b366 #[.int .i64 n363, .slice a360 l360 c360, .slice a364 l364 c364] 89 →
 RunF Try.prog (Builtin.append_ #[80, 80] 80 #[.slice a362 l362 c362, .slice (some ⟨b366, 0, none⟩) 1 1]) w367 [.leaf .slice] fun (a368 : Option Addr) (l368 c368 : Nat) (w369 : World) =>
 May w369 ⟨b55, 8, none⟩ ∧ ∀ w370 : World, SetC w369 w370 ⟨b55, 8, none⟩ (.slice a368 l368 c368) →
 F w370) ∧
 (C59 a295 l295 c295 w361 fun a371 l371 c371 w372 =>
 ∃ (n373 : Int), World.cell? w372 (Addr.add (Addr.add p81 (Int.toNat n78 * 3)) 0) = some (.int .i64 n373) ∧
 ∀ (b374 : Nat) (w375 : World), NewAt w372 w375 b374 #[.int .i64 n373, .slice a360 l360 c360, .slice a371 l371 c371] 89 →
 RunF Try.prog (Builtin.append_ #[80, 80] 80 #[.slice a362 l362 c362, .slice (some ⟨b374, 0, none⟩) 1 1]) w375 [.leaf .slice] fun (a376 : Option Addr) (l376 c376 : Nat) (w377 : World) =>
 May w377 ⟨b55, 8, none⟩ ∧ ∀ w378 : World, SetC w377 w378 ⟨b55, 8, none⟩ (.slice a376 l376 c376) →
 F w378)) ∧
 (∃ (n379 : Int), World.cell? w361 (Addr.add (Addr.add p81 (Int.toNat n78 * 3)) 0) = some (.int .i64 n379) ∧
 (∃ (a380 : Option Addr) (l380 c380 : Nat), World.cell? w361 ⟨b55, 8, none⟩ = some (.slice a380 l380 c380) ∧
 C59 a295 l295 c295 w361 fun a381 l381 c381 w382 =>
 ∀ (b383 : Nat) (w384 : World), NewAt w382 w384 b383 #[.int .i64 n379, .slice a360 l360 c360, .slice a381 l381 c381] 89 →
 RunF Try.prog (Builtin.append_ #[80, 80] 80 #[.slice a380 l380 c380, .slice (some ⟨b383, 0, none⟩) 1 1]) w384 [.leaf .slice] fun (a385 : Option Addr) (l385 c385 : Nat) (w386 : World) =>
 May w386 ⟨b55, 8, none⟩ ∧ ∀ w387 : World, SetC w386 w387 ⟨b55, 8, none⟩ (.slice a385 l385 c385) →
 F w387) ∧
 (C59 a295 l295 c295 w361 fun a388 l388 c388 w389 =>
 (∃ (a390 : Option Addr) (l390 c390 : Nat), World.cell? w389 ⟨b55, 8, none⟩ = some (.slice a390 l390 c390) ∧
 ∀ (b391 : Nat) (w392 : World), NewAt w389 w392 b391 #[.int .i64 n379, .slice a360 l360 c360, .slice a388 l388 c388] 89 →
 RunF Try.prog (Builtin.append_ #[80, 80] 80 #[.slice a390 l390 c390, .slice (some ⟨b391, 0, none⟩) 1 1]) w392 [.leaf .slice] fun (a393 : Option Addr) (l393 c393 : Nat) (w394 : World) =>
 May w394 ⟨b55, 8, none⟩ ∧ ∀ w395 : World, SetC w394 w395 ⟨b55, 8, none⟩ (.slice a393 l393 c393) →
 F w395) ∧
 (∀ (b396 : Nat) (w397 : World), NewAt w389 w397 b396 #[.int .i64 n379, .slice a360 l360 c360, .slice a388 l388 c388] 89 →
 ∃ (a398 : Option Addr) (l398 c398 : Nat), World.cell? w397 ⟨b55, 8, none⟩ = some (.slice a398 l398 c398) ∧
 RunF Try.prog (Builtin.append_ #[80, 80] 80 #[.slice a398 l398 c398, .slice (some ⟨b396, 0, none⟩) 1 1]) w397 [.leaf .slice] fun (a399 : Option Addr) (l399 c399 : Nat) (w400 : World) =>
 May w400 ⟨b55, 8, none⟩ ∧ ∀ w401 : World, SetC w400 w401 ⟨b55, 8, none⟩ (.slice a399 l399 c399) →
 F w401))) ∧
 (C59 a295 l295 c295 w361 fun a402 l402 c402 w403 =>
 ∃ (n404 : Int), World.cell? w403 (Addr.add (Addr.add p81 (Int.toNat n78 * 3)) 0) = some (.int .i64 n404) ∧
 (∃ (a405 : Option Addr) (l405 c405 : Nat), World.cell? w403 ⟨b55, 8, none⟩ = some (.slice a405 l405 c405) ∧
 ∀ (b406 : Nat) (w407 : World), NewAt w403 w407 b406 #[.int .i64 n404, .slice a360 l360 c360, .slice a402 l402 c402] 89 →
 RunF Try.prog (Builtin.append_ #[80, 80] 80 #[.slice a405 l405 c405, .slice (some ⟨b406, 0, none⟩) 1 1]) w407 [.leaf .slice] fun (a408 : Option Addr) (l408 c408 : Nat) (w409 : World) =>
 May w409 ⟨b55, 8, none⟩ ∧ ∀ w410 : World, SetC w409 w410 ⟨b55, 8, none⟩ (.slice a408 l408 c408) →
 F w410) ∧
 (∀ (b411 : Nat) (w412 : World), NewAt w403 w412 b411 #[.int .i64 n404, .slice a360 l360 c360, .slice a402 l402 c402] 89 →
 ∃ (a413 : Option Addr) (l413 c413 : Nat), World.cell? w412 ⟨b55, 8, none⟩ = some (.slice a413 l413 c413) ∧
 RunF Try.prog (Builtin.append_ #[80, 80] 80 #[.slice a413 l413 c413, .slice (some ⟨b411, 0, none⟩) 1 1]) w412 [.leaf .slice] fun (a414 : Option Addr) (l414 c414 : Nat) (w415 : World) =>
 May w415 ⟨b55, 8, none⟩ ∧ ∀ w416 : World, SetC w415 w416 ⟨b55, 8, none⟩ (.slice a414 l414 c414) →
 F w416))))

theorem maprec_c {mb n l74 c : Nat} {w79 : World} {m : Prop} {a74 a : Option Addr} {maps xs : List Mpe} {x : Mpe} (D : rSeq Al m w79 3 (RMpe Al m w79) a74 l74 maps) (hx : maps[xs.length]? = some x) (hl : maps.length ≤ 1048576) (hf : x.few) {v0 v1 v2 v3 v4 v5 v6 v7 : Value}
    (B79 : Blk w79 mb [v0, v1, v2, v3, v4, v5, v6, v7, .slice a xs.length c]) (O79 : oSeq RMpe n w79 3 a c xs) (hn : mb < n) (hn2 : n ≤ w79.heap.size) {F : World → Prop}
    (hF : ∀ w' a' c', Blk w' mb [v0, v1, v2, v3, v4, v5, v6, v7, .slice a' (xs.length + 1) c'] → oSeq RMpe n w' 3 a' c' (xs ++ [x]) → Fr (mb :: ablk a) w79 w' → F w') : MapRec a74 l74 (xs.length : Int) mb w79 F := by
  intro w d
  have fd : ∀ S, Fr S w79 w := d.fr
  have B := B79.fr (fd []) (by simp)
  have O := O79.fr rel_mpe (fd []) (by simp)
  have D' := al_seq rel_mpe D (fd [])
  have hlt : xs.length < maps.length := (List.getElem?_eq_some_iff.1 hx).1
  have hle := D.1
  obtain ⟨p, vs, rfl, -, -, -, hcs, -, a2, l2, c2, a3, l3, c3, rfl, D2, D3⟩ := D'.2 _ _ hx
  have hb : (0 : Int) ≤ (xs.length : Int) ∧ (xs.length : Int) < (l74 : Int) := by omega
  have car : ∀ {w'}, Fr [] w w' → ∀ {q : Addr} {v : Value}, w.cell? q = some v → w'.cell? q = some v := fun f _ _ hc => (SameU.of_fr f (by simp) : SameU Al w _).cell trivial hc
  have L0 : ∀ {w'}, Fr [] w w' → World.cell? w' (Addr.add (Addr.add p (Int.toNat (xs.length : Int) * 3)) 0) = some (.int .i64 x.pl) := fun f => car f (hcs 0 _ rfl)
  have L1 : ∀ {w'}, Fr [] w w' → World.cell? w' (Addr.add (Addr.add p (Int.toNat (xs.length : Int) * 3)) 1) = some (.slice a2 l2 c2) := fun f => car f (hcs 1 _ rfl)
  have L2 : ∀ {w'}, Fr [] w w' → World.cell? w' (Addr.add (Addr.add p (Int.toNat (xs.length : Int) * 3)) 2) = some (.slice a3 l3 c3) := fun f => car f (hcs 2 _ rfl)
  have LS : ∀ {w'}, Fr [] w w' → World.cell? w' ⟨mb, 8, none⟩ = some (.slice a xs.length c) := fun f => (B.fr f (by simp)).cell rfl
  have C1 : ∀ {K : Option Addr → Nat → Nat → World → Prop}, (∀ a1 c1 w1, rSeq (fun b => w.heap.size ≤ b) True w1 1 RInt a1 l2 x.ls → Fr [] w w1 → K a1 l2 c1 w1) → C59 a2 l2 c2 w K := fun h => copy59 D2 hf.1 h
  have C2 : ∀ {w1}, Fr [] w w1 → ∀ {K : Option Addr → Nat → Nat → World → Prop}, (∀ a1 c1 w2, rSeq (fun b => w1.heap.size ≤ b) True w2 1 RInt a1 l3 x.st → Fr [] w1 w2 → K a1 l3 c1 w2) → C59 a3 l3 c3 w1 K := fun f _ h => copy59 (al_seq1 D3 f) hf.2 h
  have AP : ∀ {a4 c4 w1 a5 c5 w2 b3 w3}, rSeq (fun b => w.heap.size ≤ b) True w1 1 RInt a4 l2 x.ls → Fr [] w w1 → rSeq (fun b => w1.heap.size ≤ b) True w2 1 RInt a5 l3 x.st → Fr [] w1 w2 → NewAt w2 w3 b3 #[.int .i64 x.pl, .slice a4 l2 c4, .slice a5 l3 c5] 89 →
      RunF Try.prog (Builtin.append_ #[80, 80] 80 #[.slice a xs.length c, .slice (some ⟨b3, 0, none⟩) 1 1]) w3 [.leaf .slice] fun (a6 : Option Addr) (l6 c6 : Nat) (w4 : World) => May w4 ⟨mb, 8, none⟩ ∧ ∀ w5 : World, SetC w4 w5 ⟨mb, 8, none⟩ (.slice a6 l6 c6) → F w5 := by
    intro a4 c4 w1 a5 c5 w2 b3 w3 E1 f1 E2 f2 n3
    have f12 := f1.more f2
    refine oSeq.app (x := x) rel_mpe (by decide) O rfl ⟨_, _, _, _, _, _, rfl, up_fr1 E1 f2 (by simp) (Nat.le_refl _), up_fr1 E2 (Fr.refl [] _) (by simp) f1.size⟩ f12 (by simp) (Nat.le_trans hn2 (fd []).size) (i := Try.t89) (e := 89) (z := .agg #[.int .i64 0, .slice none 0 0, .slice none 0 0])
      (by kernel_rfl) (by kernel_rfl) rfl rfl rfl (by simp [isCell]) (by omega) (by decide) n3 fun a6 c6 w4 O4 f4 => ?_
    have nm : mb ∉ ablk a := fun h => by have := O.up mb h; omega
    have B4 := (B.fr f12 (by simp)).fr f4 nm
    refine ⟨B4.may (by simp), fun w5 s5 => hF w5 a6 c6 (by simpa using s5.blk B4) (O4.fr rel_mpe (s5.fr (S := [mb]) (by simp)) (by simpa using hn)) ?_⟩
    exact (((fd _).more (f12.mono (by simp))).more (f4.mono (fun b hb => .inl (by simp [hb])))).more (s5.fr (by simp))
  have f0 := Fr.refl [] w
  clear hF
  repeat' first
    | with_reducible exact hb
    | with_reducible exact AP E1 f1 E2 f2 n3
    | with_reducible refine And.intro ?_ ?_
    | with_reducible refine C1 (fun a4 c4 w1 E1 f1 => ?_)
    | with_reducible refine C2 f1 (fun a5 c5 w2 E2 f2 => ?_)
    | refine PtrOK.of rfl ?_
    | intro b3 w3 n3
    | refine ⟨_, L0 f0, ?_⟩
    | refine ⟨_, L0 f1, ?_⟩
    | refine ⟨_, L0 (f1.more f2), ?_⟩
    | refine ⟨_, _, _, L1 f0, ?_⟩
    | refine ⟨_, _, _, L2 f0, ?_⟩
    | refine ⟨_, _, _, L2 f1, ?_⟩
    | refine ⟨_, _, _, LS f0, ?_⟩
    | refine ⟨_, _, _, LS f1, ?_⟩
    | refine ⟨_, _, _, LS (f1.more f2), ?_⟩
    | refine ⟨_, _, _, LS ((f1.more f2).more (n3.fr _)), ?_⟩

/-- What CopyProgram does with this program: new memory of the same, the old as it was. -/
def Copies (p : Prg) : Prop := ∀ {m : Prop} {w : World} {a : Option Addr} {l c : Nat} {K : Int → Option Addr → Nat → Nat → World → Prop}, rSeq Al m w 8 (RCls Al m w) a l p.clss →
  (∀ w' a' l' c', rSeq Al True w' 8 (RCls Al True w') a' l' p.clss → Fr [] w w' → K p.main a' l' c' w') → C34 p.main a l c w K

/-- A new empty slice takes a row. -/
theorem app_new {α : Type} {R : List Value → α → Prop} {m : Prop} {w0 w : World} {a : Option Addr} {l c k b1 : Nat} {xs : List α} {t e T : TypeId} {i : TypeInfo} {z : Value} (ht : Try.prog.underlying t = some (.slice e)) (hi : Try.prog.info? e = some i) (hz : i.zero = some z) (hs : i.size = k) (hzs : z.cells.size = k) (hk : 0 < k) (hby : i.bytes ≤ 1048576)
    (D : rSeq Al m w0 k R a l xs) (n : NewAt w0 w b1 #[] T) (hcell : ∀ vs x, R vs x → ∀ u ∈ vs, isCell u = true) (hl : xs.length ≤ 1048576) {K : Option Addr → Nat → Nat → World → Prop}
    (hK : ∀ a' c' w', rSeq (fun b => w0.heap.size ≤ b) True w' k R a' l xs → Fr [] w0 w' → K a' l c' w') :
    RunF Try.prog (Builtin.append_ #[t, t] t #[.slice (some ⟨b1, 0, none⟩) 0 0, .slice a l c]) w [.leaf .slice] K := by
  have f := n.fr []
  have g := n.ge
  refine app_rseq ht hi hz hs hzs hk hby (al_seq1 D f) n.blk hcell hl fun a' c' w' rows S q1 q2 q3 f' hb => ?_
  exact hK a' c' w' (rseq_svU S hk q2 D.1 q1 (fun b h => (hb b h).elim (fun e => by omega) (fun h => Nat.le_trans f.size h)) q3) (f.trans f' (fun k hk => .inr (by simp at hk; omega)))

theorem copy_c {p : Prg} (hp : p.few) : Copies p := by
  intro m w a l c K D hK
  obtain ⟨hp0, hp1⟩ := hp
  refine r_f34 _ _ _ _ _ _ fun b1 w2 n1 b3 w4 n3 => ?_
  refine ⟨_, (n1.blk.fr (n3.fr []) (by simp)).cell rfl, fun b6 w7 n6 => ⟨n6.blk.mayL (by simp), fun w8 s8 => ?_⟩⟩
  obtain ⟨B6, f8⟩ := newSet n6 s8 rfl
  have g1 := n1.ge
  have g3 := n3.ge
  have g6 := n6.ge
  have t1 := n1.blk.lt
  have t3 := n3.blk.lt
  have t6 := B6.lt
  have z8 := (f8 []).size
  have g8 : Fr [] w w8 := (n1.fr _).more ((n3.fr _).more (f8 _))
  have zw := (n1.fr []).size
  have B1 := (n1.blk.fr (n3.fr []) (by simp)).fr (f8 []) (by simp)
  have B3 := n3.blk.fr (f8 []) (by simp)
  refine ⟨fun n w' => ∃ xs a' c', n = ((xs.length : Nat) : Int) ∧ (∃ t, p.clss = xs ++ t) ∧ Blk w' b6 [.int .i64 p.main, .slice a' xs.length c'] ∧ oSeq RCls w8.heap.size w' 8 a' c' xs ∧ Fr [b6] w8 w', fun n _ => (p.clss.length - n).toNat, ⟨[], none, 0, rfl, ⟨_, rfl⟩, B6, oSeq.nil _ _ _, Fr.refl _ _⟩, ?_⟩
  rintro - n w12 ⟨xs, a', c', rfl, pre, B6, O, f12⟩
  have z12 := f12.size
  have g12 : Fr [] w w12 := g8.trans f12 (fun k hk => .inr (by simp at hk; omega))
  have D12 := al_seq rel_cls D g12
  have hl := D.1
  have B1' := B1.fr f12 (by simp; omega)
  refine ⟨_, _, _, B1'.cell rfl, IfB.dec (fun hlt => ?_) (fun hge => ?_)⟩
  · have hlt' : xs.length < p.clss.length := by omega
    obtain ⟨x, hx, hmem, pre'⟩ := pre_next pre hlt'
    obtain ⟨h1, h2, h3, h4, h5⟩ := hp1 x hmem
    obtain ⟨q, vs, ea, -, -, -, hcs, -, R⟩ := D12.2 _ _ hx
    obtain ⟨a1, l1, c1, a2, l2, c2, a3, l3, c3, a4, l4, c4, rfl, E1, E2, E3, E4⟩ := R
    refine ⟨_, _, _, B1'.cell rfl, PtrOK.of ea ⟨by omega, _, _, _, _, _, _, _, _, _, _, _, _, _, _, _, _, hcs, fun b24 w25 n24 => ⟨n24.blk.mayL (by simp), fun w26 s26 => ?_⟩⟩⟩
    obtain ⟨B26, f26⟩ := newSet n24 s26 rfl
    have g24 := n24.ge
    have t26 := B26.lt
    have z26 := (f26 []).size
    refine ⟨_, _, _, B26.cell rfl, copy59 (al_seq1 E1 (f26 _)) h1 fun a28 c28 w29 G1 f29 => ?_⟩
    have B29 := B26.fr f29 (by simp)
    have z29 := f29.size
    refine ⟨B29.may (by simp), fun w30 s30 => ?_⟩
    have f30 : Fr [b24] w29 w30 := s30.fr (by simp)
    have B30 := s30.blk B29
    have g30 : Fr [] w12 w30 := ((f26 []).more f29).trans f30 (fun k hk => .inr (by simp at hk; omega))
    have z30 := f30.size
    have G1 := up_fr1 G1 f30 (fun b hb => by simp at hb; omega) (Nat.le_refl _)
    refine ⟨_, _, _, B30.cell rfl, copy60 (al_seq1 E2 g30) h2 fun a32 c32 w33 G2 f33 => ?_⟩
    have B33 := B30.fr f33 (by simp)
    have z33 := f33.size
    refine ⟨B33.may (by simp), fun w34 s34 => ?_⟩
    have f34 : Fr [b24] w33 w34 := s34.fr (by simp)
    have B34 := s34.blk B33
    have g34 : Fr [] w12 w34 := (g30.more f33).trans f34 (fun k hk => .inr (by simp at hk; omega))
    have z34 := f34.size
    have G1 := up_fr1 (up_fr1 G1 f33 (by simp) (Nat.le_refl _)) f34 (fun b hb => by simp at hb; omega) (Nat.le_refl _)
    have G2 := up_fr1 (n' := w26.heap.size) G2 f34 (fun b hb => by simp at hb; omega) (by omega)
    refine ⟨_, _, _, B34.cell rfl, copy60 (al_seq1 E3 g34) h3 fun a36 c36 w37 G3 f37 => ?_⟩
    have B37 := B34.fr f37 (by simp)
    have z37 := f37.size
    refine ⟨B37.may (by simp), fun w38 s38 => ?_⟩
    have f38 : Fr [b24] w37 w38 := s38.fr (by simp)
    have B38 := s38.blk B37
    have g38 : Fr [] w12 w38 := (g34.more f37).trans f38 (fun k hk => .inr (by simp at hk; omega))
    have z38 := f38.size
    refine ⟨_, _, _, B38.cell rfl, B38.may (by simp), fun w40 s40 => ?_⟩
    have f40 : Fr [b24] w38 w40 := s40.fr (by simp)
    have B40 := s40.blk B38
    have g40 : Fr [] w12 w40 := g38.trans f40 (fun k hk => .inr (by simp at hk; omega))
    have z40 := f40.size
    have lt24 : ∀ b ∈ [b24], b < w26.heap.size := fun b hb => by simp at hb; omega
    have G1 := up_fr1 (up_fr1 (up_fr1 G1 f37 (by simp) (Nat.le_refl _)) f38 lt24 (Nat.le_refl _)) f40 lt24 (Nat.le_refl _)
    have G2 := up_fr1 (up_fr1 (up_fr1 G2 f37 (by simp) (Nat.le_refl _)) f38 lt24 (Nat.le_refl _)) f40 lt24 (Nat.le_refl _)
    have G3 := up_fr1 (n' := w26.heap.size) (up_fr1 (n' := w26.heap.size) G3 f38 (fun b hb => by simp at hb; omega) (by omega)) f40 lt24 (Nat.le_refl _)
    simp only [List.set] at B40
    refine ⟨fun n w' => ∃ ys a7 c7, n = ((ys.length : Nat) : Int) ∧ (∃ t, x.mths = ys ++ t) ∧ Blk w' b24 [.string x.name, .bool x.face, .bool x.fin, .int .i64 x.sup, .slice a28 l1 c28, .slice a32 l2 c32, .slice a36 l3 c36, .slice a7 ys.length c7] ∧ oSeq RMth w40.heap.size w' 9 a7 c7 ys ∧ Fr [b24] w40 w',
      fun n _ => (x.mths.length - n).toNat, ⟨[], none, 0, rfl, ⟨_, rfl⟩, B40, oSeq.nil _ _ _, Fr.refl _ _⟩, ?_⟩
    rintro - n w44 ⟨ys, a7, c7, rfl, preM, B44, OM, f44⟩
    have z44 := f44.size
    have g44 : Fr [] w12 w44 := g40.trans f44 (fun k hk => .inr (by simp at hk; omega))
    have hl4 := E4.1
    refine IfB.dec (fun hltM => ?_) (fun hgeM => ?_)
    · have hltM' : ys.length < x.mths.length := by omega
      obtain ⟨y, hy, ymem, preM'⟩ := pre_next preM hltM'
      obtain ⟨k1, k2, k3, k4, k5⟩ := h5 y ymem
      obtain ⟨q2, vs2, ea2, -, -, -, hcs2, -, R2⟩ := (al_seq rel_mth E4 g44).2 _ _ hy
      obtain ⟨b1', m1, d1, b2', m2, d2, b3', m3, d3, b4', m4, d4, rfl, F1, F2, F3, F4⟩ := R2
      refine PtrOK.of ea2 ⟨by omega, _, _, _, _, _, _, _, _, _, _, _, _, _, _, _, _, _, hcs2, fun b55 w56 n55 => ⟨n55.blk.mayL (by simp), fun w57 s57 => ?_⟩⟩
      obtain ⟨B57, f57⟩ := newSet n55 s57 rfl
      have g55 := n55.ge
      have t57 := B57.lt
      have z57 := (f57 []).size
      refine ⟨_, _, _, B57.cell rfl, copy59 (al_seq1 F1 (f57 _)) k1 fun a59 c59 w60 H1 f60 => ?_⟩
      have B60 := B57.fr f60 (by simp)
      have z60 := f60.size
      refine ⟨B60.may (by simp), fun w61 s61 b62 w63 n62 => ?_⟩
      have f61 : Fr [b55] w60 w61 := s61.fr (by simp)
      have B61 := s61.blk B60
      have g61 : Fr [] w44 w61 := ((f57 []).more f60).trans f61 (fun k hk => .inr (by simp at hk; omega))
      have z61 := f61.size
      have lt55 : ∀ b ∈ [b55], b < w57.heap.size := fun b hb => by simp at hb; omega
      have H1 := up_fr1 H1 f61 lt55 (Nat.le_refl _)
      refine ⟨_, _, _, (B61.fr (n62.fr []) (by simp)).cell rfl, app_new (i := Try.t87) (e := 87) (k := 3) (by kernel_rfl) (by kernel_rfl) rfl rfl rfl (by decide) (by decide) (al_seq1 F2 g61) n62 (fun vs x h => by cases h; simp [isCell]) k2 fun a65 c65 w66 H2 f66 => ?_⟩
      have B66 := B61.fr f66 (by simp)
      have z66 := f66.size
      refine ⟨B66.may (by simp), fun w67 s67 b68 w69 n68 => ?_⟩
      have f67 : Fr [b55] w66 w67 := s67.fr (by simp)
      have B67 := s67.blk B66
      have g67 : Fr [] w44 w67 := (g61.more f66).trans f67 (fun k hk => .inr (by simp at hk; omega))
      have z67 := f67.size
      have H1 := up_fr1 (up_fr1 H1 f66 (by simp) (Nat.le_refl _)) f67 lt55 (Nat.le_refl _)
      have H2 := up_fr1 (n' := w57.heap.size) H2 f67 (fun b hb => by simp at hb; omega) (by omega)
      refine ⟨_, _, _, (B67.fr (n68.fr []) (by simp)).cell rfl, app_new (i := Try.t91) (e := 91) (k := 4) (by kernel_rfl) (by kernel_rfl) rfl rfl rfl (by decide) (by decide) (al_seq1 F3 g67) n68 (fun vs x h => by cases h; simp [isCell]) k3 fun a71 c71 w72 H3 f72 => ?_⟩
      have B72 := B67.fr f72 (by simp)
      have z72 := f72.size
      refine ⟨B72.may (by simp), fun w73 s73 => ?_⟩
      have f73 : Fr [b55] w72 w73 := s73.fr (by simp)
      have B73 := s73.blk B72
      have g73 : Fr [] w44 w73 := (g67.more f72).trans f73 (fun k hk => .inr (by simp at hk; omega))
      have z73 := f73.size
      refine ⟨_, _, _, B73.cell rfl, B73.may (by simp), fun w75 s75 => ?_⟩
      have f75 : Fr [b55] w73 w75 := s75.fr (by simp)
      have B75 := s75.blk B73
      have g75 : Fr [] w44 w75 := g73.trans f75 (fun k hk => .inr (by simp at hk; omega))
      have z75 := f75.size
      have H1 := up_fr1 (up_fr1 (up_fr1 H1 f72 (by simp) (Nat.le_refl _)) f73 lt55 (Nat.le_refl _)) f75 lt55 (Nat.le_refl _)
      have H2 := up_fr1 (up_fr1 (up_fr1 H2 f72 (by simp) (Nat.le_refl _)) f73 lt55 (Nat.le_refl _)) f75 lt55 (Nat.le_refl _)
      have H3 := up_fr1 (n' := w57.heap.size) (up_fr1 (n' := w57.heap.size) H3 f73 (fun b hb => by simp at hb; omega) (by omega)) f75 lt55 (Nat.le_refl _)
      simp only [List.set] at B75
      refine ⟨fun n w' => ∃ zs a8 c8, n = ((zs.length : Nat) : Int) ∧ (∃ t, y.maps = zs ++ t) ∧ Blk w' b55 [.string y.name, .bool y.stat, .slice a59 m1 c59, .int .i64 y.ret, .int .i64 y.locs, .int .i64 y.stk, .slice a65 m2 c65, .slice a71 m3 c71, .slice a8 zs.length c8] ∧ oSeq RMpe w75.heap.size w' 3 a8 c8 zs ∧ Fr [b55] w75 w',
        fun n _ => (y.maps.length - n).toNat, ⟨[], none, 0, rfl, ⟨_, rfl⟩, B75, oSeq.nil _ _ _, Fr.refl _ _⟩, ?_⟩
      rintro - n w79 ⟨zs, a8, c8, rfl, preZ, B79, OZ, f79⟩
      have z79 := f79.size
      have g79 : Fr [] w44 w79 := g75.trans f79 (fun k hk => .inr (by simp at hk; omega))
      have hm4 := F4.1
      refine IfB.dec (fun hltZ => ?_) (fun hgeZ => ?_)
      · have hltZ' : zs.length < y.maps.length := by omega
        obtain ⟨z, hz, zmem, preZ'⟩ := pre_next preZ hltZ'
        refine maprec_c (F := fun w => Fit .i64 _ ∧ _ ∧ _) (al_seq rel_mpe F4 g79) hz k4 (k5 z zmem) B79 OZ (by omega) (by omega) fun w' a9 c9 B9 O9 f9 => ?_
        refine ⟨fit64 (by omega) (by omega), ⟨zs ++ [z], a9, c9, by simp, preZ', by simpa using B9, O9, f79.trans f9 (fun k hk => ?_)⟩, by (try dsimp only); omega⟩
        rcases List.mem_cons.1 hk with rfl | hk
        · exact .inl (by simp)
        · exact .inr (OZ.up k hk)
      have ez := pre_all preZ (by omega)
      subst ez
      have H1 := up_fr1 H1 f79 lt55 (show w44.heap.size ≤ w57.heap.size by omega)
      have H2 := up_fr1 H2 f79 lt55 (show w44.heap.size ≤ w57.heap.size by omega)
      have H3 := up_fr1 H3 f79 lt55 (show w44.heap.size ≤ w57.heap.size by omega)
      have H4 := up_fr rel_mpe (OZ.done rel_mpe (by decide)) (Fr.refl [] _) (by simp) (show w44.heap.size ≤ w75.heap.size by omega)
      have B24 := B44.fr g79 (by simp)
      refine ⟨_, _, _, B24.cell rfl, _, _, _, _, _, _, _, _, _, _, _, _, _, _, _, _, _, B79.cells, fun b427 w428 n427 => ?_⟩
      refine oSeq.app (x := y) rel_mth (by decide) OM rfl ⟨_, _, _, _, _, _, _, _, _, _, _, _, rfl, H1, H2, H3, hm4 ▸ H4⟩ g79 (by simp) z44 (i := Try.t82) (e := 82) (z := .agg #[.string (ByteArray.mk #[]), .bool false, .slice none 0 0, .int .i64 0, .int .i64 0, .int .i64 0, .slice none 0 0, .slice none 0 0, .slice none 0 0])
        (by kernel_rfl) (by kernel_rfl) rfl rfl rfl (by simp [isCell]) (by omega) (by decide) n427 fun a429 c429 w430 O430 f430 => ?_
      have nm : b24 ∉ ablk a7 := fun h => by have := OM.up b24 h; omega
      have B430 := B24.fr f430 nm
      refine ⟨B430.may (by simp), fun w431 s431 => ⟨fit64 (by omega) (by omega), ⟨ys ++ [y], a429, c429, by simp, preM', by simpa using s431.blk B430, O430.fr rel_mth (s431.fr (S := [b24]) (by simp)) (fun b hb => by simp at hb; omega), ?_⟩, by (try dsimp only); omega⟩⟩
      exact ((f44.trans g79 (by simp)).trans f430 (fun k hk => .inr (OM.up k hk))).trans (s431.fr (S := [b24]) (by simp)) (fun k hk => .inl hk)
    have ey := pre_all preM (by omega)
    subst ey
    have G1 := up_fr1 G1 f44 lt24 (show w12.heap.size ≤ w26.heap.size by omega)
    have G2 := up_fr1 G2 f44 lt24 (show w12.heap.size ≤ w26.heap.size by omega)
    have G3 := up_fr1 G3 f44 lt24 (show w12.heap.size ≤ w26.heap.size by omega)
    have G4 := up_fr rel_mth (OM.done rel_mth (by decide)) (Fr.refl [] _) (by simp) (show w12.heap.size ≤ w40.heap.size by omega)
    have B6' := B6.fr g44 (by simp)
    refine ⟨_, _, _, B6'.cell rfl, _, _, _, _, _, _, _, _, _, _, _, _, _, _, _, _, B44.cells, fun b441 w442 n441 => ?_⟩
    refine oSeq.app (x := x) rel_cls (by decide) O rfl ⟨_, _, _, _, _, _, _, _, _, _, _, _, rfl, G1, G2, G3, hl4 ▸ G4⟩ g44 (by simp) z12 (i := Try.t75) (e := 75) (z := .agg #[.string (ByteArray.mk #[]), .bool false, .bool false, .int .i64 0, .slice none 0 0, .slice none 0 0, .slice none 0 0, .slice none 0 0])
      (by kernel_rfl) (by kernel_rfl) rfl rfl rfl (by simp [isCell]) (by omega) (by decide) n441 fun a443 c443 w444 O444 f444 => ?_
    have nm : b6 ∉ ablk a' := fun h => by have := O.up b6 h; omega
    have B444 := B6'.fr f444 nm
    refine ⟨B444.may (by simp), fun w445 s445 => ⟨fit64 (by omega) (by omega), ⟨xs ++ [x], a443, c443, by simp, pre', by simpa using s445.blk B444, O444.fr rel_cls (s445.fr (S := [b6]) (by simp)) (fun b hb => by simp at hb; omega), ?_⟩, by (try dsimp only); omega⟩⟩
    exact ((f12.trans g44 (by simp)).trans f444 (fun k hk => .inr (O.up k hk))).trans (s445.fr (S := [b6]) (by simp)) (fun k hk => .inl hk)
  have ex := pre_all pre (by omega)
  subst ex
  have B3' := B3.fr f12 (by simp; omega)
  refine ⟨_, _, _, _, B6.cells, B3'.mayL (by simp), fun w448 s448 => ?_⟩
  obtain ⟨B448, f448⟩ := s448.all B3' (by simp)
  refine ⟨_, _, _, _, B448.cells, hK w448 _ _ _ ?_ (g12.trans f448 (fun k hk => .inr (by simp at hk; omega)))⟩
  refine rel_seq rel_cls (up_fr rel_cls (O.done rel_cls (by decide)) f448 (fun b hb => by simp at hb; omega) (Nat.le_refl _)) (sameU_refl _ _) (Nat.le_refl _) fun _ _ _ => trivial

end Go.Proofs.Ytmlhdmnnijapjaa.V
namespace Go.Proofs.Ytmlhdmnnijapjaa.V
open Go Go.RowKit Go.Proofs.Ytmlhdmnnijapjaa.WirePlain

def wtL {α : Type} (f : α → Nat) (xs : List α) : Nat := (xs.map f).sum
def Fld.wt (x : Fld) : Nat := x.name.size + 1
def Mpe.wt (x : Mpe) : Nat := wtL (fun _ => 1) x.ls + wtL (fun _ => 1) x.st + 1
def Mth.wt (x : Mth) : Nat := x.name.size + wtL (fun _ => 1) x.args + wtL (fun _ => 1) x.code + wtL (fun _ => 1) x.tab + wtL Mpe.wt x.maps + 1
def Cls.wt (x : Cls) : Nat := x.name.size + wtL (fun _ => 1) x.faces + wtL Fld.wt x.flds + wtL Fld.wt x.stats + wtL Mth.wt x.mths + 1
def Prg.wt (x : Prg) : Nat := wtL Cls.wt x.clss + 1

section
variable {α : Type} {f g : α → Nat}
theorem wtL_len (xs : List α) (h : ∀ x, 1 ≤ f x) : xs.length ≤ wtL f xs := by
  unfold wtL
  induction xs with
  | nil => simp
  | cons x xs ih => have := h x; simp only [List.length_cons, List.map_cons, List.sum_cons]; omega
theorem wtL_mem {xs : List α} {x : α} (h : x ∈ xs) : f x ≤ wtL f xs := by
  unfold wtL
  induction xs with
  | nil => cases h
  | cons y xs ih =>
    simp only [List.map_cons, List.sum_cons]
    rcases List.mem_cons.1 h with rfl | h
    · omega
    · have := ih h; omega
theorem seqW_wt {one : α → Wr} {c : Nat} (h : ∀ x, (one x).bs.length ≤ c * f x) (xs : List α) : (seqW one xs).bs.length ≤ c * wtL f xs := by
  unfold wtL
  induction xs with
  | nil => simp [seqW, Wr.nil]
  | cons x xs ih =>
    have := h x
    simp only [seqW, Wr.app, List.length_append, List.map_cons, List.sum_cons, Nat.mul_add]; omega
end

theorem Mpe.wt_pos (x : Mpe) : 1 ≤ x.wt := by unfold Mpe.wt; omega
theorem Fld.wt_pos (x : Fld) : 1 ≤ x.wt := by unfold Fld.wt; omega
theorem Mth.wt_pos (x : Mth) : 1 ≤ x.wt := by unfold Mth.wt; omega
theorem Cls.wt_pos (x : Cls) : 1 ≤ x.wt := by unfold Cls.wt; omega
theorem one_pos {α : Type} (x : α) : 1 ≤ (fun (_ : α) => 1) x := Nat.le_refl _

theorem few_mpe {x : Mpe} (h : x.wt ≤ 1048576) : x.few := by
  unfold Mpe.wt at h
  have h1 := wtL_len x.ls one_pos
  have h2 := wtL_len x.st one_pos
  exact ⟨by omega, by omega⟩
theorem few_mth {x : Mth} (h : x.wt ≤ 1048576) : x.few := by
  unfold Mth.wt at h
  have h1 := wtL_len x.args one_pos
  have h2 := wtL_len x.code one_pos
  have h3 := wtL_len x.tab one_pos
  have h4 := wtL_len x.maps Mpe.wt_pos
  exact ⟨by omega, by omega, by omega, by omega, fun y hy => few_mpe (by have := wtL_mem (f := Mpe.wt) hy; omega)⟩
theorem few_cls {x : Cls} (h : x.wt ≤ 1048576) : x.few := by
  unfold Cls.wt at h
  have h1 := wtL_len x.faces one_pos
  have h2 := wtL_len x.flds Fld.wt_pos
  have h3 := wtL_len x.stats Fld.wt_pos
  have h4 := wtL_len x.mths Mth.wt_pos
  exact ⟨by omega, by omega, by omega, by omega, fun y hy => few_mth (by have := wtL_mem (f := Mth.wt) hy; omega)⟩
theorem few_prg {x : Prg} (h : x.wt ≤ 1048576) : x.few := by
  unfold Prg.wt at h
  have h4 := wtL_len x.clss Cls.wt_pos
  exact ⟨by omega, fun y hy => few_cls (by have := wtL_mem (f := Cls.wt) hy; omega)⟩

theorem sm_mpe {x : Mpe} (h : x.few) : x.sm := by unfold Mpe.few at h; unfold Mpe.sm smL; omega
theorem sm_mth {x : Mth} (h : x.few) : x.sm := by
  obtain ⟨h1, h2, h3, h4, h5⟩ := h
  refine ⟨?_, ?_, ?_, ?_, fun y hy => sm_mpe (h5 y hy)⟩ <;> (unfold smL; omega)
theorem sm_cls {x : Cls} (h : x.few) : x.sm := by
  obtain ⟨h1, h2, h3, h4, h5⟩ := h
  refine ⟨?_, ?_, ?_, ?_, fun y hy => sm_mth (h5 y hy)⟩ <;> (unfold smL; omega)
theorem sm_prg {x : Prg} (h : x.few) : x.sm := by
  obtain ⟨h4, h5⟩ := h
  exact ⟨by unfold smL; omega, fun y hy => sm_cls (h5 y hy)⟩

theorem layR_len {α : Type} {f : α → Nat} {one : α → Wr} {c k : Nat} (h : ∀ x, (one x).bs.length ≤ c * f x) (xs : List α) : (layR k one xs).bs.length ≤ 5 + c * wtL f xs := by
  have h1 := seqW_wt h xs
  have h2 := numW_len (xs.length : Int)
  simp only [layR, Wr.app, List.length_append, List.length_nil]; omega
theorem nameR_len (s : ByteArray) : (nameR s).bs.length ≤ 5 + s.size := by
  have := putNum_size (s.size : Int)
  simp only [nameR, nats_length, ByteArray.size_append]; omega
theorem insW_wt (x : Ins) : (insW x).bs.length ≤ 100 * 1 := by
  have h1 := numW_len x.op
  have h2 := numW_len x.a
  have h3 := numW_len x.b
  simp only [insW, seqW, Wr.app, Wr.nil, List.length_append, List.length_nil]; omega
theorem hndW_wt (x : Hnd) : (hndW x).bs.length ≤ 100 * 1 := by
  have h1 := numW_len x.lo
  have h2 := numW_len x.hi
  have h3 := numW_len x.pl
  have h4 := numW_len x.cl
  simp only [hndW, seqW, Wr.app, Wr.nil, List.length_append, List.length_nil]; omega
theorem intW_len (x : Int) : (numW x).bs.length ≤ 100 * 1 := by have := numW_len x; omega
theorem fldR_len (x : Fld) : (fldR x).bs.length ≤ 100 * x.wt := by
  have h1 := nameR_len x.name
  have h2 := numW_len x.ty
  simp only [fldR, Wr.app, List.length_append, Fld.wt]; omega
theorem mpeR_len (x : Mpe) : (mpeR x).bs.length ≤ 100 * x.wt := by
  have h1 := layR_len (k := 24) intW_len x.ls
  have h2 := layR_len (k := 24) intW_len x.st
  have h3 := numW_len x.pl
  simp only [mpeR, Wr.app, List.length_append, Mpe.wt]; omega
theorem mthR_len (x : Mth) : (mthR x).bs.length ≤ 100 * x.wt := by
  have h1 := layR_len (k := 8) intW_len x.args
  have h2 := layR_len (k := 300) insW_wt x.code
  have h3 := layR_len (k := 16) hndW_wt x.tab
  have h4 := layR_len (k := 64) mpeR_len x.maps
  have h5 := nameR_len x.name
  have h6 := numW_len (flagI x.stat 1)
  have h7 := numW_len x.ret
  have h8 := numW_len x.locs
  have h9 := numW_len x.stk
  simp only [mthR, formW, Wr.app, List.length_append, List.length_nil, Mth.wt]; omega
theorem clsR_len (x : Cls) : (clsR x).bs.length ≤ 100 * x.wt := by
  have h1 := layR_len (k := 8) intW_len x.faces
  have h2 := layR_len (k := 24) fldR_len x.flds
  have h3 := layR_len (k := 24) fldR_len x.stats
  have h4 := layR_len (k := 24) mthR_len x.mths
  have h5 := nameR_len x.name
  have h6 := numW_len (flagI x.face 1 + flagI x.fin 2)
  have h7 := numW_len x.sup
  simp only [clsR, Wr.app, List.length_append, Cls.wt]; omega
theorem encRW_len (p : Prg) : (encRW p).bs.length ≤ 100 * p.wt := by
  have h1 := layR_len (k := 40) clsR_len p.clss
  have h2 := numW_len p.main
  simp only [encRW, Wr.app, List.length_append, Prg.wt]; omega
end Go.Proofs.Ytmlhdmnnijapjaa.V
namespace Go.Proofs.Ytmlhdmnnijapjaa.V
open Go Go.RowKit Go.WideShapes Go.ChangeShapes

theorem gather {α β : Type} {wt : α → Nat} {f : β → Nat} : ∀ (es : List β) {P : Nat → α → Prop}, (∀ i e, es[i]? = some e → ∃ y, P i y ∧ wt y ≤ f e) → ∃ ys : List α, ys.length = es.length ∧ (∀ i y, ys[i]? = some y → P i y) ∧ wtL wt ys ≤ (es.map f).sum
  | [], P, _ => ⟨[], rfl, fun i y h => by simp at h, Nat.le_refl _⟩
  | e :: es, P, h => by
    obtain ⟨y, h1, h2⟩ := h 0 e rfl
    obtain ⟨ys, g1, g2, g3⟩ := gather es (P := fun i => P (i + 1)) fun i e hi => h (i + 1) e (by simpa using hi)
    refine ⟨y :: ys, by simp [g1], fun i z hz => ?_, ?_⟩
    · cases i with
      | zero => simp at hz; subst hz; exact h1
      | succ i => exact g2 i z (by simpa using hz)
    · unfold wtL at g3 ⊢
      simp only [List.map_cons, List.sum_cons]; omega
theorem bulk_all {H : Type} {β : Type} (f : β → DataW H) (l : List β) : Rows.uptoBulkAll (l.map f) = (l.map fun e => Rows.uptoBulk (f e)).sum := by
  induction l with
  | nil => simp [Rows.uptoBulkAll]
  | cons x l ih => simp only [List.map_cons, Rows.uptoBulkAll, List.sum_cons, ih]

section
variable {H : Type} {enc : TypeId × Value → H} {w : World} {spare : Nat → Bool} {held : Bool}

theorem bulk_seq {α : Type} {t e : TypeId} {k : Nat} (ht : Try.prog.underlying t = some (.slice e)) (hc : Try.prog.cellsOf e = k) (hk : 0 < k) {R : List Value → α → Prop} {ok : α → Prop} {wt : α → Nat}
    (hE : ∀ fuel cs x, DataW.trod enc Try.prog w 0 spare held fuel e cs = some x → ∃ y, R cs y ∧ ok y ∧ wt y ≤ Rows.uptoBulk x.1) {fuel : Nat} {cs : List Value} {x : DataW H × List MemPlace} (h : DataW.trod enc Try.prog w 0 spare held fuel t cs = some x) :
    ∃ a l c ys, cs = [.slice a l c] ∧ rSeq Al False w k R a l ys ∧ (∀ y ∈ ys, ok y) ∧ wtL wt ys ≤ Rows.uptoBulk x.1 := by
  rcases DataW.trod_slice ht h with ⟨rfl, rfl⟩ | ⟨a, len, cap, elems, rest, n, _, rfl, rfl, _, hl, hm, hlen, hel, _, _⟩
  · exact ⟨none, 0, 0, [], rfl, rSeq.nil, by simp, Nat.zero_le _⟩
  rw [hc] at hel
  have each : ∀ i e, elems[i]? = some e → ∃ y, ((∃ vs, vs.length = k ∧ CellsAt w (Addr.add a (i * k)) vs ∧ R vs y) ∧ ok y) ∧ wt y ≤ Rows.uptoBulk e.1 := by
    intro i e h3
    have hi : i < elems.length := (List.getElem?_eq_some_iff.1 h3).1
    have h2 := hel i (by omega)
    rw [h3, Option.bind_eq_some_iff] at h2
    obtain ⟨vs, hcs, h2⟩ := h2
    obtain ⟨_, hcl, hcell⟩ := World.cells?_some hcs
    obtain ⟨y, h4, h5, h6⟩ := hE _ _ _ h2
    refine ⟨y, ⟨⟨vs, hcl, fun j v hj => ?_, h4⟩, h5⟩, h6⟩
    have hjk : j < k := by have := (List.getElem?_eq_some_iff.1 hj).1; omega
    rw [hcell j hjk]; exact hj
  obtain ⟨ys, g1, g2, g3⟩ := gather elems each
  refine ⟨some a, len, cap, ys, rfl, ⟨by omega, fun i y hy => ?_⟩, fun y hy => ?_, ?_⟩
  · obtain ⟨⟨vs, h1, h2, h3⟩, _⟩ := g2 i y hy
    refine ⟨a, vs, rfl, trivial, ?_, h1, h2, fun h => h.elim, h3⟩
    have := cell_low (h2 0 _ (List.getElem?_eq_getElem (by omega)))
    rwa [add_blk, add_blk] at this
  · obtain ⟨i, hi⟩ := List.getElem?_of_mem hy
    exact (g2 i y hi).2
  · simp only [Rows.uptoBulk, bulk_all]; omega

theorem fieldB {t ft : TypeId} {cs : List Value} {n : Nat} {xs : List (DataW H × List MemPlace)} (i off c : Nat) (hfs : ∀ (i : Nat) (f : Field), (Try.prog.fieldsOf t)[i]? = some f → DataW.trod enc Try.prog w 0 spare held n f.type ((cs.drop f.offset).take (Try.prog.cellsOf f.type)) = xs[i]?)
    (hf : ((Try.prog.fieldsOf t)[i]?).map (fun f => (f.type, f.offset)) = some (ft, off)) (hc : Try.prog.cellsOf ft = c) : DataW.trod enc Try.prog w 0 spare held n ft ((cs.drop off).take c) = xs[i]? := by
  rw [Option.map_eq_some_iff] at hf
  obtain ⟨f, hf, e⟩ := hf
  cases e
  have := hfs i f hf
  rw [hc] at this
  exact this

theorem bulk_int {fuel : Nat} {cs : List Value} {x : DataW H × List MemPlace} (h : DataW.trod enc Try.prog w 0 spare held fuel 3 cs = some x) : ∃ n, RInt cs n ∧ I6 n ∧ (fun _ => 1) n ≤ Rows.uptoBulk x.1 := by
  obtain ⟨n, rfl, rfl, hw⟩ := DataW.trod_int (k := .i64) (by kernel_rfl) h
  exact ⟨n, rfl, wf_i64 hw, by simp [Rows.uptoBulk]⟩
theorem bulk_s {fuel : Nat} {cs : List Value} {x : DataW H × List MemPlace} (h : DataW.trod enc Try.prog w 0 spare held fuel 9 cs = some x) : ∃ s, cs = [.string s] ∧ s.size ≤ Rows.uptoBulk x.1 := by
  obtain ⟨s, rfl, rfl, _⟩ := DataW.trod_string (by kernel_rfl) h
  refine ⟨s, rfl, ?_⟩
  have : s.size = s.data.size := rfl
  simp only [Rows.uptoBulk, Array.length_toList]; omega

theorem lenB2 {β : Type} {l : List β} (h : l.length = 2) : ∃ x0 x1, l = [x0, x1] := by
  match l, h with
  | [x0, x1], _ => exact ⟨x0, x1, rfl⟩
theorem lenB3 {β : Type} {l : List β} (h : l.length = 3) : ∃ x0 x1 x2, l = [x0, x1, x2] := by
  match l, h with
  | [x0, x1, x2], _ => exact ⟨x0, x1, x2, rfl⟩
theorem lenB4 {β : Type} {l : List β} (h : l.length = 4) : ∃ x0 x1 x2 x3, l = [x0, x1, x2, x3] := by
  match l, h with
  | [x0, x1, x2, x3], _ => exact ⟨x0, x1, x2, x3, rfl⟩
theorem lenB8 {β : Type} {l : List β} (h : l.length = 8) : ∃ x0 x1 x2 x3 x4 x5 x6 x7, l = [x0, x1, x2, x3, x4, x5, x6, x7] := by
  match l, h with
  | [x0, x1, x2, x3, x4, x5, x6, x7], _ => exact ⟨x0, x1, x2, x3, x4, x5, x6, x7, rfl⟩
theorem lenB9 {β : Type} {l : List β} (h : l.length = 9) : ∃ x0 x1 x2 x3 x4 x5 x6 x7 x8, l = [x0, x1, x2, x3, x4, x5, x6, x7, x8] := by
  match l, h with
  | [x0, x1, x2, x3, x4, x5, x6, x7, x8], _ => exact ⟨x0, x1, x2, x3, x4, x5, x6, x7, x8, rfl⟩
theorem bulk_Fld {fuel : Nat} {cs : List Value} {x : DataW H × List MemPlace} (h : DataW.trod enc Try.prog w 0 spare held fuel 77 cs = some x) : ∃ y : Fld, RFld cs y ∧ I6 y.ty ∧ y.wt ≤ Rows.uptoBulk x.1 := by
  obtain ⟨ys, n, _, hx, hl, hlen, hfs⟩ := DataW.trod_struct (fs := Try.prog.fieldsOf 77) (by kernel_rfl) h
  have hlen' : ys.length = 2 := hlen.trans (by kernel_rfl)
  obtain ⟨y0, y1, rfl⟩ := lenB2 hlen'
  have h0 := fieldB (ft := 9) 0 0 1 hfs (by kernel_rfl) (by kernel_rfl)
  have h1 := fieldB (ft := 3) 1 1 1 hfs (by kernel_rfl) (by kernel_rfl)
  have hl' : cs.length = 2 := hl.trans (by kernel_rfl)
  obtain ⟨x0, x1, rfl⟩ := lenB2 hl'
  obtain ⟨s0, e0, q0⟩ := bulk_s (x := y0) (cs := [x0]) h0
  cases e0
  obtain ⟨i1, e1, w1⟩ := open_i (x := y1) (cs := [x1]) h1
  cases e1
  subst hx
  refine ⟨⟨s0, i1⟩, rfl, w1, ?_⟩
  simp only [List.map_cons, List.map_nil, Rows.uptoBulk, Rows.uptoBulkAll, Fld.wt]; omega
theorem bulk_Ins {fuel : Nat} {cs : List Value} {x : DataW H × List MemPlace} (h : DataW.trod enc Try.prog w 0 spare held fuel 87 cs = some x) : ∃ y : Ins, RIns cs y ∧ y.ok ∧ (fun _ => 1) y ≤ Rows.uptoBulk x.1 := by
  obtain ⟨ys, n, _, hx, hl, hlen, hfs⟩ := DataW.trod_struct (fs := Try.prog.fieldsOf 87) (by kernel_rfl) h
  have hlen' : ys.length = 3 := hlen.trans (by kernel_rfl)
  obtain ⟨y0, y1, y2, rfl⟩ := lenB3 hlen'
  have h0 := fieldB (ft := 3) 0 0 1 hfs (by kernel_rfl) (by kernel_rfl)
  have h1 := fieldB (ft := 3) 1 1 1 hfs (by kernel_rfl) (by kernel_rfl)
  have h2 := fieldB (ft := 3) 2 2 1 hfs (by kernel_rfl) (by kernel_rfl)
  have hl' : cs.length = 3 := hl.trans (by kernel_rfl)
  obtain ⟨x0, x1, x2, rfl⟩ := lenB3 hl'
  obtain ⟨i0, e0, w0⟩ := open_i (x := y0) (cs := [x0]) h0
  cases e0
  obtain ⟨i1, e1, w1⟩ := open_i (x := y1) (cs := [x1]) h1
  cases e1
  obtain ⟨i2, e2, w2⟩ := open_i (x := y2) (cs := [x2]) h2
  cases e2
  subst hx
  refine ⟨⟨i0, i1, i2⟩, rfl, ⟨w0, w1, w2⟩, ?_⟩
  simp only [List.map_cons, List.map_nil, Rows.uptoBulk, Rows.uptoBulkAll]; omega
theorem bulk_Hnd {fuel : Nat} {cs : List Value} {x : DataW H × List MemPlace} (h : DataW.trod enc Try.prog w 0 spare held fuel 91 cs = some x) : ∃ y : Hnd, RHnd cs y ∧ y.ok ∧ (fun _ => 1) y ≤ Rows.uptoBulk x.1 := by
  obtain ⟨ys, n, _, hx, hl, hlen, hfs⟩ := DataW.trod_struct (fs := Try.prog.fieldsOf 91) (by kernel_rfl) h
  have hlen' : ys.length = 4 := hlen.trans (by kernel_rfl)
  obtain ⟨y0, y1, y2, y3, rfl⟩ := lenB4 hlen'
  have h0 := fieldB (ft := 3) 0 0 1 hfs (by kernel_rfl) (by kernel_rfl)
  have h1 := fieldB (ft := 3) 1 1 1 hfs (by kernel_rfl) (by kernel_rfl)
  have h2 := fieldB (ft := 3) 2 2 1 hfs (by kernel_rfl) (by kernel_rfl)
  have h3 := fieldB (ft := 3) 3 3 1 hfs (by kernel_rfl) (by kernel_rfl)
  have hl' : cs.length = 4 := hl.trans (by kernel_rfl)
  obtain ⟨x0, x1, x2, x3, rfl⟩ := lenB4 hl'
  obtain ⟨i0, e0, w0⟩ := open_i (x := y0) (cs := [x0]) h0
  cases e0
  obtain ⟨i1, e1, w1⟩ := open_i (x := y1) (cs := [x1]) h1
  cases e1
  obtain ⟨i2, e2, w2⟩ := open_i (x := y2) (cs := [x2]) h2
  cases e2
  obtain ⟨i3, e3, w3⟩ := open_i (x := y3) (cs := [x3]) h3
  cases e3
  subst hx
  refine ⟨⟨i0, i1, i2, i3⟩, rfl, ⟨w0, w1, w2, w3⟩, ?_⟩
  simp only [List.map_cons, List.map_nil, Rows.uptoBulk, Rows.uptoBulkAll]; omega
theorem bulk_Mpe {fuel : Nat} {cs : List Value} {x : DataW H × List MemPlace} (h : DataW.trod enc Try.prog w 0 spare held fuel 89 cs = some x) : ∃ y : Mpe, RMpe Al False w cs y ∧ y.ok ∧ y.wt ≤ Rows.uptoBulk x.1 := by
  obtain ⟨ys, n, _, hx, hl, hlen, hfs⟩ := DataW.trod_struct (fs := Try.prog.fieldsOf 89) (by kernel_rfl) h
  have hlen' : ys.length = 3 := hlen.trans (by kernel_rfl)
  obtain ⟨y0, y1, y2, rfl⟩ := lenB3 hlen'
  have h0 := fieldB (ft := 3) 0 0 1 hfs (by kernel_rfl) (by kernel_rfl)
  have h1 := fieldB (ft := 38) 1 1 1 hfs (by kernel_rfl) (by kernel_rfl)
  have h2 := fieldB (ft := 38) 2 2 1 hfs (by kernel_rfl) (by kernel_rfl)
  have hl' : cs.length = 3 := hl.trans (by kernel_rfl)
  obtain ⟨x0, x1, x2, rfl⟩ := lenB3 hl'
  obtain ⟨i0, e0, w0⟩ := open_i (x := y0) (cs := [x0]) h0
  cases e0
  obtain ⟨a1, l1, c1, z1, e1, d1, o1, q1⟩ := bulk_seq (x := y1) (R := RInt) (ok := I6) (wt := (fun _ => 1)) (k := 1) (cs := [x1]) (by kernel_rfl) (by kernel_rfl) (by decide) (fun _ _ _ h => bulk_int h) h1
  cases e1
  obtain ⟨a2, l2, c2, z2, e2, d2, o2, q2⟩ := bulk_seq (x := y2) (R := RInt) (ok := I6) (wt := (fun _ => 1)) (k := 1) (cs := [x2]) (by kernel_rfl) (by kernel_rfl) (by decide) (fun _ _ _ h => bulk_int h) h2
  cases e2
  subst hx
  refine ⟨⟨i0, z1, z2⟩, ⟨a1, l1, c1, a2, l2, c2, rfl, d1, d2⟩, ⟨w0, o1, o2⟩, ?_⟩
  simp only [List.map_cons, List.map_nil, Rows.uptoBulk, Rows.uptoBulkAll, Mpe.wt]; omega
theorem bulk_Mth {fuel : Nat} {cs : List Value} {x : DataW H × List MemPlace} (h : DataW.trod enc Try.prog w 0 spare held fuel 82 cs = some x) : ∃ y : Mth, RMth Al False w cs y ∧ y.ok ∧ y.wt ≤ Rows.uptoBulk x.1 := by
  obtain ⟨ys, n, _, hx, hl, hlen, hfs⟩ := DataW.trod_struct (fs := Try.prog.fieldsOf 82) (by kernel_rfl) h
  have hlen' : ys.length = 9 := hlen.trans (by kernel_rfl)
  obtain ⟨y0, y1, y2, y3, y4, y5, y6, y7, y8, rfl⟩ := lenB9 hlen'
  have h0 := fieldB (ft := 9) 0 0 1 hfs (by kernel_rfl) (by kernel_rfl)
  have h1 := fieldB (ft := 4) 1 1 1 hfs (by kernel_rfl) (by kernel_rfl)
  have h2 := fieldB (ft := 38) 2 2 1 hfs (by kernel_rfl) (by kernel_rfl)
  have h3 := fieldB (ft := 3) 3 3 1 hfs (by kernel_rfl) (by kernel_rfl)
  have h4 := fieldB (ft := 3) 4 4 1 hfs (by kernel_rfl) (by kernel_rfl)
  have h5 := fieldB (ft := 3) 5 5 1 hfs (by kernel_rfl) (by kernel_rfl)
  have h6 := fieldB (ft := 78) 6 6 1 hfs (by kernel_rfl) (by kernel_rfl)
  have h7 := fieldB (ft := 79) 7 7 1 hfs (by kernel_rfl) (by kernel_rfl)
  have h8 := fieldB (ft := 80) 8 8 1 hfs (by kernel_rfl) (by kernel_rfl)
  have hl' : cs.length = 9 := hl.trans (by kernel_rfl)
  obtain ⟨x0, x1, x2, x3, x4, x5, x6, x7, x8, rfl⟩ := lenB9 hl'
  obtain ⟨s0, e0, q0⟩ := bulk_s (x := y0) (cs := [x0]) h0
  cases e0
  obtain ⟨b1, e1⟩ := open_b (x := y1) (cs := [x1]) h1
  cases e1
  obtain ⟨a2, l2, c2, z2, e2, d2, o2, q2⟩ := bulk_seq (x := y2) (R := RInt) (ok := I6) (wt := (fun _ => 1)) (k := 1) (cs := [x2]) (by kernel_rfl) (by kernel_rfl) (by decide) (fun _ _ _ h => bulk_int h) h2
  cases e2
  obtain ⟨i3, e3, w3⟩ := open_i (x := y3) (cs := [x3]) h3
  cases e3
  obtain ⟨i4, e4, w4⟩ := open_i (x := y4) (cs := [x4]) h4
  cases e4
  obtain ⟨i5, e5, w5⟩ := open_i (x := y5) (cs := [x5]) h5
  cases e5
  obtain ⟨a6, l6, c6, z6, e6, d6, o6, q6⟩ := bulk_seq (x := y6) (R := RIns) (ok := Ins.ok) (wt := (fun _ => 1)) (k := 3) (cs := [x6]) (by kernel_rfl) (by kernel_rfl) (by decide) (fun _ _ _ h => bulk_Ins h) h6
  cases e6
  obtain ⟨a7, l7, c7, z7, e7, d7, o7, q7⟩ := bulk_seq (x := y7) (R := RHnd) (ok := Hnd.ok) (wt := (fun _ => 1)) (k := 4) (cs := [x7]) (by kernel_rfl) (by kernel_rfl) (by decide) (fun _ _ _ h => bulk_Hnd h) h7
  cases e7
  obtain ⟨a8, l8, c8, z8, e8, d8, o8, q8⟩ := bulk_seq (x := y8) (R := (RMpe Al False w)) (ok := Mpe.ok) (wt := Mpe.wt) (k := 3) (cs := [x8]) (by kernel_rfl) (by kernel_rfl) (by decide) (fun _ _ _ h => bulk_Mpe h) h8
  cases e8
  subst hx
  refine ⟨⟨s0, b1, z2, i3, i4, i5, z6, z7, z8⟩, ⟨a2, l2, c2, a6, l6, c6, a7, l7, c7, a8, l8, c8, rfl, d2, d6, d7, d8⟩, ⟨o2, w3, w4, w5, o6, o7, o8⟩, ?_⟩
  simp only [List.map_cons, List.map_nil, Rows.uptoBulk, Rows.uptoBulkAll, Mth.wt]; omega
theorem bulk_Cls {fuel : Nat} {cs : List Value} {x : DataW H × List MemPlace} (h : DataW.trod enc Try.prog w 0 spare held fuel 75 cs = some x) : ∃ y : Cls, RCls Al False w cs y ∧ y.ok ∧ y.wt ≤ Rows.uptoBulk x.1 := by
  obtain ⟨ys, n, _, hx, hl, hlen, hfs⟩ := DataW.trod_struct (fs := Try.prog.fieldsOf 75) (by kernel_rfl) h
  have hlen' : ys.length = 8 := hlen.trans (by kernel_rfl)
  obtain ⟨y0, y1, y2, y3, y4, y5, y6, y7, rfl⟩ := lenB8 hlen'
  have h0 := fieldB (ft := 9) 0 0 1 hfs (by kernel_rfl) (by kernel_rfl)
  have h1 := fieldB (ft := 4) 1 1 1 hfs (by kernel_rfl) (by kernel_rfl)
  have h2 := fieldB (ft := 4) 2 2 1 hfs (by kernel_rfl) (by kernel_rfl)
  have h3 := fieldB (ft := 3) 3 3 1 hfs (by kernel_rfl) (by kernel_rfl)
  have h4 := fieldB (ft := 38) 4 4 1 hfs (by kernel_rfl) (by kernel_rfl)
  have h5 := fieldB (ft := 72) 5 5 1 hfs (by kernel_rfl) (by kernel_rfl)
  have h6 := fieldB (ft := 72) 6 6 1 hfs (by kernel_rfl) (by kernel_rfl)
  have h7 := fieldB (ft := 73) 7 7 1 hfs (by kernel_rfl) (by kernel_rfl)
  have hl' : cs.length = 8 := hl.trans (by kernel_rfl)
  obtain ⟨x0, x1, x2, x3, x4, x5, x6, x7, rfl⟩ := lenB8 hl'
  obtain ⟨s0, e0, q0⟩ := bulk_s (x := y0) (cs := [x0]) h0
  cases e0
  obtain ⟨b1, e1⟩ := open_b (x := y1) (cs := [x1]) h1
  cases e1
  obtain ⟨b2, e2⟩ := open_b (x := y2) (cs := [x2]) h2
  cases e2
  obtain ⟨i3, e3, w3⟩ := open_i (x := y3) (cs := [x3]) h3
  cases e3
  obtain ⟨a4, l4, c4, z4, e4, d4, o4, q4⟩ := bulk_seq (x := y4) (R := RInt) (ok := I6) (wt := (fun _ => 1)) (k := 1) (cs := [x4]) (by kernel_rfl) (by kernel_rfl) (by decide) (fun _ _ _ h => bulk_int h) h4
  cases e4
  obtain ⟨a5, l5, c5, z5, e5, d5, o5, q5⟩ := bulk_seq (x := y5) (R := RFld) (ok := (fun f : Fld => I6 f.ty)) (wt := Fld.wt) (k := 2) (cs := [x5]) (by kernel_rfl) (by kernel_rfl) (by decide) (fun _ _ _ h => bulk_Fld h) h5
  cases e5
  obtain ⟨a6, l6, c6, z6, e6, d6, o6, q6⟩ := bulk_seq (x := y6) (R := RFld) (ok := (fun f : Fld => I6 f.ty)) (wt := Fld.wt) (k := 2) (cs := [x6]) (by kernel_rfl) (by kernel_rfl) (by decide) (fun _ _ _ h => bulk_Fld h) h6
  cases e6
  obtain ⟨a7, l7, c7, z7, e7, d7, o7, q7⟩ := bulk_seq (x := y7) (R := (RMth Al False w)) (ok := Mth.ok) (wt := Mth.wt) (k := 9) (cs := [x7]) (by kernel_rfl) (by kernel_rfl) (by decide) (fun _ _ _ h => bulk_Mth h) h7
  cases e7
  subst hx
  refine ⟨⟨s0, b1, b2, i3, z4, z5, z6, z7⟩, ⟨a4, l4, c4, a5, l5, c5, a6, l6, c6, a7, l7, c7, rfl, d4, d5, d6, d7⟩, ⟨w3, o4, o5, o6, o7⟩, ?_⟩
  simp only [List.map_cons, List.map_nil, Rows.uptoBulk, Rows.uptoBulkAll, Cls.wt]; omega
set_option maxRecDepth 100000 in
set_option linter.constructorNameAsVariable false in
theorem bulk_prg {b0 : Nat} {v : Value} {d : DataW H} {ps : List MemPlace} (hval : Value.okWide Try.prog w .any b0 54 v) (hd : DataW.Trod enc Try.prog w 0 spare held 54 v d ps) :
    ∃ a l c p, v = .agg #[.int .i64 p.main, .slice a l c] ∧ rPrg Al False w p.main a l p ∧ p.ok ∧ p.wt ≤ Rows.uptoBulk d := by
  obtain ⟨cs, rfl, hcs⟩ := okWide_struct (fs := Try.prog.fieldsOf 54) (by kernel_rfl) hval
  obtain ⟨fuel, h⟩ := hd
  have e : Value.cells (.agg cs) = cs := rfl
  rw [e] at h
  obtain ⟨cs⟩ := cs
  obtain ⟨ys, n, _, hx, hl, hlen, hfs⟩ := DataW.trod_struct (fs := Try.prog.fieldsOf 54) (by kernel_rfl) h
  have hlen' : ys.length = 2 := hlen.trans (by kernel_rfl)
  obtain ⟨y0, y1, rfl⟩ := lenB2 hlen'
  have h0 := fieldB (ft := 3) 0 0 1 hfs (by kernel_rfl) (by kernel_rfl)
  have h1 := fieldB (ft := 52) 1 1 1 hfs (by kernel_rfl) (by kernel_rfl)
  have hl' : cs.length = 2 := hl.trans (by kernel_rfl)
  obtain ⟨x0, x1, rfl⟩ := lenB2 hl'
  obtain ⟨i0, e0, w0⟩ := open_i (x := y0) (cs := [x0]) h0
  cases e0
  obtain ⟨a1, l1, c1, z1, e1, d1, o1, q1⟩ := bulk_seq (x := y1) (R := (RCls Al False w)) (ok := Cls.ok) (wt := Cls.wt) (k := 8) (cs := [x1]) (by kernel_rfl) (by kernel_rfl) (by decide) (fun _ _ _ h => bulk_Cls h) h1
  cases e1
  cases hx
  refine ⟨a1, l1, c1, ⟨i0, z1⟩, rfl, ⟨rfl, d1⟩, ⟨w0, o1⟩, ?_⟩
  simp only [List.map_cons, List.map_nil, Rows.uptoBulk, Rows.uptoBulkAll, Prg.wt]; omega
end
end Go.Proofs.Ytmlhdmnnijapjaa.V
namespace Go.Proofs.Ytmlhdmnnijapjaa.V
open Go Go.RowKit Go.Proofs.Ytmlhdmnnijapjaa.WirePlain

theorem classWrites_c {W : World} {m : Prop} {a : Option Addr} {l c : Nat} (p : Prg) (hp : p.ok) (hs : p.sm) (hb : (encRW p).bs.length ≤ 1000000000000) (hf : p.few) (D : rPrg Al m W p.main a l p) {K : Bool → World → Prop} (hK : ∀ w', Fr [] W w' → K true w') : C8 p.main a l c W K := by
  refine r_f8 _ _ _ _ _ _ fun b1 w2 n1 => ?_
  have f2 := n1.fr []
  refine ⟨_, _, _, _, n1.blk.cells, copy_c hf (al_more D.2 f2) fun w7 a6 l6 c6 D7 f7 => ?_⟩
  intro b8 w9 n8
  refine ⟨n8.blk.mayL (by simp), fun w10 s10 => ?_⟩
  obtain ⟨B10, f10⟩ := newSet n8 s10 rfl
  refine ⟨_, _, _, _, B10.cells, encode_c p hp ⟨rfl, al_more D7 (f10 [])⟩ fun w15 f15 => ?_⟩
  have g15 : Fr [] w2 w15 := (f7.more (f10 [])).more f15
  refine ⟨_, _, _, _, (n1.blk.fr g15 (by simp)).cells, rencode_c p hs hb ⟨rfl, al_more (al_more D.2 f2) g15⟩ fun w20 f20 => ?_⟩
  have g20 := g15.more f20
  rw [encRP_eq]
  refine ifb_yes (by simp) (IfB.yes rfl ⟨_, _, _, _, (B10.fr (f15.more f20) (by simp)).cells, _, _, _, _, (n1.blk.fr g20 (by simp)).cells, ?_⟩)
  exact same31 p hs (al_more D7 ((f10 []).more (f15.more f20))) (al_more (al_more D.2 f2) g20) fun w26 f26 => ifb_yes rfl (awake_c fun w28 f28 => hK w28 (((f2.more g20).more (f26 [])).more f28))
end Go.Proofs.Ytmlhdmnnijapjaa.V
