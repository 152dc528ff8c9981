/- Slices of things, by what their cells say. No condition. -/
import Derived.Test.YtmlhdmnnijapjaaSl
import Derived.Test.YtmlhdmnnijapjaaBase
namespace Go.Proofs.Ytmlhdmnnijapjaa.V
open Go Go.RowKit

/-- Things and their cells. -/
structure Enc (α : Type) where
  k : Nat
  f : α → List Value
  len : ∀ r, (f r).length = k
  pos : 0 < k

/-- A slice of things. -/
def SR {α : Type} (E : Enc α) (w : World) (a : Option Addr) (c : Nat) (rs : List α) : Prop := SV w a rs.length c E.k (rs.flatMap E.f)

section
variable {α : Type} {E : Enc α} {w w' : World} {a : Option Addr} {c : Nat} {rs : List α} {S : List Nat}

theorem flat_len (E : Enc α) (rs : List α) : (rs.flatMap E.f).length = rs.length * E.k := by
  induction rs with
  | nil => simp
  | cons r rs ih => rw [List.flatMap_cons, List.length_append, E.len, ih, List.length_cons, Nat.succ_mul, Nat.add_comm]

theorem flat_get (E : Enc α) : ∀ {rs : List α} {i : Nat} {r : α}, rs[i]? = some r → ∀ {j : Nat}, j < E.k → (rs.flatMap E.f)[i * E.k + j]? = (E.f r)[j]?
  | [], i, r, h, j, hj => by simp at h
  | x :: rs, 0, r, h, j, hj => by
    simp only [List.getElem?_cons_zero, Option.some.injEq] at h
    subst h
    rw [List.flatMap_cons, Nat.zero_mul, Nat.zero_add, List.getElem?_append_left (by rw [E.len]; exact hj)]
  | x :: rs, i + 1, r, h, j, hj => by
    rw [List.getElem?_cons_succ] at h
    rw [List.flatMap_cons, List.getElem?_append_right (by rw [E.len, Nat.succ_mul]; omega), E.len, Nat.succ_mul, ← flat_get E h hj]
    congr 1
    omega

theorem flat_setL (E : Enc α) : ∀ {rs : List α} {i : Nat} {r : α}, i < rs.length → (rs.flatMap E.f).take (i * E.k) ++ E.f r ++ (rs.flatMap E.f).drop (i * E.k + E.k) = (rs.set i r).flatMap E.f
  | [], i, r, h => by simp at h
  | x :: rs, 0, r, h => by
    rw [List.flatMap_cons, List.set_cons_zero, List.flatMap_cons, Nat.zero_mul, List.take_zero, List.nil_append, Nat.zero_add, List.drop_append_of_le_length (by rw [E.len]; exact Nat.le_refl _)]
    have : (E.f x).drop E.k = [] := by rw [List.drop_eq_nil_iff, E.len]; exact Nat.le_refl _
    rw [this, List.nil_append]
  | x :: rs, i + 1, r, h => by
    have ih := flat_setL E (rs := rs) (i := i) (r := r) (by simpa using h)
    rw [List.flatMap_cons, List.set_cons_succ, List.flatMap_cons, ← ih]
    have e : (i + 1) * E.k = (E.f x).length + i * E.k := by rw [E.len, Nat.succ_mul, Nat.add_comm]
    rw [e, List.take_length_add_append, Nat.add_assoc, List.drop_length_add_append]
    simp

theorem flat_set (E : Enc α) {rs : List α} {i : Nat} {r r' : α} (h : rs[i]? = some r) {j : Nat} (hj : j < E.k) {v : Value} (hv : E.f r' = (E.f r).set j v) : (rs.flatMap E.f).set (i * E.k + j) v = (rs.set i r').flatMap E.f := by
  have hi : i < rs.length := (List.getElem?_eq_some_iff.1 h).1
  rw [← flat_setL E (r := r') hi, hv]
  have hl := flat_len E rs
  have e1 : (i + 1) * E.k ≤ rs.length * E.k := Nat.mul_le_mul_right _ hi
  rw [Nat.succ_mul] at e1
  apply List.ext_getElem?
  intro m
  rw [List.append_assoc]
  simp only [List.getElem?_append, List.getElem?_set, List.length_take, List.length_set, E.len, List.getElem?_take, List.getElem?_drop, hl]
  by_cases h1 : m < i * E.k
  · rw [if_neg (by omega), if_pos (by omega), if_pos h1]
  · by_cases h2 : m < i * E.k + E.k
    · have h3 : m = i * E.k + (m - i * E.k) := by omega
      have g := flat_get E h (j := m - i * E.k) (by omega)
      rw [← h3] at g
      rw [if_neg (show ¬ m < min (i * E.k) (rs.length * E.k) by omega), show min (i * E.k) (rs.length * E.k) = i * E.k by omega, if_pos (show m - i * E.k < E.k by omega)]
      by_cases h4 : i * E.k + j = m
      · rw [if_pos h4, if_pos (by omega), if_pos (by omega), if_pos (by omega)]
      · rw [if_neg h4, if_neg (by omega), g]
    · rw [if_neg (by omega), if_neg (by omega), show min (i * E.k) (rs.length * E.k) = i * E.k by omega, if_neg (by omega)]
      congr 1
      omega

theorem SR.fr (h : SR E w a c rs) (f : Fr S w w') (ha : Apart (ablk a) S) : SR E w' a c rs := SV.fr h f ha
theorem SR.fr0 (h : SR E w a c rs) (f : Fr [] w w') : SR E w' a c rs := SV.fr h f (by intro b _; simp)
theorem SR.low (h : SR E w a c rs) : Low (ablk a) w.heap.size := SV.low h
theorem SR.nil (E : Enc α) (w : World) : SR E w none 0 [] := SV.nil w E.k
theorem SR.le (h : SR E w a c rs) : rs.length ≤ c ∧ c ≤ maxLen := ⟨h.2.1, h.2.2.1⟩

/-- A thing's cells. -/
theorem SR.at (h : SR E w a c rs) {i : Nat} {r : α} (hr : rs[i]? = some r) : ∃ b off, a = some ⟨b, off, none⟩ ∧ ∀ j, j < E.k → w.cell? (Addr.add (Addr.add ⟨b, off, none⟩ (i * E.k)) j) = (E.f r)[j]? ∧ May w (Addr.add (Addr.add ⟨b, off, none⟩ (i * E.k)) j) := by
  have hi : i < rs.length := (List.getElem?_eq_some_iff.1 hr).1
  obtain ⟨b, off, rfl, h2⟩ := SV.at h hi
  refine ⟨b, off, rfl, fun j hj => ?_⟩
  obtain ⟨h3, h4⟩ := h2 j hj
  rw [flat_get E hr hj] at h3
  exact ⟨h3, h4⟩

theorem SR.set1 (h : SR E w a c rs) {i : Nat} {r r' : α} (hr : rs[i]? = some r) {b off : Nat} (ha : a = some ⟨b, off, none⟩) {j : Nat} (hj : j < E.k) {v : Value} (hv : E.f r' = (E.f r).set j v)
    (s : SetC w w' (Addr.add (Addr.add ⟨b, off, none⟩ (i * E.k)) j) v) : SR E w' a c (rs.set i r') ∧ Fr (ablk a) w w' := by
  have hi : i < rs.length := (List.getElem?_eq_some_iff.1 hr).1
  obtain ⟨g1, g2⟩ := SV.set h ha hi hj v
  unfold SetC at s
  subst s
  refine ⟨?_, g2⟩
  unfold SR
  rw [List.length_set, ← flat_set E hr hj hv]
  exact g1

theorem SR.setAll (h : SR E w a c rs) {i : Nat} {r : α} (hi : i < rs.length) {b off : Nat} (ha : a = some ⟨b, off, none⟩) (s : SetL w w' (Addr.add ⟨b, off, none⟩ (i * E.k)) (E.f r)) : SR E w' a c (rs.set i r) ∧ Fr (ablk a) w w' := by
  obtain ⟨h1, h2, h3, h4 | ⟨b', off', cs, hab, hb, h5, h6⟩⟩ := h
  · rw [h4.1] at ha; cases ha
  · rw [ha] at hab
    cases hab
    subst ha
    rw [addr_add] at s
    have e1 : (i + 1) * E.k ≤ rs.length * E.k := Nat.mul_le_mul_right _ hi
    have e2 : rs.length * E.k ≤ c * E.k := Nat.mul_le_mul_right _ h2
    rw [Nat.succ_mul] at e1
    have hl := E.len r
    have hb' := s.blk hb (by omega)
    refine ⟨⟨by rw [flat_len], by rw [List.length_set]; exact h2, h3, .inr ⟨b, off, _, rfl, hb', ?_, ?_⟩⟩, s.fr hb (by omega) (by simp [ablk])⟩
    · simp only [List.length_append, List.length_take, List.length_drop, hl]
      omega
    · rw [← flat_setL E (r := r) hi, ← h6, List.length_set, hl]
      apply List.ext_getElem?
      intro m
      simp only [List.append_assoc, List.getElem?_append, List.getElem?_take, List.getElem?_drop, List.length_take, List.length_drop, hl, List.length_append]
      by_cases q1 : m < i * E.k
      · rw [if_pos (show m < rs.length * E.k by omega), if_pos (by omega), if_pos (by omega), if_pos (by omega), if_pos (show m < rs.length * E.k by omega)]
        rw [if_pos q1]
      · by_cases q2 : m < i * E.k + E.k
        · rw [if_pos (by omega), if_neg (by omega), if_pos (by omega), if_neg (by omega), if_pos (by omega)]
          congr 1; omega
        · by_cases q3 : m < rs.length * E.k
          · rw [if_pos q3, if_neg (by omega), if_neg (by omega), if_neg (by omega), if_neg (by omega), if_pos (by omega)]
            congr 1; omega
          · rw [if_neg q3, if_neg (by omega), if_neg (by omega), if_neg (by omega)]

/-- A thing is reached: what may be read and written of it. -/
theorem SR.get (h : SR E w a c rs) {i : Int} (h0 : 0 ≤ i) (h1 : i < (rs.length : Int)) {F : Addr → Prop}
    (hF : ∀ r p, rs[i.toNat]? = some r → (∀ j, j < E.k → w.cell? (Addr.add (Addr.add p (Int.toNat i * E.k)) j) = (E.f r)[j]?) → (∀ j, j < E.k → May w (Addr.add (Addr.add p (Int.toNat i * E.k)) j)) →
      (∀ r' j v w', j < E.k → E.f r' = (E.f r).set j v → SetC w w' (Addr.add (Addr.add p (Int.toNat i * E.k)) j) v → SR E w' a c (rs.set i.toNat r') ∧ Fr (ablk a) w w') →
      (∀ r' w', SetL w w' (Addr.add p (Int.toNat i * E.k)) (E.f r') → SR E w' a c (rs.set i.toNat r') ∧ Fr (ablk a) w w') → F p) : PtrOK a F := by
  have hlt : i.toNat < rs.length := by omega
  have hr : rs[i.toNat]? = some rs[i.toNat] := List.getElem?_eq_getElem hlt
  obtain ⟨b, off, rfl, h2⟩ := h.at hr
  exact hF _ ⟨b, off, none⟩ hr (fun j hj => (h2 j hj).1) (fun j hj => (h2 j hj).2) (fun r' j v w' hj hv s => h.set1 hr rfl hj hv s) (fun r' w' s => h.setAll hlt rfl s)

theorem cells_all {p : Addr} {vs : List Value} {k : Nat} (hk : vs.length = k) (h : ∀ j, j < k → w.cell? (Addr.add p j) = vs[j]?) : CellsAt w p vs := fun i v hi => by
  have hlt := (List.getElem?_eq_some_iff.1 hi).1
  rw [h i (by omega), hi]

/-- One thing is appended. -/
theorem SR.append {P : Program} {t e : TypeId} {i : TypeInfo} {z : Value} (ht : P.underlying t = some (.slice e)) (hi : P.info? e = some i) (hz : i.zero = some z) (hs : i.size = E.k) (hzs : z.cells.size = E.k) (h : SR E w a c rs)
    {w1 : World} {b : Nat} {cs : Array Value} {T : TypeId} (n1 : NewAt w w1 b cs T) {r : α} (hr : cs.toList = E.f r) (hc : ∀ u ∈ E.f r, isCell u = true) {mc : Nat}
    (h63 : rs.length + 1 ≤ 1048576) (hby : i.bytes ≤ 1048576) (ty : TypeId) {K : Option Addr → Nat → Nat → World → Prop}
    (hK : ∀ a' c' w', SR E w' a' c' (rs ++ [r]) → Fr (ablk a) w w' → Grw (ablk a) (ablk a') w.heap.size → K a' (rs.length + 1) c' w') :
    RunF P (Builtin.append_ #[t, t] ty #[.slice a rs.length c, .slice (some ⟨b, 0, none⟩) 1 mc]) w1 [.leaf .slice] K := by
  obtain ⟨rfl, rfl⟩ := n1
  refine append_new (m := 1) ht hi hz hs hzs E.pos h cs T (by omega) (by rw [hr, E.len, Nat.one_mul]) (by rw [hr]; exact hc) h63 hby ty (fun a' c' w' g1 g2 g3 => hK a' c' w' ?_ g2 g3)
  unfold SR
  rw [List.flatMap_append, List.length_append]
  rw [hr] at g1
  simpa using g1
end

end Go.Proofs.Ytmlhdmnnijapjaa.V
