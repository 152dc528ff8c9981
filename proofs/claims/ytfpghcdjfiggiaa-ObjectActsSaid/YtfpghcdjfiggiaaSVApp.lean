/- A slice is appended to a slice, of no length too. No condition. -/
import Derived.Test.YtfpghcdjfiggiaaRec
namespace Go.Proofs.Ytfpghcdjfiggiaa.V
open Go Go.RowKit

section
variable {w w' : World} {a b : Option Addr} {l c m d k : Nat} {xs ys : List Value}
theorem SV.appends {P : Program} {t e : TypeId} {i : TypeInfo} {z : Value} (ht : P.underlying t = some (.slice e)) (hi : P.info? e = some i) (hz : i.zero = some z) (hs : i.size = k) (hzs : z.cells.size = k) (hk : 0 < k) (h : SV w a l c k xs) (h2 : SV w b m d k ys)
    (hc : ∀ u ∈ ys, isCell u = true) (h63 : l + m ≤ 1048576) (hby : i.bytes ≤ 1048576) (ty : TypeId) {K : Option Addr → Nat → Nat → World → Prop}
    (hK : ∀ a' c' w', SV w' a' (l + m) c' k (xs ++ ys) → Fr (ablk a) w w' → Grw (ablk a) (ablk a') w.heap.size → K a' (l + m) c' w') :
    RunF P (Builtin.append_ #[t, t] ty #[.slice a l c, .slice b m d]) w [.leaf .slice] K := by
  rcases Nat.eq_zero_or_pos m with h0 | h0
  · subst h0
    have e0 : ys = [] := List.eq_nil_of_length_eq_zero (by have := h2.1; omega)
    subst e0
    have fin : K a l c w := hK a c w (by simpa using h) (Fr.refl _ _) (fun _ hb => .inl hb)
    refine ⟨[.slice a l c], w, ?_, fin⟩
    obtain ⟨g1, g2, g3, ⟨rfl, rfl⟩ | ⟨b1, off, cs, rfl, hb, g5, g6⟩⟩ := id h
    · have : l = 0 := by omega
      rw [this]
      cases b <;> simp [Builtin.append_, run_underlying ht, sizeOf, typeInfo, hi, Builtin.lenOf, Builtin.firstCells, loadCells, loadCellsFrom, packs, Sh.take, one]
    · cases b <;> simp [Builtin.append_, run_underlying ht, sizeOf, typeInfo, hi, Builtin.lenOf, Builtin.firstCells, g2, storeCells, loadCells, loadCellsFrom, packs, Sh.take, one]
  · obtain ⟨g1, g2, g3, ⟨rfl, rfl⟩ | ⟨b1, off, cs, rfl, hb, g5, g6⟩⟩ := id h2
    · omega
    · exact append_c (m := m) (news := ys) ht hi hz hs hzs hk h h0 g1 (cells_blk hb g6) hc h63 hby ty hK

theorem SV.pre (h : SV w a l c k xs) {l' : Nat} (hl : l' ≤ l) : SV w a l' c k (xs.take (l' * k)) := by
  obtain ⟨g1, g2, g3, g4⟩ := h
  have e1 : l' * k ≤ l * k := Nat.mul_le_mul_right k hl
  refine ⟨by rw [List.length_take]; omega, by omega, g3, g4.imp id ?_⟩
  rintro ⟨b, off, cs, rfl, hb, g5, g6⟩
  exact ⟨b, off, cs, rfl, hb, g5, by rw [← g6, List.take_take]; congr 1; omega⟩
end

theorem flat_take {α : Type} (E : Enc α) : ∀ (rs : List α) (i : Nat), (rs.flatMap E.f).take (i * E.k) = (rs.take i).flatMap E.f
  | [], i => by simp
  | r :: rs, 0 => by simp
  | r :: rs, i + 1 => by
    rw [List.take_succ_cons, List.flatMap_cons, List.flatMap_cons, ← flat_take E rs i, show (i + 1) * E.k = (E.f r).length + i * E.k by rw [E.len, Nat.succ_mul, Nat.add_comm], List.take_length_add_append]
theorem flat_drop {α : Type} (E : Enc α) : ∀ (rs : List α) (i : Nat), (rs.flatMap E.f).drop (i * E.k) = (rs.drop i).flatMap E.f
  | [], i => by simp
  | r :: rs, 0 => by simp
  | r :: rs, i + 1 => by
    rw [List.drop_succ_cons, List.flatMap_cons, ← flat_drop E rs i, show (i + 1) * E.k = (E.f r).length + i * E.k by rw [E.len, Nat.succ_mul, Nat.add_comm], List.drop_length_add_append]

section
variable {α : Type} {E : Enc α} {w w' : World} {a b : Option Addr} {c d : Nat} {rs qs : List α}
theorem SR.pre (h : SR E w a c rs) {i : Nat} (hi : i ≤ rs.length) : SR E w a c (rs.take i) := by
  have := SV.pre h hi
  unfold SR
  rw [flat_take] at this
  rwa [show (rs.take i).length = i by rw [List.length_take]; omega]
theorem SR.suf (h : SR E w a c rs) {i : Nat} (hi : i ≤ rs.length) : SR E w (Adv a c i E.k) (c - i) (rs.drop i) := by
  have := (SV.cut h (lo := i) (hi := rs.length) hi (Nat.le_refl _)).1
  unfold SR
  rw [flat_drop] at this
  have e : ((rs.drop i).flatMap E.f).take ((rs.length - i) * E.k) = (rs.drop i).flatMap E.f := List.take_of_length_le (by rw [flat_len, List.length_drop]; exact Nat.le_refl _)
  rw [e] at this
  rwa [List.length_drop]
theorem SR.appends {P : Program} {t e : TypeId} {i : TypeInfo} {z : Value} (ht : P.underlying t = some (.slice e)) (hi : P.info? e = some i) (hz : i.zero = some z) (hs : i.size = E.k) (hzs : z.cells.size = E.k) (h : SR E w a c rs) (h2 : SR E w b d qs)
    (hc : ∀ r, ∀ u ∈ E.f r, isCell u = true) (h63 : rs.length + qs.length ≤ 1048576) (hby : i.bytes ≤ 1048576) (ty : TypeId) {l m : Nat} (hl : l = rs.length) (hm : m = qs.length) {K : Option Addr → Nat → Nat → World → Prop}
    (hK : ∀ a' c' w', SR E w' a' c' (rs ++ qs) → Fr (ablk a) w w' → Grw (ablk a) (ablk a') w.heap.size → K a' (rs.length + qs.length) c' w') :
    RunF P (Builtin.append_ #[t, t] ty #[.slice a l c, .slice b m d]) w [.leaf .slice] K := by
  subst hl hm
  refine SV.appends ht hi hz hs hzs E.pos h h2 (fun u hu => ?_) h63 hby ty fun a' c' w' q1 q2 q3 => hK a' c' w' ?_ q2 q3
  · obtain ⟨r, _, hr⟩ := List.mem_flatMap.1 hu
    exact hc r u hr
  · unfold SR
    rw [List.length_append, List.flatMap_append]; exact q1
end
end Go.Proofs.Ytfpghcdjfiggiaa.V
