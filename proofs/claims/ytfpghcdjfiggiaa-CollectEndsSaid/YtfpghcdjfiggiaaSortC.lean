/- The library's sort of ints. No condition. -/
import Derived.Test.YtfpghcdjfiggiaaInts
import Derived.Test.YtfpghcdjfiggiaaMapRange
import Derived.Test.YtfpghcdjfiggiaaSortLaid
namespace Go.Proofs.Ytfpghcdjfiggiaa.V
open Go Go.RowKit Go.Sort

theorem sorted_le (l : List Int) : (l.mergeSort fun x y => decide (x ≤ y)).Pairwise (· ≤ ·) := by
  have := List.pairwise_mergeSort (le := fun x y : Int => decide (x ≤ y)) (fun a b c h1 h2 => by simp at h1 h2 ⊢; omega) (fun a b => by simp; omega) l
  exact this.imp (fun {a b} h => by simpa using h)

theorem perm_sorted_eq : ∀ {l m : List Int}, l.Perm m → l.Pairwise (· ≤ ·) → m.Pairwise (· ≤ ·) → l = m
  | [], m, h, _, _ => by simpa using h.length_eq.symm
  | a :: l, [], h, _, _ => by simpa using h.length_eq
  | a :: l, b :: m, h, h1, h2 => by
    rw [List.pairwise_cons] at h1 h2
    have e : a = b := by
      have q1 : a ∈ b :: m := h.subset (by simp)
      have q2 : b ∈ a :: l := h.symm.subset (by simp)
      rcases List.mem_cons.1 q1 with r1 | r1
      · exact r1
      · rcases List.mem_cons.1 q2 with r2 | r2
        · exact r2.symm
        · have := h1.1 b r2; have := h2.1 a r1; omega
    subst e
    rw [perm_sorted_eq (List.perm_cons a |>.1 h) h1.2 h2.2]

/-- Sorting a row of the same things gives the rising row. -/
theorem sorted_eq {l m : List Int} (h : l.Perm m) (hm : m.Pairwise (· < ·)) : (l.mergeSort fun x y => decide (x ≤ y)) = m :=
  perm_sorted_eq ((List.mergeSort_perm l _).trans h) (sorted_le l) (hm.imp (fun {a b} h => by omega))

theorem sort_c {w : World} {a : Option Addr} {c : Nat} {xs : List Int} (h : SI w a c xs) (h63 : xs.length ≤ 1000000) {K : World → Prop}
    (hK : ∀ w', SI w' a c (xs.mergeSort fun x y => decide (x ≤ y)) → Fr (ablk a) w w' → K w') : C159 a xs.length c w K := by
  have hl := h.le
  obtain ⟨g1, g2, g3, ⟨rfl, rfl⟩ | ⟨b, off, cs, rfl, hb, g5, g6⟩⟩ := id h
  · have : xs = [] := List.eq_nil_of_length_eq_zero (by omega)
    subst this
    refine (slices_Sort_int_none none 0 w).mono ?_
    rintro e w' ⟨rfl, rfl⟩
    exact ⟨[], rfl, hK w' (by simpa using h) (Fr.refl _ _)⟩
  · have hbl := hb.lt
    obtain ⟨T, hbh⟩ := hb
    refine (slices_Sort_int b off c xs w ?_ hbl (by omega)).mono ?_
    · intro j hj
      have hj' : j < xs.length := by simpa using hj
      have hc : cs[off + j]? = some (vi xs[j]) := by
        have := getElem?_dt g6 (j := j) (by simpa using hj')
        rw [this]; simp [hj']
      refine ⟨?_, by simp [World.frozen?, hbh]⟩
      have B : Blk w b cs := ⟨T, hbh⟩
      rw [B.cell hc]
      simp [hj']
    · rintro e w' ⟨rfl, n, os, rfl⟩
      generalize hs : (xs.mergeSort fun x y => decide (x ≤ y)) = zs at *
      have hzl : zs.length = xs.length := by rw [← hs]; simp
      have hblk : (grow (putRow (Value.int .i64) (Sort.ahead w n) b off zs.toArray) os).heap[b]? = some (.cells (putCells (Value.int .i64) off zs.toArray cs.toArray) T (0, 0)) := by
        rw [heap_grow_old _ _ (by simpa using hbl)]
        simp [putRow, mapBlock, Sort.ahead, Array.getElem?_modify, hbh, onCells]
      refine ⟨[], rfl, hK _ ?_ ?_⟩
      · refine ⟨by simp [hzl], by omega, g3, .inr ⟨b, off, (putCells (Value.int .i64) off zs.toArray cs.toArray).toList, rfl, ⟨T, by simpa using hblk⟩, by simpa [putCells] using g5, ?_⟩⟩
        apply List.ext_getElem?
        intro j
        have g5' : off + xs.length ≤ cs.length := by omega
        by_cases hj : j < zs.length
        · rw [List.getElem?_take_of_lt (by omega), List.getElem?_drop, Array.getElem?_toList]
          simp [putCells, hj, show off + j < cs.length by omega]
        · rw [List.getElem?_take_eq_none (by omega), List.getElem?_eq_none (by simp; omega)]
      · refine ⟨rfl, rfl, rfl, by simp, fun k hk hn => ?_⟩
        rw [heap_grow_old _ _ (by simpa using hk)]
        have : b ≠ k := fun e => hn (by simp [ablk, e])
        simp [putRow, mapBlock, Sort.ahead, Array.getElem?_modify, this]
end Go.Proofs.Ytfpghcdjfiggiaa.V
