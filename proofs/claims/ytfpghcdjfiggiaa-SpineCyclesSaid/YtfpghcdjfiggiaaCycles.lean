/- The law SpineCycles: what it computes. No condition. -/
import Derived.Test.YtfpghcdjfiggiaaLaws7
import Derived.Test.YtfpghcdjfiggiaaArgs
import Derived.Test.YtfpghcdjfiggiaaGSpineM
namespace Go.Proofs.Ytfpghcdjfiggiaa.V
open Go Go.RowKit

theorem w64 {z : Int} (h0 : 0 ≤ z) (h1 : z < 9223372036854775808) : IntKind.wrap .i64 z = z := by
  have := wrap_small (n := z.toNat) (by omega)
  rwa [Int.toNat_of_nonneg h0] at this
theorem wu_pos (z : Int) : 0 ≤ IntKind.wrap .u64 z := by
  simp only [IntKind.wrap, IntKind.signed, IntKind.bits]
  simp
  omega
theorem wu_same {z : Int} (h0 : 0 ≤ z) (h1 : z < 9223372036854775808) : IntKind.wrap .u64 z = z := by
  simp only [IntKind.wrap, IntKind.signed, IntKind.bits]
  simp
  omega

/-- Those that are not gone. -/
def live : List Arr → List Bool → List Arr
  | x :: l, b :: g => if b = true then live l g else x :: live l g
  | _, _ => []

theorem live_all : ∀ l : List Arr, live l (List.replicate l.length false) = l
  | [] => rfl
  | x :: l => by simp [live, List.replicate_succ, live_all l]
theorem live_sub : ∀ (l : List Arr) (g : List Bool), ∀ x ∈ live l g, x ∈ l
  | [], _, x, h => by simp [live] at h
  | y :: l, [], x, h => by simp [live] at h
  | y :: l, b :: g, x, h => by
    unfold live at h
    split at h
    · exact List.mem_cons_of_mem _ (live_sub l g x h)
    · rcases List.mem_cons.1 h with rfl | h
      · simp
      · exact List.mem_cons_of_mem _ (live_sub l g x h)
theorem live_get : ∀ (l : List Arr) (g : List Bool), l.length = g.length → (l.map (·.id)).Nodup → ∀ k (hk : k < l.length), (g.getD k false = false → l[k] ∈ live l g) ∧ (g.getD k false = true → ∀ x ∈ live l g, x.id ≠ l[k].id)
  | [], g, hl, nd, k, hk => absurd hk (by simp)
  | y :: l, [], hl, nd, k, hk => absurd hl (by simp)
  | y :: l, b :: g, hl, nd, k, hk => by
    rw [List.map_cons, List.nodup_cons] at nd
    have hl' : l.length = g.length := by simpa using hl
    cases k with
    | zero =>
      simp only [List.getD_cons_zero, List.getElem_cons_zero]
      constructor
      · intro h; subst h; simp [live]
      · intro h x hx e
        subst h
        simp only [live, if_true] at hx
        exact nd.1 (List.mem_map.2 ⟨x, live_sub l g x hx, e⟩)
    | succ k =>
      have hk' : k < l.length := by simpa using hk
      have ih := live_get l g hl' nd.2 k hk'
      simp only [List.getD_cons_succ, List.getElem_cons_succ]
      constructor
      · intro h
        have := ih.1 h
        unfold live
        split
        · exact this
        · exact List.mem_cons_of_mem _ this
      · intro h x hx e
        unfold live at hx
        split at hx
        · exact ih.2 h x hx e
        · rcases List.mem_cons.1 hx with rfl | hx
          · exact nd.1 (List.mem_map.2 ⟨l[k], List.getElem_mem hk', e.symm⟩)
          · exact ih.2 h x hx e
theorem filter_none (l : List Arr) (k : Int) (h : ∀ x ∈ l, x.id ≠ k) : l.filter (fun y => !(k == y.id)) = l := by
  rw [List.filter_eq_self]
  intro x hx
  have := h x hx
  have : ¬ k = x.id := fun e => this e.symm
  simp [this]
theorem live_set : ∀ (l : List Arr) (g : List Bool), l.length = g.length → (l.map (·.id)).Nodup → ∀ k (hk : k < l.length), (live l g).filter (fun y => !(l[k].id == y.id)) = live l (g.set k true)
  | [], g, hl, nd, k, hk => absurd hk (by simp)
  | y :: l, [], hl, nd, k, hk => absurd hl (by simp)
  | y :: l, b :: g, hl, nd, k, hk => by
    rw [List.map_cons, List.nodup_cons] at nd
    have hl' : l.length = g.length := by simpa using hl
    cases k with
    | zero =>
      simp only [List.getElem_cons_zero, List.set_cons_zero]
      have hno : ∀ x ∈ live l g, x.id ≠ y.id := fun x hx e => nd.1 (List.mem_map.2 ⟨x, live_sub l g x hx, e⟩)
      cases b with
      | true => simp only [live, if_true]; exact filter_none _ _ hno
      | false =>
        simp only [live, Bool.false_eq_true, if_false, if_true]
        rw [List.filter_cons]
        simp
        have := filter_none (live l g) y.id hno
        simpa using this
    | succ k =>
      have hk' : k < l.length := by simpa using hk
      have ih := live_set l g hl' nd.2 k hk'
      simp only [List.getElem_cons_succ, List.set_cons_succ]
      cases b with
      | true => simp only [live, if_true]; exact ih
      | false =>
        simp only [live, Bool.false_eq_true, if_false]
        have : ¬ l[k].id = y.id := fun e => nd.1 (List.mem_map.2 ⟨l[k], List.getElem_mem hk', e⟩)
        rw [List.filter_cons]
        simp [this]
        simpa using ih
theorem live_take : ∀ (l : List Arr) (g : List Bool), l.length = g.length → ∀ k (hk : k < l.length), need (live (l.take (k + 1)) (g.take (k + 1))) = need (live (l.take k) (g.take k)) + (if g.getD k false = true then 0 else l[k].n + 4)
  | [], g, hl, k, hk => absurd hk (by simp)
  | y :: l, [], hl, k, hk => absurd hl (by simp)
  | y :: l, b :: g, hl, k, hk => by
    have hl' : l.length = g.length := by simpa using hl
    cases k with
    | zero => cases b <;> simp [live, need]
    | succ k =>
      have hk' : k < l.length := by simpa using hk
      have ih := live_take l g hl' k hk'
      simp only [List.take_succ_cons, List.getD_cons_succ, List.getElem_cons_succ]
      cases b with
      | true => simp only [live, if_true]; exact ih
      | false => simp only [live, Bool.false_eq_true, if_false, need]; rw [ih]; omega
theorem live_need_le (l : List Arr) (h : ∀ x ∈ l, 0 ≤ x.n) : ∀ (g : List Bool), 0 ≤ need (live l g) ∧ need (live l g) ≤ need l := by
  induction l with
  | nil => intro g; simp [live, need]
  | cons x l ih =>
    intro g
    have := h x (by simp)
    have hp := need_pos l (fun y hy => h y (by simp [hy]))
    cases g with
    | nil => simp [live, need]; omega
    | cons b g =>
      have := ih (fun y hy => h y (by simp [hy])) g
      cases b <;> simp [live, need] <;> omega

theorem rep_last {l : List Arr} {x x' : Arr} (h : ∀ y ∈ l, y.id ≠ x.id) (e : x'.id = x.id) : rep (l ++ [x]) x' = l ++ [x'] := by
  unfold rep
  rw [List.map_append]
  congr 1
  · conv => rhs; rw [← List.map_id l]
    refine List.map_congr_left fun y hy => ?_
    rw [if_neg (by rw [e]; exact h y hy)]; rfl
  · simp [e]
end Go.Proofs.Ytfpghcdjfiggiaa.V
