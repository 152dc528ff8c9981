/- The heap: a new cell. No condition. -/
import Derived.Test.YtfpghcdjfiggiaaHeapD
namespace Go.Proofs.Ytfpghcdjfiggiaa.V
open Go Go.RowKit

/-- What Form answers. -/
def formE (kind cls n : Int) : Int :=
  if kind = 1 then (if 0 ≤ n ∧ n ≤ 64 ∧ 0 ≤ cls then 0 else 900)
  else if kind = 2 ∨ kind = 3 then (if 0 ≤ n ∧ n ≤ 1000 ∧ 0 ≤ cls then 0 else 900)
  else if kind = 4 then (if n = 1 ∧ 0 ≤ cls then 0 else 900)
  else 902

theorem form_c (kind cls n : Int) {w : World} {K : Int → World → Prop} (hK : K (formE kind cls n) w) : C152 kind cls n w K := by
  have body : ∀ lo hi : Int, formE kind cls n = (if lo ≤ n ∧ n ≤ hi ∧ 0 ≤ cls then 0 else 900) → IfB (!true) (K 902 w) (IfB (decide (n < lo)) (K 900 w) (IfB (decide (hi < n)) (K 900 w) (IfB (decide (cls < 0)) (K 900 w) (K 0 w)))) := fun lo hi e => by
    rw [e] at hK
    refine ifb_f (IfB.dec (fun h => ?_) (fun h => IfB.dec (fun h2 => ?_) (fun h2 => IfB.dec (fun h3 => ?_) (fun h3 => ?_))))
    · rw [if_neg (by omega)] at hK; exact hK
    · rw [if_neg (by omega)] at hK; exact hK
    · rw [if_neg (by omega)] at hK; exact hK
    · rw [if_pos (by omega)] at hK; exact hK
  refine r_f152 _ _ _ _ _ (r_f175 _ _ _ (IfB.dec (fun h1 => ?_) (fun h1 => IfB.dec (fun h2 => ?_) (fun h2 => IfB.dec (fun h3 => ?_) (fun h3 => IfB.dec (fun h4 => ?_) (fun h4 => ?_))))))
  · exact body 0 64 (by unfold formE; rw [if_pos h1])
  · exact body 0 1000 (by unfold formE; rw [if_neg h1, if_pos (.inl h2)])
  · exact body 0 1000 (by unfold formE; rw [if_neg h1, if_pos (.inr h3)])
  · refine body 1 1 ?_
    unfold formE
    rw [if_neg h1, if_neg (by omega), if_pos h4]
    by_cases h : n = 1 ∧ 0 ≤ cls
    · rw [if_pos h, if_pos (by omega)]
    · rw [if_neg h, if_neg (by omega)]
  · have e : formE kind cls n = 902 := by unfold formE; rw [if_neg h1, if_neg (by omega), if_neg h4]
    rw [e] at hK
    exact ifb_t hK

theorem formE_ok {kind cls n : Int} (h : formE kind cls n = 0) : 0 ≤ n ∧ n ≤ 1000 := by
  unfold formE at h
  split at h
  · split at h <;> omega
  · split at h
    · split at h <;> omega
    · split at h
      · split at h <;> omega
      · omega

theorem pair_map : ∀ {l l' : List Arr}, l'.map (·.id) = l.map (·.id) → l'.map (·.n) = l.map (·.n) → l'.map (fun x => (x.id, x.n)) = l.map (fun x => (x.id, x.n))
  | [], [], _, _ => rfl
  | [], _ :: _, h, _ => by simp at h
  | _ :: _, [], h, _ => by simp at h
  | x :: l, y :: l', h1, h2 => by
    simp only [List.map_cons, List.cons.injEq] at h1 h2
    simp only [List.map_cons, h1.1, h2.1, pair_map h1.2 h2.2]
theorem vw_ids {l l' : List Arr} (h : vw l' = vw l) : l'.map (·.id) = l.map (·.id) := by
  have := congrArg (List.map Prod.fst) h
  unfold vw at this
  rw [List.map_map, List.map_map] at this
  exact this

theorem csum_need : ∀ {cs : List HC} {l : List Arr}, cs.map (fun c => (c.id, c.n)) = l.map (fun x => (x.id, x.n)) → csum cs = need l + 12 * l.length
  | [], [], _ => rfl
  | [], _ :: _, h => by simp at h
  | _ :: _, [], h => by simp at h
  | c :: cs, x :: l, h => by
    simp only [List.map_cons, List.cons.injEq, Prod.mk.injEq] at h
    simp only [csum, need, csum_need h.2, List.length_cons]
    omega
end Go.Proofs.Ytfpghcdjfiggiaa.V
