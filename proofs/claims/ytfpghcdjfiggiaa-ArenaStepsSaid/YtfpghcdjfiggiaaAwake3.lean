/- What every arena answers. No condition. -/
import Derived.Test.YtfpghcdjfiggiaaArena
namespace Go.Proofs.Ytfpghcdjfiggiaa.V
open Go Go.RowKit

theorem awake3_c {w : World} {K : Bool → World → Prop} (hK : ∀ w', Fr [] w w' → K true w') : C41 w K := by
  refine r_f41 _ _ (arena_new_c 4 2 (fun h => absurd h (by decide)) (fun _ w1 ab wb sb A f1 l1 l2 l3 => ?_))
  refine store_c A 1 3 7 (fun h => absurd (by decide) h) (fun _ w2 A f2 => ?_)
  refine load_c A 0 3 (fun h => absurd (by decide) h) (fun _ w3 A f3 => ?_)
  refine swap_c A 0 3 7 9 (fun h => absurd (by decide) h) (fun _ h => absurd (by decide) h) (fun _ _ w4 A f4 => ?_)
  refine load_c A 2 0 (fun _ => ?_) (fun h => absurd h (by decide))
  have f : Fr [] w w4 := (((f1 []).trans f2 (by simp; omega)).trans f3 (by simp; omega)).trans f4 (by simp; omega)
  refine IfB.yes rfl (IfB.yes rfl (IfB.yes (by decide) (IfB.yes rfl (ifb_t (IfB.yes rfl (IfB.yes (by decide) (steps_c A 0 (IfB.yes (by decide) (words_c A ?_)))))))))
  exact hK _ f

end Go.Proofs.Ytfpghcdjfiggiaa.V
