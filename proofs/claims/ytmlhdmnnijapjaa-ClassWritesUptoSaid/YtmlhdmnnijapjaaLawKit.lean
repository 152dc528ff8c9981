/- From a call's readings to the law's. No condition. -/
import Derived.Test.YtmlhdmnnijapjaaMem
namespace Go.Proofs.Ytmlhdmnnijapjaa.V
open Go Go.RowKit

theorem ret_bool {K : Bool → World → Prop} {e : Ending} {w : World} (h : Ret [.leaf .bool] K e w) : ∃ b, e = .returned (.bool b) ∧ K b w := by
  obtain ⟨vs, rfl, h⟩ := h
  have hf := app_fits (α := World → Prop) (Q := fun p => p w) (fun h => h) [.bool] K vs h
  match vs, hf, h with
  | [v], hf, h =>
    cases v <;> first | exact ⟨_, rfl, h⟩ | exact hf.elim | exact hf.1.elim | exact h.elim
  | v :: _ :: _, hf, h => cases v <;> exact False.elim hf

theorem true_of {P : Program} {f : FuncId} {args : Array Value} {w : World} {F : World → Prop}
    (h : Calls P f args w (Ret [.leaf .bool] fun (b : Bool) (w' : World) => b = true ∧ F w')) : Calls P f args w (fun e w' => e = .returned (.bool true) ∧ F w') := by
  refine h.mono fun e w' h => ?_
  obtain ⟨b, rfl, hb, h2⟩ := ret_bool h
  subst hb
  exact ⟨rfl, h2⟩

theorem below_of {w w' : World} (f : Fr [] w w') : Below w.heap.size w w' := below_fr (Below.refl _ _) f (Nat.le_refl _) (by simp)

end Go.Proofs.Ytmlhdmnnijapjaa.V
