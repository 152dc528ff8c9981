/- Functions that give their argument back are read through. No condition. -/
import Derived.Test.YtmlhdmnnijapjaaGC
import Derived.Test.YtmlhdmnnijapjaaGBase
namespace Go.Proofs.Ytmlhdmnnijapjaa.V
open Go

theorem ret_int {K : Int → World → Prop} {e : Ending} {w : World} (h : Ret [.leaf (.int .i64)] K e w) : ∃ n, e = .returned (.int .i64 n) ∧ K n w := by
  obtain ⟨vs, rfl, h⟩ := h
  have hf := app_fits (α := World → Prop) (Q := fun p => p w) (fun h => h) [.int .i64] K vs h
  match vs, hf, h with
  | [v], hf, h =>
    cases v <;> first
      | exact hf.elim
      | (obtain ⟨rfl, _⟩ := hf
         exact ⟨_, rfl, h⟩)
      | exact h.elim
  | v :: _ :: _, hf, h => cases v <;> first | exact False.elim hf | exact hf.2.elim

theorem id18 : IdFn Try.prog 18 := fun n w => (r_f18 n w (fun m w' => m = n ∧ w' = w) ⟨rfl, rfl⟩).mono fun e w' h => by
  obtain ⟨m, rfl, rfl, rfl⟩ := ret_int h
  exact ⟨rfl, rfl⟩

def cfg (chk : Bool) (ents : Nat → List Sh) : Cfg Try.prog := ⟨chk, ents, fun n => Nat.beq n 18, fun g h => by
  have := Nat.eq_of_beq_eq_true h
  subst this
  exact id18⟩

end Go.Proofs.Ytmlhdmnnijapjaa.V
