/- Readings of the program's functions. No condition. -/
import Derived.Test.YtfpghcdjfiggiaaGC
namespace Go.Proofs.Ytfpghcdjfiggiaa.V
open Go
set_option maxRecDepth 100000
set_option linter.unusedVariables false
/-- gneiss/gneisslaw0.Num -/
def V_f33 (e : Int) (w : World) (K : Int → World → Prop) : Prop :=
 K e w
theorem r_f33 (e : Int) (w : World) (K : Int → World → Prop) (h : V_f33 e w K) : C33 e w K :=
  @calls_of_eq Try.prog 33 Try.f33 [.int .i64 e] w [.leaf (.int .i64)] K _ (cfg0 true (fun _ => [])) (fun _ => none) (fun _ => none) (fun _ => none) Try.func33 (by kernel_rfl) (by kernel_rfl) h

end Go.Proofs.Ytfpghcdjfiggiaa.V
