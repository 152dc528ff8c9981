/- Readings of the program's functions. No condition. -/
import Derived.Test.YtmlhdmnnijapjaaGC
namespace Go.Proofs.Ytmlhdmnnijapjaa.V
open Go
set_option maxRecDepth 100000
set_option linter.unusedVariables false
/-- gneiss/gneisslaw0.Num -/
def V_f18 (e : Int) (w : World) (K : Int → World → Prop) : Prop :=
 K e w
theorem r_f18 (e : Int) (w : World) (K : Int → World → Prop) (h : V_f18 e w K) : C18 e w K :=
  @calls_of_eq Try.prog 18 Try.f18 [.int .i64 e] w [.leaf (.int .i64)] K _ (cfg0 true (fun _ => [])) (fun _ => none) (fun _ => none) (fun _ => none) Try.func18 (by kernel_rfl) (by kernel_rfl) h

end Go.Proofs.Ytmlhdmnnijapjaa.V
