/- Readings of the program's functions. No condition. -/
import Derived.Test.YtfpghcdjfiggiaaGCfg
namespace Go.Proofs.Ytfpghcdjfiggiaa.V
open Go
set_option maxRecDepth 100000
set_option linter.unusedVariables false
/-- gneiss/gneisslaw0.SpoilInts -/
def V_f56 (aa : Option Addr) (al ac : Nat) (w : World) (K : World → Prop) : Prop :=
 ∃ (I1 : Int → World → Prop) (m2 : Int → World → Nat),
 I1 0 w ∧
 ∀ (_ : Env) (n3 : Int) (w4 : World), I1 n3 w4 →
 IfB (decide ((n3 : Int) < (al : Int)))
 (PtrOK aa fun (p5 : Addr) =>
 ((0 : Int) ≤ n3 ∧ n3 < (al : Int)) ∧
 ∃ (n6 : Int), World.cell? w4 (Addr.add p5 (Int.toNat n3 * 1)) = some (.int .i64 n6) ∧
 Fit .i64 ((-9) - n6) ∧
 PtrOK aa fun (p7 : Addr) =>
 ((0 : Int) ≤ n3 ∧ n3 < (al : Int)) ∧
 May w4 (Addr.add p7 (Int.toNat n3 * 1)) ∧ ∀ w8 : World, SetC w4 w8 (Addr.add p7 (Int.toNat n3 * 1)) (.int .i64 ((-9) - n6)) →
 Fit .i64 (n3 + 1) ∧
 (I1 (n3 + 1) w8 ∧
 m2 (n3 + 1) w8 < m2 n3 w4))
 (K w4)
theorem r_f56 (aa : Option Addr) (al ac : Nat) (w : World) (K : World → Prop) (h : V_f56 aa al ac w K) : C56 aa al ac w K :=
  @calls_of_eq Try.prog 56 Try.f56 [.slice aa al ac] w [] K _ (cfg true (fun _ => [])) (fun n => bif Nat.beq n 0 then some ⟨[2], [.int .i64]⟩ else none) (fun _ => none) (fun _ => none) Try.func56 (by kernel_rfl) (by kernel_rfl) h

end Go.Proofs.Ytfpghcdjfiggiaa.V
