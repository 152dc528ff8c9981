/- Readings of the program's functions. No condition. -/
import Derived.Test.YtmlhdmnnijapjaaGCfg
namespace Go.Proofs.Ytmlhdmnnijapjaa.V
open Go
set_option maxRecDepth 100000
set_option linter.unusedVariables false
/-- gneiss/gneisslaw14.ClassCuts -/
def V_f10 (pa : Int) (pba : Option Addr) (pbl pbc : Nat) (cut : Int) (w : World) (K : Bool → World → Prop) : Prop :=
 ∀ (b1 : Nat) (w2 : World), NewAt w w2 b1 #[.int .i64 pa, .slice pba pbl pbc] 54 →
 C33  w2 fun b3 w4 =>
 IfB (!b3)
 (K false w4)
 (∃ (n5 : Int), ∃ (a6 : Option Addr) (l6 c6 : Nat), CellsAt w4 ⟨b1, 0, none⟩ [.int .i64 n5, .slice a6 l6 c6] ∧
 C35 n5 a6 l6 c6 w4 fun s7 n8 w9 =>
 IfB (!decide ((n8 : Int) = 0))
 (K (ByteArray.toList s7 == ByteArray.toList (ByteArray.mk #[])) w9)
 (((IntKind.wrap .u64 (ByteArray.size s7 : Int)) : Int) ≠ 0 ∧
 ((0 : Int) ≤ (IntKind.wrap .i64 (Int.tmod (IntKind.wrap .u64 cut) (IntKind.wrap .u64 (ByteArray.size s7 : Int)))) ∧ ((IntKind.wrap .i64 (Int.tmod (IntKind.wrap .u64 cut) (IntKind.wrap .u64 (ByteArray.size s7 : Int)))) : Int) ≤ (ByteArray.size s7 : Int)) ∧
 C29 (ByteArray.extract s7 0 (Int.toNat (IntKind.wrap .i64 (Int.tmod (IntKind.wrap .u64 cut) (IntKind.wrap .u64 (ByteArray.size s7 : Int)))))) w9 fun n10 a11 l11 c11 n12 n13 w14 =>
 ∀ (b15 : Nat) (w16 : World), NewAt w14 w16 b15 #[.int .i64 0, .slice none 0 0] 54 →
 MayL w16 ⟨b15, 0, none⟩ 2 ∧ ∀ w17 : World, SetL w16 w17 ⟨b15, 0, none⟩ [.int .i64 n10, .slice a11 l11 c11] →
 IfB (decide (((IntKind.wrap .i64 (Int.tmod (IntKind.wrap .u64 cut) (IntKind.wrap .u64 (ByteArray.size s7 : Int)))) : Int) < 4))
 (IfB (decide ((n13 : Int) = 1400))
 (K (decide ((n12 : Int) = 0)) w17)
 (K false w17))
 (IfB (decide ((n13 : Int) = 1401))
 (K (decide ((n12 : Int) ≤ (IntKind.wrap .i64 (Int.tmod (IntKind.wrap .u64 cut) (IntKind.wrap .u64 (ByteArray.size s7 : Int)))))) w17)
 (K false w17))))
theorem r_f10 (pa : Int) (pba : Option Addr) (pbl pbc : Nat) (cut : Int) (w : World) (K : Bool → World → Prop) (h : V_f10 pa pba pbl pbc cut w K) : C10 pa pba pbl pbc cut w K :=
  @calls_of_eq Try.prog 10 Try.f10 [.agg #[.int .i64 pa, .slice pba pbl pbc], .int .i64 cut] w [.leaf .bool] K _ (cfg false (fun _ => [])) (fun _ => none) (fun _ => none) (fun _ => none) Try.func10 (by kernel_rfl) (by kernel_rfl) h

end Go.Proofs.Ytmlhdmnnijapjaa.V
