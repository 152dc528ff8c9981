/- Readings of the program's functions. No condition. -/
import Derived.Test.YtmlhdmnnijapjaaGCfg
namespace Go.Proofs.Ytmlhdmnnijapjaa.V
open Go
set_option maxRecDepth 100000
set_option linter.unusedVariables false
/-- gneiss/gneisslaw14.ClassWrites -/
def V_f8 (pa : Int) (pba : Option Addr) (pbl pbc : Nat) (w : World) (K : Bool → World → Prop) : Prop :=
 ∀ (b1 : Nat) (w2 : World), NewAt w w2 b1 #[.int .i64 pa, .slice pba pbl pbc] 54 →
 ∃ (n3 : Int), ∃ (a4 : Option Addr) (l4 c4 : Nat), CellsAt w2 ⟨b1, 0, none⟩ [.int .i64 n3, .slice a4 l4 c4] ∧
 C34 n3 a4 l4 c4 w2 fun n5 a6 l6 c6 w7 =>
 ∀ (b8 : Nat) (w9 : World), NewAt w7 w9 b8 #[.int .i64 0, .slice none 0 0] 54 →
 MayL w9 ⟨b8, 0, none⟩ 2 ∧ ∀ w10 : World, SetL w9 w10 ⟨b8, 0, none⟩ [.int .i64 n5, .slice a6 l6 c6] →
 ∃ (n11 : Int), ∃ (a12 : Option Addr) (l12 c12 : Nat), CellsAt w10 ⟨b8, 0, none⟩ [.int .i64 n11, .slice a12 l12 c12] ∧
 C35 n11 a12 l12 c12 w10 fun s13 n14 w15 =>
 ∃ (n16 : Int), ∃ (a17 : Option Addr) (l17 c17 : Nat), CellsAt w15 ⟨b1, 0, none⟩ [.int .i64 n16, .slice a17 l17 c17] ∧
 C36 n16 a17 l17 c17 w15 fun s18 n19 w20 =>
 IfB (ByteArray.toList s13 == ByteArray.toList s18)
 (IfB (decide ((n14 : Int) = n19))
 (∃ (n21 : Int), ∃ (a22 : Option Addr) (l22 c22 : Nat), CellsAt w20 ⟨b8, 0, none⟩ [.int .i64 n21, .slice a22 l22 c22] ∧
 ∃ (n23 : Int), ∃ (a24 : Option Addr) (l24 c24 : Nat), CellsAt w20 ⟨b1, 0, none⟩ [.int .i64 n23, .slice a24 l24 c24] ∧
 C31 n21 a22 l22 c22 n23 a24 l24 c24 w20 fun b25 w26 =>
 IfB b25
 (C33  w26 fun b27 w28 =>
 K b27 w28)
 (K false w26))
 (K false w20))
 (K false w20)
theorem r_f8 (pa : Int) (pba : Option Addr) (pbl pbc : Nat) (w : World) (K : Bool → World → Prop) (h : V_f8 pa pba pbl pbc w K) : C8 pa pba pbl pbc w K :=
  @calls_of_eq Try.prog 8 Try.f8 [.agg #[.int .i64 pa, .slice pba pbl pbc]] w [.leaf .bool] K _ (cfg true (fun _ => [])) (fun _ => none) (fun _ => none) (fun _ => none) Try.func8 (by kernel_rfl) (by kernel_rfl) h

end Go.Proofs.Ytmlhdmnnijapjaa.V
