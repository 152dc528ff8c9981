/- Readings of the program's functions. No condition. -/
import Derived.Test.YtmlhdmnnijapjaaGCfg
namespace Go.Proofs.Ytmlhdmnnijapjaa.V
open Go
set_option maxRecDepth 100000
set_option linter.unusedVariables false
/-- gneiss/gneisslaw14.ClassReads -/
def V_f7 (s : ByteArray) (w : World) (K : Bool → World → Prop) : Prop :=
 C29 s w fun n1 a2 l2 c2 n3 n4 w5 =>
 ∀ (b6 : Nat) (w7 : World), NewAt w5 w7 b6 #[.int .i64 0, .slice none 0 0] 54 →
 MayL w7 ⟨b6, 0, none⟩ 2 ∧ ∀ w8 : World, SetL w7 w8 ⟨b6, 0, none⟩ [.int .i64 n1, .slice a2 l2 c2] →
 C29 s w8 fun n9 a10 l10 c10 n11 n12 w13 =>
 ∀ (b14 : Nat) (w15 : World), NewAt w13 w15 b14 #[.int .i64 0, .slice none 0 0] 54 →
 MayL w15 ⟨b14, 0, none⟩ 2 ∧ ∀ w16 : World, SetL w15 w16 ⟨b14, 0, none⟩ [.int .i64 n9, .slice a10 l10 c10] →
 C30 s w16 fun n17 a18 l18 c18 n19 n20 w21 =>
 ∀ (b22 : Nat) (w23 : World), NewAt w21 w23 b22 #[.int .i64 0, .slice none 0 0] 54 →
 MayL w23 ⟨b22, 0, none⟩ 2 ∧ ∀ w24 : World, SetL w23 w24 ⟨b22, 0, none⟩ [.int .i64 n17, .slice a18 l18 c18] →
 ∃ M25 : World → Prop,
 (∃ (n27 : Int), ∃ (a28 : Option Addr) (l28 c28 : Nat), CellsAt w24 ⟨b6, 0, none⟩ [.int .i64 n27, .slice a28 l28 c28] ∧
 ∃ (n29 : Int), ∃ (a30 : Option Addr) (l30 c30 : Nat), CellsAt w24 ⟨b22, 0, none⟩ [.int .i64 n29, .slice a30 l30 c30] ∧
 C31 n27 a28 l28 c28 n29 a30 l30 c30 w24 fun b31 w32 =>
 IfB (!b31)
 (K false w32)
 (IfB (!decide ((n3 : Int) = n19))
 (K false w32)
 (IfB (!decide ((n11 : Int) = n19))
 (K false w32)
 (IfB (!decide ((n4 : Int) = n20))
 (K false w32)
 (IfB (!decide ((n12 : Int) = n20))
 (K false w32)
 (M25 w32)))))) ∧
 ∀ (_ : Env) (w26 : World), M25 w26 →
 ∃ (n33 : Int), ∃ (a34 : Option Addr) (l34 c34 : Nat), CellsAt w26 ⟨b6, 0, none⟩ [.int .i64 n33, .slice a34 l34 c34] ∧
 C32 n33 a34 l34 c34 w26 fun w35 =>
 ∃ (n36 : Int), ∃ (a37 : Option Addr) (l37 c37 : Nat), CellsAt w35 ⟨b14, 0, none⟩ [.int .i64 n36, .slice a37 l37 c37] ∧
 ∃ (n38 : Int), ∃ (a39 : Option Addr) (l39 c39 : Nat), CellsAt w35 ⟨b22, 0, none⟩ [.int .i64 n38, .slice a39 l39 c39] ∧
 C31 n36 a37 l37 c37 n38 a39 l39 c39 w35 fun b40 w41 =>
 IfB b40
 (C33  w41 fun b42 w43 =>
 K b42 w43)
 (K false w41)
theorem r_f7 (s : ByteArray) (w : World) (K : Bool → World → Prop) (h : V_f7 s w K) : C7 s w K :=
  @calls_of_eq Try.prog 7 Try.f7 [.string s] w [.leaf .bool] K _ (cfg true (fun _ => [])) (fun _ => none) (fun n => bif Nat.beq n 6 then some ⟨[], []⟩ else none) (fun _ => none) Try.func7 (by kernel_rfl) (by kernel_rfl) h

end Go.Proofs.Ytmlhdmnnijapjaa.V
