/- Readings of the program's functions. No condition. -/
import Derived.Test.YtmlhdmnnijapjaaGCfg
namespace Go.Proofs.Ytmlhdmnnijapjaa.V
open Go
set_option maxRecDepth 100000
set_option linter.unusedVariables false
/-- gneiss/gneisslaw14.awake -/
def V_f33 (w : World) (K : Bool → World → Prop) : Prop :=
 C37  w fun n1 a2 l2 c2 w3 =>
 C35 n1 a2 l2 c2 w3 fun s4 n5 w6 =>
 C29 s4 w6 fun n7 a8 l8 c8 n9 n10 w11 =>
 ∀ (b12 : Nat) (w13 : World), NewAt w11 w13 b12 #[.int .i64 0, .slice none 0 0] 54 →
 MayL w13 ⟨b12, 0, none⟩ 2 ∧ ∀ w14 : World, SetL w13 w14 ⟨b12, 0, none⟩ [.int .i64 n7, .slice a8 l8 c8] →
 (ByteArray.size s4 + ByteArray.size (ByteArray.mk #[120]) ≤ 9223372036854775807) ∧
 C29 (s4 ++ (ByteArray.mk #[120])) w14 fun n15 a16 l16 c16 n17 n18 w19 =>
 ∀ (b20 : Nat) (w21 : World), NewAt w19 w21 b20 #[.int .i64 0, .slice none 0 0] 54 →
 MayL w21 ⟨b20, 0, none⟩ 2 ∧ ∀ w22 : World, SetL w21 w22 ⟨b20, 0, none⟩ [.int .i64 n15, .slice a16 l16 c16] →
 C29 (ByteArray.mk #[71, 78, 83]) w22 fun n23 a24 l24 c24 n25 n26 w27 =>
 ∀ (b28 : Nat) (w29 : World), NewAt w27 w29 b28 #[.int .i64 0, .slice none 0 0] 54 →
 MayL w29 ⟨b28, 0, none⟩ 2 ∧ ∀ w30 : World, SetL w29 w30 ⟨b28, 0, none⟩ [.int .i64 n23, .slice a24 l24 c24] →
 ∀ w31 : World, Drew w30 w31 →
 IfB (decide ((n5 : Int) = 0))
 (IfB (decide ((4 : Int) < (ByteArray.size s4 : Int)))
 (((0 : Int) ≤ 4 ∧ (4 : Int) ≤ (ByteArray.size s4 : Int)) ∧
 IfB (ByteArray.toList (ByteArray.extract s4 0 (Int.toNat 4)) == ByteArray.toList (ByteArray.mk #[71, 78, 83, 83]))
 ((IfB (decide ((n10 : Int) = 0))
 (∃ (n32 : Int), ∃ (a33 : Option Addr) (l33 c33 : Nat), CellsAt w31 ⟨b12, 0, none⟩ [.int .i64 n32, .slice a33 l33 c33] ∧
 C37  w31 fun n34 a35 l35 c35 w36 =>
 C31 n32 a33 l33 c33 n34 a35 l35 c35 w36 fun b37 w38 =>
 IfB b37
 (IfB (decide ((n17 : Int) = (ByteArray.size s4 : Int)))
 (IfB (decide ((n18 : Int) = 1405))
 (K (decide ((n26 : Int) = 1400)) w38)
 (K false w38))
 (K false w38))
 (K false w38))
 (K false w31)) ∧
 (IfB (decide ((n10 : Int) = 0))
 (C37  w31 fun n39 a40 l40 c40 w41 =>
 ∃ (n42 : Int), ∃ (a43 : Option Addr) (l43 c43 : Nat), CellsAt w41 ⟨b12, 0, none⟩ [.int .i64 n42, .slice a43 l43 c43] ∧
 C31 n42 a43 l43 c43 n39 a40 l40 c40 w41 fun b44 w45 =>
 IfB b44
 (IfB (decide ((n17 : Int) = (ByteArray.size s4 : Int)))
 (IfB (decide ((n18 : Int) = 1405))
 (K (decide ((n26 : Int) = 1400)) w45)
 (K false w45))
 (K false w45))
 (K false w45))
 (K false w31)))
 ((K false w31) ∧
 (K false w31)))
 ((K false w31) ∧
 (K false w31)))
 ((K false w31) ∧
 (K false w31))
theorem r_f33 (w : World) (K : Bool → World → Prop) (h : V_f33 w K) : C33  w K :=
  @calls_of_eq Try.prog 33 Try.f33 [] w [.leaf .bool] K _ (cfg true (fun _ => [])) (fun _ => none) (fun _ => none) (fun _ => none) Try.func33 (by kernel_rfl) (by kernel_rfl) h

/-- gneiss/gneisslaw14.ClassBack -/
def V_f9 (s : ByteArray) (pa : Int) (pba : Option Addr) (pbl pbc : Nat) (w : World) (K : Bool → World → Prop) : Prop :=
 ∀ (b1 : Nat) (w2 : World), NewAt w w2 b1 #[.int .i64 pa, .slice pba pbl pbc] 54 →
 C33  w2 fun b3 w4 =>
 IfB (!b3)
 (K false w4)
 (C29 s w4 fun n5 a6 l6 c6 n7 n8 w9 =>
 ∀ (b10 : Nat) (w11 : World), NewAt w9 w11 b10 #[.int .i64 0, .slice none 0 0] 54 →
 MayL w11 ⟨b10, 0, none⟩ 2 ∧ ∀ w12 : World, SetL w11 w12 ⟨b10, 0, none⟩ [.int .i64 n5, .slice a6 l6 c6] →
 ∃ M13 : World → Prop,
 (IfB (decide ((n8 : Int) = 0))
 (∃ (n15 : Int), ∃ (a16 : Option Addr) (l16 c16 : Nat), CellsAt w12 ⟨b10, 0, none⟩ [.int .i64 n15, .slice a16 l16 c16] ∧
 C35 n15 a16 l16 c16 w12 fun s17 n18 w19 =>
 IfB (!decide ((n18 : Int) = 0))
 (K false w19)
 (IfB (!(ByteArray.toList s17 == ByteArray.toList s))
 (K false w19)
 (M13 w19)))
 (IfB (decide ((n7 : Int) < 0))
 (K false w12)
 (IfB (decide (((ByteArray.size s : Int) : Int) < n7))
 (K false w12)
 (M13 w12)))) ∧
 ∀ (_ : Env) (w14 : World), M13 w14 →
 ∃ (n20 : Int), ∃ (a21 : Option Addr) (l21 c21 : Nat), CellsAt w14 ⟨b1, 0, none⟩ [.int .i64 n20, .slice a21 l21 c21] ∧
 C35 n20 a21 l21 c21 w14 fun s22 n23 w24 =>
 IfB (!decide ((n23 : Int) = 0))
 (K (ByteArray.toList s22 == ByteArray.toList (ByteArray.mk #[])) w24)
 (C29 s22 w24 fun n25 a26 l26 c26 n27 n28 w29 =>
 ∀ (b30 : Nat) (w31 : World), NewAt w29 w31 b30 #[.int .i64 0, .slice none 0 0] 54 →
 MayL w31 ⟨b30, 0, none⟩ 2 ∧ ∀ w32 : World, SetL w31 w32 ⟨b30, 0, none⟩ [.int .i64 n25, .slice a26 l26 c26] →
 IfB (decide ((n28 : Int) = 0))
 (∃ (n33 : Int), ∃ (a34 : Option Addr) (l34 c34 : Nat), CellsAt w32 ⟨b30, 0, none⟩ [.int .i64 n33, .slice a34 l34 c34] ∧
 ∃ (n35 : Int), ∃ (a36 : Option Addr) (l36 c36 : Nat), CellsAt w32 ⟨b1, 0, none⟩ [.int .i64 n35, .slice a36 l36 c36] ∧
 C31 n33 a34 l34 c34 n35 a36 l36 c36 w32 fun b37 w38 =>
 K b37 w38)
 (K false w32)))
theorem r_f9 (s : ByteArray) (pa : Int) (pba : Option Addr) (pbl pbc : Nat) (w : World) (K : Bool → World → Prop) (h : V_f9 s pa pba pbl pbc w K) : C9 s pa pba pbl pbc w K :=
  @calls_of_eq Try.prog 9 Try.f9 [.string s, .agg #[.int .i64 pa, .slice pba pbl pbc]] w [.leaf .bool] K _ (cfg true (fun _ => [])) (fun _ => none) (fun n => bif Nat.beq n 10 then some ⟨[], []⟩ else none) (fun _ => none) Try.func9 (by kernel_rfl) (by kernel_rfl) h

/-- gneiss/gneisslaw14.ClassTails -/
def V_f14 (pa : Int) (pba : Option Addr) (pbl pbc : Nat) (tail : ByteArray) (w : World) (K : Bool → World → Prop) : Prop :=
 ∀ (b1 : Nat) (w2 : World), NewAt w w2 b1 #[.int .i64 pa, .slice pba pbl pbc] 54 →
 C33  w2 fun b3 w4 =>
 IfB (!b3)
 (K false w4)
 (∃ (n5 : Int), ∃ (a6 : Option Addr) (l6 c6 : Nat), CellsAt w4 ⟨b1, 0, none⟩ [.int .i64 n5, .slice a6 l6 c6] ∧
 C35 n5 a6 l6 c6 w4 fun s7 n8 w9 =>
 ∃ M10 : World → Prop,
 (IfB (!decide ((n8 : Int) = 0))
 (K true w9)
 (IfB (ByteArray.toList tail == ByteArray.toList (ByteArray.mk #[]))
 (K true w9)
 (Fit .i64 ((ByteArray.size s7 : Int) + (ByteArray.size tail : Int)) ∧
 IfB (decide ((32768 : Int) < ((ByteArray.size s7 : Int) + (ByteArray.size tail : Int))))
 (K true w9)
 (M10 w9)))) ∧
 ∀ (_ : Env) (w11 : World), M10 w11 →
 (ByteArray.size s7 + ByteArray.size tail ≤ 9223372036854775807) ∧
 C29 (s7 ++ tail) w11 fun n12 a13 l13 c13 n14 n15 w16 =>
 ∀ (b17 : Nat) (w18 : World), NewAt w16 w18 b17 #[.int .i64 0, .slice none 0 0] 54 →
 MayL w18 ⟨b17, 0, none⟩ 2 ∧ ∀ w19 : World, SetL w18 w19 ⟨b17, 0, none⟩ [.int .i64 n12, .slice a13 l13 c13] →
 (ByteArray.size (ByteArray.mk #[88]) + ByteArray.size s7 ≤ 9223372036854775807) ∧
 C29 ((ByteArray.mk #[88]) ++ s7) w19 fun n20 a21 l21 c21 n22 n23 w24 =>
 ∀ (b25 : Nat) (w26 : World), NewAt w24 w26 b25 #[.int .i64 0, .slice none 0 0] 54 →
 MayL w26 ⟨b25, 0, none⟩ 2 ∧ ∀ w27 : World, SetL w26 w27 ⟨b25, 0, none⟩ [.int .i64 n20, .slice a21 l21 c21] →
 IfB (decide ((n14 : Int) = (ByteArray.size s7 : Int)))
 (IfB (decide ((n15 : Int) = 1405))
 (IfB (decide ((n22 : Int) = 0))
 (K (decide ((n23 : Int) = 1400)) w27)
 (K false w27))
 (K false w27))
 (K false w27))
theorem r_f14 (pa : Int) (pba : Option Addr) (pbl pbc : Nat) (tail : ByteArray) (w : World) (K : Bool → World → Prop) (h : V_f14 pa pba pbl pbc tail w K) : C14 pa pba pbl pbc tail w K :=
  @calls_of_eq Try.prog 14 Try.f14 [.agg #[.int .i64 pa, .slice pba pbl pbc], .string tail] w [.leaf .bool] K _ (cfg true (fun _ => [])) (fun _ => none) (fun n => bif Nat.beq n 6 then some ⟨[], []⟩ else none) (fun _ => none) Try.func14 (by kernel_rfl) (by kernel_rfl) h

end Go.Proofs.Ytmlhdmnnijapjaa.V
