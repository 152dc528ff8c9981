/- Readings of the program's functions. No condition. -/
import Derived.Test.YtfpghcdjfiggiaaGCfg
namespace Go.Proofs.Ytfpghcdjfiggiaa.V
open Go
set_option maxRecDepth 100000
set_option linter.unusedVariables false
/-- gneiss/gneisslaw8.awake -/
def V_f85 (w : World) (K : Bool → World → Prop) : Prop :=
 C86 8 w fun q1 q2 q3 b4 w5 =>
 IfB (!b4)
 (K false w5)
 (C87 q1 0 10 w5 fun n6 n7 w8 =>
 C88 q1 1 n6 9 5 w8 fun n9 w10 =>
 C89 q1 2 n6 9 w10 fun n11 n12 w13 =>
 C89 q1 0 n6 10 w13 fun n14 n15 w16 =>
 C87 q1 0 65 w16 fun n17 n18 w19 =>
 C155 none w19 fun q20 n21 w22 =>
 IfB (decide ((n7 : Int) = 0))
 (IfB (decide ((1 : Int) ≤ n6))
 (IfB (decide ((n9 : Int) = 0))
 (IfB (decide ((n11 : Int) = 5))
 (IfB (decide ((n12 : Int) = 0))
 (IfB (decide ((n15 : Int) = 802))
 (IfB (decide ((n18 : Int) = 800))
 (K (decide ((n21 : Int) = 1)) w22)
 (K false w22))
 (K false w22))
 (K false w22))
 (K false w22))
 (K false w22))
 (K false w22))
 (K false w22))
theorem r_f85 (w : World) (K : Bool → World → Prop) (h : V_f85 w K) : C85  w K :=
  @calls_of_eq Try.prog 85 Try.f85 [] w [.leaf .bool] K _ (cfg true (fun _ => [])) (fun _ => none) (fun _ => none) (fun _ => none) Try.func85 (by kernel_rfl) (by kernel_rfl) h

/-- gneiss/object.New -/
def V_f155z (w : World) (K : Option Addr → Int → World → Prop) : Prop :=
 K none 1 w
theorem r_f155z (w : World) (K : Option Addr → Int → World → Prop) (h : V_f155z w K) : C155 none w K :=
  @calls_of_eq Try.prog 155 Try.f155 [.pointer none] w [.leaf .ptr, .leaf (.int .i64)] K _ (cfg true (fun _ => [])) (fun _ => none) (fun _ => none) (fun _ => none) Try.func155 (by kernel_rfl) (by kernel_rfl) h

/-- gneiss/gneisslaw8.ObjectApart -/
def V_f19 (sizesa : Option Addr) (sizesl sizesc : Nat) (w : World) (K : Bool → World → Prop) : Prop :=
 C85  w fun b1 w2 =>
 IfB (!b1)
 (K false w2)
 (C86 200 w2 fun q3 q4 q5 b6 w7 =>
 IfB (!b6)
 (K false w7)
 (∃ M8 : Option Addr → Nat → Nat → Option Addr → Nat → Nat → World → Prop,
 (∃ (I12 : Option Addr → Nat → Nat → Option Addr → Nat → Nat → Int → World → Prop) (m13 : Option Addr → Nat → Nat → Option Addr → Nat → Nat → Int → World → Nat),
 I12 none 0 0 none 0 0 0 w7 ∧
 ∀ (_ : Env) (a14 : Option Addr) (l14 c14 : Nat) (a15 : Option Addr) (l15 c15 : Nat) (n16 : Int) (w17 : World), I12 a14 l14 c14 a15 l15 c15 n16 w17 →
 IfB (decide ((n16 : Int) < (sizesl : Int)))
 (IfB (decide ((n16 : Int) < 12))
 (PtrOK sizesa fun (p18 : Addr) =>
 ((0 : Int) ≤ n16 ∧ n16 < (sizesl : Int)) ∧
 ∃ (n19 : Int), World.cell? w17 (Addr.add p18 (Int.toNat n16 * 1)) = some (.int .i64 n19) ∧
 (65 : Int) ≠ 0 ∧
 (3 : Int) ≠ 0 ∧
 C87 q3 (Int.tmod n16 3) (IntKind.wrap .i64 (Int.tmod (IntKind.wrap .u64 n19) 65)) w17 fun n20 n21 w22 =>
 IfB (!decide ((n21 : Int) = 0))
 (K false w22)
 (∀ (b23 : Nat) (w24 : World), NewAt w22 w24 b23 #[.int .i64 n20] 3 →
 RunF Try.prog (Builtin.append_ #[42, 42] 42 #[.slice a14 l14 c14, .slice (some ⟨b23, 0, none⟩) 1 1]) w24 [.leaf .slice] fun (a25 : Option Addr) (l25 c25 : Nat) (w26 : World) =>
 ∀ (b27 : Nat) (w28 : World), NewAt w26 w28 b27 #[.int .i64 (IntKind.wrap .i64 (Int.tmod (IntKind.wrap .u64 n19) 65))] 3 →
 RunF Try.prog (Builtin.append_ #[42, 42] 42 #[.slice a15 l15 c15, .slice (some ⟨b27, 0, none⟩) 1 1]) w28 [.leaf .slice] fun (a29 : Option Addr) (l29 c29 : Nat) (w30 : World) =>
 ∃ (I31 : Int → World → Prop) (m32 : Int → World → Nat),
 I31 0 w30 ∧
 ∀ (_ : Env) (n33 : Int) (w34 : World), I31 n33 w34 →
 IfB (decide ((n33 : Int) < (IntKind.wrap .i64 (Int.tmod (IntKind.wrap .u64 n19) 65))))
 (C88 q3 0 n20 n33 (IntKind.wrap .i64 ((IntKind.wrap .i64 (100 * n16)) + n33)) w34 fun n35 w36 =>
 IfB (!decide ((n35 : Int) = 0))
 (K false w36)
 ((I31 (IntKind.wrap .i64 (n33 + 1)) w36 ∧
 m32 (IntKind.wrap .i64 (n33 + 1)) w36 < m32 n33 w34)))
 ((I12 a25 l25 c25 a29 l29 c29 (IntKind.wrap .i64 (n16 + 1)) w34 ∧
 m13 a25 l25 c25 a29 l29 c29 (IntKind.wrap .i64 (n16 + 1)) w34 < m13 a14 l14 c14 a15 l15 c15 n16 w17))))
 (M8 a14 l14 c14 a15 l15 c15 w17))
 (M8 a14 l14 c14 a15 l15 c15 w17)) ∧
 ∀ (_ : Env) (a9 : Option Addr) (l9 c9 : Nat) (a10 : Option Addr) (l10 c10 : Nat) (w11 : World), M8 a9 l9 c9 a10 l10 c10 w11 →
 ∃ (I37 : Int → World → Prop) (m38 : Int → World → Nat),
 I37 0 w11 ∧
 ∀ (_ : Env) (n39 : Int) (w40 : World), I37 n39 w40 →
 IfB (decide ((n39 : Int) < (l9 : Int)))
 (∃ (I41 : Int → World → Prop) (m42 : Int → World → Nat),
 I41 0 w40 ∧
 ∀ (_ : Env) (n43 : Int) (w44 : World), I41 n43 w44 →
 PtrOK a10 fun (p45 : Addr) =>
 ((0 : Int) ≤ n39 ∧ n39 < (l10 : Int)) ∧
 ∃ (n46 : Int), World.cell? w44 (Addr.add p45 (Int.toNat n39 * 1)) = some (.int .i64 n46) ∧
 IfB (decide ((n43 : Int) < n46))
 (PtrOK a9 fun (p47 : Addr) =>
 ((0 : Int) ≤ n39 ∧ n39 < (l9 : Int)) ∧
 ∃ (n48 : Int), World.cell? w44 (Addr.add p47 (Int.toNat n39 * 1)) = some (.int .i64 n48) ∧
 C89 q3 2 n48 n43 w44 fun n49 n50 w51 =>
 IfB (!decide ((n50 : Int) = 0))
 (K false w51)
 (IfB (!decide ((n49 : Int) = (IntKind.wrap .i64 ((IntKind.wrap .i64 (100 * n39)) + n43))))
 (K false w51)
 ((I41 (IntKind.wrap .i64 (n43 + 1)) w51 ∧
 m42 (IntKind.wrap .i64 (n43 + 1)) w51 < m42 n43 w44))))
 ((I37 (IntKind.wrap .i64 (n39 + 1)) w44 ∧
 m38 (IntKind.wrap .i64 (n39 + 1)) w44 < m38 n39 w40)))
 (∃ (I52 : Int → World → Prop) (m53 : Int → World → Nat),
 I52 0 w40 ∧
 ∀ (_ : Env) (n54 : Int) (w55 : World), I52 n54 w55 →
 IfB (decide ((n54 : Int) < (l9 : Int)))
 (PtrOK a9 fun (p56 : Addr) =>
 ((0 : Int) ≤ n54 ∧ n54 < (l9 : Int)) ∧
 ∃ (n57 : Int), World.cell? w55 (Addr.add p56 (Int.toNat n54 * 1)) = some (.int .i64 n57) ∧
 C90 q3 0 n57 w55 fun n58 w59 =>
 (I52 (IntKind.wrap .i64 (n54 + 1)) w59 ∧
 m53 (IntKind.wrap .i64 (n54 + 1)) w59 < m53 n54 w55))
 (C50 q4 w55 fun a60 l60 c60 w61 =>
 IfB (decide (((l60 : Int) : Int) = 0))
 (C91 q3 w61 fun a62 l62 c62 w63 =>
 K (decide (((l62 : Int) : Int) = 0)) w63)
 (K false w61)))))
theorem r_f19 (sizesa : Option Addr) (sizesl sizesc : Nat) (w : World) (K : Bool → World → Prop) (h : V_f19 sizesa sizesl sizesc w K) : C19 sizesa sizesl sizesc w K :=
  @calls_of_eq Try.prog 19 Try.f19 [.slice sizesa sizesl sizesc] w [.leaf .bool] K _ (cfg false (fun _ => [])) (fun n => bif Nat.beq n 0 then some ⟨[7, 8, 9], [.slice, .slice, .int .i64]⟩ else bif Nat.beq n 2 then some ⟨[13], [.int .i64]⟩ else bif Nat.beq n 4 then some ⟨[15], [.int .i64]⟩ else bif Nat.beq n 6 then some ⟨[16], [.int .i64]⟩ else bif Nat.beq n 8 then some ⟨[19], [.int .i64]⟩ else none) (fun n => bif Nat.beq n 22 then some ⟨[7, 8], [.slice, .slice]⟩ else none) (fun _ => none) Try.func19 (by kernel_rfl) (by kernel_rfl) h

end Go.Proofs.Ytfpghcdjfiggiaa.V
