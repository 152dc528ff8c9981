/- Readings of the program's functions. No condition. -/
import Derived.Test.YtfpghcdjfiggiaaGCfg
namespace Go.Proofs.Ytfpghcdjfiggiaa.V
open Go
set_option maxRecDepth 100000
set_option linter.unusedVariables false
/-- gneiss/gneisslaw7.SpineCycles -/
def V_f15 (sizesa : Option Addr) (sizesl sizesc : Nat) (dropsa : Option Addr) (dropsl dropsc : Nat) (w : World) (K : Bool → World → Prop) : Prop :=
 C67  w fun b1 w2 =>
 IfB (!b1)
 (K false w2)
 (C68 0 4000 w2 fun q3 q4 b5 w6 =>
 IfB (!b5)
 (K false w6)
 (∃ M7 : Option Addr → Nat → Nat → Option Addr → Nat → Nat → Int → World → Prop,
 (∃ (I12 : Option Addr → Nat → Nat → Option Addr → Nat → Nat → Int → Int → World → Prop) (m13 : Option Addr → Nat → Nat → Option Addr → Nat → Nat → Int → Int → World → Nat),
 I12 none 0 0 none 0 0 0 0 w6 ∧
 ∀ (_ : Env) (a14 : Option Addr) (l14 c14 : Nat) (a15 : Option Addr) (l15 c15 : Nat) (n16 : Int) (n17 : Int) (w18 : World), I12 a14 l14 c14 a15 l15 c15 n16 n17 w18 →
 IfB (decide ((n17 : Int) < (sizesl : Int)))
 (IfB (decide ((n17 : Int) < 12))
 (PtrOK sizesa fun (p19 : Addr) =>
 ((0 : Int) ≤ n17 ∧ n17 < (sizesl : Int)) ∧
 ∃ (n20 : Int), World.cell? w18 (Addr.add p19 (Int.toNat n17 * 1)) = some (.int .i64 n20) ∧
 (100 : Int) ≠ 0 ∧
 C69 q3 0 (IntKind.wrap .i64 (Int.tmod (IntKind.wrap .u64 n20) 100)) w18 fun n21 n22 w23 =>
 IfB (!decide ((n22 : Int) = 0))
 (K false w23)
 (∃ (I24 : Int → World → Prop) (m25 : Int → World → Nat),
 I24 0 w23 ∧
 ∀ (_ : Env) (n26 : Int) (w27 : World), I24 n26 w27 →
 IfB (decide ((n26 : Int) < (IntKind.wrap .i64 (Int.tmod (IntKind.wrap .u64 n20) 100))))
 (C70 q3 0 n21 n26 (IntKind.wrap .i64 ((IntKind.wrap .i64 (100 * n21)) + n26)) w27 fun n28 w29 =>
 (I24 (IntKind.wrap .i64 (n26 + 1)) w29 ∧
 m25 (IntKind.wrap .i64 (n26 + 1)) w29 < m25 n26 w27))
 (∀ (b30 : Nat) (w31 : World), NewAt w27 w31 b30 #[.int .i64 n21] 3 →
 RunF Try.prog (Builtin.append_ #[42, 42] 42 #[.slice a14 l14 c14, .slice (some ⟨b30, 0, none⟩) 1 1]) w31 [.leaf .slice] fun (a32 : Option Addr) (l32 c32 : Nat) (w33 : World) =>
 ∀ (b34 : Nat) (w35 : World), NewAt w33 w35 b34 #[.int .i64 (IntKind.wrap .i64 (Int.tmod (IntKind.wrap .u64 n20) 100))] 3 →
 RunF Try.prog (Builtin.append_ #[42, 42] 42 #[.slice a15 l15 c15, .slice (some ⟨b34, 0, none⟩) 1 1]) w35 [.leaf .slice] fun (a36 : Option Addr) (l36 c36 : Nat) (w37 : World) =>
 (I12 a32 l32 c32 a36 l36 c36 (IntKind.wrap .i64 (n16 + (IntKind.wrap .i64 (Int.tmod (IntKind.wrap .u64 n20) 100)))) (IntKind.wrap .i64 (n17 + 1)) w37 ∧
 m13 a32 l32 c32 a36 l36 c36 (IntKind.wrap .i64 (n16 + (IntKind.wrap .i64 (Int.tmod (IntKind.wrap .u64 n20) 100)))) (IntKind.wrap .i64 (n17 + 1)) w37 < m13 a14 l14 c14 a15 l15 c15 n16 n17 w18))))
 (M7 a14 l14 c14 a15 l15 c15 n16 w18))
 (M7 a14 l14 c14 a15 l15 c15 n16 w18)) ∧
 ∀ (_ : Env) (a8 : Option Addr) (l8 c8 : Nat) (a9 : Option Addr) (l9 c9 : Nat) (n10 : Int) (w11 : World), M7 a8 l8 c8 a9 l9 c9 n10 w11 →
 RunF Try.prog (Instr.makeSlice 29 (.int .i64 (l8 : Int)) (.int .i64 (l8 : Int))) w11 [.leaf .slice] fun (a38 : Option Addr) (l38 c38 : Nat) (w39 : World) =>
 ∃ M40 : World → Prop,
 (∃ (I42 : Int → World → Prop) (m43 : Int → World → Nat),
 I42 0 w39 ∧
 ∀ (_ : Env) (n44 : Int) (w45 : World), I42 n44 w45 →
 IfB (decide ((n44 : Int) < (dropsl : Int)))
 (IfB (decide ((n44 : Int) < 6))
 (IfB (decide ((0 : Int) < (l8 : Int)))
 (PtrOK dropsa fun (p46 : Addr) =>
 ((0 : Int) ≤ n44 ∧ n44 < (dropsl : Int)) ∧
 ∃ (n47 : Int), World.cell? w45 (Addr.add p46 (Int.toNat n44 * 1)) = some (.int .i64 n47) ∧
 ((IntKind.wrap .u64 (l8 : Int)) : Int) ≠ 0 ∧
 PtrOK a38 fun (p48 : Addr) =>
 ((0 : Int) ≤ (IntKind.wrap .i64 (Int.tmod (IntKind.wrap .u64 n47) (IntKind.wrap .u64 (l8 : Int)))) ∧ (IntKind.wrap .i64 (Int.tmod (IntKind.wrap .u64 n47) (IntKind.wrap .u64 (l8 : Int)))) < (l38 : Int)) ∧
 ∃ (b49 : Bool), World.cell? w45 (Addr.add p48 (Int.toNat (IntKind.wrap .i64 (Int.tmod (IntKind.wrap .u64 n47) (IntKind.wrap .u64 (l8 : Int)))) * 1)) = some (.bool b49) ∧
 IfB (!b49)
 (PtrOK a8 fun (p50 : Addr) =>
 ((0 : Int) ≤ (IntKind.wrap .i64 (Int.tmod (IntKind.wrap .u64 n47) (IntKind.wrap .u64 (l8 : Int)))) ∧ (IntKind.wrap .i64 (Int.tmod (IntKind.wrap .u64 n47) (IntKind.wrap .u64 (l8 : Int)))) < (l8 : Int)) ∧
 ∃ (n51 : Int), World.cell? w45 (Addr.add p50 (Int.toNat (IntKind.wrap .i64 (Int.tmod (IntKind.wrap .u64 n47) (IntKind.wrap .u64 (l8 : Int)))) * 1)) = some (.int .i64 n51) ∧
 C71 q3 n51 w45 fun n52 w53 =>
 PtrOK a38 fun (p54 : Addr) =>
 ((0 : Int) ≤ (IntKind.wrap .i64 (Int.tmod (IntKind.wrap .u64 n47) (IntKind.wrap .u64 (l8 : Int)))) ∧ (IntKind.wrap .i64 (Int.tmod (IntKind.wrap .u64 n47) (IntKind.wrap .u64 (l8 : Int)))) < (l38 : Int)) ∧
 May w53 (Addr.add p54 (Int.toNat (IntKind.wrap .i64 (Int.tmod (IntKind.wrap .u64 n47) (IntKind.wrap .u64 (l8 : Int)))) * 1)) ∧ ∀ w55 : World, SetC w53 w55 (Addr.add p54 (Int.toNat (IntKind.wrap .i64 (Int.tmod (IntKind.wrap .u64 n47) (IntKind.wrap .u64 (l8 : Int)))) * 1)) (.bool true) →
 (I42 (IntKind.wrap .i64 (n44 + 1)) w55 ∧
 m43 (IntKind.wrap .i64 (n44 + 1)) w55 < m43 n44 w45))
 ((I42 (IntKind.wrap .i64 (n44 + 1)) w45 ∧
 m43 (IntKind.wrap .i64 (n44 + 1)) w45 < m43 n44 w45)))
 (M40 w45))
 (M40 w45))
 (M40 w45)) ∧
 ∀ (_ : Env) (w41 : World), M40 w41 →
 C72 q3 w41 fun n56 w57 =>
 ∃ (I58 : Int → Bool → World → Prop) (m59 : Int → Bool → World → Nat),
 I58 0 true w57 ∧
 ∀ (_ : Env) (n60 : Int) (b61 : Bool) (w62 : World), I58 n60 b61 w62 →
 IfB b61
 (C73 q3 1 w62 fun b63 n64 w65 =>
 IfB (!decide ((n64 : Int) = 0))
 (K false w65)
 (IfB (decide (((IntKind.wrap .i64 ((IntKind.wrap .i64 ((IntKind.wrap .i64 (8 * n10)) + (IntKind.wrap .i64 (16 * (l8 : Int))))) + 16)) : Int) < n60))
 (K false w65)
 ((I58 (IntKind.wrap .i64 (n60 + 1)) b63 w65 ∧
 m59 (IntKind.wrap .i64 (n60 + 1)) b63 w65 < m59 n60 b61 w62))))
 (∃ (I66 : Int → Int → World → Prop) (m67 : Int → Int → World → Nat),
 I66 2000 0 w62 ∧
 ∀ (_ : Env) (n68 : Int) (n69 : Int) (w70 : World), I66 n68 n69 w70 →
 IfB (decide ((n69 : Int) < (l8 : Int)))
 (PtrOK a38 fun (p71 : Addr) =>
 ((0 : Int) ≤ n69 ∧ n69 < (l38 : Int)) ∧
 ∃ (b72 : Bool), World.cell? w70 (Addr.add p71 (Int.toNat n69 * 1)) = some (.bool b72) ∧
 IfB b72
 (PtrOK a8 fun (p73 : Addr) =>
 ((0 : Int) ≤ n69 ∧ n69 < (l8 : Int)) ∧
 ∃ (n74 : Int), World.cell? w70 (Addr.add p73 (Int.toNat n69 * 1)) = some (.int .i64 n74) ∧
 C74 q3 n74 w70 fun n75 n76 w77 =>
 IfB (!decide ((n76 : Int) = 704))
 (K false w77)
 ((I66 n68 (IntKind.wrap .i64 (n69 + 1)) w77 ∧
 m67 n68 (IntKind.wrap .i64 (n69 + 1)) w77 < m67 n68 n69 w70)))
 (PtrOK a9 fun (p78 : Addr) =>
 ((0 : Int) ≤ n69 ∧ n69 < (l9 : Int)) ∧
 ∃ (n79 : Int), World.cell? w70 (Addr.add p78 (Int.toNat n69 * 1)) = some (.int .i64 n79) ∧
 ∃ (I80 : Int → World → Prop) (m81 : Int → World → Nat),
 I80 0 w70 ∧
 ∀ (_ : Env) (n82 : Int) (w83 : World), I80 n82 w83 →
 PtrOK a9 fun (p84 : Addr) =>
 ((0 : Int) ≤ n69 ∧ n69 < (l9 : Int)) ∧
 ∃ (n85 : Int), World.cell? w83 (Addr.add p84 (Int.toNat n69 * 1)) = some (.int .i64 n85) ∧
 IfB (decide ((n82 : Int) < n85))
 (PtrOK a8 fun (p86 : Addr) =>
 ((0 : Int) ≤ n69 ∧ n69 < (l8 : Int)) ∧
 ∃ (n87 : Int), World.cell? w83 (Addr.add p86 (Int.toNat n69 * 1)) = some (.int .i64 n87) ∧
 C75 q3 2 n87 n82 w83 fun n88 n89 w90 =>
 IfB (!decide ((n89 : Int) = 0))
 (K false w90)
 (PtrOK a8 fun (p91 : Addr) =>
 ((0 : Int) ≤ n69 ∧ n69 < (l8 : Int)) ∧
 ∃ (n92 : Int), World.cell? w90 (Addr.add p91 (Int.toNat n69 * 1)) = some (.int .i64 n92) ∧
 IfB (!decide ((n88 : Int) = (IntKind.wrap .i64 ((IntKind.wrap .i64 (100 * n92)) + n82))))
 (K false w90)
 ((I80 (IntKind.wrap .i64 (n82 + 1)) w90 ∧
 m81 (IntKind.wrap .i64 (n82 + 1)) w90 < m81 n82 w83))))
 ((I66 (IntKind.wrap .i64 ((IntKind.wrap .i64 (n68 - n79)) - 4)) (IntKind.wrap .i64 (n69 + 1)) w83 ∧
 m67 (IntKind.wrap .i64 ((IntKind.wrap .i64 (n68 - n79)) - 4)) (IntKind.wrap .i64 (n69 + 1)) w83 < m67 n68 n69 w70))))
 (IfB (decide ((n56 : Int) = 0))
 (C76 q3 w70 fun n93 w94 =>
 IfB (decide ((n93 : Int) = n68))
 (K (decide ((n60 : Int) ≤ (IntKind.wrap .i64 ((IntKind.wrap .i64 ((IntKind.wrap .i64 (8 * n10)) + (IntKind.wrap .i64 (16 * (l8 : Int))))) + 16)))) w94)
 (K false w94))
 (K false w70)))))
theorem r_f15 (sizesa : Option Addr) (sizesl sizesc : Nat) (dropsa : Option Addr) (dropsl dropsc : Nat) (w : World) (K : Bool → World → Prop) (h : V_f15 sizesa sizesl sizesc dropsa dropsl dropsc w K) : C15 sizesa sizesl sizesc dropsa dropsl dropsc w K :=
  @calls_of_eq Try.prog 15 Try.f15 [.slice sizesa sizesl sizesc, .slice dropsa dropsl dropsc] w [.leaf .bool] K _ (cfg false (fun _ => [])) (fun n => bif Nat.beq n 0 then some ⟨[8, 9, 10, 11], [.slice, .slice, .int .i64, .int .i64]⟩ else bif Nat.beq n 2 then some ⟨[15], [.int .i64]⟩ else bif Nat.beq n 4 then some ⟨[17], [.int .i64]⟩ else bif Nat.beq n 6 then some ⟨[21, 22], [.int .i64, .bool]⟩ else bif Nat.beq n 8 then some ⟨[25, 26], [.int .i64, .int .i64]⟩ else bif Nat.beq n 10 then some ⟨[29], [.int .i64]⟩ else none) (fun n => bif Nat.beq n 22 then some ⟨[8, 9, 10], [.slice, .slice, .int .i64]⟩ else bif Nat.beq n 30 then some ⟨[], []⟩ else none) (fun _ => none) Try.func15 (by kernel_rfl) (by kernel_rfl) h

end Go.Proofs.Ytfpghcdjfiggiaa.V
