/- Readings of the program's functions. No condition. -/
import Derived.Test.YtfpghcdjfiggiaaGCfg
namespace Go.Proofs.Ytfpghcdjfiggiaa.V
open Go
set_option maxRecDepth 100000
set_option linter.unusedVariables false
/-- gneiss/gneisslaw9.awake -/
def V_f79 (w : World) (K : Bool → World → Prop) : Prop :=
 C80 2000 2 w fun q1 n2 w3 =>
 C81 q1 0 2 3 20 w3 fun n4 n5 w6 =>
 C83 q1 1 n4 19 (-7) w6 fun n7 w8 =>
 C84 q1 0 n4 19 w8 fun n9 n10 w11 =>
 C94 q1 n4 w11 fun n12 n13 n14 n15 w16 =>
 ∀ (b17 : Nat) (w18 : World), NewAt w16 w18 b17 #[.int .i64 0, .int .i64 0, .int .i64 0] 133 →
 MayL w18 ⟨b17, 0, none⟩ 3 ∧ ∀ w19 : World, SetL w18 w19 ⟨b17, 0, none⟩ [.int .i64 n12, .int .i64 n13, .int .i64 n14] →
 C81 q1 0 4 0 2 w19 fun n20 n21 w22 =>
 C80 511 1 w22 fun q23 n24 w25 =>
 IfB (decide ((n2 : Int) = 0))
 (IfB (decide ((n5 : Int) = 0))
 (IfB (decide ((1 : Int) ≤ n4))
 (IfB (decide ((n7 : Int) = 0))
 (IfB (decide ((n9 : Int) = (-7)))
 (IfB (decide ((n10 : Int) = 0))
 (∃ (n26 : Int), ∃ (n27 : Int), ∃ (n28 : Int), CellsAt w25 ⟨b17, 0, none⟩ [.int .i64 n26, .int .i64 n27, .int .i64 n28] ∧
 Sem.run Try.prog (eqGuard .eql 133 (.tmp 74) (.tmp 75) (.agg #[.int .i64 n26, .int .i64 n27, .int .i64 n28]) (.agg #[.int .i64 2, .int .i64 3, .int .i64 20])) w25 = .ok () w25 ∧
 ∃ b29 : Bool, Sem.run Try.prog (Op.equal 133 (.agg #[.int .i64 n26, .int .i64 n27, .int .i64 n28]) (.agg #[.int .i64 2, .int .i64 3, .int .i64 20])) w25 = .ok b29 w25 ∧
 IfB b29
 (IfB (decide ((n15 : Int) = 0))
 (IfB (decide ((n21 : Int) = 900))
 (K (decide ((n24 : Int) = 900)) w25)
 (K false w25))
 (K false w25))
 (K false w25))
 (K false w25))
 (K false w25))
 (K false w25))
 (K false w25))
 (K false w25))
 (K false w25)
theorem r_f79 (w : World) (K : Bool → World → Prop) (h : V_f79 w K) : C79  w K :=
  @calls_of_eq Try.prog 79 Try.f79 [] w [.leaf .bool] K _ (cfg true (fun _ => [])) (fun _ => none) (fun _ => none) (fun _ => none) Try.func79 (by kernel_rfl) (by kernel_rfl) h

/-- gneiss/gneisslaw9.HeapSteps -/
def V_f18 (size : Int) (atV : Int) (w : World) (K : Bool → World → Prop) : Prop :=
 C79  w fun b1 w2 =>
 IfB (!b1)
 (K false w2)
 (C80 16384 1 w2 fun q3 n4 w5 =>
 (1000 : Int) ≠ 0 ∧
 C81 q3 0 2 0 (IntKind.wrap .i64 (1 + (IntKind.wrap .i64 (Int.tmod (IntKind.wrap .u64 size) 1000)))) w5 fun n6 n7 w8 =>
 ((IntKind.wrap .u64 (IntKind.wrap .i64 (1 + (IntKind.wrap .i64 (Int.tmod (IntKind.wrap .u64 size) 1000))))) : Int) ≠ 0 ∧
 C82 q3 0 w8 fun n9 w10 =>
 C83 q3 0 n6 (IntKind.wrap .i64 (Int.tmod (IntKind.wrap .u64 atV) (IntKind.wrap .u64 (IntKind.wrap .i64 (1 + (IntKind.wrap .i64 (Int.tmod (IntKind.wrap .u64 size) 1000))))))) 77 w10 fun n11 w12 =>
 C82 q3 0 w12 fun n13 w14 =>
 C84 q3 0 n6 (IntKind.wrap .i64 (Int.tmod (IntKind.wrap .u64 atV) (IntKind.wrap .u64 (IntKind.wrap .i64 (1 + (IntKind.wrap .i64 (Int.tmod (IntKind.wrap .u64 size) 1000))))))) w14 fun n15 n16 w17 =>
 IfB (decide ((n4 : Int) = 0))
 (IfB (decide ((n7 : Int) = 0))
 (IfB (decide ((n11 : Int) = 0))
 (IfB (decide ((n16 : Int) = 0))
 (IfB (decide ((n15 : Int) = 77))
 (IfB (decide (((IntKind.wrap .i64 (n13 - n9)) : Int) ≤ 12))
 (C82 q3 0 w17 fun n18 w19 =>
 IfB (decide (((IntKind.wrap .i64 (n18 - n13)) : Int) ≤ 12))
 (C82 q3 1 w19 fun n20 w21 =>
 K (decide ((n20 : Int) = 0)) w21)
 (K false w19))
 (K false w17))
 (K false w17))
 (K false w17))
 (K false w17))
 (K false w17))
 (K false w17))
theorem r_f18 (size : Int) (atV : Int) (w : World) (K : Bool → World → Prop) (h : V_f18 size atV w K) : C18 size atV w K :=
  @calls_of_eq Try.prog 18 Try.f18 [.int .i64 size, .int .i64 atV] w [.leaf .bool] K _ (cfg false (fun _ => [])) (fun _ => none) (fun _ => none) (fun _ => none) Try.func18 (by kernel_rfl) (by kernel_rfl) h

/-- gneiss/gneisslaw9.HeapKinds -/
def V_f21 (kind : Int) (classV : Int) (size : Int) (w : World) (K : Bool → World → Prop) : Prop :=
 C79  w fun b1 w2 =>
 IfB (!b1)
 (K false w2)
 (C80 8192 2 w2 fun q3 n4 w5 =>
 (7 : Int) ≠ 0 ∧
 (1100 : Int) ≠ 0 ∧
 C81 q3 1 (Int.tmod kind 7) classV (Int.tmod size 1100) w5 fun n6 n7 w8 =>
 ∃ M9 : Bool → World → Prop,
 (IfB (decide (((Int.tmod kind 7) : Int) = 1))
 (IfB (decide ((0 : Int) ≤ (Int.tmod size 1100)))
 (IfB (decide (((Int.tmod size 1100) : Int) ≤ 64))
 (M9 true w8)
 (IfB (decide (((Int.tmod kind 7) : Int) = 2))
 (IfB (decide ((0 : Int) ≤ (Int.tmod size 1100)))
 (IfB (decide (((Int.tmod size 1100) : Int) ≤ 1000))
 (M9 true w8)
 (IfB (decide (((Int.tmod kind 7) : Int) = 4))
 (M9 (decide (((Int.tmod size 1100) : Int) = 1)) w8)
 (M9 false w8)))
 (IfB (decide (((Int.tmod kind 7) : Int) = 4))
 (M9 (decide (((Int.tmod size 1100) : Int) = 1)) w8)
 (M9 false w8)))
 (IfB (decide (((Int.tmod kind 7) : Int) = 3))
 (IfB (decide ((0 : Int) ≤ (Int.tmod size 1100)))
 (IfB (decide (((Int.tmod size 1100) : Int) ≤ 1000))
 (M9 true w8)
 (IfB (decide (((Int.tmod kind 7) : Int) = 4))
 (M9 (decide (((Int.tmod size 1100) : Int) = 1)) w8)
 (M9 false w8)))
 (IfB (decide (((Int.tmod kind 7) : Int) = 4))
 (M9 (decide (((Int.tmod size 1100) : Int) = 1)) w8)
 (M9 false w8)))
 (IfB (decide (((Int.tmod kind 7) : Int) = 4))
 (M9 (decide (((Int.tmod size 1100) : Int) = 1)) w8)
 (M9 false w8)))))
 (IfB (decide (((Int.tmod kind 7) : Int) = 2))
 (IfB (decide ((0 : Int) ≤ (Int.tmod size 1100)))
 (IfB (decide (((Int.tmod size 1100) : Int) ≤ 1000))
 (M9 true w8)
 (IfB (decide (((Int.tmod kind 7) : Int) = 4))
 (M9 (decide (((Int.tmod size 1100) : Int) = 1)) w8)
 (M9 false w8)))
 (IfB (decide (((Int.tmod kind 7) : Int) = 4))
 (M9 (decide (((Int.tmod size 1100) : Int) = 1)) w8)
 (M9 false w8)))
 (IfB (decide (((Int.tmod kind 7) : Int) = 3))
 (IfB (decide ((0 : Int) ≤ (Int.tmod size 1100)))
 (IfB (decide (((Int.tmod size 1100) : Int) ≤ 1000))
 (M9 true w8)
 (IfB (decide (((Int.tmod kind 7) : Int) = 4))
 (M9 (decide (((Int.tmod size 1100) : Int) = 1)) w8)
 (M9 false w8)))
 (IfB (decide (((Int.tmod kind 7) : Int) = 4))
 (M9 (decide (((Int.tmod size 1100) : Int) = 1)) w8)
 (M9 false w8)))
 (IfB (decide (((Int.tmod kind 7) : Int) = 4))
 (M9 (decide (((Int.tmod size 1100) : Int) = 1)) w8)
 (M9 false w8)))))
 (IfB (decide (((Int.tmod kind 7) : Int) = 2))
 (IfB (decide ((0 : Int) ≤ (Int.tmod size 1100)))
 (IfB (decide (((Int.tmod size 1100) : Int) ≤ 1000))
 (M9 true w8)
 (IfB (decide (((Int.tmod kind 7) : Int) = 4))
 (M9 (decide (((Int.tmod size 1100) : Int) = 1)) w8)
 (M9 false w8)))
 (IfB (decide (((Int.tmod kind 7) : Int) = 4))
 (M9 (decide (((Int.tmod size 1100) : Int) = 1)) w8)
 (M9 false w8)))
 (IfB (decide (((Int.tmod kind 7) : Int) = 3))
 (IfB (decide ((0 : Int) ≤ (Int.tmod size 1100)))
 (IfB (decide (((Int.tmod size 1100) : Int) ≤ 1000))
 (M9 true w8)
 (IfB (decide (((Int.tmod kind 7) : Int) = 4))
 (M9 (decide (((Int.tmod size 1100) : Int) = 1)) w8)
 (M9 false w8)))
 (IfB (decide (((Int.tmod kind 7) : Int) = 4))
 (M9 (decide (((Int.tmod size 1100) : Int) = 1)) w8)
 (M9 false w8)))
 (IfB (decide (((Int.tmod kind 7) : Int) = 4))
 (M9 (decide (((Int.tmod size 1100) : Int) = 1)) w8)
 (M9 false w8))))) ∧
 ∀ (_ : Env) (b10 : Bool) (w11 : World), M9 b10 w11 →
 ∃ M12 : World → Prop,
 (IfB (!decide ((n4 : Int) = 0))
 (K false w11)
 (IfB (decide (((Int.tmod kind 7) : Int) < 1))
 (IfB (decide ((n7 : Int) = 902))
 (K (decide ((n6 : Int) = 0)) w11)
 (K false w11))
 (IfB (decide ((4 : Int) < (Int.tmod kind 7)))
 (IfB (decide ((n7 : Int) = 902))
 (K (decide ((n6 : Int) = 0)) w11)
 (K false w11))
 (IfB (!b10)
 (IfB (decide ((n7 : Int) = 900))
 (K (decide ((n6 : Int) = 0)) w11)
 (K false w11))
 (IfB (decide ((classV : Int) < 0))
 (IfB (decide ((n7 : Int) = 900))
 (K (decide ((n6 : Int) = 0)) w11)
 (K false w11))
 (M12 w11)))))) ∧
 ∀ (_ : Env) (w13 : World), M12 w13 →
 C94 q3 n6 w13 fun n14 n15 n16 n17 w18 =>
 ∀ (b19 : Nat) (w20 : World), NewAt w18 w20 b19 #[.int .i64 0, .int .i64 0, .int .i64 0] 133 →
 MayL w20 ⟨b19, 0, none⟩ 3 ∧ ∀ w21 : World, SetL w20 w21 ⟨b19, 0, none⟩ [.int .i64 n14, .int .i64 n15, .int .i64 n16] →
 C84 q3 0 n6 (Int.tmod size 1100) w21 fun n22 n23 w24 =>
 IfB (decide ((n7 : Int) = 0))
 (∃ (n25 : Int), ∃ (n26 : Int), ∃ (n27 : Int), CellsAt w24 ⟨b19, 0, none⟩ [.int .i64 n25, .int .i64 n26, .int .i64 n27] ∧
 Sem.run Try.prog (eqGuard .eql 133 (.tmp 119) (.tmp 123) (.agg #[.int .i64 n25, .int .i64 n26, .int .i64 n27]) (.agg #[.int .i64 (Int.tmod kind 7), .int .i64 classV, .int .i64 (Int.tmod size 1100)])) w24 = .ok () w24 ∧
 ∃ b28 : Bool, Sem.run Try.prog (Op.equal 133 (.agg #[.int .i64 n25, .int .i64 n26, .int .i64 n27]) (.agg #[.int .i64 (Int.tmod kind 7), .int .i64 classV, .int .i64 (Int.tmod size 1100)])) w24 = .ok b28 w24 ∧
 IfB b28
 (IfB (decide ((n17 : Int) = 0))
 (IfB (decide ((n23 : Int) = 903))
 (C95 q3 w24 fun a29 l29 c29 w30 =>
 K (decide (((l29 : Int) : Int) = 1)) w30)
 (K false w24))
 (K false w24))
 (K false w24))
 (K false w24))
theorem r_f21 (kind : Int) (classV : Int) (size : Int) (w : World) (K : Bool → World → Prop) (h : V_f21 kind classV size w K) : C21 kind classV size w K :=
  @calls_of_eq Try.prog 21 Try.f21 [.int .i64 kind, .int .i64 classV, .int .i64 size] w [.leaf .bool] K _ (cfg true (fun _ => [])) (fun _ => none) (fun n => bif Nat.beq n 7 then some ⟨[13], [.bool]⟩ else bif Nat.beq n 13 then some ⟨[], []⟩ else none) (fun _ => none) Try.func21 (by kernel_rfl) (by kernel_rfl) h

/-- gneiss/gneisslaw9.HeapAgain -/
def V_f22 (sizesa : Option Addr) (sizesl sizesc : Nat) (rounds : Int) (w : World) (K : Bool → World → Prop) : Prop :=
 C79  w fun b1 w2 =>
 IfB (!b1)
 (K false w2)
 (C80 4096 1 w2 fun q3 n4 w5 =>
 ∃ (I6 : Int → World → Prop) (m7 : Int → World → Nat),
 I6 0 w5 ∧
 ∀ (_ : Env) (n8 : Int) (w9 : World), I6 n8 w9 →
 IfB (decide ((n8 : Int) ≤ (bits .and .i64 rounds 31)))
 (∃ M10 : Option Addr → Nat → Nat → World → Prop,
 (∃ (I13 : Option Addr → Nat → Nat → Int → Int → World → Prop) (m14 : Option Addr → Nat → Nat → Int → Int → World → Nat),
 I13 none 0 0 1024 0 w9 ∧
 ∀ (_ : Env) (a15 : Option Addr) (l15 c15 : Nat) (n16 : Int) (n17 : Int) (w18 : World), I13 a15 l15 c15 n16 n17 w18 →
 IfB (decide ((n17 : Int) < (sizesl : Int)))
 (IfB (decide ((n17 : Int) < 10))
 (PtrOK sizesa fun (p19 : Addr) =>
 ((0 : Int) ≤ n17 ∧ n17 < (sizesl : Int)) ∧
 ∃ (n20 : Int), World.cell? w18 (Addr.add p19 (Int.toNat n17 * 1)) = some (.int .i64 n20) ∧
 (200 : Int) ≠ 0 ∧
 IfB (decide ((n16 : Int) < (IntKind.wrap .i64 ((IntKind.wrap .i64 (Int.tmod (IntKind.wrap .u64 n20) 200)) + 16))))
 ((I13 a15 l15 c15 n16 (IntKind.wrap .i64 (n17 + 1)) w18 ∧
 m14 a15 l15 c15 n16 (IntKind.wrap .i64 (n17 + 1)) w18 < m14 a15 l15 c15 n16 n17 w18))
 (∀ (b21 : Nat) (w22 : World), NewAt w18 w22 b21 #[.int .i64 2, .int .i64 3] 3 →
 ((0 : Int) ≤ (bits .and .i64 n17 1) ∧ (bits .and .i64 n17 1) < (2 : Int)) ∧
 ∃ (n23 : Int), World.cell? w22 (Addr.add ⟨b21, 0, none⟩ (Int.toNat (bits .and .i64 n17 1) * 1)) = some (.int .i64 n23) ∧
 ∃ M24 : Int → World → Prop,
 (IfB (decide (((IntKind.wrap .i64 (Int.tmod (IntKind.wrap .u64 n20) 200)) : Int) ≤ 64))
 (PtrOK sizesa fun (p27 : Addr) =>
 ((0 : Int) ≤ n17 ∧ n17 < (sizesl : Int)) ∧
 ∃ (n28 : Int), World.cell? w22 (Addr.add p27 (Int.toNat n17 * 1)) = some (.int .i64 n28) ∧
 IfB (decide (((bits .and .i64 n28 1) : Int) = 1))
 (M24 1 w22)
 (M24 n23 w22))
 (M24 n23 w22)) ∧
 ∀ (_ : Env) (n25 : Int) (w26 : World), M24 n25 w26 →
 C81 q3 0 n25 n17 (IntKind.wrap .i64 (Int.tmod (IntKind.wrap .u64 n20) 200)) w26 fun n29 n30 w31 =>
 IfB (!decide ((n30 : Int) = 0))
 (K false w31)
 (IfB (decide ((0 : Int) < (IntKind.wrap .i64 (Int.tmod (IntKind.wrap .u64 n20) 200))))
 (C84 q3 0 n29 (IntKind.wrap .i64 ((IntKind.wrap .i64 (Int.tmod (IntKind.wrap .u64 n20) 200)) - 1)) w31 fun n32 n33 w34 =>
 IfB (!decide ((n33 : Int) = 0))
 (K false w34)
 (IfB (!decide ((n32 : Int) = 0))
 (K false w34)
 (C83 q3 0 n29 (IntKind.wrap .i64 ((IntKind.wrap .i64 (Int.tmod (IntKind.wrap .u64 n20) 200)) - 1)) 77 w34 fun n35 w36 =>
 ∀ (b37 : Nat) (w38 : World), NewAt w36 w38 b37 #[.int .i64 n29] 3 →
 RunF Try.prog (Builtin.append_ #[42, 42] 42 #[.slice a15 l15 c15, .slice (some ⟨b37, 0, none⟩) 1 1]) w38 [.leaf .slice] fun (a39 : Option Addr) (l39 c39 : Nat) (w40 : World) =>
 (I13 a39 l39 c39 (IntKind.wrap .i64 ((IntKind.wrap .i64 (n16 - (IntKind.wrap .i64 (Int.tmod (IntKind.wrap .u64 n20) 200)))) - 16)) (IntKind.wrap .i64 (n17 + 1)) w40 ∧
 m14 a39 l39 c39 (IntKind.wrap .i64 ((IntKind.wrap .i64 (n16 - (IntKind.wrap .i64 (Int.tmod (IntKind.wrap .u64 n20) 200)))) - 16)) (IntKind.wrap .i64 (n17 + 1)) w40 < m14 a15 l15 c15 n16 n17 w18))))
 (∀ (b41 : Nat) (w42 : World), NewAt w31 w42 b41 #[.int .i64 n29] 3 →
 RunF Try.prog (Builtin.append_ #[42, 42] 42 #[.slice a15 l15 c15, .slice (some ⟨b41, 0, none⟩) 1 1]) w42 [.leaf .slice] fun (a43 : Option Addr) (l43 c43 : Nat) (w44 : World) =>
 (I13 a43 l43 c43 (IntKind.wrap .i64 ((IntKind.wrap .i64 (n16 - (IntKind.wrap .i64 (Int.tmod (IntKind.wrap .u64 n20) 200)))) - 16)) (IntKind.wrap .i64 (n17 + 1)) w44 ∧
 m14 a43 l43 c43 (IntKind.wrap .i64 ((IntKind.wrap .i64 (n16 - (IntKind.wrap .i64 (Int.tmod (IntKind.wrap .u64 n20) 200)))) - 16)) (IntKind.wrap .i64 (n17 + 1)) w44 < m14 a15 l15 c15 n16 n17 w18)))))
 (M10 a15 l15 c15 w18))
 (M10 a15 l15 c15 w18)) ∧
 ∀ (_ : Env) (a11 : Option Addr) (l11 c11 : Nat) (w12 : World), M10 a11 l11 c11 w12 →
 ∃ (I45 : Int → World → Prop) (m46 : Int → World → Nat),
 I45 0 w12 ∧
 ∀ (_ : Env) (n47 : Int) (w48 : World), I45 n47 w48 →
 IfB (decide ((n47 : Int) < (l11 : Int)))
 (PtrOK a11 fun (p49 : Addr) =>
 ((0 : Int) ≤ n47 ∧ n47 < (l11 : Int)) ∧
 ∃ (n50 : Int), World.cell? w48 (Addr.add p49 (Int.toNat n47 * 1)) = some (.int .i64 n50) ∧
 C96 q3 0 n50 w48 fun n51 w52 =>
 IfB (!decide ((n51 : Int) = 0))
 (K false w52)
 ((I45 (IntKind.wrap .i64 (n47 + 1)) w52 ∧
 m46 (IntKind.wrap .i64 (n47 + 1)) w52 < m46 n47 w48)))
 ((I6 (IntKind.wrap .i64 (n8 + 1)) w48 ∧
 m7 (IntKind.wrap .i64 (n8 + 1)) w48 < m7 n8 w9)))
 (IfB (decide ((n4 : Int) = 0))
 (C95 q3 w9 fun a53 l53 c53 w54 =>
 K (decide (((l53 : Int) : Int) = 0)) w54)
 (K false w9)))
theorem r_f22 (sizesa : Option Addr) (sizesl sizesc : Nat) (rounds : Int) (w : World) (K : Bool → World → Prop) (h : V_f22 sizesa sizesl sizesc rounds w K) : C22 sizesa sizesl sizesc rounds w K :=
  @calls_of_eq Try.prog 22 Try.f22 [.slice sizesa sizesl sizesc, .int .i64 rounds] w [.leaf .bool] K _ (cfg false (fun _ => [])) (fun n => bif Nat.beq n 0 then some ⟨[7], [.int .i64]⟩ else bif Nat.beq n 2 then some ⟨[8, 9, 10], [.slice, .int .i64, .int .i64]⟩ else bif Nat.beq n 4 then some ⟨[17], [.int .i64]⟩ else none) (fun n => bif Nat.beq n 18 then some ⟨[12], [.int .i64]⟩ else bif Nat.beq n 27 then some ⟨[8], [.slice]⟩ else none) (fun _ => none) Try.func22 (by kernel_rfl) (by kernel_rfl) h

end Go.Proofs.Ytfpghcdjfiggiaa.V
