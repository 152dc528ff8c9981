/- Readings of the program's functions. No condition. -/
import Derived.Test.YtfpghcdjfiggiaaGCfg
namespace Go.Proofs.Ytfpghcdjfiggiaa.V
open Go
set_option maxRecDepth 100000
set_option linter.unusedVariables false
/-- gneiss/gneisslaw8.need -/
def V_f178 (k : Int) (w : World) (K : Int → World → Prop) : Prop :=
 Fit .i64 (k + 5) ∧
 (6 : Int) ≠ 0 ∧
 Fit .i64 (Int.tdiv (k + 5) 6) ∧
 Fit .i64 (1 + (Int.tdiv (k + 5) 6)) ∧
 K (1 + (Int.tdiv (k + 5) 6)) w
theorem r_f178 (k : Int) (w : World) (K : Int → World → Prop) (h : V_f178 k w K) : C178 k w K :=
  @calls_of_eq Try.prog 178 Try.f178 [.int .i64 k] w [.leaf (.int .i64)] K _ (cfg true (fun _ => [])) (fun _ => none) (fun _ => none) (fun _ => none) Try.func178 (by kernel_rfl) (by kernel_rfl) h

/-- (*gneiss/gneisslaw8.play).at -/
def V_f93 (y : Nat) (ref : Int) (w : World) (K : Int → World → Prop) : Prop :=
 ∃ (I1 : Int → World → Prop) (m2 : Int → World → Nat),
 I1 0 w ∧
 ∀ (_ : Env) (n3 : Int) (w4 : World), I1 n3 w4 →
 ∃ (a5 : Option Addr) (l5 c5 : Nat), World.cell? w4 ⟨y, 4, none⟩ = some (.slice a5 l5 c5) ∧
 IfB (decide ((n3 : Int) < (l5 : Int)))
 (∃ (a6 : Option Addr) (l6 c6 : Nat), World.cell? w4 ⟨y, 4, none⟩ = some (.slice a6 l6 c6) ∧
 PtrOK a6 fun (p7 : Addr) =>
 ((0 : Int) ≤ n3 ∧ n3 < (l6 : Int)) ∧
 ∃ (n8 : Int), World.cell? w4 (Addr.add p7 (Int.toNat n3 * 1)) = some (.int .i64 n8) ∧
 IfB (decide ((n8 : Int) = ref))
 (K n3 w4)
 (Fit .i64 (n3 + 1) ∧
 (I1 (n3 + 1) w4 ∧
 m2 (n3 + 1) w4 < m2 n3 w4)))
 (K (-1) w4)
theorem r_f93 (y : Nat) (ref : Int) (w : World) (K : Int → World → Prop) (h : V_f93 y ref w K) : C93 (some ⟨y, 0, none⟩) ref w K :=
  @calls_of_eq Try.prog 93 Try.f93 [.pointer (some ⟨y, 0, none⟩), .int .i64 ref] w [.leaf (.int .i64)] K _ (cfg true (fun _ => [])) (fun n => bif Nat.beq n 0 then some ⟨[5], [.int .i64]⟩ else none) (fun _ => none) (fun _ => none) Try.func93 (by kernel_rfl) (by kernel_rfl) h

/-- (*gneiss/gneisslaw8.play).make -/
def V_f160 (y : Nat) (xa : Int) (xb : Int) (xc : Int) (xd : Int) (xe : Int) (w : World) (K : Bool → World → Prop) : Prop :=
 ∀ (b1 : Nat) (w2 : World), NewAt w w2 b1 #[.int .i64 xa, .int .i64 xb, .int .i64 xc, .int .i64 xd, .int .i64 xe] 130 →
 ∃ M3 : Int → World → Prop,
 (∀ w6 : World, Drew w2 w6 →
 ∃ (q7 : Option Addr), World.cell? w6 ⟨y, 1, none⟩ = some (.pointer q7) ∧
 (∃ (n8 : Int), World.cell? w6 ⟨y, 3, none⟩ = some (.int .i64 n8) ∧
 C50 q7 w6 fun a9 l9 c9 w10 =>
 Fit .i64 (n8 - (l9 : Int)) ∧
 M3 (n8 - (l9 : Int)) w10) ∧
 (C50 q7 w6 fun a11 l11 c11 w12 =>
 ∃ (n13 : Int), World.cell? w12 ⟨y, 3, none⟩ = some (.int .i64 n13) ∧
 Fit .i64 (n13 - (l11 : Int)) ∧
 M3 (n13 - (l11 : Int)) w12)) ∧
 ∀ (_ : Env) (n4 : Int) (w5 : World), M3 n4 w5 →
 ∃ M14 : Int → Int → World → Prop,
 (∀ w18 : World, Drew w5 w18 →
 ∃ (q19 : Option Addr), World.cell? w18 ⟨y, 0, none⟩ = some (.pointer q19) ∧
 ∃ (n20 : Int), World.cell? w18 ⟨b1, 1, none⟩ = some (.int .i64 n20) ∧
 ∃ (n21 : Int), World.cell? w18 ⟨b1, 4, none⟩ = some (.int .i64 n21) ∧
 C87 q19 n20 n21 w18 fun n22 n23 w24 =>
 M14 n22 n23 w24) ∧
 ∀ (_ : Env) (n15 : Int) (n16 : Int) (w17 : World), M14 n15 n16 w17 →
 ∃ M25 : World → Prop,
 (∃ (n27 : Int), World.cell? w17 ⟨b1, 1, none⟩ = some (.int .i64 n27) ∧
 IfB (decide ((n27 : Int) < 0))
 (IfB (decide ((n16 : Int) = 803))
 (K (decide ((n15 : Int) = 0)) w17)
 (K false w17))
 (∃ (n28 : Int), World.cell? w17 ⟨b1, 1, none⟩ = some (.int .i64 n28) ∧
 IfB (decide ((3 : Int) ≤ n28))
 (IfB (decide ((n16 : Int) = 803))
 (K (decide ((n15 : Int) = 0)) w17)
 (K false w17))
 (∃ (n29 : Int), World.cell? w17 ⟨b1, 4, none⟩ = some (.int .i64 n29) ∧
 IfB (decide ((n29 : Int) < 0))
 (IfB (decide ((n16 : Int) = 800))
 (K (decide ((n15 : Int) = 0)) w17)
 (K false w17))
 (∃ (n30 : Int), World.cell? w17 ⟨b1, 4, none⟩ = some (.int .i64 n30) ∧
 IfB (decide ((64 : Int) < n30))
 (IfB (decide ((n16 : Int) = 800))
 (K (decide ((n15 : Int) = 0)) w17)
 (K false w17))
 (∃ (n31 : Int), World.cell? w17 ⟨b1, 4, none⟩ = some (.int .i64 n31) ∧
 C178 n31 w17 fun n32 w33 =>
 IfB (decide ((n4 : Int) < n32))
 (∀ w34 : World, Drew w33 w34 →
 IfB (decide ((n16 : Int) = 801))
 (IfB (decide ((n15 : Int) = 0))
 (∃ (q35 : Option Addr), World.cell? w34 ⟨y, 1, none⟩ = some (.pointer q35) ∧
 (∃ (n36 : Int), World.cell? w34 ⟨y, 3, none⟩ = some (.int .i64 n36) ∧
 C50 q35 w34 fun a37 l37 c37 w38 =>
 Fit .i64 (n36 - (l37 : Int)) ∧
 K (decide (((n36 - (l37 : Int)) : Int) = n4)) w38) ∧
 (C50 q35 w34 fun a39 l39 c39 w40 =>
 ∃ (n41 : Int), World.cell? w40 ⟨y, 3, none⟩ = some (.int .i64 n41) ∧
 Fit .i64 (n41 - (l39 : Int)) ∧
 K (decide (((n41 - (l39 : Int)) : Int) = n4)) w40))
 ((K false w34) ∧
 (K false w34)))
 ((K false w34) ∧
 (K false w34)))
 (M25 w33)))))) ∧
 ∀ (_ : Env) (w26 : World), M25 w26 →
 ∃ M42 : Int → World → Prop,
 (∀ w45 : World, Drew w26 w45 →
 ∃ (q46 : Option Addr), World.cell? w45 ⟨y, 1, none⟩ = some (.pointer q46) ∧
 (∃ (n47 : Int), World.cell? w45 ⟨y, 3, none⟩ = some (.int .i64 n47) ∧
 C50 q46 w45 fun a48 l48 c48 w49 =>
 Fit .i64 (n47 - (l48 : Int)) ∧
 Fit .i64 (n4 - (n47 - (l48 : Int))) ∧
 M42 (n4 - (n47 - (l48 : Int))) w49) ∧
 (C50 q46 w45 fun a50 l50 c50 w51 =>
 ∃ (n52 : Int), World.cell? w51 ⟨y, 3, none⟩ = some (.int .i64 n52) ∧
 Fit .i64 (n52 - (l50 : Int)) ∧
 Fit .i64 (n4 - (n52 - (l50 : Int))) ∧
 M42 (n4 - (n52 - (l50 : Int))) w51)) ∧
 ∀ (_ : Env) (n43 : Int) (w44 : World), M42 n43 w44 →
 ∃ M53 : World → Prop,
 (IfB (!decide ((n16 : Int) = 0))
 (K false w44)
 (IfB (decide ((n15 : Int) < 1))
 (K false w44)
 (C93 (some ⟨y, 0, none⟩) n15 w44 fun n55 w56 =>
 IfB (decide ((0 : Int) ≤ n55))
 (K false w56)
 (∃ (n57 : Int), World.cell? w56 ⟨b1, 4, none⟩ = some (.int .i64 n57) ∧
 C178 n57 w56 fun n58 w59 =>
 IfB (decide ((n58 : Int) < n43))
 (K false w59)
 (M53 w59))))) ∧
 ∀ (_ : Env) (w54 : World), M53 w54 →
 ∃ (a60 : Option Addr) (l60 c60 : Nat), World.cell? w54 ⟨y, 4, none⟩ = some (.slice a60 l60 c60) ∧
 ∀ (b61 : Nat) (w62 : World), NewAt w54 w62 b61 #[.int .i64 n15] 3 →
 RunF Try.prog (Builtin.append_ #[42, 42] 42 #[.slice a60 l60 c60, .slice (some ⟨b61, 0, none⟩) 1 1]) w62 [.leaf .slice] fun (a63 : Option Addr) (l63 c63 : Nat) (w64 : World) =>
 May w64 ⟨y, 4, none⟩ ∧ ∀ w65 : World, SetC w64 w65 ⟨y, 4, none⟩ (.slice a63 l63 c63) →
 ∀ w66 : World, Drew w65 w66 →
 ∃ (n67 : Int), World.cell? w66 ⟨b1, 4, none⟩ = some (.int .i64 n67) ∧
 (∃ (a68 : Option Addr) (l68 c68 : Nat), World.cell? w66 ⟨y, 5, none⟩ = some (.slice a68 l68 c68) ∧
 RunF Try.prog (Instr.makeSlice 42 (.int .i64 n67) (.int .i64 n67)) w66 [.leaf .slice] fun (a69 : Option Addr) (l69 c69 : Nat) (w70 : World) =>
 ∀ (b71 : Nat) (w72 : World), NewAt w70 w72 b71 #[.slice a69 l69 c69] 42 →
 RunF Try.prog (Builtin.append_ #[126, 126] 126 #[.slice a68 l68 c68, .slice (some ⟨b71, 0, none⟩) 1 1]) w72 [.leaf .slice] fun (a73 : Option Addr) (l73 c73 : Nat) (w74 : World) =>
 May w74 ⟨y, 5, none⟩ ∧ ∀ w75 : World, SetC w74 w75 ⟨y, 5, none⟩ (.slice a73 l73 c73) →
 K true w75) ∧
 (RunF Try.prog (Instr.makeSlice 42 (.int .i64 n67) (.int .i64 n67)) w66 [.leaf .slice] fun (a76 : Option Addr) (l76 c76 : Nat) (w77 : World) =>
 (∃ (a78 : Option Addr) (l78 c78 : Nat), World.cell? w77 ⟨y, 5, none⟩ = some (.slice a78 l78 c78) ∧
 ∀ (b79 : Nat) (w80 : World), NewAt w77 w80 b79 #[.slice a76 l76 c76] 42 →
 RunF Try.prog (Builtin.append_ #[126, 126] 126 #[.slice a78 l78 c78, .slice (some ⟨b79, 0, none⟩) 1 1]) w80 [.leaf .slice] fun (a81 : Option Addr) (l81 c81 : Nat) (w82 : World) =>
 May w82 ⟨y, 5, none⟩ ∧ ∀ w83 : World, SetC w82 w83 ⟨y, 5, none⟩ (.slice a81 l81 c81) →
 K true w83) ∧
 (∀ (b84 : Nat) (w85 : World), NewAt w77 w85 b84 #[.slice a76 l76 c76] 42 →
 ∃ (a86 : Option Addr) (l86 c86 : Nat), World.cell? w85 ⟨y, 5, none⟩ = some (.slice a86 l86 c86) ∧
 RunF Try.prog (Builtin.append_ #[126, 126] 126 #[.slice a86 l86 c86, .slice (some ⟨b84, 0, none⟩) 1 1]) w85 [.leaf .slice] fun (a87 : Option Addr) (l87 c87 : Nat) (w88 : World) =>
 May w88 ⟨y, 5, none⟩ ∧ ∀ w89 : World, SetC w88 w89 ⟨y, 5, none⟩ (.slice a87 l87 c87) →
 K true w89))
theorem r_f160 (y : Nat) (xa : Int) (xb : Int) (xc : Int) (xd : Int) (xe : Int) (w : World) (K : Bool → World → Prop) (h : V_f160 y xa xb xc xd xe w K) : C160 (some ⟨y, 0, none⟩) xa xb xc xd xe w K :=
  @calls_of_eq Try.prog 160 Try.f160 [.pointer (some ⟨y, 0, none⟩), .agg #[.int .i64 xa, .int .i64 xb, .int .i64 xc, .int .i64 xd, .int .i64 xe]] w [.leaf .bool] K _ (cfg true (fun _ => [])) (fun _ => none) (fun n => bif Nat.beq n 2 then some ⟨[5], [.int .i64]⟩ else bif Nat.beq n 3 then some ⟨[6, 7], [.int .i64, .int .i64]⟩ else bif Nat.beq n 9 then some ⟨[], []⟩ else bif Nat.beq n 10 then some ⟨[8], [.int .i64]⟩ else bif Nat.beq n 12 then some ⟨[], []⟩ else none) (fun _ => none) Try.func160 (by kernel_rfl) (by kernel_rfl) h

/-- (*gneiss/gneisslaw8.play).word -/
def V_f161 (y : Nat) (xa : Int) (xb : Int) (xc : Int) (xd : Int) (xe : Int) (ref : Int) (w : World) (K : Bool → World → Prop) : Prop :=
 ∀ (b1 : Nat) (w2 : World), NewAt w w2 b1 #[.int .i64 xa, .int .i64 xb, .int .i64 xc, .int .i64 xd, .int .i64 xe] 130 →
 C93 (some ⟨y, 0, none⟩) ref w2 fun n3 w4 =>
 ∀ w5 : World, Drew w4 w5 →
 ∃ (q6 : Option Addr), World.cell? w5 ⟨y, 2, none⟩ = some (.pointer q6) ∧
 ∃ (n7 : Int), World.cell? w5 ⟨b1, 1, none⟩ = some (.int .i64 n7) ∧
 C128 q6 n7 w5 fun n8 w9 =>
 ∃ M10 : Int → Int → World → Prop,
 (∃ (n14 : Int), World.cell? w9 ⟨b1, 0, none⟩ = some (.int .i64 n14) ∧
 IfB (decide ((n14 : Int) < 4))
 (∀ w15 : World, Drew w9 w15 →
 ∃ (q16 : Option Addr), World.cell? w15 ⟨y, 0, none⟩ = some (.pointer q16) ∧
 ∃ (n17 : Int), World.cell? w15 ⟨b1, 1, none⟩ = some (.int .i64 n17) ∧
 ∃ (n18 : Int), World.cell? w15 ⟨b1, 3, none⟩ = some (.int .i64 n18) ∧
 C89 q16 n17 ref n18 w15 fun n19 n20 w21 =>
 M10 n19 n20 w21)
 (∀ w22 : World, Drew w9 w22 →
 ∃ (q23 : Option Addr), World.cell? w22 ⟨y, 0, none⟩ = some (.pointer q23) ∧
 ∃ (n24 : Int), World.cell? w22 ⟨b1, 1, none⟩ = some (.int .i64 n24) ∧
 ∃ (n25 : Int), World.cell? w22 ⟨b1, 3, none⟩ = some (.int .i64 n25) ∧
 ∃ (n26 : Int), World.cell? w22 ⟨b1, 4, none⟩ = some (.int .i64 n26) ∧
 C88 q23 n24 ref n25 n26 w22 fun n27 w28 =>
 M10 0 n27 w28)) ∧
 ∀ (_ : Env) (n11 : Int) (n12 : Int) (w13 : World), M10 n11 n12 w13 →
 ∃ M29 : World → Prop,
 (∃ (n31 : Int), World.cell? w13 ⟨b1, 1, none⟩ = some (.int .i64 n31) ∧
 IfB (decide ((n31 : Int) < 0))
 (IfB (decide ((n12 : Int) = 803))
 (K (decide ((n11 : Int) = 0)) w13)
 (K false w13))
 (∃ (n32 : Int), World.cell? w13 ⟨b1, 1, none⟩ = some (.int .i64 n32) ∧
 IfB (decide ((3 : Int) ≤ n32))
 (IfB (decide ((n12 : Int) = 803))
 (K (decide ((n11 : Int) = 0)) w13)
 (K false w13))
 (IfB (decide ((n3 : Int) < 0))
 (IfB (decide ((n12 : Int) = 803))
 (K (decide ((n11 : Int) = 0)) w13)
 (K false w13))
 (∀ w33 : World, Drew w13 w33 →
 ∃ (n34 : Int), World.cell? w33 ⟨b1, 3, none⟩ = some (.int .i64 n34) ∧
 IfB (decide ((n34 : Int) < 0))
 (IfB (decide ((n12 : Int) = 802))
 (K (decide ((n11 : Int) = 0)) w33)
 (K false w33))
 (∃ (n35 : Int), World.cell? w33 ⟨b1, 3, none⟩ = some (.int .i64 n35) ∧
 ∃ (a36 : Option Addr) (l36 c36 : Nat), World.cell? w33 ⟨y, 5, none⟩ = some (.slice a36 l36 c36) ∧
 PtrOK a36 fun (p37 : Addr) =>
 ((0 : Int) ≤ n3 ∧ n3 < (l36 : Int)) ∧
 ∃ (a38 : Option Addr) (l38 c38 : Nat), World.cell? w33 (Addr.add p37 (Int.toNat n3 * 1)) = some (.slice a38 l38 c38) ∧
 IfB (decide (((l38 : Int) : Int) ≤ n35))
 (IfB (decide ((n12 : Int) = 802))
 (K (decide ((n11 : Int) = 0)) w33)
 (K false w33))
 (M29 w33)))))) ∧
 ∀ (_ : Env) (w30 : World), M29 w30 →
 ∃ M39 : World → Prop,
 (∀ w41 : World, Drew w30 w41 →
 IfB (!decide ((n12 : Int) = 0))
 ((K false w41) ∧
 ((K false w41) ∧
 (K false w41)))
 (∃ (q42 : Option Addr), World.cell? w41 ⟨y, 2, none⟩ = some (.pointer q42) ∧
 ∃ (n43 : Int), World.cell? w41 ⟨b1, 1, none⟩ = some (.int .i64 n43) ∧
 Fit .i64 (n8 + 3) ∧
 (C128 q42 n43 w41 fun n44 w45 =>
 ∃ (a46 : Option Addr) (l46 c46 : Nat), World.cell? w45 ⟨y, 5, none⟩ = some (.slice a46 l46 c46) ∧
 PtrOK a46 fun (p47 : Addr) =>
 ((0 : Int) ≤ n3 ∧ n3 < (l46 : Int)) ∧
 ∃ (a48 : Option Addr) (l48 c48 : Nat), World.cell? w45 (Addr.add p47 (Int.toNat n3 * 1)) = some (.slice a48 l48 c48) ∧
 Fit .i64 ((l48 : Int) + 5) ∧
 (6 : Int) ≠ 0 ∧
 Fit .i64 (Int.tdiv ((l48 : Int) + 5) 6) ∧
 Fit .i64 ((n8 + 3) + (Int.tdiv ((l48 : Int) + 5) 6)) ∧
 IfB (decide ((((n8 + 3) + (Int.tdiv ((l48 : Int) + 5) 6)) : Int) < n44))
 (K false w45)
 (M39 w45)) ∧
 (∃ (a49 : Option Addr) (l49 c49 : Nat), World.cell? w41 ⟨y, 5, none⟩ = some (.slice a49 l49 c49) ∧
 PtrOK a49 fun (p50 : Addr) =>
 ((0 : Int) ≤ n3 ∧ n3 < (l49 : Int)) ∧
 (C128 q42 n43 w41 fun n51 w52 =>
 ∃ (a53 : Option Addr) (l53 c53 : Nat), World.cell? w52 (Addr.add p50 (Int.toNat n3 * 1)) = some (.slice a53 l53 c53) ∧
 Fit .i64 ((l53 : Int) + 5) ∧
 (6 : Int) ≠ 0 ∧
 Fit .i64 (Int.tdiv ((l53 : Int) + 5) 6) ∧
 Fit .i64 ((n8 + 3) + (Int.tdiv ((l53 : Int) + 5) 6)) ∧
 IfB (decide ((((n8 + 3) + (Int.tdiv ((l53 : Int) + 5) 6)) : Int) < n51))
 (K false w52)
 (M39 w52)) ∧
 (∃ (a54 : Option Addr) (l54 c54 : Nat), World.cell? w41 (Addr.add p50 (Int.toNat n3 * 1)) = some (.slice a54 l54 c54) ∧
 Fit .i64 ((l54 : Int) + 5) ∧
 (6 : Int) ≠ 0 ∧
 Fit .i64 (Int.tdiv ((l54 : Int) + 5) 6) ∧
 Fit .i64 ((n8 + 3) + (Int.tdiv ((l54 : Int) + 5) 6)) ∧
 C128 q42 n43 w41 fun n55 w56 =>
 IfB (decide ((((n8 + 3) + (Int.tdiv ((l54 : Int) + 5) 6)) : Int) < n55))
 (K false w56)
 (M39 w56))))) ∧
 ∀ (_ : Env) (w40 : World), M39 w40 →
 ∃ (n57 : Int), World.cell? w40 ⟨b1, 0, none⟩ = some (.int .i64 n57) ∧
 IfB (decide ((4 : Int) ≤ n57))
 (∀ w58 : World, Drew w40 w58 →
 ∃ (a59 : Option Addr) (l59 c59 : Nat), World.cell? w58 ⟨y, 5, none⟩ = some (.slice a59 l59 c59) ∧
 PtrOK a59 fun (p60 : Addr) =>
 ((0 : Int) ≤ n3 ∧ n3 < (l59 : Int)) ∧
 ∃ (a61 : Option Addr) (l61 c61 : Nat), World.cell? w58 (Addr.add p60 (Int.toNat n3 * 1)) = some (.slice a61 l61 c61) ∧
 ∃ (n62 : Int), World.cell? w58 ⟨b1, 3, none⟩ = some (.int .i64 n62) ∧
 ∃ (n63 : Int), World.cell? w58 ⟨b1, 4, none⟩ = some (.int .i64 n63) ∧
 PtrOK a61 fun (p64 : Addr) =>
 ((0 : Int) ≤ n62 ∧ n62 < (l61 : Int)) ∧
 May w58 (Addr.add p64 (Int.toNat n62 * 1)) ∧ ∀ w65 : World, SetC w58 w65 (Addr.add p64 (Int.toNat n62 * 1)) (.int .i64 n63) →
 K true w65)
 (∀ w66 : World, Drew w40 w66 →
 ∃ (a67 : Option Addr) (l67 c67 : Nat), World.cell? w66 ⟨y, 5, none⟩ = some (.slice a67 l67 c67) ∧
 PtrOK a67 fun (p68 : Addr) =>
 ((0 : Int) ≤ n3 ∧ n3 < (l67 : Int)) ∧
 ∃ (a69 : Option Addr) (l69 c69 : Nat), World.cell? w66 (Addr.add p68 (Int.toNat n3 * 1)) = some (.slice a69 l69 c69) ∧
 ∃ (n70 : Int), World.cell? w66 ⟨b1, 3, none⟩ = some (.int .i64 n70) ∧
 PtrOK a69 fun (p71 : Addr) =>
 ((0 : Int) ≤ n70 ∧ n70 < (l69 : Int)) ∧
 ∃ (n72 : Int), World.cell? w66 (Addr.add p71 (Int.toNat n70 * 1)) = some (.int .i64 n72) ∧
 K (decide ((n11 : Int) = n72)) w66)
theorem r_f161 (y : Nat) (xa : Int) (xb : Int) (xc : Int) (xd : Int) (xe : Int) (ref : Int) (w : World) (K : Bool → World → Prop) (h : V_f161 y xa xb xc xd xe ref w K) : C161 (some ⟨y, 0, none⟩) xa xb xc xd xe ref w K :=
  @calls_of_eq Try.prog 161 Try.f161 [.pointer (some ⟨y, 0, none⟩), .agg #[.int .i64 xa, .int .i64 xb, .int .i64 xc, .int .i64 xd, .int .i64 xe], .int .i64 ref] w [.leaf .bool] K _ (cfg true (fun _ => [])) (fun _ => none) (fun n => bif Nat.beq n 9 then some ⟨[9, 10], [.int .i64, .int .i64]⟩ else bif Nat.beq n 13 then some ⟨[], []⟩ else bif Nat.beq n 15 then some ⟨[], []⟩ else none) (fun n => bif Nat.beq n 2 then some 6 else bif Nat.beq n 7 then some 11 else bif Nat.beq n 11 then some 17 else bif Nat.beq n 16 then some 12 else bif Nat.beq n 18 then some 14 else none) Try.func161 (by kernel_rfl) (by kernel_rfl) h

/-- (*gneiss/gneisslaw8.play).free -/
def V_f162 (y : Nat) (xa : Int) (xb : Int) (xc : Int) (xd : Int) (xe : Int) (ref : Int) (w : World) (K : Bool → World → Prop) : Prop :=
 ∀ (b1 : Nat) (w2 : World), NewAt w w2 b1 #[.int .i64 xa, .int .i64 xb, .int .i64 xc, .int .i64 xd, .int .i64 xe] 130 →
 C93 (some ⟨y, 0, none⟩) ref w2 fun n3 w4 =>
 ∀ w5 : World, Drew w4 w5 →
 ∃ (q6 : Option Addr), World.cell? w5 ⟨y, 0, none⟩ = some (.pointer q6) ∧
 ∃ (n7 : Int), World.cell? w5 ⟨b1, 1, none⟩ = some (.int .i64 n7) ∧
 C90 q6 n7 ref w5 fun n8 w9 =>
 ∃ M10 : World → Prop,
 (∃ (n12 : Int), World.cell? w9 ⟨b1, 1, none⟩ = some (.int .i64 n12) ∧
 IfB (decide ((n12 : Int) < 0))
 (K (decide ((n8 : Int) = 803)) w9)
 (∃ (n13 : Int), World.cell? w9 ⟨b1, 1, none⟩ = some (.int .i64 n13) ∧
 IfB (decide ((3 : Int) ≤ n13))
 (K (decide ((n8 : Int) = 803)) w9)
 (IfB (decide ((n3 : Int) < 0))
 (K (decide ((n8 : Int) = 803)) w9)
 (M10 w9)))) ∧
 ∀ (_ : Env) (w11 : World), M10 w11 →
 ∃ M14 : World → Prop,
 (∀ w16 : World, Drew w11 w16 →
 Fit .i64 (n3 + 1) ∧
 (∀ (b17 : Nat) (w18 : World), NewAt w16 w18 b17 #[] 3 →
 ∃ (a19 : Option Addr) (l19 c19 : Nat), World.cell? w18 ⟨y, 4, none⟩ = some (.slice a19 l19 c19) ∧
 ((0 : Int) ≤ n3 ∧ n3 ≤ (c19 : Int)) ∧
 (RunF Try.prog (Builtin.append_ #[42, 42] 42 #[.slice (some ⟨b17, 0, none⟩) 0 0, .slice a19 (Int.toNat n3) c19]) w18 [.leaf .slice] fun (a20 : Option Addr) (l20 c20 : Nat) (w21 : World) =>
 ∃ (a22 : Option Addr) (l22 c22 : Nat), World.cell? w21 ⟨y, 4, none⟩ = some (.slice a22 l22 c22) ∧
 ((0 : Int) ≤ (n3 + 1) ∧ (n3 + 1) ≤ (l22 : Int)) ∧
 RunF Try.prog (Builtin.append_ #[42, 42] 42 #[.slice a20 l20 c20, .slice (Adv a22 c22 (Int.toNat (n3 + 1)) 1) (l22 - Int.toNat (n3 + 1)) (c22 - Int.toNat (n3 + 1))]) w21 [.leaf .slice] fun (a23 : Option Addr) (l23 c23 : Nat) (w24 : World) =>
 May w24 ⟨y, 4, none⟩ ∧ ∀ w25 : World, SetC w24 w25 ⟨y, 4, none⟩ (.slice a23 l23 c23) →
 M14 w25) ∧
 (∃ (a26 : Option Addr) (l26 c26 : Nat), World.cell? w18 ⟨y, 4, none⟩ = some (.slice a26 l26 c26) ∧
 ((0 : Int) ≤ (n3 + 1) ∧ (n3 + 1) ≤ (l26 : Int)) ∧
 RunF Try.prog (Builtin.append_ #[42, 42] 42 #[.slice (some ⟨b17, 0, none⟩) 0 0, .slice a19 (Int.toNat n3) c19]) w18 [.leaf .slice] fun (a27 : Option Addr) (l27 c27 : Nat) (w28 : World) =>
 RunF Try.prog (Builtin.append_ #[42, 42] 42 #[.slice a27 l27 c27, .slice (Adv a26 c26 (Int.toNat (n3 + 1)) 1) (l26 - Int.toNat (n3 + 1)) (c26 - Int.toNat (n3 + 1))]) w28 [.leaf .slice] fun (a29 : Option Addr) (l29 c29 : Nat) (w30 : World) =>
 May w30 ⟨y, 4, none⟩ ∧ ∀ w31 : World, SetC w30 w31 ⟨y, 4, none⟩ (.slice a29 l29 c29) →
 M14 w31)) ∧
 (∃ (a32 : Option Addr) (l32 c32 : Nat), World.cell? w16 ⟨y, 4, none⟩ = some (.slice a32 l32 c32) ∧
 ((0 : Int) ≤ n3 ∧ n3 ≤ (c32 : Int)) ∧
 (∀ (b33 : Nat) (w34 : World), NewAt w16 w34 b33 #[] 3 →
 (RunF Try.prog (Builtin.append_ #[42, 42] 42 #[.slice (some ⟨b33, 0, none⟩) 0 0, .slice a32 (Int.toNat n3) c32]) w34 [.leaf .slice] fun (a35 : Option Addr) (l35 c35 : Nat) (w36 : World) =>
 ∃ (a37 : Option Addr) (l37 c37 : Nat), World.cell? w36 ⟨y, 4, none⟩ = some (.slice a37 l37 c37) ∧
 ((0 : Int) ≤ (n3 + 1) ∧ (n3 + 1) ≤ (l37 : Int)) ∧
 RunF Try.prog (Builtin.append_ #[42, 42] 42 #[.slice a35 l35 c35, .slice (Adv a37 c37 (Int.toNat (n3 + 1)) 1) (l37 - Int.toNat (n3 + 1)) (c37 - Int.toNat (n3 + 1))]) w36 [.leaf .slice] fun (a38 : Option Addr) (l38 c38 : Nat) (w39 : World) =>
 May w39 ⟨y, 4, none⟩ ∧ ∀ w40 : World, SetC w39 w40 ⟨y, 4, none⟩ (.slice a38 l38 c38) →
 M14 w40) ∧
 (∃ (a41 : Option Addr) (l41 c41 : Nat), World.cell? w34 ⟨y, 4, none⟩ = some (.slice a41 l41 c41) ∧
 ((0 : Int) ≤ (n3 + 1) ∧ (n3 + 1) ≤ (l41 : Int)) ∧
 RunF Try.prog (Builtin.append_ #[42, 42] 42 #[.slice (some ⟨b33, 0, none⟩) 0 0, .slice a32 (Int.toNat n3) c32]) w34 [.leaf .slice] fun (a42 : Option Addr) (l42 c42 : Nat) (w43 : World) =>
 RunF Try.prog (Builtin.append_ #[42, 42] 42 #[.slice a42 l42 c42, .slice (Adv a41 c41 (Int.toNat (n3 + 1)) 1) (l41 - Int.toNat (n3 + 1)) (c41 - Int.toNat (n3 + 1))]) w43 [.leaf .slice] fun (a44 : Option Addr) (l44 c44 : Nat) (w45 : World) =>
 May w45 ⟨y, 4, none⟩ ∧ ∀ w46 : World, SetC w45 w46 ⟨y, 4, none⟩ (.slice a44 l44 c44) →
 M14 w46)) ∧
 (∃ (a47 : Option Addr) (l47 c47 : Nat), World.cell? w16 ⟨y, 4, none⟩ = some (.slice a47 l47 c47) ∧
 ((0 : Int) ≤ (n3 + 1) ∧ (n3 + 1) ≤ (l47 : Int)) ∧
 ∀ (b48 : Nat) (w49 : World), NewAt w16 w49 b48 #[] 3 →
 RunF Try.prog (Builtin.append_ #[42, 42] 42 #[.slice (some ⟨b48, 0, none⟩) 0 0, .slice a32 (Int.toNat n3) c32]) w49 [.leaf .slice] fun (a50 : Option Addr) (l50 c50 : Nat) (w51 : World) =>
 RunF Try.prog (Builtin.append_ #[42, 42] 42 #[.slice a50 l50 c50, .slice (Adv a47 c47 (Int.toNat (n3 + 1)) 1) (l47 - Int.toNat (n3 + 1)) (c47 - Int.toNat (n3 + 1))]) w51 [.leaf .slice] fun (a52 : Option Addr) (l52 c52 : Nat) (w53 : World) =>
 May w53 ⟨y, 4, none⟩ ∧ ∀ w54 : World, SetC w53 w54 ⟨y, 4, none⟩ (.slice a52 l52 c52) →
 M14 w54)) ∧
 (∃ (a55 : Option Addr) (l55 c55 : Nat), World.cell? w16 ⟨y, 4, none⟩ = some (.slice a55 l55 c55) ∧
 ((0 : Int) ≤ (n3 + 1) ∧ (n3 + 1) ≤ (l55 : Int)) ∧
 (∀ (b56 : Nat) (w57 : World), NewAt w16 w57 b56 #[] 3 →
 ∃ (a58 : Option Addr) (l58 c58 : Nat), World.cell? w57 ⟨y, 4, none⟩ = some (.slice a58 l58 c58) ∧
 ((0 : Int) ≤ n3 ∧ n3 ≤ (c58 : Int)) ∧
 RunF Try.prog (Builtin.append_ #[42, 42] 42 #[.slice (some ⟨b56, 0, none⟩) 0 0, .slice a58 (Int.toNat n3) c58]) w57 [.leaf .slice] fun (a59 : Option Addr) (l59 c59 : Nat) (w60 : World) =>
 RunF Try.prog (Builtin.append_ #[42, 42] 42 #[.slice a59 l59 c59, .slice (Adv a55 c55 (Int.toNat (n3 + 1)) 1) (l55 - Int.toNat (n3 + 1)) (c55 - Int.toNat (n3 + 1))]) w60 [.leaf .slice] fun (a61 : Option Addr) (l61 c61 : Nat) (w62 : World) =>
 May w62 ⟨y, 4, none⟩ ∧ ∀ w63 : World, SetC w62 w63 ⟨y, 4, none⟩ (.slice a61 l61 c61) →
 M14 w63) ∧
 (∃ (a64 : Option Addr) (l64 c64 : Nat), World.cell? w16 ⟨y, 4, none⟩ = some (.slice a64 l64 c64) ∧
 ((0 : Int) ≤ n3 ∧ n3 ≤ (c64 : Int)) ∧
 ∀ (b65 : Nat) (w66 : World), NewAt w16 w66 b65 #[] 3 →
 RunF Try.prog (Builtin.append_ #[42, 42] 42 #[.slice (some ⟨b65, 0, none⟩) 0 0, .slice a64 (Int.toNat n3) c64]) w66 [.leaf .slice] fun (a67 : Option Addr) (l67 c67 : Nat) (w68 : World) =>
 RunF Try.prog (Builtin.append_ #[42, 42] 42 #[.slice a67 l67 c67, .slice (Adv a55 c55 (Int.toNat (n3 + 1)) 1) (l55 - Int.toNat (n3 + 1)) (c55 - Int.toNat (n3 + 1))]) w68 [.leaf .slice] fun (a69 : Option Addr) (l69 c69 : Nat) (w70 : World) =>
 May w70 ⟨y, 4, none⟩ ∧ ∀ w71 : World, SetC w70 w71 ⟨y, 4, none⟩ (.slice a69 l69 c69) →
 M14 w71))) ∧
 ∀ (_ : Env) (w15 : World), M14 w15 →
 ∀ w72 : World, Drew w15 w72 →
 Fit .i64 (n3 + 1) ∧
 (∀ (b73 : Nat) (w74 : World), NewAt w72 w74 b73 #[] 42 →
 ∃ (a75 : Option Addr) (l75 c75 : Nat), World.cell? w74 ⟨y, 5, none⟩ = some (.slice a75 l75 c75) ∧
 ((0 : Int) ≤ n3 ∧ n3 ≤ (c75 : Int)) ∧
 (RunF Try.prog (Builtin.append_ #[126, 126] 126 #[.slice (some ⟨b73, 0, none⟩) 0 0, .slice a75 (Int.toNat n3) c75]) w74 [.leaf .slice] fun (a76 : Option Addr) (l76 c76 : Nat) (w77 : World) =>
 ∃ (a78 : Option Addr) (l78 c78 : Nat), World.cell? w77 ⟨y, 5, none⟩ = some (.slice a78 l78 c78) ∧
 ((0 : Int) ≤ (n3 + 1) ∧ (n3 + 1) ≤ (l78 : Int)) ∧
 RunF Try.prog (Builtin.append_ #[126, 126] 126 #[.slice a76 l76 c76, .slice (Adv a78 c78 (Int.toNat (n3 + 1)) 1) (l78 - Int.toNat (n3 + 1)) (c78 - Int.toNat (n3 + 1))]) w77 [.leaf .slice] fun (a79 : Option Addr) (l79 c79 : Nat) (w80 : World) =>
 May w80 ⟨y, 5, none⟩ ∧ ∀ w81 : World, SetC w80 w81 ⟨y, 5, none⟩ (.slice a79 l79 c79) →
 K (decide ((n8 : Int) = 0)) w81) ∧
 (∃ (a82 : Option Addr) (l82 c82 : Nat), World.cell? w74 ⟨y, 5, none⟩ = some (.slice a82 l82 c82) ∧
 ((0 : Int) ≤ (n3 + 1) ∧ (n3 + 1) ≤ (l82 : Int)) ∧
 RunF Try.prog (Builtin.append_ #[126, 126] 126 #[.slice (some ⟨b73, 0, none⟩) 0 0, .slice a75 (Int.toNat n3) c75]) w74 [.leaf .slice] fun (a83 : Option Addr) (l83 c83 : Nat) (w84 : World) =>
 RunF Try.prog (Builtin.append_ #[126, 126] 126 #[.slice a83 l83 c83, .slice (Adv a82 c82 (Int.toNat (n3 + 1)) 1) (l82 - Int.toNat (n3 + 1)) (c82 - Int.toNat (n3 + 1))]) w84 [.leaf .slice] fun (a85 : Option Addr) (l85 c85 : Nat) (w86 : World) =>
 May w86 ⟨y, 5, none⟩ ∧ ∀ w87 : World, SetC w86 w87 ⟨y, 5, none⟩ (.slice a85 l85 c85) →
 K (decide ((n8 : Int) = 0)) w87)) ∧
 (∃ (a88 : Option Addr) (l88 c88 : Nat), World.cell? w72 ⟨y, 5, none⟩ = some (.slice a88 l88 c88) ∧
 ((0 : Int) ≤ n3 ∧ n3 ≤ (c88 : Int)) ∧
 (∀ (b89 : Nat) (w90 : World), NewAt w72 w90 b89 #[] 42 →
 (RunF Try.prog (Builtin.append_ #[126, 126] 126 #[.slice (some ⟨b89, 0, none⟩) 0 0, .slice a88 (Int.toNat n3) c88]) w90 [.leaf .slice] fun (a91 : Option Addr) (l91 c91 : Nat) (w92 : World) =>
 ∃ (a93 : Option Addr) (l93 c93 : Nat), World.cell? w92 ⟨y, 5, none⟩ = some (.slice a93 l93 c93) ∧
 ((0 : Int) ≤ (n3 + 1) ∧ (n3 + 1) ≤ (l93 : Int)) ∧
 RunF Try.prog (Builtin.append_ #[126, 126] 126 #[.slice a91 l91 c91, .slice (Adv a93 c93 (Int.toNat (n3 + 1)) 1) (l93 - Int.toNat (n3 + 1)) (c93 - Int.toNat (n3 + 1))]) w92 [.leaf .slice] fun (a94 : Option Addr) (l94 c94 : Nat) (w95 : World) =>
 May w95 ⟨y, 5, none⟩ ∧ ∀ w96 : World, SetC w95 w96 ⟨y, 5, none⟩ (.slice a94 l94 c94) →
 K (decide ((n8 : Int) = 0)) w96) ∧
 (∃ (a97 : Option Addr) (l97 c97 : Nat), World.cell? w90 ⟨y, 5, none⟩ = some (.slice a97 l97 c97) ∧
 ((0 : Int) ≤ (n3 + 1) ∧ (n3 + 1) ≤ (l97 : Int)) ∧
 RunF Try.prog (Builtin.append_ #[126, 126] 126 #[.slice (some ⟨b89, 0, none⟩) 0 0, .slice a88 (Int.toNat n3) c88]) w90 [.leaf .slice] fun (a98 : Option Addr) (l98 c98 : Nat) (w99 : World) =>
 RunF Try.prog (Builtin.append_ #[126, 126] 126 #[.slice a98 l98 c98, .slice (Adv a97 c97 (Int.toNat (n3 + 1)) 1) (l97 - Int.toNat (n3 + 1)) (c97 - Int.toNat (n3 + 1))]) w99 [.leaf .slice] fun (a100 : Option Addr) (l100 c100 : Nat) (w101 : World) =>
 May w101 ⟨y, 5, none⟩ ∧ ∀ w102 : World, SetC w101 w102 ⟨y, 5, none⟩ (.slice a100 l100 c100) →
 K (decide ((n8 : Int) = 0)) w102)) ∧
 (∃ (a103 : Option Addr) (l103 c103 : Nat), World.cell? w72 ⟨y, 5, none⟩ = some (.slice a103 l103 c103) ∧
 ((0 : Int) ≤ (n3 + 1) ∧ (n3 + 1) ≤ (l103 : Int)) ∧
 ∀ (b104 : Nat) (w105 : World), NewAt w72 w105 b104 #[] 42 →
 RunF Try.prog (Builtin.append_ #[126, 126] 126 #[.slice (some ⟨b104, 0, none⟩) 0 0, .slice a88 (Int.toNat n3) c88]) w105 [.leaf .slice] fun (a106 : Option Addr) (l106 c106 : Nat) (w107 : World) =>
 RunF Try.prog (Builtin.append_ #[126, 126] 126 #[.slice a106 l106 c106, .slice (Adv a103 c103 (Int.toNat (n3 + 1)) 1) (l103 - Int.toNat (n3 + 1)) (c103 - Int.toNat (n3 + 1))]) w107 [.leaf .slice] fun (a108 : Option Addr) (l108 c108 : Nat) (w109 : World) =>
 May w109 ⟨y, 5, none⟩ ∧ ∀ w110 : World, SetC w109 w110 ⟨y, 5, none⟩ (.slice a108 l108 c108) →
 K (decide ((n8 : Int) = 0)) w110)) ∧
 (∃ (a111 : Option Addr) (l111 c111 : Nat), World.cell? w72 ⟨y, 5, none⟩ = some (.slice a111 l111 c111) ∧
 ((0 : Int) ≤ (n3 + 1) ∧ (n3 + 1) ≤ (l111 : Int)) ∧
 (∀ (b112 : Nat) (w113 : World), NewAt w72 w113 b112 #[] 42 →
 ∃ (a114 : Option Addr) (l114 c114 : Nat), World.cell? w113 ⟨y, 5, none⟩ = some (.slice a114 l114 c114) ∧
 ((0 : Int) ≤ n3 ∧ n3 ≤ (c114 : Int)) ∧
 RunF Try.prog (Builtin.append_ #[126, 126] 126 #[.slice (some ⟨b112, 0, none⟩) 0 0, .slice a114 (Int.toNat n3) c114]) w113 [.leaf .slice] fun (a115 : Option Addr) (l115 c115 : Nat) (w116 : World) =>
 RunF Try.prog (Builtin.append_ #[126, 126] 126 #[.slice a115 l115 c115, .slice (Adv a111 c111 (Int.toNat (n3 + 1)) 1) (l111 - Int.toNat (n3 + 1)) (c111 - Int.toNat (n3 + 1))]) w116 [.leaf .slice] fun (a117 : Option Addr) (l117 c117 : Nat) (w118 : World) =>
 May w118 ⟨y, 5, none⟩ ∧ ∀ w119 : World, SetC w118 w119 ⟨y, 5, none⟩ (.slice a117 l117 c117) →
 K (decide ((n8 : Int) = 0)) w119) ∧
 (∃ (a120 : Option Addr) (l120 c120 : Nat), World.cell? w72 ⟨y, 5, none⟩ = some (.slice a120 l120 c120) ∧
 ((0 : Int) ≤ n3 ∧ n3 ≤ (c120 : Int)) ∧
 ∀ (b121 : Nat) (w122 : World), NewAt w72 w122 b121 #[] 42 →
 RunF Try.prog (Builtin.append_ #[126, 126] 126 #[.slice (some ⟨b121, 0, none⟩) 0 0, .slice a120 (Int.toNat n3) c120]) w122 [.leaf .slice] fun (a123 : Option Addr) (l123 c123 : Nat) (w124 : World) =>
 RunF Try.prog (Builtin.append_ #[126, 126] 126 #[.slice a123 l123 c123, .slice (Adv a111 c111 (Int.toNat (n3 + 1)) 1) (l111 - Int.toNat (n3 + 1)) (c111 - Int.toNat (n3 + 1))]) w124 [.leaf .slice] fun (a125 : Option Addr) (l125 c125 : Nat) (w126 : World) =>
 May w126 ⟨y, 5, none⟩ ∧ ∀ w127 : World, SetC w126 w127 ⟨y, 5, none⟩ (.slice a125 l125 c125) →
 K (decide ((n8 : Int) = 0)) w127))
theorem r_f162 (y : Nat) (xa : Int) (xb : Int) (xc : Int) (xd : Int) (xe : Int) (ref : Int) (w : World) (K : Bool → World → Prop) (h : V_f162 y xa xb xc xd xe ref w K) : C162 (some ⟨y, 0, none⟩) xa xb xc xd xe ref w K :=
  @calls_of_eq Try.prog 162 Try.f162 [.pointer (some ⟨y, 0, none⟩), .agg #[.int .i64 xa, .int .i64 xb, .int .i64 xc, .int .i64 xd, .int .i64 xe], .int .i64 ref] w [.leaf .bool] K _ (cfg true (fun _ => [])) (fun _ => none) (fun n => bif Nat.beq n 5 then some ⟨[], []⟩ else bif Nat.beq n 6 then some ⟨[], []⟩ else none) (fun n => bif Nat.beq n 2 then some 7 else none) Try.func162 (by kernel_rfl) (by kernel_rfl) h

/-- (*gneiss/gneisslaw8.play).act -/
def V_f92 (y : Nat) (xa : Int) (xb : Int) (xc : Int) (xd : Int) (xe : Int) (w : World) (K : Bool → World → Prop) : Prop :=
 ∀ (b1 : Nat) (w2 : World), NewAt w w2 b1 #[.int .i64 xa, .int .i64 xb, .int .i64 xc, .int .i64 xd, .int .i64 xe] 130 →
 ∃ (n3 : Int), World.cell? w2 ⟨b1, 2, none⟩ = some (.int .i64 n3) ∧
 ∃ M4 : Int → World → Prop,
 (∃ (a7 : Option Addr) (l7 c7 : Nat), World.cell? w2 ⟨y, 4, none⟩ = some (.slice a7 l7 c7) ∧
 IfB (decide ((0 : Int) < (l7 : Int)))
 (∃ (n8 : Int), World.cell? w2 ⟨b1, 2, none⟩ = some (.int .i64 n8) ∧
 IfB (decide ((0 : Int) ≤ n8))
 (∀ w9 : World, Drew w2 w9 →
 ∃ (a10 : Option Addr) (l10 c10 : Nat), World.cell? w9 ⟨y, 4, none⟩ = some (.slice a10 l10 c10) ∧
 ∃ (n11 : Int), World.cell? w9 ⟨b1, 2, none⟩ = some (.int .i64 n11) ∧
 ∃ (a12 : Option Addr) (l12 c12 : Nat), World.cell? w9 ⟨y, 4, none⟩ = some (.slice a12 l12 c12) ∧
 ((l12 : Int) : Int) ≠ 0 ∧
 PtrOK a10 fun (p13 : Addr) =>
 ((0 : Int) ≤ (Int.tmod n11 (l12 : Int)) ∧ (Int.tmod n11 (l12 : Int)) < (l10 : Int)) ∧
 ∃ (n14 : Int), World.cell? w9 (Addr.add p13 (Int.toNat (Int.tmod n11 (l12 : Int)) * 1)) = some (.int .i64 n14) ∧
 M4 n14 w9)
 (M4 n3 w2))
 (M4 n3 w2)) ∧
 ∀ (_ : Env) (n5 : Int) (w6 : World), M4 n5 w6 →
 ∃ (n15 : Int), World.cell? w6 ⟨b1, 0, none⟩ = some (.int .i64 n15) ∧
 IfB (decide ((n15 : Int) < 2))
 (∃ (n16 : Int), ∃ (n17 : Int), ∃ (n18 : Int), ∃ (n19 : Int), ∃ (n20 : Int), CellsAt w6 ⟨b1, 0, none⟩ [.int .i64 n16, .int .i64 n17, .int .i64 n18, .int .i64 n19, .int .i64 n20] ∧
 C160 (some ⟨y, 0, none⟩) n16 n17 n18 n19 n20 w6 fun b21 w22 =>
 K b21 w22)
 (∃ (n23 : Int), World.cell? w6 ⟨b1, 0, none⟩ = some (.int .i64 n23) ∧
 IfB (decide ((n23 : Int) < 6))
 (∃ (n24 : Int), ∃ (n25 : Int), ∃ (n26 : Int), ∃ (n27 : Int), ∃ (n28 : Int), CellsAt w6 ⟨b1, 0, none⟩ [.int .i64 n24, .int .i64 n25, .int .i64 n26, .int .i64 n27, .int .i64 n28] ∧
 C161 (some ⟨y, 0, none⟩) n24 n25 n26 n27 n28 n5 w6 fun b29 w30 =>
 K b29 w30)
 (∃ (n31 : Int), World.cell? w6 ⟨b1, 0, none⟩ = some (.int .i64 n31) ∧
 IfB (decide ((n31 : Int) = 6))
 (∃ (n32 : Int), ∃ (n33 : Int), ∃ (n34 : Int), ∃ (n35 : Int), ∃ (n36 : Int), CellsAt w6 ⟨b1, 0, none⟩ [.int .i64 n32, .int .i64 n33, .int .i64 n34, .int .i64 n35, .int .i64 n36] ∧
 C162 (some ⟨y, 0, none⟩) n32 n33 n34 n35 n36 n5 w6 fun b37 w38 =>
 K b37 w38)
 (∃ (q39 : Option Addr), World.cell? w6 ⟨y, 0, none⟩ = some (.pointer q39) ∧
 C163 q39 n5 w6 fun n40 n41 w42 =>
 C93 (some ⟨y, 0, none⟩) n5 w42 fun n43 w44 =>
 IfB (decide ((n43 : Int) < 0))
 (IfB (decide ((n41 : Int) = 803))
 (K (decide ((n40 : Int) = 0)) w44)
 (K false w44))
 (∀ w45 : World, Drew w44 w45 →
 IfB (decide ((n41 : Int) = 0))
 ((∃ (a46 : Option Addr) (l46 c46 : Nat), World.cell? w45 ⟨y, 5, none⟩ = some (.slice a46 l46 c46) ∧
 C93 (some ⟨y, 0, none⟩) n5 w45 fun n47 w48 =>
 PtrOK a46 fun (p49 : Addr) =>
 ((0 : Int) ≤ n47 ∧ n47 < (l46 : Int)) ∧
 ∃ (a50 : Option Addr) (l50 c50 : Nat), World.cell? w48 (Addr.add p49 (Int.toNat n47 * 1)) = some (.slice a50 l50 c50) ∧
 K (decide ((n40 : Int) = (l50 : Int))) w48) ∧
 (C93 (some ⟨y, 0, none⟩) n5 w45 fun n51 w52 =>
 ∃ (a53 : Option Addr) (l53 c53 : Nat), World.cell? w52 ⟨y, 5, none⟩ = some (.slice a53 l53 c53) ∧
 PtrOK a53 fun (p54 : Addr) =>
 ((0 : Int) ≤ n51 ∧ n51 < (l53 : Int)) ∧
 ∃ (a55 : Option Addr) (l55 c55 : Nat), World.cell? w52 (Addr.add p54 (Int.toNat n51 * 1)) = some (.slice a55 l55 c55) ∧
 K (decide ((n40 : Int) = (l55 : Int))) w52))
 ((K false w45) ∧
 (K false w45))))))
theorem r_f92 (y : Nat) (xa : Int) (xb : Int) (xc : Int) (xd : Int) (xe : Int) (w : World) (K : Bool → World → Prop) (h : V_f92 y xa xb xc xd xe w K) : C92 (some ⟨y, 0, none⟩) xa xb xc xd xe w K :=
  @calls_of_eq Try.prog 92 Try.f92 [.pointer (some ⟨y, 0, none⟩), .agg #[.int .i64 xa, .int .i64 xb, .int .i64 xc, .int .i64 xd, .int .i64 xe]] w [.leaf .bool] K _ (cfg true (fun _ => [])) (fun _ => none) (fun n => bif Nat.beq n 4 then some ⟨[5], [.int .i64]⟩ else none) (fun n => bif Nat.beq n 3 then some 15 else none) Try.func92 (by kernel_rfl) (by kernel_rfl) h

/-- gneiss/gneisslaw8.ObjectActs -/
def V_f20 (count : Int) (actsa : Option Addr) (actsl actsc : Nat) (w : World) (K : Bool → World → Prop) : Prop :=
 C86 (IntKind.wrap .i64 (1 + (bits .and .i64 count 63))) w fun q1 q2 q3 b4 w5 =>
 IfB (!b4)
 (K false w5)
 (∀ (b6 : Nat) (w7 : World), NewAt w5 w7 b6 #[.pointer q1, .pointer q2, .pointer q3, .int .i64 (IntKind.wrap .i64 (1 + (bits .and .i64 count 63))), .slice none 0 0, .slice none 0 0] 128 →
 ∃ M8 : World → Prop,
 (∃ (I10 : Int → World → Prop) (m11 : Int → World → Nat),
 I10 0 w7 ∧
 ∀ (_ : Env) (n12 : Int) (w13 : World), I10 n12 w13 →
 IfB (decide ((n12 : Int) < (actsl : Int)))
 (IfB (decide ((n12 : Int) < 300))
 (PtrOK actsa fun (p14 : Addr) =>
 ((0 : Int) ≤ n12 ∧ n12 < (actsl : Int)) ∧
 ∃ (n15 : Int), ∃ (n16 : Int), ∃ (n17 : Int), ∃ (n18 : Int), ∃ (n19 : Int), CellsAt w13 (Addr.add p14 (Int.toNat n12 * 5)) [.int .i64 n15, .int .i64 n16, .int .i64 n17, .int .i64 n18, .int .i64 n19] ∧
 C92 (some ⟨b6, 0, none⟩) n15 n16 n17 n18 n19 w13 fun b20 w21 =>
 IfB (!b20)
 (K false w21)
 (∃ (q22 : Option Addr), World.cell? w21 ⟨b6, 0, none⟩ = some (.pointer q22) ∧
 C91 q22 w21 fun a23 l23 c23 w24 =>
 ∃ (I25 : Int → World → Prop) (m26 : Int → World → Nat),
 I25 0 w24 ∧
 ∀ (_ : Env) (n27 : Int) (w28 : World), I25 n27 w28 →
 IfB (decide ((n27 : Int) < (l23 : Int)))
 (∀ w29 : World, Drew w28 w29 →
 PtrOK a23 fun (p30 : Addr) =>
 ((0 : Int) ≤ n27 ∧ n27 < (l23 : Int)) ∧
 ∃ (n31 : Int), World.cell? w29 (Addr.add p30 (Int.toNat n27 * 1)) = some (.int .i64 n31) ∧
 C93 (some ⟨b6, 0, none⟩) n31 w29 fun n32 w33 =>
 IfB (decide ((n32 : Int) < 0))
 (K false w33)
 (IfB (decide ((0 : Int) < n27))
 (PtrOK a23 fun (p34 : Addr) =>
 ((0 : Int) ≤ (IntKind.wrap .i64 (n27 - 1)) ∧ (IntKind.wrap .i64 (n27 - 1)) < (l23 : Int)) ∧
 ∃ (n35 : Int), World.cell? w33 (Addr.add p34 (Int.toNat (IntKind.wrap .i64 (n27 - 1)) * 1)) = some (.int .i64 n35) ∧
 PtrOK a23 fun (p36 : Addr) =>
 ((0 : Int) ≤ n27 ∧ n27 < (l23 : Int)) ∧
 ∃ (n37 : Int), World.cell? w33 (Addr.add p36 (Int.toNat n27 * 1)) = some (.int .i64 n37) ∧
 IfB (decide ((n37 : Int) ≤ n35))
 (K false w33)
 ((I25 (IntKind.wrap .i64 (n27 + 1)) w33 ∧
 m26 (IntKind.wrap .i64 (n27 + 1)) w33 < m26 n27 w28)))
 ((I25 (IntKind.wrap .i64 (n27 + 1)) w33 ∧
 m26 (IntKind.wrap .i64 (n27 + 1)) w33 < m26 n27 w28))))
 (∃ (a38 : Option Addr) (l38 c38 : Nat), World.cell? w28 ⟨b6, 4, none⟩ = some (.slice a38 l38 c38) ∧
 IfB (!decide (((l23 : Int) : Int) = (l38 : Int)))
 (K false w28)
 (C56 a23 l23 c23 w28 fun w39 =>
 (I10 (IntKind.wrap .i64 (n12 + 1)) w39 ∧
 m11 (IntKind.wrap .i64 (n12 + 1)) w39 < m11 n12 w13)))))
 (M8 w13))
 (M8 w13)) ∧
 ∀ (_ : Env) (w9 : World), M8 w9 →
 ∃ (I40 : Int → World → Prop) (m41 : Int → World → Nat),
 I40 0 w9 ∧
 ∀ (_ : Env) (n42 : Int) (w43 : World), I40 n42 w43 →
 ∃ (a44 : Option Addr) (l44 c44 : Nat), World.cell? w43 ⟨b6, 4, none⟩ = some (.slice a44 l44 c44) ∧
 IfB (decide ((n42 : Int) < (l44 : Int)))
 (∃ (a45 : Option Addr) (l45 c45 : Nat), World.cell? w43 ⟨b6, 4, none⟩ = some (.slice a45 l45 c45) ∧
 PtrOK a45 fun (p46 : Addr) =>
 ((0 : Int) ≤ n42 ∧ n42 < (l45 : Int)) ∧
 ∃ (n47 : Int), World.cell? w43 (Addr.add p46 (Int.toNat n42 * 1)) = some (.int .i64 n47) ∧
 C90 q1 0 n47 w43 fun n48 w49 =>
 IfB (!decide ((n48 : Int) = 0))
 (K false w49)
 ((I40 (IntKind.wrap .i64 (n42 + 1)) w49 ∧
 m41 (IntKind.wrap .i64 (n42 + 1)) w49 < m41 n42 w43)))
 (C50 q2 w43 fun a50 l50 c50 w51 =>
 IfB (decide (((l50 : Int) : Int) = 0))
 (C85  w51 fun b52 w53 =>
 K b52 w53)
 (K false w51)))
theorem r_f20 (count : Int) (actsa : Option Addr) (actsl actsc : Nat) (w : World) (K : Bool → World → Prop) (h : V_f20 count actsa actsl actsc w K) : C20 count actsa actsl actsc w K :=
  @calls_of_eq Try.prog 20 Try.f20 [.int .i64 count, .slice actsa actsl actsc] w [.leaf .bool] K _ (cfg false (fun _ => [])) (fun n => bif Nat.beq n 0 then some ⟨[11], [.int .i64]⟩ else bif Nat.beq n 2 then some ⟨[13], [.int .i64]⟩ else bif Nat.beq n 4 then some ⟨[14], [.int .i64]⟩ else none) (fun n => bif Nat.beq n 20 then some ⟨[], []⟩ else none) (fun _ => none) Try.func20 (by kernel_rfl) (by kernel_rfl) h

end Go.Proofs.Ytfpghcdjfiggiaa.V
