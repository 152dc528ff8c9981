/- Readings of the program's functions. No condition. -/
import Derived.Test.YtfpghcdjfiggiaaGCfg
namespace Go.Proofs.Ytfpghcdjfiggiaa.V
open Go
set_option maxRecDepth 100000
set_option linter.unusedVariables false
/-- (*gneiss/gneisslaw7.play).room -/
def V_f78 (y : Nat) (w : World) (K : Int → World → Prop) : Prop :=
 ∃ (n1 : Int), World.cell? w ⟨y, 2, none⟩ = some (.int .i64 n1) ∧
 ∃ (I2 : Int → Int → World → Prop) (m3 : Int → Int → World → Nat),
 I2 n1 0 w ∧
 ∀ (_ : Env) (n4 : Int) (n5 : Int) (w6 : World), I2 n4 n5 w6 →
 ∃ (a7 : Option Addr) (l7 c7 : Nat), World.cell? w6 ⟨y, 3, none⟩ = some (.slice a7 l7 c7) ∧
 IfB (decide ((n5 : Int) < (l7 : Int)))
 (∃ (a8 : Option Addr) (l8 c8 : Nat), World.cell? w6 ⟨y, 3, none⟩ = some (.slice a8 l8 c8) ∧
 PtrOK a8 fun (p9 : Addr) =>
 ((0 : Int) ≤ n5 ∧ n5 < (l8 : Int)) ∧
 ∃ (a10 : Option Addr) (l10 c10 : Nat), World.cell? w6 (Addr.add (Addr.add p9 (Int.toNat n5 * 4)) 1) = some (.slice a10 l10 c10) ∧
 Fit .i64 (n4 - (l10 : Int)) ∧
 Fit .i64 ((n4 - (l10 : Int)) - 4) ∧
 Fit .i64 (n5 + 1) ∧
 (I2 ((n4 - (l10 : Int)) - 4) (n5 + 1) w6 ∧
 m3 ((n4 - (l10 : Int)) - 4) (n5 + 1) w6 < m3 n4 n5 w6))
 (K n4 w6)
theorem r_f78 (y : Nat) (w : World) (K : Int → World → Prop) (h : V_f78 y w K) : C78 (some ⟨y, 0, none⟩) w K :=
  @calls_of_eq Try.prog 78 Try.f78 [.pointer (some ⟨y, 0, none⟩)] w [.leaf (.int .i64)] K _ (cfg true (fun _ => [])) (fun n => bif Nat.beq n 0 then some ⟨[3, 4], [.int .i64, .int .i64]⟩ else none) (fun _ => none) (fun _ => none) Try.func78 (by kernel_rfl) (by kernel_rfl) h

/-- (*gneiss/gneisslaw7.play).over -/
def V_f174 (y : Nat) (w : World) (K : World → Prop) : Prop :=
 May w ⟨y, 5, none⟩ ∧ ∀ w1 : World, SetC w w1 ⟨y, 5, none⟩ (.bool false) →
 ∃ (I2 : Option Addr → Nat → Nat → Int → World → Prop) (m3 : Option Addr → Nat → Nat → Int → World → Nat),
 I2 none 0 0 0 w1 ∧
 ∀ (_ : Env) (a4 : Option Addr) (l4 c4 : Nat) (n5 : Int) (w6 : World), I2 a4 l4 c4 n5 w6 →
 ∃ (a7 : Option Addr) (l7 c7 : Nat), World.cell? w6 ⟨y, 3, none⟩ = some (.slice a7 l7 c7) ∧
 IfB (decide ((n5 : Int) < (l7 : Int)))
 (∀ w8 : World, Drew w6 w8 →
 ∃ (a9 : Option Addr) (l9 c9 : Nat), World.cell? w8 ⟨y, 3, none⟩ = some (.slice a9 l9 c9) ∧
 PtrOK a9 fun (p10 : Addr) =>
 ((0 : Int) ≤ n5 ∧ n5 < (l9 : Int)) ∧
 ∃ (b11 : Bool), World.cell? w8 (Addr.add (Addr.add p10 (Int.toNat n5 * 4)) 2) = some (.bool b11) ∧
 IfB (!b11)
 (∃ (a12 : Option Addr) (l12 c12 : Nat), World.cell? w8 ⟨y, 3, none⟩ = some (.slice a12 l12 c12) ∧
 PtrOK a12 fun (p13 : Addr) =>
 ((0 : Int) ≤ n5 ∧ n5 < (l12 : Int)) ∧
 ∃ (n14 : Int), ∃ (a15 : Option Addr) (l15 c15 : Nat), ∃ (b16 : Bool), ∃ (n17 : Int), CellsAt w8 (Addr.add p13 (Int.toNat n5 * 4)) [.int .i64 n14, .slice a15 l15 c15, .bool b16, .int .i64 n17] ∧
 ∀ (b18 : Nat) (w19 : World), NewAt w8 w19 b18 #[.int .i64 n14, .slice a15 l15 c15, .bool b16, .int .i64 n17] 113 →
 RunF Try.prog (Builtin.append_ #[106, 106] 106 #[.slice a4 l4 c4, .slice (some ⟨b18, 0, none⟩) 1 1]) w19 [.leaf .slice] fun (a20 : Option Addr) (l20 c20 : Nat) (w21 : World) =>
 Fit .i64 (n5 + 1) ∧
 (I2 a20 l20 c20 (n5 + 1) w21 ∧
 m3 a20 l20 c20 (n5 + 1) w21 < m3 a4 l4 c4 n5 w6))
 (∃ (a22 : Option Addr) (l22 c22 : Nat), World.cell? w8 ⟨y, 3, none⟩ = some (.slice a22 l22 c22) ∧
 PtrOK a22 fun (p23 : Addr) =>
 ((0 : Int) ≤ n5 ∧ n5 < (l22 : Int)) ∧
 ∃ (n24 : Int), World.cell? w8 (Addr.add (Addr.add p23 (Int.toNat n5 * 4)) 3) = some (.int .i64 n24) ∧
 ∃ (n25 : Int), World.cell? w8 ⟨y, 4, none⟩ = some (.int .i64 n25) ∧
 IfB (decide ((n25 : Int) ≤ n24))
 (∃ (a26 : Option Addr) (l26 c26 : Nat), World.cell? w8 ⟨y, 3, none⟩ = some (.slice a26 l26 c26) ∧
 PtrOK a26 fun (p27 : Addr) =>
 ((0 : Int) ≤ n5 ∧ n5 < (l26 : Int)) ∧
 ∃ (n28 : Int), ∃ (a29 : Option Addr) (l29 c29 : Nat), ∃ (b30 : Bool), ∃ (n31 : Int), CellsAt w8 (Addr.add p27 (Int.toNat n5 * 4)) [.int .i64 n28, .slice a29 l29 c29, .bool b30, .int .i64 n31] ∧
 ∀ (b32 : Nat) (w33 : World), NewAt w8 w33 b32 #[.int .i64 n28, .slice a29 l29 c29, .bool b30, .int .i64 n31] 113 →
 RunF Try.prog (Builtin.append_ #[106, 106] 106 #[.slice a4 l4 c4, .slice (some ⟨b32, 0, none⟩) 1 1]) w33 [.leaf .slice] fun (a34 : Option Addr) (l34 c34 : Nat) (w35 : World) =>
 Fit .i64 (n5 + 1) ∧
 (I2 a34 l34 c34 (n5 + 1) w35 ∧
 m3 a34 l34 c34 (n5 + 1) w35 < m3 a4 l4 c4 n5 w6))
 (Fit .i64 (n5 + 1) ∧
 (I2 a4 l4 c4 (n5 + 1) w8 ∧
 m3 a4 l4 c4 (n5 + 1) w8 < m3 a4 l4 c4 n5 w6))))
 (May w6 ⟨y, 3, none⟩ ∧ ∀ w36 : World, SetC w6 w36 ⟨y, 3, none⟩ (.slice a4 l4 c4) →
 K w36)
theorem r_f174 (y : Nat) (w : World) (K : World → Prop) (h : V_f174 y w K) : C174 (some ⟨y, 0, none⟩) w K :=
  @calls_of_eq Try.prog 174 Try.f174 [.pointer (some ⟨y, 0, none⟩)] w [] K _ (cfg true (fun _ => [])) (fun n => bif Nat.beq n 0 then some ⟨[2, 3], [.slice, .int .i64]⟩ else none) (fun _ => none) (fun n => bif Nat.beq n 5 then some 24 else none) Try.func174 (by kernel_rfl) (by kernel_rfl) h

/-- (*gneiss/gneisslaw7.play).at -/
def V_f149 (y : Nat) (id : Int) (w : World) (K : Int → World → Prop) : Prop :=
 ∃ (I1 : Int → World → Prop) (m2 : Int → World → Nat),
 I1 0 w ∧
 ∀ (_ : Env) (n3 : Int) (w4 : World), I1 n3 w4 →
 ∃ (a5 : Option Addr) (l5 c5 : Nat), World.cell? w4 ⟨y, 3, none⟩ = some (.slice a5 l5 c5) ∧
 IfB (decide ((n3 : Int) < (l5 : Int)))
 (∃ (a6 : Option Addr) (l6 c6 : Nat), World.cell? w4 ⟨y, 3, none⟩ = some (.slice a6 l6 c6) ∧
 PtrOK a6 fun (p7 : Addr) =>
 ((0 : Int) ≤ n3 ∧ n3 < (l6 : Int)) ∧
 ∃ (n8 : Int), World.cell? w4 (Addr.add (Addr.add p7 (Int.toNat n3 * 4)) 0) = some (.int .i64 n8) ∧
 IfB (decide ((n8 : Int) = id))
 (∃ (a9 : Option Addr) (l9 c9 : Nat), World.cell? w4 ⟨y, 3, none⟩ = some (.slice a9 l9 c9) ∧
 PtrOK a9 fun (p10 : Addr) =>
 ((0 : Int) ≤ n3 ∧ n3 < (l9 : Int)) ∧
 ∃ (b11 : Bool), World.cell? w4 (Addr.add (Addr.add p10 (Int.toNat n3 * 4)) 2) = some (.bool b11) ∧
 IfB (!b11)
 (K n3 w4)
 (Fit .i64 (n3 + 1) ∧
 (I1 (n3 + 1) w4 ∧
 m2 (n3 + 1) w4 < m2 n3 w4)))
 (Fit .i64 (n3 + 1) ∧
 (I1 (n3 + 1) w4 ∧
 m2 (n3 + 1) w4 < m2 n3 w4)))
 (K (-1) w4)
theorem r_f149 (y : Nat) (id : Int) (w : World) (K : Int → World → Prop) (h : V_f149 y id w K) : C149 (some ⟨y, 0, none⟩) id w K :=
  @calls_of_eq Try.prog 149 Try.f149 [.pointer (some ⟨y, 0, none⟩), .int .i64 id] w [.leaf (.int .i64)] K _ (cfg true (fun _ => [])) (fun n => bif Nat.beq n 0 then some ⟨[5], [.int .i64]⟩ else none) (fun _ => none) (fun _ => none) Try.func149 (by kernel_rfl) (by kernel_rfl) h

/-- (*gneiss/gneisslaw7.play).make -/
def V_f150 (y : Nat) (xa : Int) (xb : Int) (xc : Int) (xd : Int) (xe : Int) (w : World) (K : Bool → World → Prop) : Prop :=
 ∀ (b1 : Nat) (w2 : World), NewAt w w2 b1 #[.int .i64 xa, .int .i64 xb, .int .i64 xc, .int .i64 xd, .int .i64 xe] 111 →
 C78 (some ⟨y, 0, none⟩) w2 fun n3 w4 =>
 ∃ M5 : Int → Int → World → Prop,
 (∀ w9 : World, Drew w4 w9 →
 ∃ (q10 : Option Addr), World.cell? w9 ⟨y, 0, none⟩ = some (.pointer q10) ∧
 ∃ (n11 : Int), World.cell? w9 ⟨b1, 1, none⟩ = some (.int .i64 n11) ∧
 ∃ (n12 : Int), World.cell? w9 ⟨b1, 4, none⟩ = some (.int .i64 n12) ∧
 C69 q10 n11 n12 w9 fun n13 n14 w15 =>
 M5 n13 n14 w15) ∧
 ∀ (_ : Env) (n6 : Int) (n7 : Int) (w8 : World), M5 n6 n7 w8 →
 ∃ M16 : World → Prop,
 (∃ (n18 : Int), World.cell? w8 ⟨b1, 1, none⟩ = some (.int .i64 n18) ∧
 IfB (decide ((n18 : Int) < 0))
 (IfB (decide ((n7 : Int) = 704))
 (K (decide ((n6 : Int) = 0)) w8)
 (K false w8))
 (∃ (n19 : Int), World.cell? w8 ⟨b1, 1, none⟩ = some (.int .i64 n19) ∧
 IfB (decide ((3 : Int) ≤ n19))
 (IfB (decide ((n7 : Int) = 704))
 (K (decide ((n6 : Int) = 0)) w8)
 (K false w8))
 (∃ (n20 : Int), World.cell? w8 ⟨b1, 4, none⟩ = some (.int .i64 n20) ∧
 IfB (decide ((n20 : Int) < 0))
 (IfB (decide ((n7 : Int) = 700))
 (K (decide ((n6 : Int) = 0)) w8)
 (K false w8))
 (∃ (n21 : Int), World.cell? w8 ⟨b1, 4, none⟩ = some (.int .i64 n21) ∧
 IfB (decide ((1000 : Int) < n21))
 (IfB (decide ((n7 : Int) = 700))
 (K (decide ((n6 : Int) = 0)) w8)
 (K false w8))
 (∃ (n22 : Int), World.cell? w8 ⟨b1, 4, none⟩ = some (.int .i64 n22) ∧
 Fit .i64 (n22 + 4) ∧
 IfB (decide ((n3 : Int) < (n22 + 4)))
 (IfB (decide ((n7 : Int) = 702))
 (K (decide ((n6 : Int) = 0)) w8)
 (K false w8))
 (M16 w8)))))) ∧
 ∀ (_ : Env) (w17 : World), M16 w17 →
 ∃ M23 : World → Prop,
 (IfB (!decide ((n7 : Int) = 0))
 (K false w17)
 (IfB (decide ((n6 : Int) < 1))
 (K false w17)
 (M23 w17))) ∧
 ∀ (_ : Env) (w24 : World), M23 w24 →
 ∃ (I25 : Int → World → Prop) (m26 : Int → World → Nat),
 I25 0 w24 ∧
 ∀ (_ : Env) (n27 : Int) (w28 : World), I25 n27 w28 →
 ∃ (a29 : Option Addr) (l29 c29 : Nat), World.cell? w28 ⟨y, 3, none⟩ = some (.slice a29 l29 c29) ∧
 IfB (decide ((n27 : Int) < (l29 : Int)))
 (∃ (a30 : Option Addr) (l30 c30 : Nat), World.cell? w28 ⟨y, 3, none⟩ = some (.slice a30 l30 c30) ∧
 PtrOK a30 fun (p31 : Addr) =>
 ((0 : Int) ≤ n27 ∧ n27 < (l30 : Int)) ∧
 ∃ (n32 : Int), World.cell? w28 (Addr.add (Addr.add p31 (Int.toNat n27 * 4)) 0) = some (.int .i64 n32) ∧
 IfB (decide ((n32 : Int) = n6))
 (K false w28)
 (Fit .i64 (n27 + 1) ∧
 (I25 (n27 + 1) w28 ∧
 m26 (n27 + 1) w28 < m26 n27 w28)))
 (∀ w33 : World, Drew w28 w33 →
 ∃ (n34 : Int), World.cell? w33 ⟨b1, 4, none⟩ = some (.int .i64 n34) ∧
 (∃ (a35 : Option Addr) (l35 c35 : Nat), World.cell? w33 ⟨y, 3, none⟩ = some (.slice a35 l35 c35) ∧
 RunF Try.prog (Instr.makeSlice 42 (.int .i64 n34) (.int .i64 n34)) w33 [.leaf .slice] fun (a36 : Option Addr) (l36 c36 : Nat) (w37 : World) =>
 ∀ (b38 : Nat) (w39 : World), NewAt w37 w39 b38 #[.int .i64 n6, .slice a36 l36 c36, .bool false, .int .i64 0] 113 →
 RunF Try.prog (Builtin.append_ #[106, 106] 106 #[.slice a35 l35 c35, .slice (some ⟨b38, 0, none⟩) 1 1]) w39 [.leaf .slice] fun (a40 : Option Addr) (l40 c40 : Nat) (w41 : World) =>
 May w41 ⟨y, 3, none⟩ ∧ ∀ w42 : World, SetC w41 w42 ⟨y, 3, none⟩ (.slice a40 l40 c40) →
 K true w42) ∧
 (RunF Try.prog (Instr.makeSlice 42 (.int .i64 n34) (.int .i64 n34)) w33 [.leaf .slice] fun (a43 : Option Addr) (l43 c43 : Nat) (w44 : World) =>
 (∃ (a45 : Option Addr) (l45 c45 : Nat), World.cell? w44 ⟨y, 3, none⟩ = some (.slice a45 l45 c45) ∧
 ∀ (b46 : Nat) (w47 : World), NewAt w44 w47 b46 #[.int .i64 n6, .slice a43 l43 c43, .bool false, .int .i64 0] 113 →
 RunF Try.prog (Builtin.append_ #[106, 106] 106 #[.slice a45 l45 c45, .slice (some ⟨b46, 0, none⟩) 1 1]) w47 [.leaf .slice] fun (a48 : Option Addr) (l48 c48 : Nat) (w49 : World) =>
 May w49 ⟨y, 3, none⟩ ∧ ∀ w50 : World, SetC w49 w50 ⟨y, 3, none⟩ (.slice a48 l48 c48) →
 K true w50) ∧
 (∀ (b51 : Nat) (w52 : World), NewAt w44 w52 b51 #[.int .i64 n6, .slice a43 l43 c43, .bool false, .int .i64 0] 113 →
 ∃ (a53 : Option Addr) (l53 c53 : Nat), World.cell? w52 ⟨y, 3, none⟩ = some (.slice a53 l53 c53) ∧
 RunF Try.prog (Builtin.append_ #[106, 106] 106 #[.slice a53 l53 c53, .slice (some ⟨b51, 0, none⟩) 1 1]) w52 [.leaf .slice] fun (a54 : Option Addr) (l54 c54 : Nat) (w55 : World) =>
 May w55 ⟨y, 3, none⟩ ∧ ∀ w56 : World, SetC w55 w56 ⟨y, 3, none⟩ (.slice a54 l54 c54) →
 K true w56)))
theorem r_f150 (y : Nat) (xa : Int) (xb : Int) (xc : Int) (xd : Int) (xe : Int) (w : World) (K : Bool → World → Prop) (h : V_f150 y xa xb xc xd xe w K) : C150 (some ⟨y, 0, none⟩) xa xb xc xd xe w K :=
  @calls_of_eq Try.prog 150 Try.f150 [.pointer (some ⟨y, 0, none⟩), .agg #[.int .i64 xa, .int .i64 xb, .int .i64 xc, .int .i64 xd, .int .i64 xe]] w [.leaf .bool] K _ (cfg true (fun _ => [])) (fun n => bif Nat.beq n 1 then some ⟨[8], [.int .i64]⟩ else none) (fun n => bif Nat.beq n 3 then some ⟨[6, 7], [.int .i64, .int .i64]⟩ else bif Nat.beq n 9 then some ⟨[], []⟩ else bif Nat.beq n 11 then some ⟨[], []⟩ else none) (fun _ => none) Try.func150 (by kernel_rfl) (by kernel_rfl) h

/-- (*gneiss/gneisslaw7.play).cycle -/
def V_f151 (y : Nat) (xa : Int) (xb : Int) (xc : Int) (xd : Int) (xe : Int) (w : World) (K : Bool → World → Prop) : Prop :=
 ∀ (b1 : Nat) (w2 : World), NewAt w w2 b1 #[.int .i64 xa, .int .i64 xb, .int .i64 xc, .int .i64 xd, .int .i64 xe] 111 →
 ∃ (n3 : Int), World.cell? w2 ⟨b1, 0, none⟩ = some (.int .i64 n3) ∧
 IfB (decide ((n3 : Int) = 7))
 (∃ (q4 : Option Addr), World.cell? w2 ⟨y, 0, none⟩ = some (.pointer q4) ∧
 C72 q4 w2 fun n5 w6 =>
 ∃ (b7 : Bool), World.cell? w6 ⟨y, 5, none⟩ = some (.bool b7) ∧
 IfB b7
 (K (decide ((n5 : Int) = 701)) w6)
 (May w6 ⟨y, 5, none⟩ ∧ ∀ w8 : World, SetC w6 w8 ⟨y, 5, none⟩ (.bool true) →
 ∃ (n9 : Int), World.cell? w8 ⟨y, 4, none⟩ = some (.int .i64 n9) ∧
 Fit .i64 (n9 + 1) ∧
 May w8 ⟨y, 4, none⟩ ∧ ∀ w10 : World, SetC w8 w10 ⟨y, 4, none⟩ (.int .i64 (n9 + 1)) →
 K (decide ((n5 : Int) = 0)) w10))
 (∀ w11 : World, Drew w2 w11 →
 ∃ (q12 : Option Addr), World.cell? w11 ⟨y, 1, none⟩ = some (.pointer q12) ∧
 ∃ (n13 : Int), World.cell? w11 ⟨b1, 1, none⟩ = some (.int .i64 n13) ∧
 C128 q12 n13 w11 fun n14 w15 =>
 ∃ M16 : Bool → Int → World → Prop,
 (∀ w20 : World, Drew w15 w20 →
 ∃ (q21 : Option Addr), World.cell? w20 ⟨y, 0, none⟩ = some (.pointer q21) ∧
 ∃ (n22 : Int), World.cell? w20 ⟨b1, 1, none⟩ = some (.int .i64 n22) ∧
 C73 q21 n22 w20 fun b23 n24 w25 =>
 M16 b23 n24 w25) ∧
 ∀ (_ : Env) (b17 : Bool) (n18 : Int) (w19 : World), M16 b17 n18 w19 →
 ∃ M26 : World → Prop,
 (∃ (n28 : Int), World.cell? w19 ⟨b1, 1, none⟩ = some (.int .i64 n28) ∧
 IfB (decide ((n28 : Int) < 0))
 (IfB (decide ((n18 : Int) = 704))
 (K (!b17) w19)
 (K false w19))
 (∃ (n29 : Int), World.cell? w19 ⟨b1, 1, none⟩ = some (.int .i64 n29) ∧
 IfB (decide ((3 : Int) ≤ n29))
 (IfB (decide ((n18 : Int) = 704))
 (K (!b17) w19)
 (K false w19))
 (M26 w19))) ∧
 ∀ (_ : Env) (w27 : World), M26 w27 →
 ∃ M30 : World → Prop,
 (∀ w32 : World, Drew w27 w32 →
 IfB (!decide ((n18 : Int) = 0))
 (K false w32)
 (∃ (q33 : Option Addr), World.cell? w32 ⟨y, 1, none⟩ = some (.pointer q33) ∧
 ∃ (n34 : Int), World.cell? w32 ⟨b1, 1, none⟩ = some (.int .i64 n34) ∧
 Fit .i64 (n14 + 4) ∧
 C128 q33 n34 w32 fun n35 w36 =>
 IfB (decide (((n14 + 4) : Int) < n35))
 (K false w36)
 (IfB b17
 (∃ (b37 : Bool), World.cell? w36 ⟨y, 5, none⟩ = some (.bool b37) ∧
 IfB (!b37)
 (K false w36)
 (M30 w36))
 (M30 w36)))) ∧
 ∀ (_ : Env) (w31 : World), M30 w31 →
 ∃ (b38 : Bool), World.cell? w31 ⟨y, 5, none⟩ = some (.bool b38) ∧
 IfB b38
 (IfB (!b17)
 (C174 (some ⟨y, 0, none⟩) w31 fun w39 =>
 K true w39)
 (K true w31))
 (K true w31))
theorem r_f151 (y : Nat) (xa : Int) (xb : Int) (xc : Int) (xd : Int) (xe : Int) (w : World) (K : Bool → World → Prop) (h : V_f151 y xa xb xc xd xe w K) : C151 (some ⟨y, 0, none⟩) xa xb xc xd xe w K :=
  @calls_of_eq Try.prog 151 Try.f151 [.pointer (some ⟨y, 0, none⟩), .agg #[.int .i64 xa, .int .i64 xb, .int .i64 xc, .int .i64 xd, .int .i64 xe]] w [.leaf .bool] K _ (cfg true (fun _ => [])) (fun _ => none) (fun n => bif Nat.beq n 10 then some ⟨[7, 8], [.bool, .int .i64]⟩ else bif Nat.beq n 12 then some ⟨[], []⟩ else bif Nat.beq n 14 then some ⟨[], []⟩ else none) (fun n => bif Nat.beq n 8 then some 6 else none) Try.func151 (by kernel_rfl) (by kernel_rfl) h

/-- (*gneiss/gneisslaw7.play).act -/
def V_f77 (y : Nat) (xa : Int) (xb : Int) (xc : Int) (xd : Int) (xe : Int) (w : World) (K : Bool → World → Prop) : Prop :=
 ∀ (b1 : Nat) (w2 : World), NewAt w w2 b1 #[.int .i64 xa, .int .i64 xb, .int .i64 xc, .int .i64 xd, .int .i64 xe] 111 →
 ∃ (n3 : Int), World.cell? w2 ⟨b1, 2, none⟩ = some (.int .i64 n3) ∧
 ∃ M4 : Int → World → Prop,
 (∃ (a7 : Option Addr) (l7 c7 : Nat), World.cell? w2 ⟨y, 3, none⟩ = some (.slice a7 l7 c7) ∧
 IfB (decide ((0 : Int) < (l7 : Int)))
 (∃ (n8 : Int), World.cell? w2 ⟨b1, 2, none⟩ = some (.int .i64 n8) ∧
 IfB (decide ((0 : Int) ≤ n8))
 (∀ w9 : World, Drew w2 w9 →
 ∃ (a10 : Option Addr) (l10 c10 : Nat), World.cell? w9 ⟨y, 3, none⟩ = some (.slice a10 l10 c10) ∧
 ∃ (n11 : Int), World.cell? w9 ⟨b1, 2, none⟩ = some (.int .i64 n11) ∧
 ∃ (a12 : Option Addr) (l12 c12 : Nat), World.cell? w9 ⟨y, 3, none⟩ = some (.slice a12 l12 c12) ∧
 ((l12 : Int) : Int) ≠ 0 ∧
 PtrOK a10 fun (p13 : Addr) =>
 ((0 : Int) ≤ (Int.tmod n11 (l12 : Int)) ∧ (Int.tmod n11 (l12 : Int)) < (l10 : Int)) ∧
 ∃ (n14 : Int), World.cell? w9 (Addr.add (Addr.add p13 (Int.toNat (Int.tmod n11 (l12 : Int)) * 4)) 0) = some (.int .i64 n14) ∧
 M4 n14 w9)
 (M4 n3 w2))
 (M4 n3 w2)) ∧
 ∀ (_ : Env) (n5 : Int) (w6 : World), M4 n5 w6 →
 C149 (some ⟨y, 0, none⟩) n5 w6 fun n15 w16 =>
 ∃ M17 : Bool → World → Prop,
 (∃ (n20 : Int), World.cell? w16 ⟨b1, 1, none⟩ = some (.int .i64 n20) ∧
 IfB (decide ((0 : Int) ≤ n20))
 (∃ (n21 : Int), World.cell? w16 ⟨b1, 1, none⟩ = some (.int .i64 n21) ∧
 M17 (decide ((n21 : Int) < 3)) w16)
 (M17 false w16)) ∧
 ∀ (_ : Env) (b18 : Bool) (w19 : World), M17 b18 w19 →
 ∃ (n22 : Int), World.cell? w19 ⟨b1, 0, none⟩ = some (.int .i64 n22) ∧
 IfB (decide ((n22 : Int) < 2))
 (∃ (n23 : Int), ∃ (n24 : Int), ∃ (n25 : Int), ∃ (n26 : Int), ∃ (n27 : Int), CellsAt w19 ⟨b1, 0, none⟩ [.int .i64 n23, .int .i64 n24, .int .i64 n25, .int .i64 n26, .int .i64 n27] ∧
 C150 (some ⟨y, 0, none⟩) n23 n24 n25 n26 n27 w19 fun b28 w29 =>
 K b28 w29)
 (∃ (n30 : Int), World.cell? w19 ⟨b1, 0, none⟩ = some (.int .i64 n30) ∧
 IfB (decide ((n30 : Int) < 4))
 (∀ w31 : World, Drew w19 w31 →
 ∃ (q32 : Option Addr), World.cell? w31 ⟨y, 1, none⟩ = some (.pointer q32) ∧
 ∃ (n33 : Int), World.cell? w31 ⟨b1, 1, none⟩ = some (.int .i64 n33) ∧
 C128 q32 n33 w31 fun n34 w35 =>
 ∃ M36 : Int → Int → World → Prop,
 (∀ w40 : World, Drew w35 w40 →
 ∃ (q41 : Option Addr), World.cell? w40 ⟨y, 0, none⟩ = some (.pointer q41) ∧
 ∃ (n42 : Int), World.cell? w40 ⟨b1, 1, none⟩ = some (.int .i64 n42) ∧
 ∃ (n43 : Int), World.cell? w40 ⟨b1, 3, none⟩ = some (.int .i64 n43) ∧
 C75 q41 n42 n5 n43 w40 fun n44 n45 w46 =>
 M36 n44 n45 w46) ∧
 ∀ (_ : Env) (n37 : Int) (n38 : Int) (w39 : World), M36 n37 n38 w39 →
 ∃ M47 : World → Prop,
 (IfB (!b18)
 (IfB (decide ((n38 : Int) = 704))
 (K (decide ((n37 : Int) = 0)) w39)
 (K false w39))
 (IfB (decide ((n15 : Int) < 0))
 (IfB (decide ((n38 : Int) = 704))
 (K (decide ((n37 : Int) = 0)) w39)
 (K false w39))
 (∀ w49 : World, Drew w39 w49 →
 ∃ (n50 : Int), World.cell? w49 ⟨b1, 3, none⟩ = some (.int .i64 n50) ∧
 IfB (decide ((n50 : Int) < 0))
 (IfB (decide ((n38 : Int) = 703))
 (K (decide ((n37 : Int) = 0)) w49)
 (K false w49))
 (∃ (n51 : Int), World.cell? w49 ⟨b1, 3, none⟩ = some (.int .i64 n51) ∧
 ∃ (a52 : Option Addr) (l52 c52 : Nat), World.cell? w49 ⟨y, 3, none⟩ = some (.slice a52 l52 c52) ∧
 PtrOK a52 fun (p53 : Addr) =>
 ((0 : Int) ≤ n15 ∧ n15 < (l52 : Int)) ∧
 ∃ (a54 : Option Addr) (l54 c54 : Nat), World.cell? w49 (Addr.add (Addr.add p53 (Int.toNat n15 * 4)) 1) = some (.slice a54 l54 c54) ∧
 IfB (decide (((l54 : Int) : Int) ≤ n51))
 (IfB (decide ((n38 : Int) = 703))
 (K (decide ((n37 : Int) = 0)) w49)
 (K false w49))
 (M47 w49))))) ∧
 ∀ (_ : Env) (w48 : World), M47 w48 →
 ∀ w55 : World, Drew w48 w55 →
 IfB (decide ((n38 : Int) = 0))
 (∃ (a56 : Option Addr) (l56 c56 : Nat), World.cell? w55 ⟨y, 3, none⟩ = some (.slice a56 l56 c56) ∧
 PtrOK a56 fun (p57 : Addr) =>
 ((0 : Int) ≤ n15 ∧ n15 < (l56 : Int)) ∧
 ∃ (a58 : Option Addr) (l58 c58 : Nat), World.cell? w55 (Addr.add (Addr.add p57 (Int.toNat n15 * 4)) 1) = some (.slice a58 l58 c58) ∧
 ∃ (n59 : Int), World.cell? w55 ⟨b1, 3, none⟩ = some (.int .i64 n59) ∧
 PtrOK a58 fun (p60 : Addr) =>
 ((0 : Int) ≤ n59 ∧ n59 < (l58 : Int)) ∧
 ∃ (n61 : Int), World.cell? w55 (Addr.add p60 (Int.toNat n59 * 1)) = some (.int .i64 n61) ∧
 IfB (decide ((n37 : Int) = n61))
 (∃ (q62 : Option Addr), World.cell? w55 ⟨y, 1, none⟩ = some (.pointer q62) ∧
 ∃ (n63 : Int), World.cell? w55 ⟨b1, 1, none⟩ = some (.int .i64 n63) ∧
 Fit .i64 (n34 + 6) ∧
 C128 q62 n63 w55 fun n64 w65 =>
 K (decide ((n64 : Int) ≤ (n34 + 6))) w65)
 (K false w55))
 (K false w55))
 (∃ (n66 : Int), World.cell? w19 ⟨b1, 0, none⟩ = some (.int .i64 n66) ∧
 IfB (decide ((n66 : Int) < 6))
 (∀ w67 : World, Drew w19 w67 →
 ∃ (q68 : Option Addr), World.cell? w67 ⟨y, 1, none⟩ = some (.pointer q68) ∧
 ∃ (n69 : Int), World.cell? w67 ⟨b1, 1, none⟩ = some (.int .i64 n69) ∧
 C128 q68 n69 w67 fun n70 w71 =>
 ∀ w72 : World, Drew w71 w72 →
 ∃ (q73 : Option Addr), World.cell? w72 ⟨y, 0, none⟩ = some (.pointer q73) ∧
 ∃ (n74 : Int), World.cell? w72 ⟨b1, 1, none⟩ = some (.int .i64 n74) ∧
 ∃ (n75 : Int), World.cell? w72 ⟨b1, 3, none⟩ = some (.int .i64 n75) ∧
 ∃ (n76 : Int), World.cell? w72 ⟨b1, 4, none⟩ = some (.int .i64 n76) ∧
 C70 q73 n74 n5 n75 n76 w72 fun n77 w78 =>
 ∃ M79 : World → Prop,
 (IfB (!b18)
 (K (decide ((n77 : Int) = 704)) w78)
 (IfB (decide ((n15 : Int) < 0))
 (K (decide ((n77 : Int) = 704)) w78)
 (∀ w81 : World, Drew w78 w81 →
 ∃ (n82 : Int), World.cell? w81 ⟨b1, 3, none⟩ = some (.int .i64 n82) ∧
 IfB (decide ((n82 : Int) < 0))
 (K (decide ((n77 : Int) = 703)) w81)
 (∃ (n83 : Int), World.cell? w81 ⟨b1, 3, none⟩ = some (.int .i64 n83) ∧
 ∃ (a84 : Option Addr) (l84 c84 : Nat), World.cell? w81 ⟨y, 3, none⟩ = some (.slice a84 l84 c84) ∧
 PtrOK a84 fun (p85 : Addr) =>
 ((0 : Int) ≤ n15 ∧ n15 < (l84 : Int)) ∧
 ∃ (a86 : Option Addr) (l86 c86 : Nat), World.cell? w81 (Addr.add (Addr.add p85 (Int.toNat n15 * 4)) 1) = some (.slice a86 l86 c86) ∧
 IfB (decide (((l86 : Int) : Int) ≤ n83))
 (K (decide ((n77 : Int) = 703)) w81)
 (M79 w81))))) ∧
 ∀ (_ : Env) (w80 : World), M79 w80 →
 ∀ w87 : World, Drew w80 w87 →
 ∃ (a88 : Option Addr) (l88 c88 : Nat), World.cell? w87 ⟨y, 3, none⟩ = some (.slice a88 l88 c88) ∧
 PtrOK a88 fun (p89 : Addr) =>
 ((0 : Int) ≤ n15 ∧ n15 < (l88 : Int)) ∧
 ∃ (a90 : Option Addr) (l90 c90 : Nat), World.cell? w87 (Addr.add (Addr.add p89 (Int.toNat n15 * 4)) 1) = some (.slice a90 l90 c90) ∧
 ∃ (n91 : Int), World.cell? w87 ⟨b1, 3, none⟩ = some (.int .i64 n91) ∧
 ∃ (n92 : Int), World.cell? w87 ⟨b1, 4, none⟩ = some (.int .i64 n92) ∧
 PtrOK a90 fun (p93 : Addr) =>
 ((0 : Int) ≤ n91 ∧ n91 < (l90 : Int)) ∧
 May w87 (Addr.add p93 (Int.toNat n91 * 1)) ∧ ∀ w94 : World, SetC w87 w94 (Addr.add p93 (Int.toNat n91 * 1)) (.int .i64 n92) →
 ∀ w95 : World, Drew w94 w95 →
 IfB (decide ((n77 : Int) = 0))
 (∃ (q96 : Option Addr), World.cell? w95 ⟨y, 1, none⟩ = some (.pointer q96) ∧
 ∃ (n97 : Int), World.cell? w95 ⟨b1, 1, none⟩ = some (.int .i64 n97) ∧
 Fit .i64 (n70 + 6) ∧
 C128 q96 n97 w95 fun n98 w99 =>
 K (decide ((n98 : Int) ≤ (n70 + 6))) w99)
 (K false w95))
 (∃ (n100 : Int), World.cell? w19 ⟨b1, 0, none⟩ = some (.int .i64 n100) ∧
 IfB (decide ((n100 : Int) = 6))
 (∃ (q101 : Option Addr), World.cell? w19 ⟨y, 0, none⟩ = some (.pointer q101) ∧
 C71 q101 n5 w19 fun n102 w103 =>
 IfB (decide ((n15 : Int) < 0))
 (K (decide ((n102 : Int) = 704)) w103)
 (∃ (a104 : Option Addr) (l104 c104 : Nat), World.cell? w103 ⟨y, 3, none⟩ = some (.slice a104 l104 c104) ∧
 PtrOK a104 fun (p105 : Addr) =>
 ((0 : Int) ≤ n15 ∧ n15 < (l104 : Int)) ∧
 May w103 (Addr.add (Addr.add p105 (Int.toNat n15 * 4)) 2) ∧ ∀ w106 : World, SetC w103 w106 (Addr.add (Addr.add p105 (Int.toNat n15 * 4)) 2) (.bool true) →
 ∀ w107 : World, Drew w106 w107 →
 ∃ (a108 : Option Addr) (l108 c108 : Nat), World.cell? w107 ⟨y, 3, none⟩ = some (.slice a108 l108 c108) ∧
 ∃ (n109 : Int), World.cell? w107 ⟨y, 4, none⟩ = some (.int .i64 n109) ∧
 PtrOK a108 fun (p110 : Addr) =>
 ((0 : Int) ≤ n15 ∧ n15 < (l108 : Int)) ∧
 May w107 (Addr.add (Addr.add p110 (Int.toNat n15 * 4)) 3) ∧ ∀ w111 : World, SetC w107 w111 (Addr.add (Addr.add p110 (Int.toNat n15 * 4)) 3) (.int .i64 n109) →
 K (decide ((n102 : Int) = 0)) w111))
 (∃ (n112 : Int), ∃ (n113 : Int), ∃ (n114 : Int), ∃ (n115 : Int), ∃ (n116 : Int), CellsAt w19 ⟨b1, 0, none⟩ [.int .i64 n112, .int .i64 n113, .int .i64 n114, .int .i64 n115, .int .i64 n116] ∧
 C151 (some ⟨y, 0, none⟩) n112 n113 n114 n115 n116 w19 fun b117 w118 =>
 K b117 w118))))
theorem r_f77 (y : Nat) (xa : Int) (xb : Int) (xc : Int) (xd : Int) (xe : Int) (w : World) (K : Bool → World → Prop) (h : V_f77 y xa xb xc xd xe w K) : C77 (some ⟨y, 0, none⟩) xa xb xc xd xe w K :=
  @calls_of_eq Try.prog 77 Try.f77 [.pointer (some ⟨y, 0, none⟩), .agg #[.int .i64 xa, .int .i64 xb, .int .i64 xc, .int .i64 xd, .int .i64 xe]] w [.leaf .bool] K _ (cfg true (fun _ => [])) (fun _ => none) (fun n => bif Nat.beq n 4 then some ⟨[5], [.int .i64]⟩ else bif Nat.beq n 6 then some ⟨[7], [.bool]⟩ else bif Nat.beq n 11 then some ⟨[9, 10], [.int .i64, .int .i64]⟩ else bif Nat.beq n 15 then some ⟨[], []⟩ else bif Nat.beq n 23 then some ⟨[], []⟩ else none) (fun n => bif Nat.beq n 3 then some 16 else bif Nat.beq n 9 then some 6 else bif Nat.beq n 13 then some 18 else bif Nat.beq n 17 then some 6 else bif Nat.beq n 18 then some 11 else bif Nat.beq n 21 then some 18 else bif Nat.beq n 23 then some 13 else bif Nat.beq n 30 then some 11 else none) Try.func77 (by kernel_rfl) (by kernel_rfl) h

end Go.Proofs.Ytfpghcdjfiggiaa.V
