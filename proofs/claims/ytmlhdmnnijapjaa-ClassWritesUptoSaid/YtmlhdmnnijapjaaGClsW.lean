/- Readings of the program's functions. No condition. -/
import Derived.Test.YtmlhdmnnijapjaaGCfg
namespace Go.Proofs.Ytmlhdmnnijapjaa.V
open Go
set_option maxRecDepth 100000
set_option linter.unusedVariables false
/-- (*gneiss/class.writer).num -/
def V_f61 (wV : Nat) (x : Int) (w : World) (K : World → Prop) : Prop :=
 ∃ (b1 : Bool), World.cell? w ⟨wV, 3, none⟩ = some (.bool b1) ∧
 IfB b1
 (May w ⟨wV, 3, none⟩ ∧ ∀ w2 : World, SetC w w2 ⟨wV, 3, none⟩ (.bool true) →
 ∀ w3 : World, Drew w2 w3 →
 (∃ (a4 : Option Addr) (l4 c4 : Nat), World.cell? w3 ⟨wV, 0, none⟩ = some (.slice a4 l4 c4) ∧
 C16 x w3 fun s5 w6 =>
 RunF Try.prog (Builtin.append_ #[24, 9] 24 #[.slice a4 l4 c4, .string s5]) w6 [.leaf .slice] fun (a7 : Option Addr) (l7 c7 : Nat) (w8 : World) =>
 May w8 ⟨wV, 0, none⟩ ∧ ∀ w9 : World, SetC w8 w9 ⟨wV, 0, none⟩ (.slice a7 l7 c7) →
 K w9) ∧
 (C16 x w3 fun s10 w11 =>
 ∃ (a12 : Option Addr) (l12 c12 : Nat), World.cell? w11 ⟨wV, 0, none⟩ = some (.slice a12 l12 c12) ∧
 RunF Try.prog (Builtin.append_ #[24, 9] 24 #[.slice a12 l12 c12, .string s10]) w11 [.leaf .slice] fun (a13 : Option Addr) (l13 c13 : Nat) (w14 : World) =>
 May w14 ⟨wV, 0, none⟩ ∧ ∀ w15 : World, SetC w14 w15 ⟨wV, 0, none⟩ (.slice a13 l13 c13) →
 K w15))
 (C40 x w fun b16 w17 =>
 May w17 ⟨wV, 3, none⟩ ∧ ∀ w18 : World, SetC w17 w18 ⟨wV, 3, none⟩ (.bool (!b16)) →
 ∀ w19 : World, Drew w18 w19 →
 (∃ (a20 : Option Addr) (l20 c20 : Nat), World.cell? w19 ⟨wV, 0, none⟩ = some (.slice a20 l20 c20) ∧
 C16 x w19 fun s21 w22 =>
 RunF Try.prog (Builtin.append_ #[24, 9] 24 #[.slice a20 l20 c20, .string s21]) w22 [.leaf .slice] fun (a23 : Option Addr) (l23 c23 : Nat) (w24 : World) =>
 May w24 ⟨wV, 0, none⟩ ∧ ∀ w25 : World, SetC w24 w25 ⟨wV, 0, none⟩ (.slice a23 l23 c23) →
 K w25) ∧
 (C16 x w19 fun s26 w27 =>
 ∃ (a28 : Option Addr) (l28 c28 : Nat), World.cell? w27 ⟨wV, 0, none⟩ = some (.slice a28 l28 c28) ∧
 RunF Try.prog (Builtin.append_ #[24, 9] 24 #[.slice a28 l28 c28, .string s26]) w27 [.leaf .slice] fun (a29 : Option Addr) (l29 c29 : Nat) (w30 : World) =>
 May w30 ⟨wV, 0, none⟩ ∧ ∀ w31 : World, SetC w30 w31 ⟨wV, 0, none⟩ (.slice a29 l29 c29) →
 K w31))
theorem r_f61 (wV : Nat) (x : Int) (w : World) (K : World → Prop) (h : V_f61 wV x w K) : C61 (some ⟨wV, 0, none⟩) x w K :=
  @calls_of_eq Try.prog 61 Try.f61 [.pointer (some ⟨wV, 0, none⟩), .int .i64 x] w [] K _ (cfg true (fun _ => [])) (fun _ => none) (fun _ => none) (fun _ => none) Try.func61 (by kernel_rfl) (by kernel_rfl) h

/-- (*gneiss/class.writer).name -/
def V_f80 (wV : Nat) (s : ByteArray) (w : World) (K : World → Prop) : Prop :=
 ∃ M1 : World → Prop,
 (∃ (b3 : Bool), World.cell? w ⟨wV, 2, none⟩ = some (.bool b3) ∧
 IfB b3
 (May w ⟨wV, 2, none⟩ ∧ ∀ w4 : World, SetC w w4 ⟨wV, 2, none⟩ (.bool true) →
 M1 w4)
 (C94 s w fun b5 w6 =>
 May w6 ⟨wV, 2, none⟩ ∧ ∀ w7 : World, SetC w6 w7 ⟨wV, 2, none⟩ (.bool (!b5)) →
 M1 w7)) ∧
 ∀ (_ : Env) (w2 : World), M1 w2 →
 ∀ w8 : World, Drew w2 w8 →
 (∃ (a9 : Option Addr) (l9 c9 : Nat), World.cell? w8 ⟨wV, 0, none⟩ = some (.slice a9 l9 c9) ∧
 ((0 : Int) ≤ (min (ByteArray.size s : Int) 16) ∧ ((min (ByteArray.size s : Int) 16) : Int) ≤ (ByteArray.size s : Int)) ∧
 C19 (ByteArray.extract s 0 (Int.toNat (min (ByteArray.size s : Int) 16))) w8 fun s10 w11 =>
 RunF Try.prog (Builtin.append_ #[24, 9] 24 #[.slice a9 l9 c9, .string s10]) w11 [.leaf .slice] fun (a12 : Option Addr) (l12 c12 : Nat) (w13 : World) =>
 May w13 ⟨wV, 0, none⟩ ∧ ∀ w14 : World, SetC w13 w14 ⟨wV, 0, none⟩ (.slice a12 l12 c12) →
 K w14) ∧
 (((0 : Int) ≤ (min (ByteArray.size s : Int) 16) ∧ ((min (ByteArray.size s : Int) 16) : Int) ≤ (ByteArray.size s : Int)) ∧
 (∃ (a15 : Option Addr) (l15 c15 : Nat), World.cell? w8 ⟨wV, 0, none⟩ = some (.slice a15 l15 c15) ∧
 C19 (ByteArray.extract s 0 (Int.toNat (min (ByteArray.size s : Int) 16))) w8 fun s16 w17 =>
 RunF Try.prog (Builtin.append_ #[24, 9] 24 #[.slice a15 l15 c15, .string s16]) w17 [.leaf .slice] fun (a18 : Option Addr) (l18 c18 : Nat) (w19 : World) =>
 May w19 ⟨wV, 0, none⟩ ∧ ∀ w20 : World, SetC w19 w20 ⟨wV, 0, none⟩ (.slice a18 l18 c18) →
 K w20) ∧
 (C19 (ByteArray.extract s 0 (Int.toNat (min (ByteArray.size s : Int) 16))) w8 fun s21 w22 =>
 ∃ (a23 : Option Addr) (l23 c23 : Nat), World.cell? w22 ⟨wV, 0, none⟩ = some (.slice a23 l23 c23) ∧
 RunF Try.prog (Builtin.append_ #[24, 9] 24 #[.slice a23 l23 c23, .string s21]) w22 [.leaf .slice] fun (a24 : Option Addr) (l24 c24 : Nat) (w25 : World) =>
 May w25 ⟨wV, 0, none⟩ ∧ ∀ w26 : World, SetC w25 w26 ⟨wV, 0, none⟩ (.slice a24 l24 c24) →
 K w26))
theorem r_f80 (wV : Nat) (s : ByteArray) (w : World) (K : World → Prop) (h : V_f80 wV s w K) : C80 (some ⟨wV, 0, none⟩) s w K :=
  @calls_of_eq Try.prog 80 Try.f80 [.pointer (some ⟨wV, 0, none⟩), .string s] w [] K _ (cfg true (fun _ => [])) (fun _ => none) (fun n => bif Nat.beq n 1 then some ⟨[], []⟩ else none) (fun _ => none) Try.func80 (by kernel_rfl) (by kernel_rfl) h

/-- gneiss/class.flag -/
def V_f81 (is : Bool) (bit : Int) (w : World) (K : Int → World → Prop) : Prop :=
 IfB is
 (K bit w)
 (K 0 w)
theorem r_f81 (is : Bool) (bit : Int) (w : World) (K : Int → World → Prop) (h : V_f81 is bit w K) : C81 is bit w K :=
  @calls_of_eq Try.prog 81 Try.f81 [.bool is, .int .i64 bit] w [.leaf (.int .i64)] K _ (cfg true (fun _ => [])) (fun _ => none) (fun _ => none) (fun _ => none) Try.func81 (by kernel_rfl) (by kernel_rfl) h

/-- (*gneiss/class.writer).class$1 -/
def V_f83 (fa : ByteArray) (fb : Int) (cap0 : Nat) (w : World) (K : World → Prop) : Prop :=
 ∀ (b1 : Nat) (w2 : World), NewAt w w2 b1 #[.string fa, .int .i64 fb] 77 →
 ∃ (q3 : Option Addr), World.cell? w2 ⟨cap0, 0, none⟩ = some (.pointer q3) ∧
 ∃ (s4 : ByteArray), World.cell? w2 ⟨b1, 0, none⟩ = some (.string s4) ∧
 C80 q3 s4 w2 fun w5 =>
 ∃ (q6 : Option Addr), World.cell? w5 ⟨cap0, 0, none⟩ = some (.pointer q6) ∧
 ∃ (n7 : Int), World.cell? w5 ⟨b1, 1, none⟩ = some (.int .i64 n7) ∧
 C61 q6 n7 w5 fun w8 =>
 K w8
theorem r_f83 (fa : ByteArray) (fb : Int) (cap0 : Nat) (w : World) (K : World → Prop) (h : V_f83 fa fb cap0 w K) : C83 fa fb (some ⟨cap0, 0, none⟩) w K :=
  @calls_of_eq Try.prog 83 Try.f83 [.agg #[.string fa, .int .i64 fb], .pointer (some ⟨cap0, 0, none⟩)] w [] K _ (cfg true (fun _ => [])) (fun _ => none) (fun _ => none) (fun _ => none) Try.func83 (by kernel_rfl) (by kernel_rfl) h

/-- gneiss/class.lay[int] -/
def V_f82 (wV : Nat) (most : Int) (xsa : Option Addr) (xsl xsc : Nat) (one_0 : Option Addr) (w : World) (K : World → Prop) : Prop :=
 IfB (decide ((most : Int) < (xsl : Int)))
 (May w ⟨wV, 1, none⟩ ∧ ∀ w1 : World, SetC w w1 ⟨wV, 1, none⟩ (.bool true) →
 K w1)
 (C61 (some ⟨wV, 0, none⟩) (xsl : Int) w fun w2 =>
 ∃ (I3 : Int → World → Prop) (m4 : Int → World → Nat),
 I3 0 w2 ∧
 ∀ (_ : Env) (n5 : Int) (w6 : World), I3 n5 w6 →
 IfB (decide ((n5 : Int) < (xsl : Int)))
 (PtrOK xsa fun (p7 : Addr) =>
 ((0 : Int) ≤ n5 ∧ n5 < (xsl : Int)) ∧
 ∃ (n8 : Int), World.cell? w6 (Addr.add p7 (Int.toNat n5 * 1)) = some (.int .i64 n8) ∧
 C61 one_0 n8 w6 fun w9 =>
 Fit .i64 (n5 + 1) ∧
 (I3 (n5 + 1) w9 ∧
 m4 (n5 + 1) w9 < m4 n5 w6))
 (K w6))
theorem r_f82 (wV : Nat) (most : Int) (xsa : Option Addr) (xsl xsc : Nat) (one_0 : Option Addr) (w : World) (K : World → Prop) (h : V_f82 wV most xsa xsl xsc one_0 w K) : C82 (some ⟨wV, 0, none⟩) most xsa xsl xsc (.func (.func 61) #[.pointer one_0] #[] : Value) w K :=
  @calls_of_eq Try.prog 82 Try.f82 [.pointer (some ⟨wV, 0, none⟩), .int .i64 most, .slice xsa xsl xsc, .func (.func 61) #[.pointer one_0] #[]] w [] K _ (cfg true (fun _ => [])) (fun n => bif Nat.beq n 0 then some ⟨[23], [.int .i64]⟩ else none) (fun _ => none) (fun _ => none) Try.func82 (by kernel_rfl) (by kernel_rfl) h

/-- gneiss/class.lay[gneiss/api.Field] -/
def V_f84 (wV : Nat) (most : Int) (xsa : Option Addr) (xsl xsc : Nat) (one_0 : Option Addr) (w : World) (K : World → Prop) : Prop :=
 IfB (decide ((most : Int) < (xsl : Int)))
 (May w ⟨wV, 1, none⟩ ∧ ∀ w1 : World, SetC w w1 ⟨wV, 1, none⟩ (.bool true) →
 K w1)
 (C61 (some ⟨wV, 0, none⟩) (xsl : Int) w fun w2 =>
 ∃ (I3 : Int → World → Prop) (m4 : Int → World → Nat),
 I3 0 w2 ∧
 ∀ (_ : Env) (n5 : Int) (w6 : World), I3 n5 w6 →
 IfB (decide ((n5 : Int) < (xsl : Int)))
 (PtrOK xsa fun (p7 : Addr) =>
 ((0 : Int) ≤ n5 ∧ n5 < (xsl : Int)) ∧
 ∃ (s8 : ByteArray), ∃ (n9 : Int), CellsAt w6 (Addr.add p7 (Int.toNat n5 * 2)) [.string s8, .int .i64 n9] ∧
 ∀ (b10 : Nat) (w11 : World), NewAt w6 w11 b10 #[.string (ByteArray.mk #[]), .int .i64 0] 77 →
 MayL w11 ⟨b10, 0, none⟩ 2 ∧ ∀ w12 : World, SetL w11 w12 ⟨b10, 0, none⟩ [.string s8, .int .i64 n9] →
 ∃ (s13 : ByteArray), ∃ (n14 : Int), CellsAt w12 ⟨b10, 0, none⟩ [.string s13, .int .i64 n14] ∧
 C83 s13 n14 one_0 w12 fun w15 =>
 Fit .i64 (n5 + 1) ∧
 (I3 (n5 + 1) w15 ∧
 m4 (n5 + 1) w15 < m4 n5 w6))
 (K w6))
theorem r_f84 (wV : Nat) (most : Int) (xsa : Option Addr) (xsl xsc : Nat) (one_0 : Option Addr) (w : World) (K : World → Prop) (h : V_f84 wV most xsa xsl xsc one_0 w K) : C84 (some ⟨wV, 0, none⟩) most xsa xsl xsc (.func (.func 83) #[] #[.pointer one_0] : Value) w K :=
  @calls_of_eq Try.prog 84 Try.f84 [.pointer (some ⟨wV, 0, none⟩), .int .i64 most, .slice xsa xsl xsc, .func (.func 83) #[] #[.pointer one_0]] w [] K _ (cfg true (fun _ => [])) (fun n => bif Nat.beq n 0 then some ⟨[23], [.int .i64]⟩ else none) (fun _ => none) (fun _ => none) Try.func84 (by kernel_rfl) (by kernel_rfl) h

/-- gneiss/class.lay[gneiss/api.Method] -/
def V_f85 (wV : Nat) (most : Int) (xsa : Option Addr) (xsl xsc : Nat) (one_0 : Option Addr) (w : World) (K : World → Prop) : Prop :=
 IfB (decide ((most : Int) < (xsl : Int)))
 (May w ⟨wV, 1, none⟩ ∧ ∀ w1 : World, SetC w w1 ⟨wV, 1, none⟩ (.bool true) →
 K w1)
 (C61 (some ⟨wV, 0, none⟩) (xsl : Int) w fun w2 =>
 ∃ (I3 : Int → World → Prop) (m4 : Int → World → Nat),
 I3 0 w2 ∧
 ∀ (_ : Env) (n5 : Int) (w6 : World), I3 n5 w6 →
 IfB (decide ((n5 : Int) < (xsl : Int)))
 (PtrOK xsa fun (p7 : Addr) =>
 ((0 : Int) ≤ n5 ∧ n5 < (xsl : Int)) ∧
 ∃ (s8 : ByteArray), ∃ (b9 : Bool), ∃ (a10 : Option Addr) (l10 c10 : Nat), ∃ (n11 : Int), ∃ (n12 : Int), ∃ (n13 : Int), ∃ (a14 : Option Addr) (l14 c14 : Nat), ∃ (a15 : Option Addr) (l15 c15 : Nat), ∃ (a16 : Option Addr) (l16 c16 : Nat), CellsAt w6 (Addr.add p7 (Int.toNat n5 * 9)) [.string s8, .bool b9, .slice a10 l10 c10, .int .i64 n11, .int .i64 n12, .int .i64 n13, .slice a14 l14 c14, .slice a15 l15 c15, .slice a16 l16 c16] ∧
 ∀ (b17 : Nat) (w18 : World), NewAt w6 w18 b17 #[.string (ByteArray.mk #[]), .bool false, .slice none 0 0, .int .i64 0, .int .i64 0, .int .i64 0, .slice none 0 0, .slice none 0 0, .slice none 0 0] 82 →
 MayL w18 ⟨b17, 0, none⟩ 9 ∧ ∀ w19 : World, SetL w18 w19 ⟨b17, 0, none⟩ [.string s8, .bool b9, .slice a10 l10 c10, .int .i64 n11, .int .i64 n12, .int .i64 n13, .slice a14 l14 c14, .slice a15 l15 c15, .slice a16 l16 c16] →
 ∃ (s20 : ByteArray), ∃ (b21 : Bool), ∃ (a22 : Option Addr) (l22 c22 : Nat), ∃ (n23 : Int), ∃ (n24 : Int), ∃ (n25 : Int), ∃ (a26 : Option Addr) (l26 c26 : Nat), ∃ (a27 : Option Addr) (l27 c27 : Nat), ∃ (a28 : Option Addr) (l28 c28 : Nat), CellsAt w19 ⟨b17, 0, none⟩ [.string s20, .bool b21, .slice a22 l22 c22, .int .i64 n23, .int .i64 n24, .int .i64 n25, .slice a26 l26 c26, .slice a27 l27 c27, .slice a28 l28 c28] ∧
 C86 one_0 s20 b21 a22 l22 c22 n23 n24 n25 a26 l26 c26 a27 l27 c27 a28 l28 c28 w19 fun w29 =>
 Fit .i64 (n5 + 1) ∧
 (I3 (n5 + 1) w29 ∧
 m4 (n5 + 1) w29 < m4 n5 w6))
 (K w6))
theorem r_f85 (wV : Nat) (most : Int) (xsa : Option Addr) (xsl xsc : Nat) (one_0 : Option Addr) (w : World) (K : World → Prop) (h : V_f85 wV most xsa xsl xsc one_0 w K) : C85 (some ⟨wV, 0, none⟩) most xsa xsl xsc (.func (.func 86) #[.pointer one_0] #[] : Value) w K :=
  @calls_of_eq Try.prog 85 Try.f85 [.pointer (some ⟨wV, 0, none⟩), .int .i64 most, .slice xsa xsl xsc, .func (.func 86) #[.pointer one_0] #[]] w [] K _ (cfg true (fun _ => [])) (fun n => bif Nat.beq n 0 then some ⟨[23], [.int .i64]⟩ else none) (fun _ => none) (fun _ => none) Try.func85 (by kernel_rfl) (by kernel_rfl) h

/-- gneiss/class.lay[gneiss/api.Class] -/
def V_f62 (wV : Nat) (most : Int) (xsa : Option Addr) (xsl xsc : Nat) (one_0 : Option Addr) (w : World) (K : World → Prop) : Prop :=
 IfB (decide ((most : Int) < (xsl : Int)))
 (May w ⟨wV, 1, none⟩ ∧ ∀ w1 : World, SetC w w1 ⟨wV, 1, none⟩ (.bool true) →
 K w1)
 (C61 (some ⟨wV, 0, none⟩) (xsl : Int) w fun w2 =>
 ∃ (I3 : Int → World → Prop) (m4 : Int → World → Nat),
 I3 0 w2 ∧
 ∀ (_ : Env) (n5 : Int) (w6 : World), I3 n5 w6 →
 IfB (decide ((n5 : Int) < (xsl : Int)))
 (PtrOK xsa fun (p7 : Addr) =>
 ((0 : Int) ≤ n5 ∧ n5 < (xsl : Int)) ∧
 ∃ (s8 : ByteArray), ∃ (b9 : Bool), ∃ (b10 : Bool), ∃ (n11 : Int), ∃ (a12 : Option Addr) (l12 c12 : Nat), ∃ (a13 : Option Addr) (l13 c13 : Nat), ∃ (a14 : Option Addr) (l14 c14 : Nat), ∃ (a15 : Option Addr) (l15 c15 : Nat), CellsAt w6 (Addr.add p7 (Int.toNat n5 * 8)) [.string s8, .bool b9, .bool b10, .int .i64 n11, .slice a12 l12 c12, .slice a13 l13 c13, .slice a14 l14 c14, .slice a15 l15 c15] ∧
 ∀ (b16 : Nat) (w17 : World), NewAt w6 w17 b16 #[.string (ByteArray.mk #[]), .bool false, .bool false, .int .i64 0, .slice none 0 0, .slice none 0 0, .slice none 0 0, .slice none 0 0] 75 →
 MayL w17 ⟨b16, 0, none⟩ 8 ∧ ∀ w18 : World, SetL w17 w18 ⟨b16, 0, none⟩ [.string s8, .bool b9, .bool b10, .int .i64 n11, .slice a12 l12 c12, .slice a13 l13 c13, .slice a14 l14 c14, .slice a15 l15 c15] →
 ∃ (s19 : ByteArray), ∃ (b20 : Bool), ∃ (b21 : Bool), ∃ (n22 : Int), ∃ (a23 : Option Addr) (l23 c23 : Nat), ∃ (a24 : Option Addr) (l24 c24 : Nat), ∃ (a25 : Option Addr) (l25 c25 : Nat), ∃ (a26 : Option Addr) (l26 c26 : Nat), CellsAt w18 ⟨b16, 0, none⟩ [.string s19, .bool b20, .bool b21, .int .i64 n22, .slice a23 l23 c23, .slice a24 l24 c24, .slice a25 l25 c25, .slice a26 l26 c26] ∧
 C63 one_0 s19 b20 b21 n22 a23 l23 c23 a24 l24 c24 a25 l25 c25 a26 l26 c26 w18 fun w27 =>
 Fit .i64 (n5 + 1) ∧
 (I3 (n5 + 1) w27 ∧
 m4 (n5 + 1) w27 < m4 n5 w6))
 (K w6))
theorem r_f62 (wV : Nat) (most : Int) (xsa : Option Addr) (xsl xsc : Nat) (one_0 : Option Addr) (w : World) (K : World → Prop) (h : V_f62 wV most xsa xsl xsc one_0 w K) : C62 (some ⟨wV, 0, none⟩) most xsa xsl xsc (.func (.func 63) #[.pointer one_0] #[] : Value) w K :=
  @calls_of_eq Try.prog 62 Try.f62 [.pointer (some ⟨wV, 0, none⟩), .int .i64 most, .slice xsa xsl xsc, .func (.func 63) #[.pointer one_0] #[]] w [] K _ (cfg true (fun _ => [])) (fun n => bif Nat.beq n 0 then some ⟨[23], [.int .i64]⟩ else none) (fun _ => none) (fun _ => none) Try.func62 (by kernel_rfl) (by kernel_rfl) h

/-- (*gneiss/class.writer).method$1 -/
def V_f104 (xsa : Option Addr) (xsl xsc : Nat) (cap0 : Nat) (w : World) (K : World → Prop) : Prop :=
 ∃ (I1 : Int → World → Prop) (m2 : Int → World → Nat),
 I1 0 w ∧
 ∀ (_ : Env) (n3 : Int) (w4 : World), I1 n3 w4 →
 IfB (decide ((n3 : Int) < (xsl : Int)))
 (PtrOK xsa fun (p5 : Addr) =>
 ((0 : Int) ≤ n3 ∧ n3 < (xsl : Int)) ∧
 ∃ (n6 : Int), World.cell? w4 (Addr.add p5 (Int.toNat n3 * 1)) = some (.int .i64 n6) ∧
 ∃ (q7 : Option Addr), World.cell? w4 ⟨cap0, 0, none⟩ = some (.pointer q7) ∧
 C61 q7 n6 w4 fun w8 =>
 Fit .i64 (n3 + 1) ∧
 (I1 (n3 + 1) w8 ∧
 m2 (n3 + 1) w8 < m2 n3 w4))
 (K w4)
theorem r_f104 (xsa : Option Addr) (xsl xsc : Nat) (cap0 : Nat) (w : World) (K : World → Prop) (h : V_f104 xsa xsl xsc cap0 w K) : C104 xsa xsl xsc (some ⟨cap0, 0, none⟩) w K :=
  @calls_of_eq Try.prog 104 Try.f104 [.slice xsa xsl xsc, .pointer (some ⟨cap0, 0, none⟩)] w [] K _ (cfg true (fun _ => [])) (fun n => bif Nat.beq n 0 then some ⟨[7], [.int .i64]⟩ else none) (fun _ => none) (fun _ => none) Try.func104 (by kernel_rfl) (by kernel_rfl) h

/-- (*gneiss/class.writer).method$2 -/
def V_f106 (ia : Int) (ib : Int) (ic : Int) (cap0 : Nat) (w : World) (K : World → Prop) : Prop :=
 ∀ (b1 : Nat) (w2 : World), NewAt w w2 b1 #[.int .i64 ia, .int .i64 ib, .int .i64 ic] 87 →
 ∃ (q3 : Option Addr), World.cell? w2 ⟨cap0, 0, none⟩ = some (.func (.func 104) #[] #[.pointer q3]) ∧
 ∃ (n4 : Int), World.cell? w2 ⟨b1, 0, none⟩ = some (.int .i64 n4) ∧
 ∃ (n5 : Int), World.cell? w2 ⟨b1, 1, none⟩ = some (.int .i64 n5) ∧
 ∃ (n6 : Int), World.cell? w2 ⟨b1, 2, none⟩ = some (.int .i64 n6) ∧
 ∀ (b7 : Nat) (w8 : World), NewAt w2 w8 b7 #[.int .i64 n4, .int .i64 n5, .int .i64 n6] 3 →
 C104 (some ⟨b7, 0, none⟩) 3 3 q3 w8 fun w9 =>
 K w9
theorem r_f106 (ia : Int) (ib : Int) (ic : Int) (cap0 : Nat) (w : World) (K : World → Prop) (h : V_f106 ia ib ic cap0 w K) : C106 ia ib ic (some ⟨cap0, 0, none⟩) w K :=
  @calls_of_eqF Try.prog 106 Try.f106 [.agg #[.int .i64 ia, .int .i64 ib, .int .i64 ic], .pointer (some ⟨cap0, 0, none⟩)] w [] K _ (cfg true (fun _ => [])) (fun n => bif Nat.beq n 3 then some (104, 0, 1) else none) (fun _ => none) (fun _ => none) (fun _ => none) Try.func106 (by kernel_rfl) (by kernel_rfl) h

/-- gneiss/class.lay[gneiss/api.Ins] -/
def V_f105 (wV : Nat) (most : Int) (xsa : Option Addr) (xsl xsc : Nat) (one_0 : Option Addr) (w : World) (K : World → Prop) : Prop :=
 IfB (decide ((most : Int) < (xsl : Int)))
 (May w ⟨wV, 1, none⟩ ∧ ∀ w1 : World, SetC w w1 ⟨wV, 1, none⟩ (.bool true) →
 K w1)
 (C61 (some ⟨wV, 0, none⟩) (xsl : Int) w fun w2 =>
 ∃ (I3 : Int → World → Prop) (m4 : Int → World → Nat),
 I3 0 w2 ∧
 ∀ (_ : Env) (n5 : Int) (w6 : World), I3 n5 w6 →
 IfB (decide ((n5 : Int) < (xsl : Int)))
 (PtrOK xsa fun (p7 : Addr) =>
 ((0 : Int) ≤ n5 ∧ n5 < (xsl : Int)) ∧
 ∃ (n8 : Int), ∃ (n9 : Int), ∃ (n10 : Int), CellsAt w6 (Addr.add p7 (Int.toNat n5 * 3)) [.int .i64 n8, .int .i64 n9, .int .i64 n10] ∧
 ∀ (b11 : Nat) (w12 : World), NewAt w6 w12 b11 #[.int .i64 0, .int .i64 0, .int .i64 0] 87 →
 MayL w12 ⟨b11, 0, none⟩ 3 ∧ ∀ w13 : World, SetL w12 w13 ⟨b11, 0, none⟩ [.int .i64 n8, .int .i64 n9, .int .i64 n10] →
 ∃ (n14 : Int), ∃ (n15 : Int), ∃ (n16 : Int), CellsAt w13 ⟨b11, 0, none⟩ [.int .i64 n14, .int .i64 n15, .int .i64 n16] ∧
 C106 n14 n15 n16 one_0 w13 fun w17 =>
 Fit .i64 (n5 + 1) ∧
 (I3 (n5 + 1) w17 ∧
 m4 (n5 + 1) w17 < m4 n5 w6))
 (K w6))
theorem r_f105 (wV : Nat) (most : Int) (xsa : Option Addr) (xsl xsc : Nat) (one_0 : Option Addr) (w : World) (K : World → Prop) (h : V_f105 wV most xsa xsl xsc one_0 w K) : C105 (some ⟨wV, 0, none⟩) most xsa xsl xsc (.func (.func 106) #[] #[.pointer one_0] : Value) w K :=
  @calls_of_eq Try.prog 105 Try.f105 [.pointer (some ⟨wV, 0, none⟩), .int .i64 most, .slice xsa xsl xsc, .func (.func 106) #[] #[.pointer one_0]] w [] K _ (cfg true (fun _ => [])) (fun n => bif Nat.beq n 0 then some ⟨[23], [.int .i64]⟩ else none) (fun _ => none) (fun _ => none) Try.func105 (by kernel_rfl) (by kernel_rfl) h

/-- (*gneiss/class.writer).method$3 -/
def V_f108 (hVa : Int) (hVb : Int) (hVc : Int) (hVd : Int) (cap0 : Nat) (w : World) (K : World → Prop) : Prop :=
 ∀ (b1 : Nat) (w2 : World), NewAt w w2 b1 #[.int .i64 hVa, .int .i64 hVb, .int .i64 hVc, .int .i64 hVd] 91 →
 ∃ (q3 : Option Addr), World.cell? w2 ⟨cap0, 0, none⟩ = some (.func (.func 104) #[] #[.pointer q3]) ∧
 ∃ (n4 : Int), World.cell? w2 ⟨b1, 0, none⟩ = some (.int .i64 n4) ∧
 ∃ (n5 : Int), World.cell? w2 ⟨b1, 1, none⟩ = some (.int .i64 n5) ∧
 ∃ (n6 : Int), World.cell? w2 ⟨b1, 2, none⟩ = some (.int .i64 n6) ∧
 ∃ (n7 : Int), World.cell? w2 ⟨b1, 3, none⟩ = some (.int .i64 n7) ∧
 ∀ (b8 : Nat) (w9 : World), NewAt w2 w9 b8 #[.int .i64 n4, .int .i64 n5, .int .i64 n6, .int .i64 n7] 3 →
 C104 (some ⟨b8, 0, none⟩) 4 4 q3 w9 fun w10 =>
 K w10
theorem r_f108 (hVa : Int) (hVb : Int) (hVc : Int) (hVd : Int) (cap0 : Nat) (w : World) (K : World → Prop) (h : V_f108 hVa hVb hVc hVd cap0 w K) : C108 hVa hVb hVc hVd (some ⟨cap0, 0, none⟩) w K :=
  @calls_of_eqF Try.prog 108 Try.f108 [.agg #[.int .i64 hVa, .int .i64 hVb, .int .i64 hVc, .int .i64 hVd], .pointer (some ⟨cap0, 0, none⟩)] w [] K _ (cfg true (fun _ => [])) (fun n => bif Nat.beq n 3 then some (104, 0, 1) else none) (fun _ => none) (fun _ => none) (fun _ => none) Try.func108 (by kernel_rfl) (by kernel_rfl) h

/-- gneiss/class.lay[gneiss/api.Handler] -/
def V_f107 (wV : Nat) (most : Int) (xsa : Option Addr) (xsl xsc : Nat) (one_0 : Option Addr) (w : World) (K : World → Prop) : Prop :=
 IfB (decide ((most : Int) < (xsl : Int)))
 (May w ⟨wV, 1, none⟩ ∧ ∀ w1 : World, SetC w w1 ⟨wV, 1, none⟩ (.bool true) →
 K w1)
 (C61 (some ⟨wV, 0, none⟩) (xsl : Int) w fun w2 =>
 ∃ (I3 : Int → World → Prop) (m4 : Int → World → Nat),
 I3 0 w2 ∧
 ∀ (_ : Env) (n5 : Int) (w6 : World), I3 n5 w6 →
 IfB (decide ((n5 : Int) < (xsl : Int)))
 (PtrOK xsa fun (p7 : Addr) =>
 ((0 : Int) ≤ n5 ∧ n5 < (xsl : Int)) ∧
 ∃ (n8 : Int), ∃ (n9 : Int), ∃ (n10 : Int), ∃ (n11 : Int), CellsAt w6 (Addr.add p7 (Int.toNat n5 * 4)) [.int .i64 n8, .int .i64 n9, .int .i64 n10, .int .i64 n11] ∧
 ∀ (b12 : Nat) (w13 : World), NewAt w6 w13 b12 #[.int .i64 0, .int .i64 0, .int .i64 0, .int .i64 0] 91 →
 MayL w13 ⟨b12, 0, none⟩ 4 ∧ ∀ w14 : World, SetL w13 w14 ⟨b12, 0, none⟩ [.int .i64 n8, .int .i64 n9, .int .i64 n10, .int .i64 n11] →
 ∃ (n15 : Int), ∃ (n16 : Int), ∃ (n17 : Int), ∃ (n18 : Int), CellsAt w14 ⟨b12, 0, none⟩ [.int .i64 n15, .int .i64 n16, .int .i64 n17, .int .i64 n18] ∧
 C108 n15 n16 n17 n18 one_0 w14 fun w19 =>
 Fit .i64 (n5 + 1) ∧
 (I3 (n5 + 1) w19 ∧
 m4 (n5 + 1) w19 < m4 n5 w6))
 (K w6))
theorem r_f107 (wV : Nat) (most : Int) (xsa : Option Addr) (xsl xsc : Nat) (one_0 : Option Addr) (w : World) (K : World → Prop) (h : V_f107 wV most xsa xsl xsc one_0 w K) : C107 (some ⟨wV, 0, none⟩) most xsa xsl xsc (.func (.func 108) #[] #[.pointer one_0] : Value) w K :=
  @calls_of_eq Try.prog 107 Try.f107 [.pointer (some ⟨wV, 0, none⟩), .int .i64 most, .slice xsa xsl xsc, .func (.func 108) #[] #[.pointer one_0]] w [] K _ (cfg true (fun _ => [])) (fun n => bif Nat.beq n 0 then some ⟨[23], [.int .i64]⟩ else none) (fun _ => none) (fun _ => none) Try.func107 (by kernel_rfl) (by kernel_rfl) h

/-- (*gneiss/class.writer).method$4 -/
def V_f110 (xa : Int) (xba : Option Addr) (xbl xbc : Nat) (xca : Option Addr) (xcl xcc : Nat) (cap0 : Nat) (w : World) (K : World → Prop) : Prop :=
 ∀ (b1 : Nat) (w2 : World), NewAt w w2 b1 #[.int .i64 xa, .slice xba xbl xbc, .slice xca xcl xcc] 89 →
 ∃ (q3 : Option Addr), World.cell? w2 ⟨cap0, 0, none⟩ = some (.pointer q3) ∧
 ∃ (n4 : Int), World.cell? w2 ⟨b1, 0, none⟩ = some (.int .i64 n4) ∧
 C61 q3 n4 w2 fun w5 =>
 ∃ (q6 : Option Addr), World.cell? w5 ⟨cap0, 0, none⟩ = some (.pointer q6) ∧
 ∃ (a7 : Option Addr) (l7 c7 : Nat), World.cell? w5 ⟨b1, 1, none⟩ = some (.slice a7 l7 c7) ∧
 ∃ (q8 : Option Addr), World.cell? w5 ⟨cap0, 0, none⟩ = some (.pointer q8) ∧
 C82 q6 24 a7 l7 c7 (.func (.func 61) #[.pointer q8] #[] : Value) w5 fun w9 =>
 ∃ (q10 : Option Addr), World.cell? w9 ⟨cap0, 0, none⟩ = some (.pointer q10) ∧
 ∃ (a11 : Option Addr) (l11 c11 : Nat), World.cell? w9 ⟨b1, 2, none⟩ = some (.slice a11 l11 c11) ∧
 ∃ (q12 : Option Addr), World.cell? w9 ⟨cap0, 0, none⟩ = some (.pointer q12) ∧
 C82 q10 24 a11 l11 c11 (.func (.func 61) #[.pointer q12] #[] : Value) w9 fun w13 =>
 K w13
theorem r_f110 (xa : Int) (xba : Option Addr) (xbl xbc : Nat) (xca : Option Addr) (xcl xcc : Nat) (cap0 : Nat) (w : World) (K : World → Prop) (h : V_f110 xa xba xbl xbc xca xcl xcc cap0 w K) : C110 xa xba xbl xbc xca xcl xcc (some ⟨cap0, 0, none⟩) w K :=
  @calls_of_eq Try.prog 110 Try.f110 [.agg #[.int .i64 xa, .slice xba xbl xbc, .slice xca xcl xcc], .pointer (some ⟨cap0, 0, none⟩)] w [] K _ (cfg true (fun _ => [])) (fun _ => none) (fun _ => none) (fun _ => none) Try.func110 (by kernel_rfl) (by kernel_rfl) h

/-- gneiss/class.lay[gneiss/api.Map] -/
def V_f109 (wV : Nat) (most : Int) (xsa : Option Addr) (xsl xsc : Nat) (one_0 : Option Addr) (w : World) (K : World → Prop) : Prop :=
 IfB (decide ((most : Int) < (xsl : Int)))
 (May w ⟨wV, 1, none⟩ ∧ ∀ w1 : World, SetC w w1 ⟨wV, 1, none⟩ (.bool true) →
 K w1)
 (C61 (some ⟨wV, 0, none⟩) (xsl : Int) w fun w2 =>
 ∃ (I3 : Int → World → Prop) (m4 : Int → World → Nat),
 I3 0 w2 ∧
 ∀ (_ : Env) (n5 : Int) (w6 : World), I3 n5 w6 →
 IfB (decide ((n5 : Int) < (xsl : Int)))
 (PtrOK xsa fun (p7 : Addr) =>
 ((0 : Int) ≤ n5 ∧ n5 < (xsl : Int)) ∧
 ∃ (n8 : Int), ∃ (a9 : Option Addr) (l9 c9 : Nat), ∃ (a10 : Option Addr) (l10 c10 : Nat), CellsAt w6 (Addr.add p7 (Int.toNat n5 * 3)) [.int .i64 n8, .slice a9 l9 c9, .slice a10 l10 c10] ∧
 ∀ (b11 : Nat) (w12 : World), NewAt w6 w12 b11 #[.int .i64 0, .slice none 0 0, .slice none 0 0] 89 →
 MayL w12 ⟨b11, 0, none⟩ 3 ∧ ∀ w13 : World, SetL w12 w13 ⟨b11, 0, none⟩ [.int .i64 n8, .slice a9 l9 c9, .slice a10 l10 c10] →
 ∃ (n14 : Int), ∃ (a15 : Option Addr) (l15 c15 : Nat), ∃ (a16 : Option Addr) (l16 c16 : Nat), CellsAt w13 ⟨b11, 0, none⟩ [.int .i64 n14, .slice a15 l15 c15, .slice a16 l16 c16] ∧
 C110 n14 a15 l15 c15 a16 l16 c16 one_0 w13 fun w17 =>
 Fit .i64 (n5 + 1) ∧
 (I3 (n5 + 1) w17 ∧
 m4 (n5 + 1) w17 < m4 n5 w6))
 (K w6))
theorem r_f109 (wV : Nat) (most : Int) (xsa : Option Addr) (xsl xsc : Nat) (one_0 : Option Addr) (w : World) (K : World → Prop) (h : V_f109 wV most xsa xsl xsc one_0 w K) : C109 (some ⟨wV, 0, none⟩) most xsa xsl xsc (.func (.func 110) #[] #[.pointer one_0] : Value) w K :=
  @calls_of_eq Try.prog 109 Try.f109 [.pointer (some ⟨wV, 0, none⟩), .int .i64 most, .slice xsa xsl xsc, .func (.func 110) #[] #[.pointer one_0]] w [] K _ (cfg true (fun _ => [])) (fun n => bif Nat.beq n 0 then some ⟨[23], [.int .i64]⟩ else none) (fun _ => none) (fun _ => none) Try.func109 (by kernel_rfl) (by kernel_rfl) h

/-- (*gneiss/class.writer).method -/
def V_f86 (wV : Nat) (ma : ByteArray) (mb : Bool) (mca : Option Addr) (mcl mcc : Nat) (md : Int) (me : Int) (mf : Int) (mga : Option Addr) (mgl mgc : Nat) (mha : Option Addr) (mhl mhc : Nat) (mia : Option Addr) (mil mic : Nat) (w : World) (K : World → Prop) : Prop :=
 ∀ (b1 : Nat) (w2 : World), NewAt w w2 b1 #[.pointer (some ⟨wV, 0, none⟩)] 127 →
 ∀ (b3 : Nat) (w4 : World), NewAt w2 w4 b3 #[.string ma, .bool mb, .slice mca mcl mcc, .int .i64 md, .int .i64 me, .int .i64 mf, .slice mga mgl mgc, .slice mha mhl mhc, .slice mia mil mic] 82 →
 ∃ (q5 : Option Addr), World.cell? w4 ⟨b1, 0, none⟩ = some (.pointer q5) ∧
 ∃ (s6 : ByteArray), World.cell? w4 ⟨b3, 0, none⟩ = some (.string s6) ∧
 C80 q5 s6 w4 fun w7 =>
 ∃ M8 : World → Prop,
 (∀ w10 : World, Drew w7 w10 →
 ∃ (b11 : Bool), World.cell? w10 ⟨b3, 1, none⟩ = some (.bool b11) ∧
 (∃ (q12 : Option Addr), World.cell? w10 ⟨b1, 0, none⟩ = some (.pointer q12) ∧
 C81 b11 1 w10 fun n13 w14 =>
 C61 q12 n13 w14 fun w15 =>
 M8 w15) ∧
 (C81 b11 1 w10 fun n16 w17 =>
 ∃ (q18 : Option Addr), World.cell? w17 ⟨b1, 0, none⟩ = some (.pointer q18) ∧
 C61 q18 n16 w17 fun w19 =>
 M8 w19)) ∧
 ∀ (_ : Env) (w9 : World), M8 w9 →
 ∃ (q20 : Option Addr), World.cell? w9 ⟨b1, 0, none⟩ = some (.pointer q20) ∧
 ∃ (a21 : Option Addr) (l21 c21 : Nat), World.cell? w9 ⟨b3, 2, none⟩ = some (.slice a21 l21 c21) ∧
 ∃ (q22 : Option Addr), World.cell? w9 ⟨b1, 0, none⟩ = some (.pointer q22) ∧
 C82 q20 8 a21 l21 c21 (.func (.func 61) #[.pointer q22] #[] : Value) w9 fun w23 =>
 ∃ (q24 : Option Addr), World.cell? w23 ⟨b1, 0, none⟩ = some (.pointer q24) ∧
 ∃ (n25 : Int), World.cell? w23 ⟨b3, 3, none⟩ = some (.int .i64 n25) ∧
 C61 q24 n25 w23 fun w26 =>
 ∃ M27 : World → Prop,
 (∀ w29 : World, Drew w26 w29 →
 ∃ (q30 : Option Addr), World.cell? w29 ⟨b1, 0, none⟩ = some (.pointer q30) ∧
 ∃ (q31 : Option Addr), World.cell? w29 ⟨b1, 0, none⟩ = some (.pointer q31) ∧
 PtrOK q31 fun (p32 : Addr) =>
 ∃ (b33 : Bool), World.cell? w29 (Addr.add p32 3) = some (.bool b33) ∧
 IfB b33
 (PtrOK q30 fun (p34 : Addr) =>
 May w29 (Addr.add p34 3) ∧ ∀ w35 : World, SetC w29 w35 (Addr.add p34 3) (.bool true) →
 M27 w35)
 (∃ (n36 : Int), World.cell? w29 ⟨b3, 4, none⟩ = some (.int .i64 n36) ∧
 IfB (decide ((n36 : Int) < 0))
 (PtrOK q30 fun (p37 : Addr) =>
 May w29 (Addr.add p37 3) ∧ ∀ w38 : World, SetC w29 w38 (Addr.add p37 3) (.bool true) →
 M27 w38)
 (∃ (n39 : Int), World.cell? w29 ⟨b3, 4, none⟩ = some (.int .i64 n39) ∧
 IfB (decide ((24 : Int) < n39))
 (PtrOK q30 fun (p40 : Addr) =>
 May w29 (Addr.add p40 3) ∧ ∀ w41 : World, SetC w29 w41 (Addr.add p40 3) (.bool true) →
 M27 w41)
 (∃ (n42 : Int), World.cell? w29 ⟨b3, 5, none⟩ = some (.int .i64 n42) ∧
 IfB (decide ((n42 : Int) < 0))
 (PtrOK q30 fun (p43 : Addr) =>
 May w29 (Addr.add p43 3) ∧ ∀ w44 : World, SetC w29 w44 (Addr.add p43 3) (.bool true) →
 M27 w44)
 (∃ (n45 : Int), World.cell? w29 ⟨b3, 5, none⟩ = some (.int .i64 n45) ∧
 PtrOK q30 fun (p46 : Addr) =>
 May w29 (Addr.add p46 3) ∧ ∀ w47 : World, SetC w29 w47 (Addr.add p46 3) (.bool (decide ((24 : Int) < n45))) →
 M27 w47))))) ∧
 ∀ (_ : Env) (w28 : World), M27 w28 →
 ∃ (q48 : Option Addr), World.cell? w28 ⟨b1, 0, none⟩ = some (.pointer q48) ∧
 ∃ (n49 : Int), World.cell? w28 ⟨b3, 4, none⟩ = some (.int .i64 n49) ∧
 C61 q48 n49 w28 fun w50 =>
 ∃ (q51 : Option Addr), World.cell? w50 ⟨b1, 0, none⟩ = some (.pointer q51) ∧
 ∃ (n52 : Int), World.cell? w50 ⟨b3, 5, none⟩ = some (.int .i64 n52) ∧
 C61 q51 n52 w50 fun w53 =>
 ∀ (b54 : Nat) (w55 : World), NewAt w53 w55 b54 #[Value.nilFunc] 163 →
 May w55 ⟨b54, 0, none⟩ ∧ ∀ w56 : World, SetC w55 w56 ⟨b54, 0, none⟩ (.func (.func 104) #[] #[.pointer (some ⟨b1, 0, none⟩)]) →
 ∃ (q57 : Option Addr), World.cell? w56 ⟨b1, 0, none⟩ = some (.pointer q57) ∧
 ∃ (a58 : Option Addr) (l58 c58 : Nat), World.cell? w56 ⟨b3, 6, none⟩ = some (.slice a58 l58 c58) ∧
 C105 q57 300 a58 l58 c58 (.func (.func 106) #[] #[.pointer (some ⟨b54, 0, none⟩)] : Value) w56 fun w59 =>
 ∃ (q60 : Option Addr), World.cell? w59 ⟨b1, 0, none⟩ = some (.pointer q60) ∧
 ∃ (a61 : Option Addr) (l61 c61 : Nat), World.cell? w59 ⟨b3, 7, none⟩ = some (.slice a61 l61 c61) ∧
 C107 q60 16 a61 l61 c61 (.func (.func 108) #[] #[.pointer (some ⟨b54, 0, none⟩)] : Value) w59 fun w62 =>
 ∃ (q63 : Option Addr), World.cell? w62 ⟨b1, 0, none⟩ = some (.pointer q63) ∧
 ∃ (a64 : Option Addr) (l64 c64 : Nat), World.cell? w62 ⟨b3, 8, none⟩ = some (.slice a64 l64 c64) ∧
 C109 q63 64 a64 l64 c64 (.func (.func 110) #[] #[.pointer (some ⟨b1, 0, none⟩)] : Value) w62 fun w65 =>
 K w65
theorem r_f86 (wV : Nat) (ma : ByteArray) (mb : Bool) (mca : Option Addr) (mcl mcc : Nat) (md : Int) (me : Int) (mf : Int) (mga : Option Addr) (mgl mgc : Nat) (mha : Option Addr) (mhl mhc : Nat) (mia : Option Addr) (mil mic : Nat) (w : World) (K : World → Prop) (h : V_f86 wV ma mb mca mcl mcc md me mf mga mgl mgc mha mhl mhc mia mil mic w K) : C86 (some ⟨wV, 0, none⟩) ma mb mca mcl mcc md me mf mga mgl mgc mha mhl mhc mia mil mic w K :=
  @calls_of_eq Try.prog 86 Try.f86 [.pointer (some ⟨wV, 0, none⟩), .agg #[.string ma, .bool mb, .slice mca mcl mcc, .int .i64 md, .int .i64 me, .int .i64 mf, .slice mga mgl mgc, .slice mha mhl mhc, .slice mia mil mic]] w [] K _ (cfg true (fun _ => [])) (fun _ => none) (fun n => bif Nat.beq n 3 then some ⟨[], []⟩ else bif Nat.beq n 6 then some ⟨[], []⟩ else none) (fun n => bif Nat.beq n 5 then some 27 else none) Try.func86 (by kernel_rfl) (by kernel_rfl) h

/-- (*gneiss/class.writer).class -/
def V_f63 (wV : Nat) (ca : ByteArray) (cb : Bool) (cc : Bool) (cd : Int) (cea : Option Addr) (cel cec : Nat) (cfa : Option Addr) (cfl cfc : Nat) (cga : Option Addr) (cgl cgc : Nat) (cha : Option Addr) (chl chc : Nat) (w : World) (K : World → Prop) : Prop :=
 ∀ (b1 : Nat) (w2 : World), NewAt w w2 b1 #[.pointer (some ⟨wV, 0, none⟩)] 127 →
 ∀ (b3 : Nat) (w4 : World), NewAt w2 w4 b3 #[.string ca, .bool cb, .bool cc, .int .i64 cd, .slice cea cel cec, .slice cfa cfl cfc, .slice cga cgl cgc, .slice cha chl chc] 75 →
 ∃ (q5 : Option Addr), World.cell? w4 ⟨b1, 0, none⟩ = some (.pointer q5) ∧
 ∃ (s6 : ByteArray), World.cell? w4 ⟨b3, 0, none⟩ = some (.string s6) ∧
 C80 q5 s6 w4 fun w7 =>
 ∃ M8 : World → Prop,
 (∀ w10 : World, Drew w7 w10 →
 ∃ (b11 : Bool), World.cell? w10 ⟨b3, 1, none⟩ = some (.bool b11) ∧
 (∃ (q12 : Option Addr), World.cell? w10 ⟨b1, 0, none⟩ = some (.pointer q12) ∧
 (C81 b11 1 w10 fun n13 w14 =>
 ∃ (b15 : Bool), World.cell? w14 ⟨b3, 2, none⟩ = some (.bool b15) ∧
 C81 b15 2 w14 fun n16 w17 =>
 Fit .i64 (n13 + n16) ∧
 C61 q12 (n13 + n16) w17 fun w18 =>
 M8 w18) ∧
 (∃ (b19 : Bool), World.cell? w10 ⟨b3, 2, none⟩ = some (.bool b19) ∧
 C81 b11 1 w10 fun n20 w21 =>
 C81 b19 2 w21 fun n22 w23 =>
 Fit .i64 (n20 + n22) ∧
 C61 q12 (n20 + n22) w23 fun w24 =>
 M8 w24)) ∧
 (C81 b11 1 w10 fun n25 w26 =>
 ∃ (b27 : Bool), World.cell? w26 ⟨b3, 2, none⟩ = some (.bool b27) ∧
 (∃ (q28 : Option Addr), World.cell? w26 ⟨b1, 0, none⟩ = some (.pointer q28) ∧
 C81 b27 2 w26 fun n29 w30 =>
 Fit .i64 (n25 + n29) ∧
 C61 q28 (n25 + n29) w30 fun w31 =>
 M8 w31) ∧
 (C81 b27 2 w26 fun n32 w33 =>
 ∃ (q34 : Option Addr), World.cell? w33 ⟨b1, 0, none⟩ = some (.pointer q34) ∧
 Fit .i64 (n25 + n32) ∧
 C61 q34 (n25 + n32) w33 fun w35 =>
 M8 w35)) ∧
 (∃ (b36 : Bool), World.cell? w10 ⟨b3, 2, none⟩ = some (.bool b36) ∧
 (∃ (q37 : Option Addr), World.cell? w10 ⟨b1, 0, none⟩ = some (.pointer q37) ∧
 C81 b11 1 w10 fun n38 w39 =>
 C81 b36 2 w39 fun n40 w41 =>
 Fit .i64 (n38 + n40) ∧
 C61 q37 (n38 + n40) w41 fun w42 =>
 M8 w42) ∧
 (C81 b11 1 w10 fun n43 w44 =>
 (∃ (q45 : Option Addr), World.cell? w44 ⟨b1, 0, none⟩ = some (.pointer q45) ∧
 C81 b36 2 w44 fun n46 w47 =>
 Fit .i64 (n43 + n46) ∧
 C61 q45 (n43 + n46) w47 fun w48 =>
 M8 w48) ∧
 (C81 b36 2 w44 fun n49 w50 =>
 ∃ (q51 : Option Addr), World.cell? w50 ⟨b1, 0, none⟩ = some (.pointer q51) ∧
 Fit .i64 (n43 + n49) ∧
 C61 q51 (n43 + n49) w50 fun w52 =>
 M8 w52)))) ∧
 ∀ (_ : Env) (w9 : World), M8 w9 →
 ∃ (q53 : Option Addr), World.cell? w9 ⟨b1, 0, none⟩ = some (.pointer q53) ∧
 ∃ (n54 : Int), World.cell? w9 ⟨b3, 3, none⟩ = some (.int .i64 n54) ∧
 C61 q53 n54 w9 fun w55 =>
 ∃ (q56 : Option Addr), World.cell? w55 ⟨b1, 0, none⟩ = some (.pointer q56) ∧
 ∃ (a57 : Option Addr) (l57 c57 : Nat), World.cell? w55 ⟨b3, 4, none⟩ = some (.slice a57 l57 c57) ∧
 ∃ (q58 : Option Addr), World.cell? w55 ⟨b1, 0, none⟩ = some (.pointer q58) ∧
 C82 q56 8 a57 l57 c57 (.func (.func 61) #[.pointer q58] #[] : Value) w55 fun w59 =>
 ∃ (q60 : Option Addr), World.cell? w59 ⟨b1, 0, none⟩ = some (.pointer q60) ∧
 ∃ (a61 : Option Addr) (l61 c61 : Nat), World.cell? w59 ⟨b3, 5, none⟩ = some (.slice a61 l61 c61) ∧
 C84 q60 24 a61 l61 c61 (.func (.func 83) #[] #[.pointer (some ⟨b1, 0, none⟩)] : Value) w59 fun w62 =>
 ∃ (q63 : Option Addr), World.cell? w62 ⟨b1, 0, none⟩ = some (.pointer q63) ∧
 ∃ (a64 : Option Addr) (l64 c64 : Nat), World.cell? w62 ⟨b3, 6, none⟩ = some (.slice a64 l64 c64) ∧
 C84 q63 24 a64 l64 c64 (.func (.func 83) #[] #[.pointer (some ⟨b1, 0, none⟩)] : Value) w62 fun w65 =>
 ∃ (q66 : Option Addr), World.cell? w65 ⟨b1, 0, none⟩ = some (.pointer q66) ∧
 ∃ (a67 : Option Addr) (l67 c67 : Nat), World.cell? w65 ⟨b3, 7, none⟩ = some (.slice a67 l67 c67) ∧
 ∃ (q68 : Option Addr), World.cell? w65 ⟨b1, 0, none⟩ = some (.pointer q68) ∧
 C85 q66 24 a67 l67 c67 (.func (.func 86) #[.pointer q68] #[] : Value) w65 fun w69 =>
 K w69
theorem r_f63 (wV : Nat) (ca : ByteArray) (cb : Bool) (cc : Bool) (cd : Int) (cea : Option Addr) (cel cec : Nat) (cfa : Option Addr) (cfl cfc : Nat) (cga : Option Addr) (cgl cgc : Nat) (cha : Option Addr) (chl chc : Nat) (w : World) (K : World → Prop) (h : V_f63 wV ca cb cc cd cea cel cec cfa cfl cfc cga cgl cgc cha chl chc w K) : C63 (some ⟨wV, 0, none⟩) ca cb cc cd cea cel cec cfa cfl cfc cga cgl cgc cha chl chc w K :=
  @calls_of_eq Try.prog 63 Try.f63 [.pointer (some ⟨wV, 0, none⟩), .agg #[.string ca, .bool cb, .bool cc, .int .i64 cd, .slice cea cel cec, .slice cfa cfl cfc, .slice cga cgl cgc, .slice cha chl chc]] w [] K _ (cfg true (fun _ => [])) (fun _ => none) (fun n => bif Nat.beq n 3 then some ⟨[], []⟩ else none) (fun _ => none) Try.func63 (by kernel_rfl) (by kernel_rfl) h

/-- gneiss/class.Encode -/
def V_f35 (pa : Int) (pba : Option Addr) (pbl pbc : Nat) (w : World) (K : ByteArray → Int → World → Prop) : Prop :=
 ∀ (b1 : Nat) (w2 : World), NewAt w w2 b1 #[.int .i64 pa, .slice pba pbl pbc] 54 →
 ∀ (b3 : Nat) (w4 : World), NewAt w2 w4 b3 #[.int .u8 71, .int .u8 78, .int .u8 83, .int .u8 83] 5 →
 RunF Try.prog (convert 24 24 (.slice (some ⟨b3, 0, none⟩) 4 4)) w4 [.leaf .slice] fun (a5 : Option Addr) (l5 c5 : Nat) (w6 : World) =>
 ∀ (b7 : Nat) (w8 : World), NewAt w6 w8 b7 #[.slice a5 l5 c5, .bool false, .bool false, .bool false] 129 →
 ∃ (n9 : Int), World.cell? w8 ⟨b1, 0, none⟩ = some (.int .i64 n9) ∧
 C61 (some ⟨b7, 0, none⟩) n9 w8 fun w10 =>
 ∃ (a11 : Option Addr) (l11 c11 : Nat), World.cell? w10 ⟨b1, 1, none⟩ = some (.slice a11 l11 c11) ∧
 C62 (some ⟨b7, 0, none⟩) 40 a11 l11 c11 (.func (.func 63) #[.pointer (some ⟨b7, 0, none⟩)] #[] : Value) w10 fun w12 =>
 ∃ (b13 : Bool), World.cell? w12 ⟨b7, 1, none⟩ = some (.bool b13) ∧
 IfB b13
 (K (ByteArray.mk #[]) 1404 w12)
 (∃ (b14 : Bool), World.cell? w12 ⟨b7, 2, none⟩ = some (.bool b14) ∧
 IfB b14
 (K (ByteArray.mk #[]) 1403 w12)
 (∃ (b15 : Bool), World.cell? w12 ⟨b7, 3, none⟩ = some (.bool b15) ∧
 IfB b15
 (K (ByteArray.mk #[]) 1402 w12)
 (∃ (a16 : Option Addr) (l16 c16 : Nat), World.cell? w12 ⟨b7, 0, none⟩ = some (.slice a16 l16 c16) ∧
 IfB (decide ((32768 : Int) < (l16 : Int)))
 (K (ByteArray.mk #[]) 1406 w12)
 (∃ (a17 : Option Addr) (l17 c17 : Nat), World.cell? w12 ⟨b7, 0, none⟩ = some (.slice a17 l17 c17) ∧
 RunF Try.prog (convert 24 9 (.slice a17 l17 c17)) w12 [.leaf .str] fun (s18 : ByteArray) (w19 : World) =>
 K s18 0 w19))))
theorem r_f35 (pa : Int) (pba : Option Addr) (pbl pbc : Nat) (w : World) (K : ByteArray → Int → World → Prop) (h : V_f35 pa pba pbl pbc w K) : C35 pa pba pbl pbc w K :=
  @calls_of_eq Try.prog 35 Try.f35 [.agg #[.int .i64 pa, .slice pba pbl pbc]] w [.leaf .str, .leaf (.int .i64)] K _ (cfg true (fun _ => [])) (fun _ => none) (fun _ => none) (fun _ => none) Try.func35 (by kernel_rfl) (by kernel_rfl) h

end Go.Proofs.Ytmlhdmnnijapjaa.V
