/- Readings of the program's functions. No condition. -/
import Derived.Test.YtmlhdmnnijapjaaGCfg
namespace Go.Proofs.Ytmlhdmnnijapjaa.V
open Go
set_option maxRecDepth 100000
set_option linter.unusedVariables false
/-- gneiss/class.fail -/
def V_f50 (X : List PanicEntry → World → Prop) (is : Bool) (atV : Int) (code : Int) (w : World) (K : World → Prop) : Prop :=
 IfB is
 (X [{ v := .iface 107 (.agg #[.int .i64 atV, .int .i64 code]), recovered := false }] w)
 (K w)
theorem r_f50 (X : List PanicEntry → World → Prop) (is : Bool) (atV : Int) (code : Int) (w : World) (K : World → Prop) (h : V_f50 X is atV code w K) : CX50 X is atV code w K :=
  @calls_of_eqX Try.prog 50 Try.f50 [.bool is, .int .i64 atV, .int .i64 code] w [] K _ (cfg true (fun _ => [])) (thrC X (fun _ => none)) (fun _ => none) (fun _ => none) (fun _ => none) Try.func50 (by kernel_rfl) (by kernel_rfl) h

/-- (*gneiss/class.reader).num -/
def V_f47 (X : List PanicEntry → World → Prop) (r : Nat) (w : World) (K : Int → World → Prop) : Prop :=
 ∀ w1 : World, Drew w w1 →
 ∃ (s2 : ByteArray), World.cell? w1 ⟨r, 0, none⟩ = some (.string s2) ∧
 ∃ (n3 : Int), World.cell? w1 ⟨r, 1, none⟩ = some (.int .i64 n3) ∧
 C17 s2 n3 w1 fun n4 n5 n6 w7 =>
 ∃ (n8 : Int), World.cell? w7 ⟨r, 1, none⟩ = some (.int .i64 n8) ∧
 CX50 X (decide ((n6 : Int) = 200)) n8 1401 w7 fun w9 =>
 ∃ (n10 : Int), World.cell? w9 ⟨r, 1, none⟩ = some (.int .i64 n10) ∧
 CX50 X (!decide ((n6 : Int) = 0)) n10 1402 w9 fun w11 =>
 May w11 ⟨r, 1, none⟩ ∧ ∀ w12 : World, SetC w11 w12 ⟨r, 1, none⟩ (.int .i64 n5) →
 K n4 w12
theorem r_f47 (X : List PanicEntry → World → Prop) (r : Nat) (w : World) (K : Int → World → Prop) (h : V_f47 X r w K) : CX47 X (some ⟨r, 0, none⟩) w K :=
  @calls_of_eqX Try.prog 47 Try.f47 [.pointer (some ⟨r, 0, none⟩)] w [.leaf (.int .i64)] K _ (cfg true (fun _ => [])) (thrC X (fun _ => none)) (fun _ => none) (fun _ => none) (fun _ => none) Try.func47 (by kernel_rfl) (by kernel_rfl) h

/-- (*gneiss/class.reader).name -/
def V_f68 (X : List PanicEntry → World → Prop) (r : Nat) (w : World) (K : ByteArray → World → Prop) : Prop :=
 ∃ (n1 : Int), World.cell? w ⟨r, 1, none⟩ = some (.int .i64 n1) ∧
 CX47 X (some ⟨r, 0, none⟩) w fun n2 w3 =>
 ∃ M4 : World → Prop,
 (IfB (decide ((n2 : Int) < 0))
 (CX50 X true n1 1403 w3 fun w6 =>
 M4 w6)
 (CX50 X (decide ((16 : Int) < n2)) n1 1403 w3 fun w7 =>
 M4 w7)) ∧
 ∀ (_ : Env) (w5 : World), M4 w5 →
 ∀ w8 : World, Drew w5 w8 →
 ∃ (s9 : ByteArray), World.cell? w8 ⟨r, 0, none⟩ = some (.string s9) ∧
 ∃ (n10 : Int), World.cell? w8 ⟨r, 1, none⟩ = some (.int .i64 n10) ∧
 Fit .i64 ((ByteArray.size s9 : Int) - n10) ∧
 CX50 X (decide ((((ByteArray.size s9 : Int) - n10) : Int) < n2)) n1 1401 w8 fun w11 =>
 ∀ w12 : World, Drew w11 w12 →
 ∃ (s13 : ByteArray), World.cell? w12 ⟨r, 0, none⟩ = some (.string s13) ∧
 ∃ (n14 : Int), World.cell? w12 ⟨r, 1, none⟩ = some (.int .i64 n14) ∧
 ∃ (n15 : Int), World.cell? w12 ⟨r, 1, none⟩ = some (.int .i64 n15) ∧
 Fit .i64 (n15 + n2) ∧
 ((0 : Int) ≤ n14 ∧ (n14 : Int) ≤ (n15 + n2) ∧ ((n15 + n2) : Int) ≤ (ByteArray.size s13 : Int)) ∧
 C94 (ByteArray.extract s13 (Int.toNat n14) (Int.toNat (n15 + n2))) w12 fun b16 w17 =>
 CX50 X (!b16) n1 1403 w17 fun w18 =>
 ∃ (n19 : Int), World.cell? w18 ⟨r, 1, none⟩ = some (.int .i64 n19) ∧
 Fit .i64 (n19 + n2) ∧
 May w18 ⟨r, 1, none⟩ ∧ ∀ w20 : World, SetC w18 w20 ⟨r, 1, none⟩ (.int .i64 (n19 + n2)) →
 K (ByteArray.extract s13 (Int.toNat n14) (Int.toNat (n15 + n2))) w20
theorem r_f68 (X : List PanicEntry → World → Prop) (r : Nat) (w : World) (K : ByteArray → World → Prop) (h : V_f68 X r w K) : CX68 X (some ⟨r, 0, none⟩) w K :=
  @calls_of_eqX Try.prog 68 Try.f68 [.pointer (some ⟨r, 0, none⟩)] w [.leaf .str] K _ (cfg true (fun _ => [])) (thrC X (fun _ => none)) (fun _ => none) (fun n => bif Nat.beq n 4 then some ⟨[], []⟩ else none) (fun n => bif Nat.beq n 4 then some 13 else bif Nat.beq n 5 then some 16 else none) Try.func68 (by kernel_rfl) (by kernel_rfl) h

/-- (*gneiss/class.reader).within -/
def V_f69 (X : List PanicEntry → World → Prop) (r : Nat) (low : Int) (high : Int) (w : World) (K : Int → World → Prop) : Prop :=
 ∃ (n1 : Int), World.cell? w ⟨r, 1, none⟩ = some (.int .i64 n1) ∧
 CX47 X (some ⟨r, 0, none⟩) w fun n2 w3 =>
 IfB (decide ((n2 : Int) < low))
 (CX50 X true n1 1402 w3 fun w4 =>
 K n2 w4)
 (CX50 X (decide ((high : Int) < n2)) n1 1402 w3 fun w5 =>
 K n2 w5)
theorem r_f69 (X : List PanicEntry → World → Prop) (r : Nat) (low : Int) (high : Int) (w : World) (K : Int → World → Prop) (h : V_f69 X r low high w K) : CX69 X (some ⟨r, 0, none⟩) low high w K :=
  @calls_of_eqX Try.prog 69 Try.f69 [.pointer (some ⟨r, 0, none⟩), .int .i64 low, .int .i64 high] w [.leaf (.int .i64)] K _ (cfg true (fun _ => [])) (thrC X (fun _ => none)) (fun _ => none) (fun _ => none) (fun _ => none) Try.func69 (by kernel_rfl) (by kernel_rfl) h

/-- gneiss/class.Name -/
def V_f94 (s : ByteArray) (w : World) (K : Bool → World → Prop) : Prop :=
 ∃ M1 : World → Prop,
 (IfB (ByteArray.toList s == ByteArray.toList (ByteArray.mk #[]))
 (K false w)
 (IfB (decide ((16 : Int) < (ByteArray.size s : Int)))
 (K false w)
 (M1 w))) ∧
 ∀ (_ : Env) (w2 : World), M1 w2 →
 ∃ (I3 : Int → World → Prop) (m4 : Int → World → Nat),
 I3 0 w2 ∧
 ∀ (_ : Env) (n5 : Int) (w6 : World), I3 n5 w6 →
 IfB (decide ((n5 : Int) < (ByteArray.size s : Int)))
 (∃ M7 : Bool → World → Prop,
 (∃ h10 : Int.toNat n5 < ByteArray.size s, 0 ≤ n5 ∧
 IfB (decide ((97 : Int) ≤ (bits .or .u8 ((UInt8.toNat (s[Int.toNat n5]'h10) : Nat) : Int) 32)))
 (∃ h11 : Int.toNat n5 < ByteArray.size s, 0 ≤ n5 ∧
 IfB (decide (((bits .or .u8 ((UInt8.toNat (s[Int.toNat n5]'h11) : Nat) : Int) 32) : Int) ≤ 122))
 (M7 true w6)
 (∃ h12 : Int.toNat n5 < ByteArray.size s, 0 ≤ n5 ∧
 M7 (decide ((((UInt8.toNat (s[Int.toNat n5]'h12) : Nat) : Int) : Int) = 95)) w6))
 (∃ h13 : Int.toNat n5 < ByteArray.size s, 0 ≤ n5 ∧
 M7 (decide ((((UInt8.toNat (s[Int.toNat n5]'h13) : Nat) : Int) : Int) = 95)) w6)) ∧
 ∀ (_ : Env) (b8 : Bool) (w9 : World), M7 b8 w9 →
 IfB (!b8)
 (IfB (decide ((n5 : Int) = 0))
 (K false w9)
 (∃ h14 : Int.toNat n5 < ByteArray.size s, 0 ≤ n5 ∧
 IfB (decide ((((UInt8.toNat (s[Int.toNat n5]'h14) : Nat) : Int) : Int) < 48))
 (K false w9)
 (∃ h15 : Int.toNat n5 < ByteArray.size s, 0 ≤ n5 ∧
 IfB (decide ((57 : Int) < ((UInt8.toNat (s[Int.toNat n5]'h15) : Nat) : Int)))
 (K false w9)
 (Fit .i64 (n5 + 1) ∧
 (I3 (n5 + 1) w9 ∧
 m4 (n5 + 1) w9 < m4 n5 w6)))))
 (Fit .i64 (n5 + 1) ∧
 (I3 (n5 + 1) w9 ∧
 m4 (n5 + 1) w9 < m4 n5 w6)))
 (K true w6)
theorem r_f94 (s : ByteArray) (w : World) (K : Bool → World → Prop) (h : V_f94 s w K) : C94 s w K :=
  @calls_of_eq Try.prog 94 Try.f94 [.string s] w [.leaf .bool] K _ (cfg true (fun _ => [])) (fun n => bif Nat.beq n 0 then some ⟨[14], [.int .i64]⟩ else none) (fun n => bif Nat.beq n 3 then some ⟨[], []⟩ else bif Nat.beq n 7 then some ⟨[4], [.bool]⟩ else none) (fun _ => none) Try.func94 (by kernel_rfl) (by kernel_rfl) h

/-- gneiss/class.list[int] -/
def V_f71 (X : List PanicEntry → World → Prop) (r : Nat) (most : Int) (one_0 : Option Addr) (w : World) (K : Option Addr → Nat → Nat → World → Prop) : Prop :=
 ∃ (n1 : Int), World.cell? w ⟨r, 1, none⟩ = some (.int .i64 n1) ∧
 CX47 X (some ⟨r, 0, none⟩) w fun n2 w3 =>
 CX50 X (decide ((n2 : Int) < 0)) n1 1402 w3 fun w4 =>
 CX50 X (decide ((most : Int) < n2)) n1 1404 w4 fun w5 =>
 ∃ (I6 : Option Addr → Nat → Nat → Int → World → Prop) (m7 : Option Addr → Nat → Nat → Int → World → Nat),
 I6 none 0 0 0 w5 ∧
 ∀ (_ : Env) (a8 : Option Addr) (l8 c8 : Nat) (n9 : Int) (w10 : World), I6 a8 l8 c8 n9 w10 →
 IfB (decide ((n9 : Int) < n2))
 (CX47 X one_0 w10 fun n11 w12 =>
 ∀ (b13 : Nat) (w14 : World), NewAt w12 w14 b13 #[.int .i64 n11] 3 →
 RunF Try.prog (Builtin.append_ #[38, 38] 38 #[.slice a8 l8 c8, .slice (some ⟨b13, 0, none⟩) 1 1]) w14 [.leaf .slice] fun (a15 : Option Addr) (l15 c15 : Nat) (w16 : World) =>
 Fit .i64 (n9 + 1) ∧
 (I6 a15 l15 c15 (n9 + 1) w16 ∧
 m7 a15 l15 c15 (n9 + 1) w16 < m7 a8 l8 c8 n9 w10))
 (K a8 l8 c8 w10)
theorem r_f71 (X : List PanicEntry → World → Prop) (r : Nat) (most : Int) (one_0 : Option Addr) (w : World) (K : Option Addr → Nat → Nat → World → Prop) (h : V_f71 X r most one_0 w K) : CX71 X (some ⟨r, 0, none⟩) most (.func (.func 47) #[.pointer one_0] #[] : Value) w K :=
  @calls_of_eqX Try.prog 71 Try.f71 [.pointer (some ⟨r, 0, none⟩), .int .i64 most, .func (.func 47) #[.pointer one_0] #[]] w [.leaf .slice] K _ (cfg true (fun _ => [])) (thrC X (fun _ => none)) (fun n => bif Nat.beq n 0 then some ⟨[9, 26], [.slice, .int .i64]⟩ else none) (fun _ => none) (fun _ => none) Try.func71 (by kernel_rfl) (by kernel_rfl) h

/-- gneiss/class.list[gneiss/api.Field] -/
def V_f72 (X : List PanicEntry → World → Prop) (r : Nat) (most : Int) (one_0 : Option Addr) (w : World) (K : Option Addr → Nat → Nat → World → Prop) : Prop :=
 ∃ (n1 : Int), World.cell? w ⟨r, 1, none⟩ = some (.int .i64 n1) ∧
 CX47 X (some ⟨r, 0, none⟩) w fun n2 w3 =>
 CX50 X (decide ((n2 : Int) < 0)) n1 1402 w3 fun w4 =>
 CX50 X (decide ((most : Int) < n2)) n1 1404 w4 fun w5 =>
 ∃ (I6 : Option Addr → Nat → Nat → Int → World → Prop) (m7 : Option Addr → Nat → Nat → Int → World → Nat),
 I6 none 0 0 0 w5 ∧
 ∀ (_ : Env) (a8 : Option Addr) (l8 c8 : Nat) (n9 : Int) (w10 : World), I6 a8 l8 c8 n9 w10 →
 IfB (decide ((n9 : Int) < n2))
 (CX70 X one_0 w10 fun s11 n12 w13 =>
 ∀ (b14 : Nat) (w15 : World), NewAt w13 w15 b14 #[.string s11, .int .i64 n12] 77 →
 RunF Try.prog (Builtin.append_ #[72, 72] 72 #[.slice a8 l8 c8, .slice (some ⟨b14, 0, none⟩) 1 1]) w15 [.leaf .slice] fun (a16 : Option Addr) (l16 c16 : Nat) (w17 : World) =>
 Fit .i64 (n9 + 1) ∧
 (I6 a16 l16 c16 (n9 + 1) w17 ∧
 m7 a16 l16 c16 (n9 + 1) w17 < m7 a8 l8 c8 n9 w10))
 (K a8 l8 c8 w10)
theorem r_f72 (X : List PanicEntry → World → Prop) (r : Nat) (most : Int) (one_0 : Option Addr) (w : World) (K : Option Addr → Nat → Nat → World → Prop) (h : V_f72 X r most one_0 w K) : CX72 X (some ⟨r, 0, none⟩) most (.func (.func 70) #[] #[.pointer one_0] : Value) w K :=
  @calls_of_eqX Try.prog 72 Try.f72 [.pointer (some ⟨r, 0, none⟩), .int .i64 most, .func (.func 70) #[] #[.pointer one_0]] w [.leaf .slice] K _ (cfg true (fun _ => [])) (thrC X (fun _ => none)) (fun n => bif Nat.beq n 0 then some ⟨[9, 26], [.slice, .int .i64]⟩ else none) (fun _ => none) (fun _ => none) Try.func72 (by kernel_rfl) (by kernel_rfl) h

/-- gneiss/class.list[gneiss/api.Method] -/
def V_f73 (X : List PanicEntry → World → Prop) (r : Nat) (most : Int) (one_0 : Option Addr) (w : World) (K : Option Addr → Nat → Nat → World → Prop) : Prop :=
 ∃ (n1 : Int), World.cell? w ⟨r, 1, none⟩ = some (.int .i64 n1) ∧
 CX47 X (some ⟨r, 0, none⟩) w fun n2 w3 =>
 CX50 X (decide ((n2 : Int) < 0)) n1 1402 w3 fun w4 =>
 CX50 X (decide ((most : Int) < n2)) n1 1404 w4 fun w5 =>
 ∃ (I6 : Option Addr → Nat → Nat → Int → World → Prop) (m7 : Option Addr → Nat → Nat → Int → World → Nat),
 I6 none 0 0 0 w5 ∧
 ∀ (_ : Env) (a8 : Option Addr) (l8 c8 : Nat) (n9 : Int) (w10 : World), I6 a8 l8 c8 n9 w10 →
 IfB (decide ((n9 : Int) < n2))
 (CX74 X one_0 w10 fun s11 b12 a13 l13 c13 n14 n15 n16 a17 l17 c17 a18 l18 c18 a19 l19 c19 w20 =>
 ∀ (b21 : Nat) (w22 : World), NewAt w20 w22 b21 #[.string s11, .bool b12, .slice a13 l13 c13, .int .i64 n14, .int .i64 n15, .int .i64 n16, .slice a17 l17 c17, .slice a18 l18 c18, .slice a19 l19 c19] 82 →
 RunF Try.prog (Builtin.append_ #[73, 73] 73 #[.slice a8 l8 c8, .slice (some ⟨b21, 0, none⟩) 1 1]) w22 [.leaf .slice] fun (a23 : Option Addr) (l23 c23 : Nat) (w24 : World) =>
 Fit .i64 (n9 + 1) ∧
 (I6 a23 l23 c23 (n9 + 1) w24 ∧
 m7 a23 l23 c23 (n9 + 1) w24 < m7 a8 l8 c8 n9 w10))
 (K a8 l8 c8 w10)
theorem r_f73 (X : List PanicEntry → World → Prop) (r : Nat) (most : Int) (one_0 : Option Addr) (w : World) (K : Option Addr → Nat → Nat → World → Prop) (h : V_f73 X r most one_0 w K) : CX73 X (some ⟨r, 0, none⟩) most (.func (.func 74) #[.pointer one_0] #[] : Value) w K :=
  @calls_of_eqX Try.prog 73 Try.f73 [.pointer (some ⟨r, 0, none⟩), .int .i64 most, .func (.func 74) #[.pointer one_0] #[]] w [.leaf .slice] K _ (cfg true (fun _ => [])) (thrC X (fun _ => none)) (fun n => bif Nat.beq n 0 then some ⟨[9, 26], [.slice, .int .i64]⟩ else none) (fun _ => none) (fun _ => none) Try.func73 (by kernel_rfl) (by kernel_rfl) h

/-- gneiss/class.list[gneiss/api.Class] -/
def V_f48 (X : List PanicEntry → World → Prop) (r : Nat) (most : Int) (one_0 : Option Addr) (w : World) (K : Option Addr → Nat → Nat → World → Prop) : Prop :=
 ∃ (n1 : Int), World.cell? w ⟨r, 1, none⟩ = some (.int .i64 n1) ∧
 CX47 X (some ⟨r, 0, none⟩) w fun n2 w3 =>
 CX50 X (decide ((n2 : Int) < 0)) n1 1402 w3 fun w4 =>
 CX50 X (decide ((most : Int) < n2)) n1 1404 w4 fun w5 =>
 ∃ (I6 : Option Addr → Nat → Nat → Int → World → Prop) (m7 : Option Addr → Nat → Nat → Int → World → Nat),
 I6 none 0 0 0 w5 ∧
 ∀ (_ : Env) (a8 : Option Addr) (l8 c8 : Nat) (n9 : Int) (w10 : World), I6 a8 l8 c8 n9 w10 →
 IfB (decide ((n9 : Int) < n2))
 (CX49 X one_0 w10 fun s11 b12 b13 n14 a15 l15 c15 a16 l16 c16 a17 l17 c17 a18 l18 c18 w19 =>
 ∀ (b20 : Nat) (w21 : World), NewAt w19 w21 b20 #[.string s11, .bool b12, .bool b13, .int .i64 n14, .slice a15 l15 c15, .slice a16 l16 c16, .slice a17 l17 c17, .slice a18 l18 c18] 75 →
 RunF Try.prog (Builtin.append_ #[52, 52] 52 #[.slice a8 l8 c8, .slice (some ⟨b20, 0, none⟩) 1 1]) w21 [.leaf .slice] fun (a22 : Option Addr) (l22 c22 : Nat) (w23 : World) =>
 Fit .i64 (n9 + 1) ∧
 (I6 a22 l22 c22 (n9 + 1) w23 ∧
 m7 a22 l22 c22 (n9 + 1) w23 < m7 a8 l8 c8 n9 w10))
 (K a8 l8 c8 w10)
theorem r_f48 (X : List PanicEntry → World → Prop) (r : Nat) (most : Int) (one_0 : Option Addr) (w : World) (K : Option Addr → Nat → Nat → World → Prop) (h : V_f48 X r most one_0 w K) : CX48 X (some ⟨r, 0, none⟩) most (.func (.func 49) #[.pointer one_0] #[] : Value) w K :=
  @calls_of_eqX Try.prog 48 Try.f48 [.pointer (some ⟨r, 0, none⟩), .int .i64 most, .func (.func 49) #[.pointer one_0] #[]] w [.leaf .slice] K _ (cfg true (fun _ => [])) (thrC X (fun _ => none)) (fun n => bif Nat.beq n 0 then some ⟨[9, 26], [.slice, .int .i64]⟩ else none) (fun _ => none) (fun _ => none) Try.func48 (by kernel_rfl) (by kernel_rfl) h

/-- gneiss/class.list[gneiss/api.Ins] -/
def V_f95 (X : List PanicEntry → World → Prop) (r : Nat) (most : Int) (one_0 : Option Addr) (w : World) (K : Option Addr → Nat → Nat → World → Prop) : Prop :=
 ∃ (n1 : Int), World.cell? w ⟨r, 1, none⟩ = some (.int .i64 n1) ∧
 CX47 X (some ⟨r, 0, none⟩) w fun n2 w3 =>
 CX50 X (decide ((n2 : Int) < 0)) n1 1402 w3 fun w4 =>
 CX50 X (decide ((most : Int) < n2)) n1 1404 w4 fun w5 =>
 ∃ (I6 : Option Addr → Nat → Nat → Int → World → Prop) (m7 : Option Addr → Nat → Nat → Int → World → Nat),
 I6 none 0 0 0 w5 ∧
 ∀ (_ : Env) (a8 : Option Addr) (l8 c8 : Nat) (n9 : Int) (w10 : World), I6 a8 l8 c8 n9 w10 →
 IfB (decide ((n9 : Int) < n2))
 (CX96 X one_0 w10 fun n11 n12 n13 w14 =>
 ∀ (b15 : Nat) (w16 : World), NewAt w14 w16 b15 #[.int .i64 n11, .int .i64 n12, .int .i64 n13] 87 →
 RunF Try.prog (Builtin.append_ #[78, 78] 78 #[.slice a8 l8 c8, .slice (some ⟨b15, 0, none⟩) 1 1]) w16 [.leaf .slice] fun (a17 : Option Addr) (l17 c17 : Nat) (w18 : World) =>
 Fit .i64 (n9 + 1) ∧
 (I6 a17 l17 c17 (n9 + 1) w18 ∧
 m7 a17 l17 c17 (n9 + 1) w18 < m7 a8 l8 c8 n9 w10))
 (K a8 l8 c8 w10)
theorem r_f95 (X : List PanicEntry → World → Prop) (r : Nat) (most : Int) (one_0 : Option Addr) (w : World) (K : Option Addr → Nat → Nat → World → Prop) (h : V_f95 X r most one_0 w K) : CX95 X (some ⟨r, 0, none⟩) most (.func (.func 96) #[] #[.pointer one_0] : Value) w K :=
  @calls_of_eqX Try.prog 95 Try.f95 [.pointer (some ⟨r, 0, none⟩), .int .i64 most, .func (.func 96) #[] #[.pointer one_0]] w [.leaf .slice] K _ (cfg true (fun _ => [])) (thrC X (fun _ => none)) (fun n => bif Nat.beq n 0 then some ⟨[9, 26], [.slice, .int .i64]⟩ else none) (fun _ => none) (fun _ => none) Try.func95 (by kernel_rfl) (by kernel_rfl) h

/-- gneiss/class.list[gneiss/api.Handler] -/
def V_f97 (X : List PanicEntry → World → Prop) (r : Nat) (most : Int) (one_0 : Option Addr) (w : World) (K : Option Addr → Nat → Nat → World → Prop) : Prop :=
 ∃ (n1 : Int), World.cell? w ⟨r, 1, none⟩ = some (.int .i64 n1) ∧
 CX47 X (some ⟨r, 0, none⟩) w fun n2 w3 =>
 CX50 X (decide ((n2 : Int) < 0)) n1 1402 w3 fun w4 =>
 CX50 X (decide ((most : Int) < n2)) n1 1404 w4 fun w5 =>
 ∃ (I6 : Option Addr → Nat → Nat → Int → World → Prop) (m7 : Option Addr → Nat → Nat → Int → World → Nat),
 I6 none 0 0 0 w5 ∧
 ∀ (_ : Env) (a8 : Option Addr) (l8 c8 : Nat) (n9 : Int) (w10 : World), I6 a8 l8 c8 n9 w10 →
 IfB (decide ((n9 : Int) < n2))
 (CX98 X one_0 w10 fun n11 n12 n13 n14 w15 =>
 ∀ (b16 : Nat) (w17 : World), NewAt w15 w17 b16 #[.int .i64 n11, .int .i64 n12, .int .i64 n13, .int .i64 n14] 91 →
 RunF Try.prog (Builtin.append_ #[79, 79] 79 #[.slice a8 l8 c8, .slice (some ⟨b16, 0, none⟩) 1 1]) w17 [.leaf .slice] fun (a18 : Option Addr) (l18 c18 : Nat) (w19 : World) =>
 Fit .i64 (n9 + 1) ∧
 (I6 a18 l18 c18 (n9 + 1) w19 ∧
 m7 a18 l18 c18 (n9 + 1) w19 < m7 a8 l8 c8 n9 w10))
 (K a8 l8 c8 w10)
theorem r_f97 (X : List PanicEntry → World → Prop) (r : Nat) (most : Int) (one_0 : Option Addr) (w : World) (K : Option Addr → Nat → Nat → World → Prop) (h : V_f97 X r most one_0 w K) : CX97 X (some ⟨r, 0, none⟩) most (.func (.func 98) #[] #[.pointer one_0] : Value) w K :=
  @calls_of_eqX Try.prog 97 Try.f97 [.pointer (some ⟨r, 0, none⟩), .int .i64 most, .func (.func 98) #[] #[.pointer one_0]] w [.leaf .slice] K _ (cfg true (fun _ => [])) (thrC X (fun _ => none)) (fun n => bif Nat.beq n 0 then some ⟨[9, 26], [.slice, .int .i64]⟩ else none) (fun _ => none) (fun _ => none) Try.func97 (by kernel_rfl) (by kernel_rfl) h

/-- gneiss/class.list[gneiss/api.Map] -/
def V_f99 (X : List PanicEntry → World → Prop) (r : Nat) (most : Int) (one_0 : Option Addr) (w : World) (K : Option Addr → Nat → Nat → World → Prop) : Prop :=
 ∃ (n1 : Int), World.cell? w ⟨r, 1, none⟩ = some (.int .i64 n1) ∧
 CX47 X (some ⟨r, 0, none⟩) w fun n2 w3 =>
 CX50 X (decide ((n2 : Int) < 0)) n1 1402 w3 fun w4 =>
 CX50 X (decide ((most : Int) < n2)) n1 1404 w4 fun w5 =>
 ∃ (I6 : Option Addr → Nat → Nat → Int → World → Prop) (m7 : Option Addr → Nat → Nat → Int → World → Nat),
 I6 none 0 0 0 w5 ∧
 ∀ (_ : Env) (a8 : Option Addr) (l8 c8 : Nat) (n9 : Int) (w10 : World), I6 a8 l8 c8 n9 w10 →
 IfB (decide ((n9 : Int) < n2))
 (CX100 X one_0 w10 fun n11 a12 l12 c12 a13 l13 c13 w14 =>
 ∀ (b15 : Nat) (w16 : World), NewAt w14 w16 b15 #[.int .i64 n11, .slice a12 l12 c12, .slice a13 l13 c13] 89 →
 RunF Try.prog (Builtin.append_ #[80, 80] 80 #[.slice a8 l8 c8, .slice (some ⟨b15, 0, none⟩) 1 1]) w16 [.leaf .slice] fun (a17 : Option Addr) (l17 c17 : Nat) (w18 : World) =>
 Fit .i64 (n9 + 1) ∧
 (I6 a17 l17 c17 (n9 + 1) w18 ∧
 m7 a17 l17 c17 (n9 + 1) w18 < m7 a8 l8 c8 n9 w10))
 (K a8 l8 c8 w10)
theorem r_f99 (X : List PanicEntry → World → Prop) (r : Nat) (most : Int) (one_0 : Option Addr) (w : World) (K : Option Addr → Nat → Nat → World → Prop) (h : V_f99 X r most one_0 w K) : CX99 X (some ⟨r, 0, none⟩) most (.func (.func 100) #[] #[.pointer one_0] : Value) w K :=
  @calls_of_eqX Try.prog 99 Try.f99 [.pointer (some ⟨r, 0, none⟩), .int .i64 most, .func (.func 100) #[] #[.pointer one_0]] w [.leaf .slice] K _ (cfg true (fun _ => [])) (thrC X (fun _ => none)) (fun n => bif Nat.beq n 0 then some ⟨[9, 26], [.slice, .int .i64]⟩ else none) (fun _ => none) (fun _ => none) Try.func99 (by kernel_rfl) (by kernel_rfl) h

/-- (*gneiss/class.reader).class$1 -/
def V_f70 (X : List PanicEntry → World → Prop) (cap0 : Nat) (w : World) (K : ByteArray → Int → World → Prop) : Prop :=
 ∀ (b1 : Nat) (w2 : World), NewAt w w2 b1 #[.string (ByteArray.mk #[]), .int .i64 0] 77 →
 ∃ (q3 : Option Addr), World.cell? w2 ⟨cap0, 0, none⟩ = some (.pointer q3) ∧
 CX68 X q3 w2 fun s4 w5 =>
 ∃ (q6 : Option Addr), World.cell? w5 ⟨cap0, 0, none⟩ = some (.pointer q6) ∧
 CX47 X q6 w5 fun n7 w8 =>
 MayL w8 ⟨b1, 0, none⟩ 2 ∧ ∀ w9 : World, SetL w8 w9 ⟨b1, 0, none⟩ [.string s4, .int .i64 n7] →
 ∃ (s10 : ByteArray), ∃ (n11 : Int), CellsAt w9 ⟨b1, 0, none⟩ [.string s10, .int .i64 n11] ∧
 K s10 n11 w9
theorem r_f70 (X : List PanicEntry → World → Prop) (cap0 : Nat) (w : World) (K : ByteArray → Int → World → Prop) (h : V_f70 X cap0 w K) : CX70 X (some ⟨cap0, 0, none⟩) w K :=
  @calls_of_eqX Try.prog 70 Try.f70 [.pointer (some ⟨cap0, 0, none⟩)] w [.agg [.str, .int .i64]] K _ (cfg true (fun _ => [])) (thrC X (fun _ => none)) (fun _ => none) (fun _ => none) (fun _ => none) Try.func70 (by kernel_rfl) (by kernel_rfl) h

/-- (*gneiss/class.reader).method$1 -/
def V_f96 (X : List PanicEntry → World → Prop) (cap0 : Nat) (w : World) (K : Int → Int → Int → World → Prop) : Prop :=
 ∀ (b1 : Nat) (w2 : World), NewAt w w2 b1 #[.int .i64 0, .int .i64 0, .int .i64 0] 87 →
 ∀ w3 : World, Drew w2 w3 →
 ∃ (q4 : Option Addr), World.cell? w3 ⟨cap0, 0, none⟩ = some (.pointer q4) ∧
 (CX47 X q4 w3 fun n5 w6 =>
 ∃ (q7 : Option Addr), World.cell? w6 ⟨cap0, 0, none⟩ = some (.pointer q7) ∧
 CX47 X q7 w6 fun n8 w9 =>
 ∃ (q10 : Option Addr), World.cell? w9 ⟨cap0, 0, none⟩ = some (.pointer q10) ∧
 CX47 X q10 w9 fun n11 w12 =>
 MayL w12 ⟨b1, 0, none⟩ 3 ∧ ∀ w13 : World, SetL w12 w13 ⟨b1, 0, none⟩ [.int .i64 n5, .int .i64 n8, .int .i64 n11] →
 ∃ (n14 : Int), ∃ (n15 : Int), ∃ (n16 : Int), CellsAt w13 ⟨b1, 0, none⟩ [.int .i64 n14, .int .i64 n15, .int .i64 n16] ∧
 K n14 n15 n16 w13) ∧
 (∃ (q17 : Option Addr), World.cell? w3 ⟨cap0, 0, none⟩ = some (.pointer q17) ∧
 CX47 X q4 w3 fun n18 w19 =>
 CX47 X q17 w19 fun n20 w21 =>
 ∃ (q22 : Option Addr), World.cell? w21 ⟨cap0, 0, none⟩ = some (.pointer q22) ∧
 CX47 X q22 w21 fun n23 w24 =>
 MayL w24 ⟨b1, 0, none⟩ 3 ∧ ∀ w25 : World, SetL w24 w25 ⟨b1, 0, none⟩ [.int .i64 n18, .int .i64 n20, .int .i64 n23] →
 ∃ (n26 : Int), ∃ (n27 : Int), ∃ (n28 : Int), CellsAt w25 ⟨b1, 0, none⟩ [.int .i64 n26, .int .i64 n27, .int .i64 n28] ∧
 K n26 n27 n28 w25)
theorem r_f96 (X : List PanicEntry → World → Prop) (cap0 : Nat) (w : World) (K : Int → Int → Int → World → Prop) (h : V_f96 X cap0 w K) : CX96 X (some ⟨cap0, 0, none⟩) w K :=
  @calls_of_eqX Try.prog 96 Try.f96 [.pointer (some ⟨cap0, 0, none⟩)] w [.agg [.int .i64, .int .i64, .int .i64]] K _ (cfg true (fun _ => [])) (thrC X (fun _ => none)) (fun _ => none) (fun _ => none) (fun _ => none) Try.func96 (by kernel_rfl) (by kernel_rfl) h

/-- (*gneiss/class.reader).method$2 -/
def V_f98 (X : List PanicEntry → World → Prop) (cap0 : Nat) (w : World) (K : Int → Int → Int → Int → World → Prop) : Prop :=
 ∀ (b1 : Nat) (w2 : World), NewAt w w2 b1 #[.int .i64 0, .int .i64 0, .int .i64 0, .int .i64 0] 91 →
 ∀ w3 : World, Drew w2 w3 →
 ∃ (q4 : Option Addr), World.cell? w3 ⟨cap0, 0, none⟩ = some (.pointer q4) ∧
 (CX47 X q4 w3 fun n5 w6 =>
 ∃ (q7 : Option Addr), World.cell? w6 ⟨cap0, 0, none⟩ = some (.pointer q7) ∧
 (CX47 X q7 w6 fun n8 w9 =>
 ∃ (q10 : Option Addr), World.cell? w9 ⟨cap0, 0, none⟩ = some (.pointer q10) ∧
 CX47 X q10 w9 fun n11 w12 =>
 ∃ (q13 : Option Addr), World.cell? w12 ⟨cap0, 0, none⟩ = some (.pointer q13) ∧
 CX47 X q13 w12 fun n14 w15 =>
 MayL w15 ⟨b1, 0, none⟩ 4 ∧ ∀ w16 : World, SetL w15 w16 ⟨b1, 0, none⟩ [.int .i64 n5, .int .i64 n8, .int .i64 n11, .int .i64 n14] →
 ∃ (n17 : Int), ∃ (n18 : Int), ∃ (n19 : Int), ∃ (n20 : Int), CellsAt w16 ⟨b1, 0, none⟩ [.int .i64 n17, .int .i64 n18, .int .i64 n19, .int .i64 n20] ∧
 K n17 n18 n19 n20 w16) ∧
 (∃ (q21 : Option Addr), World.cell? w6 ⟨cap0, 0, none⟩ = some (.pointer q21) ∧
 CX47 X q7 w6 fun n22 w23 =>
 CX47 X q21 w23 fun n24 w25 =>
 ∃ (q26 : Option Addr), World.cell? w25 ⟨cap0, 0, none⟩ = some (.pointer q26) ∧
 CX47 X q26 w25 fun n27 w28 =>
 MayL w28 ⟨b1, 0, none⟩ 4 ∧ ∀ w29 : World, SetL w28 w29 ⟨b1, 0, none⟩ [.int .i64 n5, .int .i64 n22, .int .i64 n24, .int .i64 n27] →
 ∃ (n30 : Int), ∃ (n31 : Int), ∃ (n32 : Int), ∃ (n33 : Int), CellsAt w29 ⟨b1, 0, none⟩ [.int .i64 n30, .int .i64 n31, .int .i64 n32, .int .i64 n33] ∧
 K n30 n31 n32 n33 w29)) ∧
 (∃ (q34 : Option Addr), World.cell? w3 ⟨cap0, 0, none⟩ = some (.pointer q34) ∧
 (CX47 X q4 w3 fun n35 w36 =>
 (CX47 X q34 w36 fun n37 w38 =>
 ∃ (q39 : Option Addr), World.cell? w38 ⟨cap0, 0, none⟩ = some (.pointer q39) ∧
 CX47 X q39 w38 fun n40 w41 =>
 ∃ (q42 : Option Addr), World.cell? w41 ⟨cap0, 0, none⟩ = some (.pointer q42) ∧
 CX47 X q42 w41 fun n43 w44 =>
 MayL w44 ⟨b1, 0, none⟩ 4 ∧ ∀ w45 : World, SetL w44 w45 ⟨b1, 0, none⟩ [.int .i64 n35, .int .i64 n37, .int .i64 n40, .int .i64 n43] →
 ∃ (n46 : Int), ∃ (n47 : Int), ∃ (n48 : Int), ∃ (n49 : Int), CellsAt w45 ⟨b1, 0, none⟩ [.int .i64 n46, .int .i64 n47, .int .i64 n48, .int .i64 n49] ∧
 K n46 n47 n48 n49 w45) ∧
 (∃ (q50 : Option Addr), World.cell? w36 ⟨cap0, 0, none⟩ = some (.pointer q50) ∧
 CX47 X q34 w36 fun n51 w52 =>
 CX47 X q50 w52 fun n53 w54 =>
 ∃ (q55 : Option Addr), World.cell? w54 ⟨cap0, 0, none⟩ = some (.pointer q55) ∧
 CX47 X q55 w54 fun n56 w57 =>
 MayL w57 ⟨b1, 0, none⟩ 4 ∧ ∀ w58 : World, SetL w57 w58 ⟨b1, 0, none⟩ [.int .i64 n35, .int .i64 n51, .int .i64 n53, .int .i64 n56] →
 ∃ (n59 : Int), ∃ (n60 : Int), ∃ (n61 : Int), ∃ (n62 : Int), CellsAt w58 ⟨b1, 0, none⟩ [.int .i64 n59, .int .i64 n60, .int .i64 n61, .int .i64 n62] ∧
 K n59 n60 n61 n62 w58)) ∧
 (∃ (q63 : Option Addr), World.cell? w3 ⟨cap0, 0, none⟩ = some (.pointer q63) ∧
 CX47 X q4 w3 fun n64 w65 =>
 CX47 X q34 w65 fun n66 w67 =>
 CX47 X q63 w67 fun n68 w69 =>
 ∃ (q70 : Option Addr), World.cell? w69 ⟨cap0, 0, none⟩ = some (.pointer q70) ∧
 CX47 X q70 w69 fun n71 w72 =>
 MayL w72 ⟨b1, 0, none⟩ 4 ∧ ∀ w73 : World, SetL w72 w73 ⟨b1, 0, none⟩ [.int .i64 n64, .int .i64 n66, .int .i64 n68, .int .i64 n71] →
 ∃ (n74 : Int), ∃ (n75 : Int), ∃ (n76 : Int), ∃ (n77 : Int), CellsAt w73 ⟨b1, 0, none⟩ [.int .i64 n74, .int .i64 n75, .int .i64 n76, .int .i64 n77] ∧
 K n74 n75 n76 n77 w73)) ∧
 (∃ (q78 : Option Addr), World.cell? w3 ⟨cap0, 0, none⟩ = some (.pointer q78) ∧
 (CX47 X q4 w3 fun n79 w80 =>
 ∃ (q81 : Option Addr), World.cell? w80 ⟨cap0, 0, none⟩ = some (.pointer q81) ∧
 CX47 X q81 w80 fun n82 w83 =>
 CX47 X q78 w83 fun n84 w85 =>
 ∃ (q86 : Option Addr), World.cell? w85 ⟨cap0, 0, none⟩ = some (.pointer q86) ∧
 CX47 X q86 w85 fun n87 w88 =>
 MayL w88 ⟨b1, 0, none⟩ 4 ∧ ∀ w89 : World, SetL w88 w89 ⟨b1, 0, none⟩ [.int .i64 n79, .int .i64 n82, .int .i64 n84, .int .i64 n87] →
 ∃ (n90 : Int), ∃ (n91 : Int), ∃ (n92 : Int), ∃ (n93 : Int), CellsAt w89 ⟨b1, 0, none⟩ [.int .i64 n90, .int .i64 n91, .int .i64 n92, .int .i64 n93] ∧
 K n90 n91 n92 n93 w89) ∧
 (∃ (q94 : Option Addr), World.cell? w3 ⟨cap0, 0, none⟩ = some (.pointer q94) ∧
 CX47 X q4 w3 fun n95 w96 =>
 CX47 X q94 w96 fun n97 w98 =>
 CX47 X q78 w98 fun n99 w100 =>
 ∃ (q101 : Option Addr), World.cell? w100 ⟨cap0, 0, none⟩ = some (.pointer q101) ∧
 CX47 X q101 w100 fun n102 w103 =>
 MayL w103 ⟨b1, 0, none⟩ 4 ∧ ∀ w104 : World, SetL w103 w104 ⟨b1, 0, none⟩ [.int .i64 n95, .int .i64 n97, .int .i64 n99, .int .i64 n102] →
 ∃ (n105 : Int), ∃ (n106 : Int), ∃ (n107 : Int), ∃ (n108 : Int), CellsAt w104 ⟨b1, 0, none⟩ [.int .i64 n105, .int .i64 n106, .int .i64 n107, .int .i64 n108] ∧
 K n105 n106 n107 n108 w104))
theorem r_f98 (X : List PanicEntry → World → Prop) (cap0 : Nat) (w : World) (K : Int → Int → Int → Int → World → Prop) (h : V_f98 X cap0 w K) : CX98 X (some ⟨cap0, 0, none⟩) w K :=
  @calls_of_eqX Try.prog 98 Try.f98 [.pointer (some ⟨cap0, 0, none⟩)] w [.agg [.int .i64, .int .i64, .int .i64, .int .i64]] K _ (cfg true (fun _ => [])) (thrC X (fun _ => none)) (fun _ => none) (fun _ => none) (fun _ => none) Try.func98 (by kernel_rfl) (by kernel_rfl) h

/-- (*gneiss/class.reader).method$3 -/
def V_f100 (X : List PanicEntry → World → Prop) (cap0 : Nat) (w : World) (K : Int → Option Addr → Nat → Nat → Option Addr → Nat → Nat → World → Prop) : Prop :=
 ∀ (b1 : Nat) (w2 : World), NewAt w w2 b1 #[.int .i64 0, .slice none 0 0, .slice none 0 0] 89 →
 ∃ (q3 : Option Addr), World.cell? w2 ⟨cap0, 0, none⟩ = some (.pointer q3) ∧
 CX47 X q3 w2 fun n4 w5 =>
 ∃ (q6 : Option Addr), World.cell? w5 ⟨cap0, 0, none⟩ = some (.pointer q6) ∧
 ∃ (q7 : Option Addr), World.cell? w5 ⟨cap0, 0, none⟩ = some (.pointer q7) ∧
 CX71 X q6 24 (.func (.func 47) #[.pointer q7] #[] : Value) w5 fun a8 l8 c8 w9 =>
 ∃ (q10 : Option Addr), World.cell? w9 ⟨cap0, 0, none⟩ = some (.pointer q10) ∧
 ∃ (q11 : Option Addr), World.cell? w9 ⟨cap0, 0, none⟩ = some (.pointer q11) ∧
 CX71 X q10 24 (.func (.func 47) #[.pointer q11] #[] : Value) w9 fun a12 l12 c12 w13 =>
 MayL w13 ⟨b1, 0, none⟩ 3 ∧ ∀ w14 : World, SetL w13 w14 ⟨b1, 0, none⟩ [.int .i64 n4, .slice a8 l8 c8, .slice a12 l12 c12] →
 ∃ (n15 : Int), ∃ (a16 : Option Addr) (l16 c16 : Nat), ∃ (a17 : Option Addr) (l17 c17 : Nat), CellsAt w14 ⟨b1, 0, none⟩ [.int .i64 n15, .slice a16 l16 c16, .slice a17 l17 c17] ∧
 K n15 a16 l16 c16 a17 l17 c17 w14
theorem r_f100 (X : List PanicEntry → World → Prop) (cap0 : Nat) (w : World) (K : Int → Option Addr → Nat → Nat → Option Addr → Nat → Nat → World → Prop) (h : V_f100 X cap0 w K) : CX100 X (some ⟨cap0, 0, none⟩) w K :=
  @calls_of_eqX Try.prog 100 Try.f100 [.pointer (some ⟨cap0, 0, none⟩)] w [.agg [.int .i64, .slice, .slice]] K _ (cfg true (fun _ => [])) (thrC X (fun _ => none)) (fun _ => none) (fun _ => none) (fun _ => none) Try.func100 (by kernel_rfl) (by kernel_rfl) h

/-- (*gneiss/class.reader).class -/
def V_f49 (X : List PanicEntry → World → Prop) (r : Nat) (w : World) (K : ByteArray → Bool → Bool → Int → Option Addr → Nat → Nat → Option Addr → Nat → Nat → Option Addr → Nat → Nat → Option Addr → Nat → Nat → World → Prop) : Prop :=
 ∀ (b1 : Nat) (w2 : World), NewAt w w2 b1 #[.pointer (some ⟨r, 0, none⟩)] 109 →
 ∀ (b3 : Nat) (w4 : World), NewAt w2 w4 b3 #[.string (ByteArray.mk #[]), .bool false, .bool false, .int .i64 0, .slice none 0 0, .slice none 0 0, .slice none 0 0, .slice none 0 0] 75 →
 ∀ (b5 : Nat) (w6 : World), NewAt w4 w6 b5 #[.string (ByteArray.mk #[]), .bool false, .bool false, .int .i64 0, .slice none 0 0, .slice none 0 0, .slice none 0 0, .slice none 0 0] 75 →
 ∃ (q7 : Option Addr), World.cell? w6 ⟨b1, 0, none⟩ = some (.pointer q7) ∧
 CX68 X q7 w6 fun s8 w9 =>
 May w9 ⟨b5, 0, none⟩ ∧ ∀ w10 : World, SetC w9 w10 ⟨b5, 0, none⟩ (.string s8) →
 ∃ (q11 : Option Addr), World.cell? w10 ⟨b1, 0, none⟩ = some (.pointer q11) ∧
 CX69 X q11 0 3 w10 fun n12 w13 =>
 May w13 ⟨b5, 1, none⟩ ∧ ∀ w14 : World, SetC w13 w14 ⟨b5, 1, none⟩ (.bool (decide (((bits .and .i64 n12 1) : Int) = 1))) →
 May w14 ⟨b5, 2, none⟩ ∧ ∀ w15 : World, SetC w14 w15 ⟨b5, 2, none⟩ (.bool (decide (((bits .and .i64 n12 2) : Int) = 2))) →
 ∃ (q16 : Option Addr), World.cell? w15 ⟨b1, 0, none⟩ = some (.pointer q16) ∧
 CX47 X q16 w15 fun n17 w18 =>
 May w18 ⟨b5, 3, none⟩ ∧ ∀ w19 : World, SetC w18 w19 ⟨b5, 3, none⟩ (.int .i64 n17) →
 ∃ (q20 : Option Addr), World.cell? w19 ⟨b1, 0, none⟩ = some (.pointer q20) ∧
 ∃ (q21 : Option Addr), World.cell? w19 ⟨b1, 0, none⟩ = some (.pointer q21) ∧
 CX71 X q20 8 (.func (.func 47) #[.pointer q21] #[] : Value) w19 fun a22 l22 c22 w23 =>
 May w23 ⟨b5, 4, none⟩ ∧ ∀ w24 : World, SetC w23 w24 ⟨b5, 4, none⟩ (.slice a22 l22 c22) →
 ∃ (q25 : Option Addr), World.cell? w24 ⟨b1, 0, none⟩ = some (.pointer q25) ∧
 CX72 X q25 24 (.func (.func 70) #[] #[.pointer (some ⟨b1, 0, none⟩)] : Value) w24 fun a26 l26 c26 w27 =>
 May w27 ⟨b5, 5, none⟩ ∧ ∀ w28 : World, SetC w27 w28 ⟨b5, 5, none⟩ (.slice a26 l26 c26) →
 ∃ (q29 : Option Addr), World.cell? w28 ⟨b1, 0, none⟩ = some (.pointer q29) ∧
 CX72 X q29 24 (.func (.func 70) #[] #[.pointer (some ⟨b1, 0, none⟩)] : Value) w28 fun a30 l30 c30 w31 =>
 May w31 ⟨b5, 6, none⟩ ∧ ∀ w32 : World, SetC w31 w32 ⟨b5, 6, none⟩ (.slice a30 l30 c30) →
 ∃ (q33 : Option Addr), World.cell? w32 ⟨b1, 0, none⟩ = some (.pointer q33) ∧
 ∃ (q34 : Option Addr), World.cell? w32 ⟨b1, 0, none⟩ = some (.pointer q34) ∧
 CX73 X q33 24 (.func (.func 74) #[.pointer q34] #[] : Value) w32 fun a35 l35 c35 w36 =>
 May w36 ⟨b5, 7, none⟩ ∧ ∀ w37 : World, SetC w36 w37 ⟨b5, 7, none⟩ (.slice a35 l35 c35) →
 ∃ (s38 : ByteArray), ∃ (b39 : Bool), ∃ (b40 : Bool), ∃ (n41 : Int), ∃ (a42 : Option Addr) (l42 c42 : Nat), ∃ (a43 : Option Addr) (l43 c43 : Nat), ∃ (a44 : Option Addr) (l44 c44 : Nat), ∃ (a45 : Option Addr) (l45 c45 : Nat), CellsAt w37 ⟨b5, 0, none⟩ [.string s38, .bool b39, .bool b40, .int .i64 n41, .slice a42 l42 c42, .slice a43 l43 c43, .slice a44 l44 c44, .slice a45 l45 c45] ∧
 MayL w37 ⟨b3, 0, none⟩ 8 ∧ ∀ w46 : World, SetL w37 w46 ⟨b3, 0, none⟩ [.string s38, .bool b39, .bool b40, .int .i64 n41, .slice a42 l42 c42, .slice a43 l43 c43, .slice a44 l44 c44, .slice a45 l45 c45] →
 ∃ (s47 : ByteArray), ∃ (b48 : Bool), ∃ (b49 : Bool), ∃ (n50 : Int), ∃ (a51 : Option Addr) (l51 c51 : Nat), ∃ (a52 : Option Addr) (l52 c52 : Nat), ∃ (a53 : Option Addr) (l53 c53 : Nat), ∃ (a54 : Option Addr) (l54 c54 : Nat), CellsAt w46 ⟨b3, 0, none⟩ [.string s47, .bool b48, .bool b49, .int .i64 n50, .slice a51 l51 c51, .slice a52 l52 c52, .slice a53 l53 c53, .slice a54 l54 c54] ∧
 K s47 b48 b49 n50 a51 l51 c51 a52 l52 c52 a53 l53 c53 a54 l54 c54 w46
theorem r_f49 (X : List PanicEntry → World → Prop) (r : Nat) (w : World) (K : ByteArray → Bool → Bool → Int → Option Addr → Nat → Nat → Option Addr → Nat → Nat → Option Addr → Nat → Nat → Option Addr → Nat → Nat → World → Prop) (h : V_f49 X r w K) : CX49 X (some ⟨r, 0, none⟩) w K :=
  @calls_of_eqX Try.prog 49 Try.f49 [.pointer (some ⟨r, 0, none⟩)] w [.agg [.str, .bool, .bool, .int .i64, .slice, .slice, .slice, .slice]] K _ (cfg true (fun _ => [])) (thrC X (fun _ => none)) (fun _ => none) (fun _ => none) (fun _ => none) Try.func49 (by kernel_rfl) (by kernel_rfl) h

/-- (*gneiss/class.reader).method -/
def V_f74 (X : List PanicEntry → World → Prop) (r : Nat) (w : World) (K : ByteArray → Bool → Option Addr → Nat → Nat → Int → Int → Int → Option Addr → Nat → Nat → Option Addr → Nat → Nat → Option Addr → Nat → Nat → World → Prop) : Prop :=
 ∀ (b1 : Nat) (w2 : World), NewAt w w2 b1 #[.pointer (some ⟨r, 0, none⟩)] 109 →
 ∀ (b3 : Nat) (w4 : World), NewAt w2 w4 b3 #[.string (ByteArray.mk #[]), .bool false, .slice none 0 0, .int .i64 0, .int .i64 0, .int .i64 0, .slice none 0 0, .slice none 0 0, .slice none 0 0] 82 →
 ∀ (b5 : Nat) (w6 : World), NewAt w4 w6 b5 #[.string (ByteArray.mk #[]), .bool false, .slice none 0 0, .int .i64 0, .int .i64 0, .int .i64 0, .slice none 0 0, .slice none 0 0, .slice none 0 0] 82 →
 ∃ (q7 : Option Addr), World.cell? w6 ⟨b1, 0, none⟩ = some (.pointer q7) ∧
 CX68 X q7 w6 fun s8 w9 =>
 May w9 ⟨b5, 0, none⟩ ∧ ∀ w10 : World, SetC w9 w10 ⟨b5, 0, none⟩ (.string s8) →
 ∃ (q11 : Option Addr), World.cell? w10 ⟨b1, 0, none⟩ = some (.pointer q11) ∧
 CX69 X q11 0 1 w10 fun n12 w13 =>
 May w13 ⟨b5, 1, none⟩ ∧ ∀ w14 : World, SetC w13 w14 ⟨b5, 1, none⟩ (.bool (decide ((n12 : Int) = 1))) →
 ∃ (q15 : Option Addr), World.cell? w14 ⟨b1, 0, none⟩ = some (.pointer q15) ∧
 ∃ (q16 : Option Addr), World.cell? w14 ⟨b1, 0, none⟩ = some (.pointer q16) ∧
 CX71 X q15 8 (.func (.func 47) #[.pointer q16] #[] : Value) w14 fun a17 l17 c17 w18 =>
 May w18 ⟨b5, 2, none⟩ ∧ ∀ w19 : World, SetC w18 w19 ⟨b5, 2, none⟩ (.slice a17 l17 c17) →
 ∃ (q20 : Option Addr), World.cell? w19 ⟨b1, 0, none⟩ = some (.pointer q20) ∧
 CX47 X q20 w19 fun n21 w22 =>
 May w22 ⟨b5, 3, none⟩ ∧ ∀ w23 : World, SetC w22 w23 ⟨b5, 3, none⟩ (.int .i64 n21) →
 ∃ (q24 : Option Addr), World.cell? w23 ⟨b1, 0, none⟩ = some (.pointer q24) ∧
 CX69 X q24 0 24 w23 fun n25 w26 =>
 May w26 ⟨b5, 4, none⟩ ∧ ∀ w27 : World, SetC w26 w27 ⟨b5, 4, none⟩ (.int .i64 n25) →
 ∃ (q28 : Option Addr), World.cell? w27 ⟨b1, 0, none⟩ = some (.pointer q28) ∧
 CX69 X q28 0 24 w27 fun n29 w30 =>
 May w30 ⟨b5, 5, none⟩ ∧ ∀ w31 : World, SetC w30 w31 ⟨b5, 5, none⟩ (.int .i64 n29) →
 ∃ (q32 : Option Addr), World.cell? w31 ⟨b1, 0, none⟩ = some (.pointer q32) ∧
 CX95 X q32 300 (.func (.func 96) #[] #[.pointer (some ⟨b1, 0, none⟩)] : Value) w31 fun a33 l33 c33 w34 =>
 May w34 ⟨b5, 6, none⟩ ∧ ∀ w35 : World, SetC w34 w35 ⟨b5, 6, none⟩ (.slice a33 l33 c33) →
 ∃ (q36 : Option Addr), World.cell? w35 ⟨b1, 0, none⟩ = some (.pointer q36) ∧
 CX97 X q36 16 (.func (.func 98) #[] #[.pointer (some ⟨b1, 0, none⟩)] : Value) w35 fun a37 l37 c37 w38 =>
 May w38 ⟨b5, 7, none⟩ ∧ ∀ w39 : World, SetC w38 w39 ⟨b5, 7, none⟩ (.slice a37 l37 c37) →
 ∃ (q40 : Option Addr), World.cell? w39 ⟨b1, 0, none⟩ = some (.pointer q40) ∧
 CX99 X q40 64 (.func (.func 100) #[] #[.pointer (some ⟨b1, 0, none⟩)] : Value) w39 fun a41 l41 c41 w42 =>
 May w42 ⟨b5, 8, none⟩ ∧ ∀ w43 : World, SetC w42 w43 ⟨b5, 8, none⟩ (.slice a41 l41 c41) →
 ∃ (s44 : ByteArray), ∃ (b45 : Bool), ∃ (a46 : Option Addr) (l46 c46 : Nat), ∃ (n47 : Int), ∃ (n48 : Int), ∃ (n49 : Int), ∃ (a50 : Option Addr) (l50 c50 : Nat), ∃ (a51 : Option Addr) (l51 c51 : Nat), ∃ (a52 : Option Addr) (l52 c52 : Nat), CellsAt w43 ⟨b5, 0, none⟩ [.string s44, .bool b45, .slice a46 l46 c46, .int .i64 n47, .int .i64 n48, .int .i64 n49, .slice a50 l50 c50, .slice a51 l51 c51, .slice a52 l52 c52] ∧
 MayL w43 ⟨b3, 0, none⟩ 9 ∧ ∀ w53 : World, SetL w43 w53 ⟨b3, 0, none⟩ [.string s44, .bool b45, .slice a46 l46 c46, .int .i64 n47, .int .i64 n48, .int .i64 n49, .slice a50 l50 c50, .slice a51 l51 c51, .slice a52 l52 c52] →
 ∃ (s54 : ByteArray), ∃ (b55 : Bool), ∃ (a56 : Option Addr) (l56 c56 : Nat), ∃ (n57 : Int), ∃ (n58 : Int), ∃ (n59 : Int), ∃ (a60 : Option Addr) (l60 c60 : Nat), ∃ (a61 : Option Addr) (l61 c61 : Nat), ∃ (a62 : Option Addr) (l62 c62 : Nat), CellsAt w53 ⟨b3, 0, none⟩ [.string s54, .bool b55, .slice a56 l56 c56, .int .i64 n57, .int .i64 n58, .int .i64 n59, .slice a60 l60 c60, .slice a61 l61 c61, .slice a62 l62 c62] ∧
 K s54 b55 a56 l56 c56 n57 n58 n59 a60 l60 c60 a61 l61 c61 a62 l62 c62 w53
theorem r_f74 (X : List PanicEntry → World → Prop) (r : Nat) (w : World) (K : ByteArray → Bool → Option Addr → Nat → Nat → Int → Int → Int → Option Addr → Nat → Nat → Option Addr → Nat → Nat → Option Addr → Nat → Nat → World → Prop) (h : V_f74 X r w K) : CX74 X (some ⟨r, 0, none⟩) w K :=
  @calls_of_eqX Try.prog 74 Try.f74 [.pointer (some ⟨r, 0, none⟩)] w [.agg [.str, .bool, .slice, .int .i64, .int .i64, .int .i64, .slice, .slice, .slice]] K _ (cfg true (fun _ => [])) (thrC X (fun _ => none)) (fun _ => none) (fun _ => none) (fun _ => none) Try.func74 (by kernel_rfl) (by kernel_rfl) h

end Go.Proofs.Ytmlhdmnnijapjaa.V
