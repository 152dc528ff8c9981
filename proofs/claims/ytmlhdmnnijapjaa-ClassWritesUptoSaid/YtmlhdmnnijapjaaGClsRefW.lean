/- Readings of the program's functions. No condition. -/
import Derived.Test.YtmlhdmnnijapjaaGCfg
namespace Go.Proofs.Ytmlhdmnnijapjaa.V
open Go
set_option maxRecDepth 100000
set_option linter.unusedVariables false
/-- gneiss/gneissref1.Number -/
def V_f87 (x : Int) (w : World) (K : Bool → World → Prop) : Prop :=
 IfB (decide (((-2147483648) : Int) ≤ x))
 (K (decide ((x : Int) ≤ 2147483647)) w)
 (K false w)
theorem r_f87 (x : Int) (w : World) (K : Bool → World → Prop) (h : V_f87 x w K) : C87 x w K :=
  @calls_of_eq Try.prog 87 Try.f87 [.int .i64 x] w [.leaf .bool] K _ (cfg true (fun _ => [])) (fun _ => none) (fun _ => none) (fun _ => none) Try.func87 (by kernel_rfl) (by kernel_rfl) h

/-- gneiss/gneissref14.Name -/
def V_f102 (s : ByteArray) (w : World) (K : Bool → World → Prop) : Prop :=
 ∃ M1 : World → Prop,
 (IfB (ByteArray.toList s == ByteArray.toList (ByteArray.mk #[]))
 (K false w)
 (IfB (decide ((16 : Int) < (ByteArray.size s : Int)))
 (K false w)
 (M1 w))) ∧
 ∀ (_ : Env) (w2 : World), M1 w2 →
 ∃ (I3 : Int → World → Prop) (m4 : Int → World → Nat),
 I3 0 w2 ∧
 ∀ (_ : Env) (n5 : Int) (w6 : World), I3 n5 w6 →
 IfB (decide ((n5 : Int) < (ByteArray.size s : Int)))
 (∃ h7 : Int.toNat n5 < ByteArray.size s, 0 ≤ n5 ∧
 ∃ M8 : Bool → World → Prop,
 (IfB (decide ((((UInt8.toNat (s[Int.toNat n5]'h7) : Nat) : Int) : Int) = 95))
 (M8 true w6)
 (IfB (decide ((97 : Int) ≤ ((UInt8.toNat (s[Int.toNat n5]'h7) : Nat) : Int)))
 (IfB (decide ((((UInt8.toNat (s[Int.toNat n5]'h7) : Nat) : Int) : Int) ≤ 122))
 (M8 true w6)
 (IfB (decide ((65 : Int) ≤ ((UInt8.toNat (s[Int.toNat n5]'h7) : Nat) : Int)))
 (M8 (decide ((((UInt8.toNat (s[Int.toNat n5]'h7) : Nat) : Int) : Int) ≤ 90)) w6)
 (M8 false w6)))
 (IfB (decide ((65 : Int) ≤ ((UInt8.toNat (s[Int.toNat n5]'h7) : Nat) : Int)))
 (M8 (decide ((((UInt8.toNat (s[Int.toNat n5]'h7) : Nat) : Int) : Int) ≤ 90)) w6)
 (M8 false w6)))) ∧
 ∀ (_ : Env) (b9 : Bool) (w10 : World), M8 b9 w10 →
 IfB (!b9)
 (IfB (decide ((n5 : Int) = 0))
 (K false w10)
 (IfB (decide ((((UInt8.toNat (s[Int.toNat n5]'h7) : Nat) : Int) : Int) < 48))
 (K false w10)
 (IfB (decide ((57 : Int) < ((UInt8.toNat (s[Int.toNat n5]'h7) : Nat) : Int)))
 (K false w10)
 (Fit .i64 (n5 + 1) ∧
 (I3 (n5 + 1) w10 ∧
 m4 (n5 + 1) w10 < m4 n5 w6)))))
 (Fit .i64 (n5 + 1) ∧
 (I3 (n5 + 1) w10 ∧
 m4 (n5 + 1) w10 < m4 n5 w6)))
 (K true w6)
theorem r_f102 (s : ByteArray) (w : World) (K : Bool → World → Prop) (h : V_f102 s w K) : C102 s w K :=
  @calls_of_eq Try.prog 102 Try.f102 [.string s] w [.leaf .bool] K _ (cfg true (fun _ => [])) (fun n => bif Nat.beq n 0 then some ⟨[3], [.int .i64]⟩ else none) (fun n => bif Nat.beq n 3 then some ⟨[], []⟩ else bif Nat.beq n 8 then some ⟨[5], [.bool]⟩ else none) (fun _ => none) Try.func102 (by kernel_rfl) (by kernel_rfl) h

/-- gneiss/gneissref1.Put -/
def V_f88 (x : Int) (w : World) (K : ByteArray → World → Prop) : Prop :=
 C87 x w fun b1 w2 =>
 IfB (!b1)
 (K (ByteArray.mk #[]) w2)
 (∃ M3 : Int → World → Prop,
 (IfB (decide ((x : Int) < 0))
 (M3 (IntKind.wrap .i64 ((IntKind.wrap .i64 ((-2) * x)) - 1)) w2)
 (M3 (IntKind.wrap .i64 (2 * x)) w2)) ∧
 ∀ (_ : Env) (n4 : Int) (w5 : World), M3 n4 w5 →
 ∃ (I6 : Int → Option Addr → Nat → Nat → World → Prop) (m7 : Int → Option Addr → Nat → Nat → World → Nat),
 I6 n4 none 0 0 w5 ∧
 ∀ (_ : Env) (n8 : Int) (a9 : Option Addr) (l9 c9 : Nat) (w10 : World), I6 n8 a9 l9 c9 w10 →
 IfB (decide ((128 : Int) ≤ n8))
 ((128 : Int) ≠ 0 ∧
 ∀ (b11 : Nat) (w12 : World), NewAt w10 w12 b11 #[.int .u8 (IntKind.wrap .u8 (IntKind.wrap .i64 ((Int.tmod n8 128) + 128)))] 5 →
 RunF Try.prog (Builtin.append_ #[24, 24] 24 #[.slice a9 l9 c9, .slice (some ⟨b11, 0, none⟩) 1 1]) w12 [.leaf .slice] fun (a13 : Option Addr) (l13 c13 : Nat) (w14 : World) =>
 (128 : Int) ≠ 0 ∧
 (I6 (IntKind.wrap .i64 (Int.tdiv n8 128)) a13 l13 c13 w14 ∧
 m7 (IntKind.wrap .i64 (Int.tdiv n8 128)) a13 l13 c13 w14 < m7 n8 a9 l9 c9 w10))
 (∀ (b15 : Nat) (w16 : World), NewAt w10 w16 b15 #[.int .u8 (IntKind.wrap .u8 n8)] 5 →
 RunF Try.prog (Builtin.append_ #[24, 24] 24 #[.slice a9 l9 c9, .slice (some ⟨b15, 0, none⟩) 1 1]) w16 [.leaf .slice] fun (a17 : Option Addr) (l17 c17 : Nat) (w18 : World) =>
 RunF Try.prog (convert 24 9 (.slice a17 l17 c17)) w18 [.leaf .str] fun (s19 : ByteArray) (w20 : World) =>
 K s19 w20))
theorem r_f88 (x : Int) (w : World) (K : ByteArray → World → Prop) (h : V_f88 x w K) : C88 x w K :=
  @calls_of_eq Try.prog 88 Try.f88 [.int .i64 x] w [.leaf .str] K _ (cfg false (fun _ => [])) (fun n => bif Nat.beq n 0 then some ⟨[3, 4], [.int .i64, .slice]⟩ else none) (fun n => bif Nat.beq n 6 then some ⟨[3], [.int .i64]⟩ else none) (fun _ => none) Try.func88 (by kernel_rfl) (by kernel_rfl) h

/-- gneiss/gneissref1.PutText -/
def V_f111 (s : ByteArray) (w : World) (K : ByteArray → World → Prop) : Prop :=
 C88 (ByteArray.size s : Int) w fun s1 w2 =>
 (ByteArray.size s1 + ByteArray.size s ≤ 9223372036854775807) ∧
 K (s1 ++ s) w2
theorem r_f111 (s : ByteArray) (w : World) (K : ByteArray → World → Prop) (h : V_f111 s w K) : C111 s w K :=
  @calls_of_eq Try.prog 111 Try.f111 [.string s] w [.leaf .str] K _ (cfg true (fun _ => [])) (fun _ => none) (fun _ => none) (fun _ => none) Try.func111 (by kernel_rfl) (by kernel_rfl) h

/-- (*gneiss/gneissref14.writer).num -/
def V_f64 (wV : Nat) (x : Int) (w : World) (K : World → Prop) : Prop :=
 ∃ (b1 : Bool), World.cell? w ⟨wV, 3, none⟩ = some (.bool b1) ∧
 IfB b1
 (May w ⟨wV, 3, none⟩ ∧ ∀ w2 : World, SetC w w2 ⟨wV, 3, none⟩ (.bool true) →
 ∀ w3 : World, Drew w2 w3 →
 (∃ (a4 : Option Addr) (l4 c4 : Nat), World.cell? w3 ⟨wV, 0, none⟩ = some (.slice a4 l4 c4) ∧
 C88 x w3 fun s5 w6 =>
 RunF Try.prog (Builtin.append_ #[24, 9] 24 #[.slice a4 l4 c4, .string s5]) w6 [.leaf .slice] fun (a7 : Option Addr) (l7 c7 : Nat) (w8 : World) =>
 May w8 ⟨wV, 0, none⟩ ∧ ∀ w9 : World, SetC w8 w9 ⟨wV, 0, none⟩ (.slice a7 l7 c7) →
 K w9) ∧
 (C88 x w3 fun s10 w11 =>
 ∃ (a12 : Option Addr) (l12 c12 : Nat), World.cell? w11 ⟨wV, 0, none⟩ = some (.slice a12 l12 c12) ∧
 RunF Try.prog (Builtin.append_ #[24, 9] 24 #[.slice a12 l12 c12, .string s10]) w11 [.leaf .slice] fun (a13 : Option Addr) (l13 c13 : Nat) (w14 : World) =>
 May w14 ⟨wV, 0, none⟩ ∧ ∀ w15 : World, SetC w14 w15 ⟨wV, 0, none⟩ (.slice a13 l13 c13) →
 K w15))
 (C87 x w fun b16 w17 =>
 May w17 ⟨wV, 3, none⟩ ∧ ∀ w18 : World, SetC w17 w18 ⟨wV, 3, none⟩ (.bool (!b16)) →
 ∀ w19 : World, Drew w18 w19 →
 (∃ (a20 : Option Addr) (l20 c20 : Nat), World.cell? w19 ⟨wV, 0, none⟩ = some (.slice a20 l20 c20) ∧
 C88 x w19 fun s21 w22 =>
 RunF Try.prog (Builtin.append_ #[24, 9] 24 #[.slice a20 l20 c20, .string s21]) w22 [.leaf .slice] fun (a23 : Option Addr) (l23 c23 : Nat) (w24 : World) =>
 May w24 ⟨wV, 0, none⟩ ∧ ∀ w25 : World, SetC w24 w25 ⟨wV, 0, none⟩ (.slice a23 l23 c23) →
 K w25) ∧
 (C88 x w19 fun s26 w27 =>
 ∃ (a28 : Option Addr) (l28 c28 : Nat), World.cell? w27 ⟨wV, 0, none⟩ = some (.slice a28 l28 c28) ∧
 RunF Try.prog (Builtin.append_ #[24, 9] 24 #[.slice a28 l28 c28, .string s26]) w27 [.leaf .slice] fun (a29 : Option Addr) (l29 c29 : Nat) (w30 : World) =>
 May w30 ⟨wV, 0, none⟩ ∧ ∀ w31 : World, SetC w30 w31 ⟨wV, 0, none⟩ (.slice a29 l29 c29) →
 K w31))
theorem r_f64 (wV : Nat) (x : Int) (w : World) (K : World → Prop) (h : V_f64 wV x w K) : C64 (some ⟨wV, 0, none⟩) x w K :=
  @calls_of_eq Try.prog 64 Try.f64 [.pointer (some ⟨wV, 0, none⟩), .int .i64 x] w [] K _ (cfg true (fun _ => [])) (fun _ => none) (fun _ => none) (fun _ => none) Try.func64 (by kernel_rfl) (by kernel_rfl) h

/-- (*gneiss/gneissref14.writer).text -/
def V_f89 (wV : Nat) (s : ByteArray) (w : World) (K : World → Prop) : Prop :=
 ∃ (b1 : Bool), World.cell? w ⟨wV, 2, none⟩ = some (.bool b1) ∧
 IfB b1
 (May w ⟨wV, 2, none⟩ ∧ ∀ w2 : World, SetC w w2 ⟨wV, 2, none⟩ (.bool true) →
 ∀ w3 : World, Drew w2 w3 →
 (∃ (a4 : Option Addr) (l4 c4 : Nat), World.cell? w3 ⟨wV, 0, none⟩ = some (.slice a4 l4 c4) ∧
 C111 s w3 fun s5 w6 =>
 RunF Try.prog (Builtin.append_ #[24, 9] 24 #[.slice a4 l4 c4, .string s5]) w6 [.leaf .slice] fun (a7 : Option Addr) (l7 c7 : Nat) (w8 : World) =>
 May w8 ⟨wV, 0, none⟩ ∧ ∀ w9 : World, SetC w8 w9 ⟨wV, 0, none⟩ (.slice a7 l7 c7) →
 K w9) ∧
 (C111 s w3 fun s10 w11 =>
 ∃ (a12 : Option Addr) (l12 c12 : Nat), World.cell? w11 ⟨wV, 0, none⟩ = some (.slice a12 l12 c12) ∧
 RunF Try.prog (Builtin.append_ #[24, 9] 24 #[.slice a12 l12 c12, .string s10]) w11 [.leaf .slice] fun (a13 : Option Addr) (l13 c13 : Nat) (w14 : World) =>
 May w14 ⟨wV, 0, none⟩ ∧ ∀ w15 : World, SetC w14 w15 ⟨wV, 0, none⟩ (.slice a13 l13 c13) →
 K w15))
 (C102 s w fun b16 w17 =>
 May w17 ⟨wV, 2, none⟩ ∧ ∀ w18 : World, SetC w17 w18 ⟨wV, 2, none⟩ (.bool (!b16)) →
 ∀ w19 : World, Drew w18 w19 →
 (∃ (a20 : Option Addr) (l20 c20 : Nat), World.cell? w19 ⟨wV, 0, none⟩ = some (.slice a20 l20 c20) ∧
 C111 s w19 fun s21 w22 =>
 RunF Try.prog (Builtin.append_ #[24, 9] 24 #[.slice a20 l20 c20, .string s21]) w22 [.leaf .slice] fun (a23 : Option Addr) (l23 c23 : Nat) (w24 : World) =>
 May w24 ⟨wV, 0, none⟩ ∧ ∀ w25 : World, SetC w24 w25 ⟨wV, 0, none⟩ (.slice a23 l23 c23) →
 K w25) ∧
 (C111 s w19 fun s26 w27 =>
 ∃ (a28 : Option Addr) (l28 c28 : Nat), World.cell? w27 ⟨wV, 0, none⟩ = some (.slice a28 l28 c28) ∧
 RunF Try.prog (Builtin.append_ #[24, 9] 24 #[.slice a28 l28 c28, .string s26]) w27 [.leaf .slice] fun (a29 : Option Addr) (l29 c29 : Nat) (w30 : World) =>
 May w30 ⟨wV, 0, none⟩ ∧ ∀ w31 : World, SetC w30 w31 ⟨wV, 0, none⟩ (.slice a29 l29 c29) →
 K w31))
theorem r_f89 (wV : Nat) (s : ByteArray) (w : World) (K : World → Prop) (h : V_f89 wV s w K) : C89 (some ⟨wV, 0, none⟩) s w K :=
  @calls_of_eq Try.prog 89 Try.f89 [.pointer (some ⟨wV, 0, none⟩), .string s] w [] K _ (cfg true (fun _ => [])) (fun _ => none) (fun _ => none) (fun _ => none) Try.func89 (by kernel_rfl) (by kernel_rfl) h

/-- gneiss/gneissref14.flag -/
def V_f90 (is : Bool) (k : Int) (w : World) (K : Int → World → Prop) : Prop :=
 IfB is
 (K k w)
 (K 0 w)
theorem r_f90 (is : Bool) (k : Int) (w : World) (K : Int → World → Prop) (h : V_f90 is k w K) : C90 is k w K :=
  @calls_of_eq Try.prog 90 Try.f90 [.bool is, .int .i64 k] w [.leaf (.int .i64)] K _ (cfg true (fun _ => [])) (fun _ => none) (fun _ => none) (fun _ => none) Try.func90 (by kernel_rfl) (by kernel_rfl) h

/-- (*gneiss/gneissref14.writer).count -/
def V_f65 (wV : Nat) (k : Int) (most : Int) (w : World) (K : World → Prop) : Prop :=
 ∃ (b1 : Bool), World.cell? w ⟨wV, 1, none⟩ = some (.bool b1) ∧
 IfB b1
 (May w ⟨wV, 1, none⟩ ∧ ∀ w2 : World, SetC w w2 ⟨wV, 1, none⟩ (.bool true) →
 C64 (some ⟨wV, 0, none⟩) k w2 fun w3 =>
 K w3)
 (May w ⟨wV, 1, none⟩ ∧ ∀ w4 : World, SetC w w4 ⟨wV, 1, none⟩ (.bool (decide ((most : Int) < k))) →
 C64 (some ⟨wV, 0, none⟩) k w4 fun w5 =>
 K w5)
theorem r_f65 (wV : Nat) (k : Int) (most : Int) (w : World) (K : World → Prop) (h : V_f65 wV k most w K) : C65 (some ⟨wV, 0, none⟩) k most w K :=
  @calls_of_eq Try.prog 65 Try.f65 [.pointer (some ⟨wV, 0, none⟩), .int .i64 k, .int .i64 most] w [] K _ (cfg true (fun _ => [])) (fun _ => none) (fun _ => none) (fun _ => none) Try.func65 (by kernel_rfl) (by kernel_rfl) h

/-- (*gneiss/gneissref14.writer).list -/
def V_f91 (wV : Nat) (xsa : Option Addr) (xsl xsc : Nat) (most : Int) (w : World) (K : World → Prop) : Prop :=
 C65 (some ⟨wV, 0, none⟩) (xsl : Int) most w fun w1 =>
 ∃ (I2 : Int → World → Prop) (m3 : Int → World → Nat),
 I2 0 w1 ∧
 ∀ (_ : Env) (n4 : Int) (w5 : World), I2 n4 w5 →
 IfB (decide ((n4 : Int) < (xsl : Int)))
 (PtrOK xsa fun (p6 : Addr) =>
 ((0 : Int) ≤ n4 ∧ n4 < (xsl : Int)) ∧
 ∃ (n7 : Int), World.cell? w5 (Addr.add p6 (Int.toNat n4 * 1)) = some (.int .i64 n7) ∧
 C64 (some ⟨wV, 0, none⟩) n7 w5 fun w8 =>
 Fit .i64 (n4 + 1) ∧
 (I2 (n4 + 1) w8 ∧
 m3 (n4 + 1) w8 < m3 n4 w5))
 (K w5)
theorem r_f91 (wV : Nat) (xsa : Option Addr) (xsl xsc : Nat) (most : Int) (w : World) (K : World → Prop) (h : V_f91 wV xsa xsl xsc most w K) : C91 (some ⟨wV, 0, none⟩) xsa xsl xsc most w K :=
  @calls_of_eq Try.prog 91 Try.f91 [.pointer (some ⟨wV, 0, none⟩), .slice xsa xsl xsc, .int .i64 most] w [] K _ (cfg true (fun _ => [])) (fun n => bif Nat.beq n 0 then some ⟨[6], [.int .i64]⟩ else none) (fun _ => none) (fun _ => none) Try.func91 (by kernel_rfl) (by kernel_rfl) h

/-- (*gneiss/gneissref14.writer).fields -/
def V_f92 (wV : Nat) (fsa : Option Addr) (fsl fsc : Nat) (w : World) (K : World → Prop) : Prop :=
 C65 (some ⟨wV, 0, none⟩) (fsl : Int) 24 w fun w1 =>
 ∃ (I2 : Int → World → Prop) (m3 : Int → World → Nat),
 I2 0 w1 ∧
 ∀ (_ : Env) (n4 : Int) (w5 : World), I2 n4 w5 →
 IfB (decide ((n4 : Int) < (fsl : Int)))
 (PtrOK fsa fun (p6 : Addr) =>
 ((0 : Int) ≤ n4 ∧ n4 < (fsl : Int)) ∧
 ∃ (s7 : ByteArray), World.cell? w5 (Addr.add (Addr.add p6 (Int.toNat n4 * 2)) 0) = some (.string s7) ∧
 C89 (some ⟨wV, 0, none⟩) s7 w5 fun w8 =>
 PtrOK fsa fun (p9 : Addr) =>
 ((0 : Int) ≤ n4 ∧ n4 < (fsl : Int)) ∧
 ∃ (n10 : Int), World.cell? w8 (Addr.add (Addr.add p9 (Int.toNat n4 * 2)) 1) = some (.int .i64 n10) ∧
 C64 (some ⟨wV, 0, none⟩) n10 w8 fun w11 =>
 Fit .i64 (n4 + 1) ∧
 (I2 (n4 + 1) w11 ∧
 m3 (n4 + 1) w11 < m3 n4 w5))
 (K w5)
theorem r_f92 (wV : Nat) (fsa : Option Addr) (fsl fsc : Nat) (w : World) (K : World → Prop) (h : V_f92 wV fsa fsl fsc w K) : C92 (some ⟨wV, 0, none⟩) fsa fsl fsc w K :=
  @calls_of_eq Try.prog 92 Try.f92 [.pointer (some ⟨wV, 0, none⟩), .slice fsa fsl fsc] w [] K _ (cfg true (fun _ => [])) (fun n => bif Nat.beq n 0 then some ⟨[4], [.int .i64]⟩ else none) (fun _ => none) (fun _ => none) Try.func92 (by kernel_rfl) (by kernel_rfl) h

/-- (*gneiss/gneissref14.writer).method -/
def V_f93 (wV : Nat) (ma : ByteArray) (mb : Bool) (mca : Option Addr) (mcl mcc : Nat) (md : Int) (me : Int) (mf : Int) (mga : Option Addr) (mgl mgc : Nat) (mha : Option Addr) (mhl mhc : Nat) (mia : Option Addr) (mil mic : Nat) (w : World) (K : World → Prop) : Prop :=
 ∀ (b1 : Nat) (w2 : World), NewAt w w2 b1 #[.string ma, .bool mb, .slice mca mcl mcc, .int .i64 md, .int .i64 me, .int .i64 mf, .slice mga mgl mgc, .slice mha mhl mhc, .slice mia mil mic] 82 →
 ∃ (s3 : ByteArray), World.cell? w2 ⟨b1, 0, none⟩ = some (.string s3) ∧
 C89 (some ⟨wV, 0, none⟩) s3 w2 fun w4 =>
 ∃ (b5 : Bool), World.cell? w4 ⟨b1, 1, none⟩ = some (.bool b5) ∧
 C90 b5 1 w4 fun n6 w7 =>
 C64 (some ⟨wV, 0, none⟩) n6 w7 fun w8 =>
 ∃ (a9 : Option Addr) (l9 c9 : Nat), World.cell? w8 ⟨b1, 2, none⟩ = some (.slice a9 l9 c9) ∧
 C91 (some ⟨wV, 0, none⟩) a9 l9 c9 8 w8 fun w10 =>
 ∃ (n11 : Int), World.cell? w10 ⟨b1, 3, none⟩ = some (.int .i64 n11) ∧
 C64 (some ⟨wV, 0, none⟩) n11 w10 fun w12 =>
 ∃ M13 : World → Prop,
 (∃ (b15 : Bool), World.cell? w12 ⟨wV, 3, none⟩ = some (.bool b15) ∧
 IfB b15
 (May w12 ⟨wV, 3, none⟩ ∧ ∀ w16 : World, SetC w12 w16 ⟨wV, 3, none⟩ (.bool true) →
 M13 w16)
 (∃ (n17 : Int), World.cell? w12 ⟨b1, 4, none⟩ = some (.int .i64 n17) ∧
 IfB (decide ((n17 : Int) < 0))
 (May w12 ⟨wV, 3, none⟩ ∧ ∀ w18 : World, SetC w12 w18 ⟨wV, 3, none⟩ (.bool true) →
 M13 w18)
 (∃ (n19 : Int), World.cell? w12 ⟨b1, 4, none⟩ = some (.int .i64 n19) ∧
 IfB (decide ((24 : Int) < n19))
 (May w12 ⟨wV, 3, none⟩ ∧ ∀ w20 : World, SetC w12 w20 ⟨wV, 3, none⟩ (.bool true) →
 M13 w20)
 (∃ (n21 : Int), World.cell? w12 ⟨b1, 5, none⟩ = some (.int .i64 n21) ∧
 IfB (decide ((n21 : Int) < 0))
 (May w12 ⟨wV, 3, none⟩ ∧ ∀ w22 : World, SetC w12 w22 ⟨wV, 3, none⟩ (.bool true) →
 M13 w22)
 (∃ (n23 : Int), World.cell? w12 ⟨b1, 5, none⟩ = some (.int .i64 n23) ∧
 May w12 ⟨wV, 3, none⟩ ∧ ∀ w24 : World, SetC w12 w24 ⟨wV, 3, none⟩ (.bool (decide ((24 : Int) < n23))) →
 M13 w24))))) ∧
 ∀ (_ : Env) (w14 : World), M13 w14 →
 ∃ (n25 : Int), World.cell? w14 ⟨b1, 4, none⟩ = some (.int .i64 n25) ∧
 C64 (some ⟨wV, 0, none⟩) n25 w14 fun w26 =>
 ∃ (n27 : Int), World.cell? w26 ⟨b1, 5, none⟩ = some (.int .i64 n27) ∧
 C64 (some ⟨wV, 0, none⟩) n27 w26 fun w28 =>
 ∃ (a29 : Option Addr) (l29 c29 : Nat), World.cell? w28 ⟨b1, 6, none⟩ = some (.slice a29 l29 c29) ∧
 C65 (some ⟨wV, 0, none⟩) (l29 : Int) 300 w28 fun w30 =>
 ∃ (I31 : Int → World → Prop) (m32 : Int → World → Nat),
 I31 0 w30 ∧
 ∀ (_ : Env) (n33 : Int) (w34 : World), I31 n33 w34 →
 ∃ (a35 : Option Addr) (l35 c35 : Nat), World.cell? w34 ⟨b1, 6, none⟩ = some (.slice a35 l35 c35) ∧
 IfB (decide ((n33 : Int) < (l35 : Int)))
 (∃ (a36 : Option Addr) (l36 c36 : Nat), World.cell? w34 ⟨b1, 6, none⟩ = some (.slice a36 l36 c36) ∧
 PtrOK a36 fun (p37 : Addr) =>
 ((0 : Int) ≤ n33 ∧ n33 < (l36 : Int)) ∧
 ∃ (n38 : Int), World.cell? w34 (Addr.add (Addr.add p37 (Int.toNat n33 * 3)) 0) = some (.int .i64 n38) ∧
 C64 (some ⟨wV, 0, none⟩) n38 w34 fun w39 =>
 ∃ (a40 : Option Addr) (l40 c40 : Nat), World.cell? w39 ⟨b1, 6, none⟩ = some (.slice a40 l40 c40) ∧
 PtrOK a40 fun (p41 : Addr) =>
 ((0 : Int) ≤ n33 ∧ n33 < (l40 : Int)) ∧
 ∃ (n42 : Int), World.cell? w39 (Addr.add (Addr.add p41 (Int.toNat n33 * 3)) 1) = some (.int .i64 n42) ∧
 C64 (some ⟨wV, 0, none⟩) n42 w39 fun w43 =>
 ∃ (a44 : Option Addr) (l44 c44 : Nat), World.cell? w43 ⟨b1, 6, none⟩ = some (.slice a44 l44 c44) ∧
 PtrOK a44 fun (p45 : Addr) =>
 ((0 : Int) ≤ n33 ∧ n33 < (l44 : Int)) ∧
 ∃ (n46 : Int), World.cell? w43 (Addr.add (Addr.add p45 (Int.toNat n33 * 3)) 2) = some (.int .i64 n46) ∧
 C64 (some ⟨wV, 0, none⟩) n46 w43 fun w47 =>
 Fit .i64 (n33 + 1) ∧
 (I31 (n33 + 1) w47 ∧
 m32 (n33 + 1) w47 < m32 n33 w34))
 (∃ (a48 : Option Addr) (l48 c48 : Nat), World.cell? w34 ⟨b1, 7, none⟩ = some (.slice a48 l48 c48) ∧
 C65 (some ⟨wV, 0, none⟩) (l48 : Int) 16 w34 fun w49 =>
 ∃ (I50 : Int → World → Prop) (m51 : Int → World → Nat),
 I50 0 w49 ∧
 ∀ (_ : Env) (n52 : Int) (w53 : World), I50 n52 w53 →
 ∃ (a54 : Option Addr) (l54 c54 : Nat), World.cell? w53 ⟨b1, 7, none⟩ = some (.slice a54 l54 c54) ∧
 IfB (decide ((n52 : Int) < (l54 : Int)))
 (∃ (a55 : Option Addr) (l55 c55 : Nat), World.cell? w53 ⟨b1, 7, none⟩ = some (.slice a55 l55 c55) ∧
 PtrOK a55 fun (p56 : Addr) =>
 ((0 : Int) ≤ n52 ∧ n52 < (l55 : Int)) ∧
 ∃ (n57 : Int), World.cell? w53 (Addr.add (Addr.add p56 (Int.toNat n52 * 4)) 0) = some (.int .i64 n57) ∧
 C64 (some ⟨wV, 0, none⟩) n57 w53 fun w58 =>
 ∃ (a59 : Option Addr) (l59 c59 : Nat), World.cell? w58 ⟨b1, 7, none⟩ = some (.slice a59 l59 c59) ∧
 PtrOK a59 fun (p60 : Addr) =>
 ((0 : Int) ≤ n52 ∧ n52 < (l59 : Int)) ∧
 ∃ (n61 : Int), World.cell? w58 (Addr.add (Addr.add p60 (Int.toNat n52 * 4)) 1) = some (.int .i64 n61) ∧
 C64 (some ⟨wV, 0, none⟩) n61 w58 fun w62 =>
 ∃ (a63 : Option Addr) (l63 c63 : Nat), World.cell? w62 ⟨b1, 7, none⟩ = some (.slice a63 l63 c63) ∧
 PtrOK a63 fun (p64 : Addr) =>
 ((0 : Int) ≤ n52 ∧ n52 < (l63 : Int)) ∧
 ∃ (n65 : Int), World.cell? w62 (Addr.add (Addr.add p64 (Int.toNat n52 * 4)) 2) = some (.int .i64 n65) ∧
 C64 (some ⟨wV, 0, none⟩) n65 w62 fun w66 =>
 ∃ (a67 : Option Addr) (l67 c67 : Nat), World.cell? w66 ⟨b1, 7, none⟩ = some (.slice a67 l67 c67) ∧
 PtrOK a67 fun (p68 : Addr) =>
 ((0 : Int) ≤ n52 ∧ n52 < (l67 : Int)) ∧
 ∃ (n69 : Int), World.cell? w66 (Addr.add (Addr.add p68 (Int.toNat n52 * 4)) 3) = some (.int .i64 n69) ∧
 C64 (some ⟨wV, 0, none⟩) n69 w66 fun w70 =>
 Fit .i64 (n52 + 1) ∧
 (I50 (n52 + 1) w70 ∧
 m51 (n52 + 1) w70 < m51 n52 w53))
 (∃ (a71 : Option Addr) (l71 c71 : Nat), World.cell? w53 ⟨b1, 8, none⟩ = some (.slice a71 l71 c71) ∧
 C65 (some ⟨wV, 0, none⟩) (l71 : Int) 64 w53 fun w72 =>
 ∃ (I73 : Int → World → Prop) (m74 : Int → World → Nat),
 I73 0 w72 ∧
 ∀ (_ : Env) (n75 : Int) (w76 : World), I73 n75 w76 →
 ∃ (a77 : Option Addr) (l77 c77 : Nat), World.cell? w76 ⟨b1, 8, none⟩ = some (.slice a77 l77 c77) ∧
 IfB (decide ((n75 : Int) < (l77 : Int)))
 (∃ (a78 : Option Addr) (l78 c78 : Nat), World.cell? w76 ⟨b1, 8, none⟩ = some (.slice a78 l78 c78) ∧
 PtrOK a78 fun (p79 : Addr) =>
 ((0 : Int) ≤ n75 ∧ n75 < (l78 : Int)) ∧
 ∃ (n80 : Int), World.cell? w76 (Addr.add (Addr.add p79 (Int.toNat n75 * 3)) 0) = some (.int .i64 n80) ∧
 C64 (some ⟨wV, 0, none⟩) n80 w76 fun w81 =>
 ∃ (a82 : Option Addr) (l82 c82 : Nat), World.cell? w81 ⟨b1, 8, none⟩ = some (.slice a82 l82 c82) ∧
 PtrOK a82 fun (p83 : Addr) =>
 ((0 : Int) ≤ n75 ∧ n75 < (l82 : Int)) ∧
 ∃ (a84 : Option Addr) (l84 c84 : Nat), World.cell? w81 (Addr.add (Addr.add p83 (Int.toNat n75 * 3)) 1) = some (.slice a84 l84 c84) ∧
 C91 (some ⟨wV, 0, none⟩) a84 l84 c84 24 w81 fun w85 =>
 ∃ (a86 : Option Addr) (l86 c86 : Nat), World.cell? w85 ⟨b1, 8, none⟩ = some (.slice a86 l86 c86) ∧
 PtrOK a86 fun (p87 : Addr) =>
 ((0 : Int) ≤ n75 ∧ n75 < (l86 : Int)) ∧
 ∃ (a88 : Option Addr) (l88 c88 : Nat), World.cell? w85 (Addr.add (Addr.add p87 (Int.toNat n75 * 3)) 2) = some (.slice a88 l88 c88) ∧
 C91 (some ⟨wV, 0, none⟩) a88 l88 c88 24 w85 fun w89 =>
 Fit .i64 (n75 + 1) ∧
 (I73 (n75 + 1) w89 ∧
 m74 (n75 + 1) w89 < m74 n75 w76))
 (K w76)))
theorem r_f93 (wV : Nat) (ma : ByteArray) (mb : Bool) (mca : Option Addr) (mcl mcc : Nat) (md : Int) (me : Int) (mf : Int) (mga : Option Addr) (mgl mgc : Nat) (mha : Option Addr) (mhl mhc : Nat) (mia : Option Addr) (mil mic : Nat) (w : World) (K : World → Prop) (h : V_f93 wV ma mb mca mcl mcc md me mf mga mgl mgc mha mhl mhc mia mil mic w K) : C93 (some ⟨wV, 0, none⟩) ma mb mca mcl mcc md me mf mga mgl mgc mha mhl mhc mia mil mic w K :=
  @calls_of_eq Try.prog 93 Try.f93 [.pointer (some ⟨wV, 0, none⟩), .agg #[.string ma, .bool mb, .slice mca mcl mcc, .int .i64 md, .int .i64 me, .int .i64 mf, .slice mga mgl mgc, .slice mha mhl mhc, .slice mia mil mic]] w [] K _ (cfg true (fun _ => [])) (fun n => bif Nat.beq n 0 then some ⟨[4], [.int .i64]⟩ else bif Nat.beq n 2 then some ⟨[5], [.int .i64]⟩ else bif Nat.beq n 4 then some ⟨[6], [.int .i64]⟩ else none) (fun n => bif Nat.beq n 6 then some ⟨[], []⟩ else none) (fun _ => none) Try.func93 (by kernel_rfl) (by kernel_rfl) h

/-- (*gneiss/gneissref14.writer).class -/
def V_f66 (wV : Nat) (ca : ByteArray) (cb : Bool) (cc : Bool) (cd : Int) (cea : Option Addr) (cel cec : Nat) (cfa : Option Addr) (cfl cfc : Nat) (cga : Option Addr) (cgl cgc : Nat) (cha : Option Addr) (chl chc : Nat) (w : World) (K : World → Prop) : Prop :=
 ∀ (b1 : Nat) (w2 : World), NewAt w w2 b1 #[.string ca, .bool cb, .bool cc, .int .i64 cd, .slice cea cel cec, .slice cfa cfl cfc, .slice cga cgl cgc, .slice cha chl chc] 75 →
 ∃ (s3 : ByteArray), World.cell? w2 ⟨b1, 0, none⟩ = some (.string s3) ∧
 C89 (some ⟨wV, 0, none⟩) s3 w2 fun w4 =>
 ∀ w5 : World, Drew w4 w5 →
 ∃ (b6 : Bool), World.cell? w5 ⟨b1, 1, none⟩ = some (.bool b6) ∧
 (C90 b6 1 w5 fun n7 w8 =>
 ∃ (b9 : Bool), World.cell? w8 ⟨b1, 2, none⟩ = some (.bool b9) ∧
 C90 b9 2 w8 fun n10 w11 =>
 Fit .i64 (n7 + n10) ∧
 C64 (some ⟨wV, 0, none⟩) (n7 + n10) w11 fun w12 =>
 ∃ (n13 : Int), World.cell? w12 ⟨b1, 3, none⟩ = some (.int .i64 n13) ∧
 C64 (some ⟨wV, 0, none⟩) n13 w12 fun w14 =>
 ∃ (a15 : Option Addr) (l15 c15 : Nat), World.cell? w14 ⟨b1, 4, none⟩ = some (.slice a15 l15 c15) ∧
 C91 (some ⟨wV, 0, none⟩) a15 l15 c15 8 w14 fun w16 =>
 ∃ (a17 : Option Addr) (l17 c17 : Nat), World.cell? w16 ⟨b1, 5, none⟩ = some (.slice a17 l17 c17) ∧
 C92 (some ⟨wV, 0, none⟩) a17 l17 c17 w16 fun w18 =>
 ∃ (a19 : Option Addr) (l19 c19 : Nat), World.cell? w18 ⟨b1, 6, none⟩ = some (.slice a19 l19 c19) ∧
 C92 (some ⟨wV, 0, none⟩) a19 l19 c19 w18 fun w20 =>
 ∃ (a21 : Option Addr) (l21 c21 : Nat), World.cell? w20 ⟨b1, 7, none⟩ = some (.slice a21 l21 c21) ∧
 C65 (some ⟨wV, 0, none⟩) (l21 : Int) 24 w20 fun w22 =>
 ∃ (I23 : Int → World → Prop) (m24 : Int → World → Nat),
 I23 0 w22 ∧
 ∀ (_ : Env) (n25 : Int) (w26 : World), I23 n25 w26 →
 ∃ (a27 : Option Addr) (l27 c27 : Nat), World.cell? w26 ⟨b1, 7, none⟩ = some (.slice a27 l27 c27) ∧
 IfB (decide ((n25 : Int) < (l27 : Int)))
 (∃ (a28 : Option Addr) (l28 c28 : Nat), World.cell? w26 ⟨b1, 7, none⟩ = some (.slice a28 l28 c28) ∧
 PtrOK a28 fun (p29 : Addr) =>
 ((0 : Int) ≤ n25 ∧ n25 < (l28 : Int)) ∧
 ∃ (s30 : ByteArray), ∃ (b31 : Bool), ∃ (a32 : Option Addr) (l32 c32 : Nat), ∃ (n33 : Int), ∃ (n34 : Int), ∃ (n35 : Int), ∃ (a36 : Option Addr) (l36 c36 : Nat), ∃ (a37 : Option Addr) (l37 c37 : Nat), ∃ (a38 : Option Addr) (l38 c38 : Nat), CellsAt w26 (Addr.add p29 (Int.toNat n25 * 9)) [.string s30, .bool b31, .slice a32 l32 c32, .int .i64 n33, .int .i64 n34, .int .i64 n35, .slice a36 l36 c36, .slice a37 l37 c37, .slice a38 l38 c38] ∧
 C93 (some ⟨wV, 0, none⟩) s30 b31 a32 l32 c32 n33 n34 n35 a36 l36 c36 a37 l37 c37 a38 l38 c38 w26 fun w39 =>
 Fit .i64 (n25 + 1) ∧
 (I23 (n25 + 1) w39 ∧
 m24 (n25 + 1) w39 < m24 n25 w26))
 (K w26)) ∧
 (∃ (b40 : Bool), World.cell? w5 ⟨b1, 2, none⟩ = some (.bool b40) ∧
 C90 b6 1 w5 fun n41 w42 =>
 C90 b40 2 w42 fun n43 w44 =>
 Fit .i64 (n41 + n43) ∧
 C64 (some ⟨wV, 0, none⟩) (n41 + n43) w44 fun w45 =>
 ∃ (n46 : Int), World.cell? w45 ⟨b1, 3, none⟩ = some (.int .i64 n46) ∧
 C64 (some ⟨wV, 0, none⟩) n46 w45 fun w47 =>
 ∃ (a48 : Option Addr) (l48 c48 : Nat), World.cell? w47 ⟨b1, 4, none⟩ = some (.slice a48 l48 c48) ∧
 C91 (some ⟨wV, 0, none⟩) a48 l48 c48 8 w47 fun w49 =>
 ∃ (a50 : Option Addr) (l50 c50 : Nat), World.cell? w49 ⟨b1, 5, none⟩ = some (.slice a50 l50 c50) ∧
 C92 (some ⟨wV, 0, none⟩) a50 l50 c50 w49 fun w51 =>
 ∃ (a52 : Option Addr) (l52 c52 : Nat), World.cell? w51 ⟨b1, 6, none⟩ = some (.slice a52 l52 c52) ∧
 C92 (some ⟨wV, 0, none⟩) a52 l52 c52 w51 fun w53 =>
 ∃ (a54 : Option Addr) (l54 c54 : Nat), World.cell? w53 ⟨b1, 7, none⟩ = some (.slice a54 l54 c54) ∧
 C65 (some ⟨wV, 0, none⟩) (l54 : Int) 24 w53 fun w55 =>
 ∃ (I56 : Int → World → Prop) (m57 : Int → World → Nat),
 I56 0 w55 ∧
 ∀ (_ : Env) (n58 : Int) (w59 : World), I56 n58 w59 →
 ∃ (a60 : Option Addr) (l60 c60 : Nat), World.cell? w59 ⟨b1, 7, none⟩ = some (.slice a60 l60 c60) ∧
 IfB (decide ((n58 : Int) < (l60 : Int)))
 (∃ (a61 : Option Addr) (l61 c61 : Nat), World.cell? w59 ⟨b1, 7, none⟩ = some (.slice a61 l61 c61) ∧
 PtrOK a61 fun (p62 : Addr) =>
 ((0 : Int) ≤ n58 ∧ n58 < (l61 : Int)) ∧
 ∃ (s63 : ByteArray), ∃ (b64 : Bool), ∃ (a65 : Option Addr) (l65 c65 : Nat), ∃ (n66 : Int), ∃ (n67 : Int), ∃ (n68 : Int), ∃ (a69 : Option Addr) (l69 c69 : Nat), ∃ (a70 : Option Addr) (l70 c70 : Nat), ∃ (a71 : Option Addr) (l71 c71 : Nat), CellsAt w59 (Addr.add p62 (Int.toNat n58 * 9)) [.string s63, .bool b64, .slice a65 l65 c65, .int .i64 n66, .int .i64 n67, .int .i64 n68, .slice a69 l69 c69, .slice a70 l70 c70, .slice a71 l71 c71] ∧
 C93 (some ⟨wV, 0, none⟩) s63 b64 a65 l65 c65 n66 n67 n68 a69 l69 c69 a70 l70 c70 a71 l71 c71 w59 fun w72 =>
 Fit .i64 (n58 + 1) ∧
 (I56 (n58 + 1) w72 ∧
 m57 (n58 + 1) w72 < m57 n58 w59))
 (K w59))
theorem r_f66 (wV : Nat) (ca : ByteArray) (cb : Bool) (cc : Bool) (cd : Int) (cea : Option Addr) (cel cec : Nat) (cfa : Option Addr) (cfl cfc : Nat) (cga : Option Addr) (cgl cgc : Nat) (cha : Option Addr) (chl chc : Nat) (w : World) (K : World → Prop) (h : V_f66 wV ca cb cc cd cea cel cec cfa cfl cfc cga cgl cgc cha chl chc w K) : C66 (some ⟨wV, 0, none⟩) ca cb cc cd cea cel cec cfa cfl cfc cga cgl cgc cha chl chc w K :=
  @calls_of_eq Try.prog 66 Try.f66 [.pointer (some ⟨wV, 0, none⟩), .agg #[.string ca, .bool cb, .bool cc, .int .i64 cd, .slice cea cel cec, .slice cfa cfl cfc, .slice cga cgl cgc, .slice cha chl chc]] w [] K _ (cfg true (fun _ => [])) (fun n => bif Nat.beq n 0 then some ⟨[4], [.int .i64]⟩ else none) (fun _ => none) (fun _ => none) Try.func66 (by kernel_rfl) (by kernel_rfl) h

/-- gneiss/gneissref14.Encode -/
def V_f36 (pa : Int) (pba : Option Addr) (pbl pbc : Nat) (w : World) (K : ByteArray → Int → World → Prop) : Prop :=
 ∀ (b1 : Nat) (w2 : World), NewAt w w2 b1 #[.int .i64 pa, .slice pba pbl pbc] 54 →
 ∀ (b3 : Nat) (w4 : World), NewAt w2 w4 b3 #[.int .u8 71, .int .u8 78, .int .u8 83, .int .u8 83] 5 →
 RunF Try.prog (convert 24 24 (.slice (some ⟨b3, 0, none⟩) 4 4)) w4 [.leaf .slice] fun (a5 : Option Addr) (l5 c5 : Nat) (w6 : World) =>
 ∀ (b7 : Nat) (w8 : World), NewAt w6 w8 b7 #[.slice a5 l5 c5, .bool false, .bool false, .bool false] 134 →
 ∃ (n9 : Int), World.cell? w8 ⟨b1, 0, none⟩ = some (.int .i64 n9) ∧
 C64 (some ⟨b7, 0, none⟩) n9 w8 fun w10 =>
 ∃ (a11 : Option Addr) (l11 c11 : Nat), World.cell? w10 ⟨b1, 1, none⟩ = some (.slice a11 l11 c11) ∧
 C65 (some ⟨b7, 0, none⟩) (l11 : Int) 40 w10 fun w12 =>
 ∃ (I13 : Int → World → Prop) (m14 : Int → World → Nat),
 I13 0 w12 ∧
 ∀ (_ : Env) (n15 : Int) (w16 : World), I13 n15 w16 →
 ∃ (a17 : Option Addr) (l17 c17 : Nat), World.cell? w16 ⟨b1, 1, none⟩ = some (.slice a17 l17 c17) ∧
 IfB (decide ((n15 : Int) < (l17 : Int)))
 (∃ (a18 : Option Addr) (l18 c18 : Nat), World.cell? w16 ⟨b1, 1, none⟩ = some (.slice a18 l18 c18) ∧
 PtrOK a18 fun (p19 : Addr) =>
 ((0 : Int) ≤ n15 ∧ n15 < (l18 : Int)) ∧
 ∃ (s20 : ByteArray), ∃ (b21 : Bool), ∃ (b22 : Bool), ∃ (n23 : Int), ∃ (a24 : Option Addr) (l24 c24 : Nat), ∃ (a25 : Option Addr) (l25 c25 : Nat), ∃ (a26 : Option Addr) (l26 c26 : Nat), ∃ (a27 : Option Addr) (l27 c27 : Nat), CellsAt w16 (Addr.add p19 (Int.toNat n15 * 8)) [.string s20, .bool b21, .bool b22, .int .i64 n23, .slice a24 l24 c24, .slice a25 l25 c25, .slice a26 l26 c26, .slice a27 l27 c27] ∧
 C66 (some ⟨b7, 0, none⟩) s20 b21 b22 n23 a24 l24 c24 a25 l25 c25 a26 l26 c26 a27 l27 c27 w16 fun w28 =>
 Fit .i64 (n15 + 1) ∧
 (I13 (n15 + 1) w28 ∧
 m14 (n15 + 1) w28 < m14 n15 w16))
 (∃ (b29 : Bool), World.cell? w16 ⟨b7, 1, none⟩ = some (.bool b29) ∧
 IfB b29
 (K (ByteArray.mk #[]) 1404 w16)
 (∃ (b30 : Bool), World.cell? w16 ⟨b7, 2, none⟩ = some (.bool b30) ∧
 IfB b30
 (K (ByteArray.mk #[]) 1403 w16)
 (∃ (b31 : Bool), World.cell? w16 ⟨b7, 3, none⟩ = some (.bool b31) ∧
 IfB b31
 (K (ByteArray.mk #[]) 1402 w16)
 (∃ (a32 : Option Addr) (l32 c32 : Nat), World.cell? w16 ⟨b7, 0, none⟩ = some (.slice a32 l32 c32) ∧
 IfB (decide ((32768 : Int) < (l32 : Int)))
 (K (ByteArray.mk #[]) 1406 w16)
 (∃ (a33 : Option Addr) (l33 c33 : Nat), World.cell? w16 ⟨b7, 0, none⟩ = some (.slice a33 l33 c33) ∧
 RunF Try.prog (convert 24 9 (.slice a33 l33 c33)) w16 [.leaf .str] fun (s34 : ByteArray) (w35 : World) =>
 K s34 0 w35)))))
theorem r_f36 (pa : Int) (pba : Option Addr) (pbl pbc : Nat) (w : World) (K : ByteArray → Int → World → Prop) (h : V_f36 pa pba pbl pbc w K) : C36 pa pba pbl pbc w K :=
  @calls_of_eq Try.prog 36 Try.f36 [.agg #[.int .i64 pa, .slice pba pbl pbc]] w [.leaf .str, .leaf (.int .i64)] K _ (cfg true (fun _ => [])) (fun n => bif Nat.beq n 0 then some ⟨[5], [.int .i64]⟩ else none) (fun _ => none) (fun _ => none) Try.func36 (by kernel_rfl) (by kernel_rfl) h

end Go.Proofs.Ytmlhdmnnijapjaa.V
