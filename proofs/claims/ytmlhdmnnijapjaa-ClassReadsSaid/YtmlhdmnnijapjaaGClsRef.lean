/- Readings of the program's functions. No condition. -/
import Derived.Test.YtmlhdmnnijapjaaGCfg
namespace Go.Proofs.Ytmlhdmnnijapjaa.V
open Go
set_option maxRecDepth 100000
set_option linter.unusedVariables false
/-- (*gneiss/gneissref14.reader).fault -/
def V_f54 (r : Nat) (code : Int) (atV : Int) (w : World) (K : World → Prop) : Prop :=
 ∃ (n1 : Int), World.cell? w ⟨r, 2, none⟩ = some (.int .i64 n1) ∧
 IfB (decide ((n1 : Int) = 0))
 (May w ⟨r, 2, none⟩ ∧ ∀ w2 : World, SetC w w2 ⟨r, 2, none⟩ (.int .i64 code) →
 May w2 ⟨r, 3, none⟩ ∧ ∀ w3 : World, SetC w2 w3 ⟨r, 3, none⟩ (.int .i64 atV) →
 K w3)
 (K w)
theorem r_f54 (r : Nat) (code : Int) (atV : Int) (w : World) (K : World → Prop) (h : V_f54 r code atV w K) : C54 (some ⟨r, 0, none⟩) code atV w K :=
  @calls_of_eq Try.prog 54 Try.f54 [.pointer (some ⟨r, 0, none⟩), .int .i64 code, .int .i64 atV] w [] K _ (cfg true (fun _ => [])) (fun _ => none) (fun _ => none) (fun _ => none) Try.func54 (by kernel_rfl) (by kernel_rfl) h

/-- gneiss/gneissref1.Get -/
def V_f75 (s : ByteArray) (atV : Int) (w : World) (K : Int → Int → Int → World → Prop) : Prop :=
 ∃ M1 : World → Prop,
 (IfB (decide ((atV : Int) < 0))
 (K 0 0 200 w)
 (IfB (decide (((ByteArray.size s : Int) : Int) < atV))
 (K 0 0 200 w)
 (M1 w))) ∧
 ∀ (_ : Env) (w2 : World), M1 w2 →
 ∃ (I3 : Int → Int → Int → World → Prop) (m4 : Int → Int → Int → World → Nat),
 I3 0 1 0 w2 ∧
 ∀ (_ : Env) (n5 : Int) (n6 : Int) (n7 : Int) (w8 : World), I3 n5 n6 n7 w8 →
 IfB (decide (((ByteArray.size s : Int) : Int) ≤ (IntKind.wrap .i64 (atV + n7))))
 (K 0 0 200 w8)
 (IfB (decide ((n7 : Int) = 5))
 (K 0 0 201 w8)
 (∃ h9 : Int.toNat (IntKind.wrap .i64 (atV + n7)) < ByteArray.size s, 0 ≤ (IntKind.wrap .i64 (atV + n7)) ∧
 (128 : Int) ≠ 0 ∧
 ∃ M10 : World → Prop,
 (IfB (decide ((4294967296 : Int) ≤ (IntKind.wrap .i64 (n5 + (IntKind.wrap .i64 ((Int.tmod (IntKind.wrap .i64 ((UInt8.toNat (s[Int.toNat (IntKind.wrap .i64 (atV + n7))]'h9) : Nat) : Int)) 128) * n6))))))
 (K 0 0 201 w8)
 (IfB (decide (((IntKind.wrap .i64 ((UInt8.toNat (s[Int.toNat (IntKind.wrap .i64 (atV + n7))]'h9) : Nat) : Int)) : Int) = 0))
 (IfB (decide ((0 : Int) < n7))
 (K 0 0 201 w8)
 (IfB (decide ((n7 : Int) = 4))
 (IfB (decide ((128 : Int) ≤ (IntKind.wrap .i64 ((UInt8.toNat (s[Int.toNat (IntKind.wrap .i64 (atV + n7))]'h9) : Nat) : Int))))
 (K 0 0 201 w8)
 (M10 w8))
 (M10 w8)))
 (IfB (decide ((n7 : Int) = 4))
 (IfB (decide ((128 : Int) ≤ (IntKind.wrap .i64 ((UInt8.toNat (s[Int.toNat (IntKind.wrap .i64 (atV + n7))]'h9) : Nat) : Int))))
 (K 0 0 201 w8)
 (M10 w8))
 (M10 w8)))) ∧
 ∀ (_ : Env) (w11 : World), M10 w11 →
 IfB (decide (((IntKind.wrap .i64 ((UInt8.toNat (s[Int.toNat (IntKind.wrap .i64 (atV + n7))]'h9) : Nat) : Int)) : Int) < 128))
 ((2 : Int) ≠ 0 ∧
 ∃ M12 : Int → World → Prop,
 ((2 : Int) ≠ 0 ∧
 IfB (decide (((Int.tmod (IntKind.wrap .i64 (n5 + (IntKind.wrap .i64 ((Int.tmod (IntKind.wrap .i64 ((UInt8.toNat (s[Int.toNat (IntKind.wrap .i64 (atV + n7))]'h9) : Nat) : Int)) 128) * n6)))) 2) : Int) = 1))
 (M12 (IntKind.wrap .i64 ((IntKind.wrap .i64 (-(IntKind.wrap .i64 (Int.tdiv (IntKind.wrap .i64 (n5 + (IntKind.wrap .i64 ((Int.tmod (IntKind.wrap .i64 ((UInt8.toNat (s[Int.toNat (IntKind.wrap .i64 (atV + n7))]'h9) : Nat) : Int)) 128) * n6)))) 2)))) - 1)) w11)
 (M12 (IntKind.wrap .i64 (Int.tdiv (IntKind.wrap .i64 (n5 + (IntKind.wrap .i64 ((Int.tmod (IntKind.wrap .i64 ((UInt8.toNat (s[Int.toNat (IntKind.wrap .i64 (atV + n7))]'h9) : Nat) : Int)) 128) * n6)))) 2)) w11)) ∧
 ∀ (_ : Env) (n13 : Int) (w14 : World), M12 n13 w14 →
 K n13 (IntKind.wrap .i64 ((IntKind.wrap .i64 (atV + n7)) + 1)) 0 w14)
 ((I3 (IntKind.wrap .i64 (n5 + (IntKind.wrap .i64 ((Int.tmod (IntKind.wrap .i64 ((UInt8.toNat (s[Int.toNat (IntKind.wrap .i64 (atV + n7))]'h9) : Nat) : Int)) 128) * n6)))) (IntKind.wrap .i64 (n6 * 128)) (IntKind.wrap .i64 (n7 + 1)) w11 ∧
 m4 (IntKind.wrap .i64 (n5 + (IntKind.wrap .i64 ((Int.tmod (IntKind.wrap .i64 ((UInt8.toNat (s[Int.toNat (IntKind.wrap .i64 (atV + n7))]'h9) : Nat) : Int)) 128) * n6)))) (IntKind.wrap .i64 (n6 * 128)) (IntKind.wrap .i64 (n7 + 1)) w11 < m4 n5 n6 n7 w8))))
theorem r_f75 (s : ByteArray) (atV : Int) (w : World) (K : Int → Int → Int → World → Prop) (h : V_f75 s atV w K) : C75 s atV w K :=
  @calls_of_eq Try.prog 75 Try.f75 [.string s, .int .i64 atV] w [.leaf (.int .i64), .leaf (.int .i64), .leaf (.int .i64)] K _ (cfg false (fun _ => [])) (fun n => bif Nat.beq n 0 then some ⟨[7, 8, 9], [.int .i64, .int .i64, .int .i64]⟩ else none) (fun n => bif Nat.beq n 3 then some ⟨[], []⟩ else bif Nat.beq n 15 then some ⟨[], []⟩ else bif Nat.beq n 19 then some ⟨[11], [.int .i64]⟩ else none) (fun _ => none) Try.func75 (by kernel_rfl) (by kernel_rfl) h

/-- (*gneiss/gneissref14.reader).num -/
def V_f51 (r : Nat) (w : World) (K : Int → World → Prop) : Prop :=
 ∃ (n1 : Int), World.cell? w ⟨r, 2, none⟩ = some (.int .i64 n1) ∧
 IfB (!decide ((n1 : Int) = 0))
 (K 0 w)
 (∃ M2 : Int → Int → Int → World → Prop,
 (∀ w7 : World, Drew w w7 →
 ∃ (s8 : ByteArray), World.cell? w7 ⟨r, 0, none⟩ = some (.string s8) ∧
 ∃ (n9 : Int), World.cell? w7 ⟨r, 1, none⟩ = some (.int .i64 n9) ∧
 C75 s8 n9 w7 fun n10 n11 n12 w13 =>
 M2 n10 n11 n12 w13) ∧
 ∀ (_ : Env) (n3 : Int) (n4 : Int) (n5 : Int) (w6 : World), M2 n3 n4 n5 w6 →
 IfB (decide ((n5 : Int) = 200))
 (∃ (n14 : Int), World.cell? w6 ⟨r, 1, none⟩ = some (.int .i64 n14) ∧
 C54 (some ⟨r, 0, none⟩) 1401 n14 w6 fun w15 =>
 K 0 w15)
 (IfB (!decide ((n5 : Int) = 0))
 (∃ (n16 : Int), World.cell? w6 ⟨r, 1, none⟩ = some (.int .i64 n16) ∧
 C54 (some ⟨r, 0, none⟩) 1402 n16 w6 fun w17 =>
 K 0 w17)
 (May w6 ⟨r, 1, none⟩ ∧ ∀ w18 : World, SetC w6 w18 ⟨r, 1, none⟩ (.int .i64 n4) →
 K n3 w18)))
theorem r_f51 (r : Nat) (w : World) (K : Int → World → Prop) (h : V_f51 r w K) : C51 (some ⟨r, 0, none⟩) w K :=
  @calls_of_eq Try.prog 51 Try.f51 [.pointer (some ⟨r, 0, none⟩)] w [.leaf (.int .i64)] K _ (cfg true (fun _ => [])) (fun _ => none) (fun n => bif Nat.beq n 4 then some ⟨[3, 4, 5], [.int .i64, .int .i64, .int .i64]⟩ else none) (fun _ => none) Try.func51 (by kernel_rfl) (by kernel_rfl) h

/-- (*gneiss/gneissref14.reader).ranged -/
def V_f52 (r : Nat) (most : Int) (code : Int) (w : World) (K : Int → World → Prop) : Prop :=
 ∃ (n1 : Int), World.cell? w ⟨r, 1, none⟩ = some (.int .i64 n1) ∧
 C51 (some ⟨r, 0, none⟩) w fun n2 w3 =>
 ∃ M4 : World → Prop,
 (∃ (n6 : Int), World.cell? w3 ⟨r, 2, none⟩ = some (.int .i64 n6) ∧
 IfB (decide ((n6 : Int) = 0))
 (IfB (decide ((n2 : Int) < 0))
 (C54 (some ⟨r, 0, none⟩) 1402 n1 w3 fun w7 =>
 M4 w7)
 (M4 w3))
 (M4 w3)) ∧
 ∀ (_ : Env) (w5 : World), M4 w5 →
 ∃ M8 : World → Prop,
 (∃ (n10 : Int), World.cell? w5 ⟨r, 2, none⟩ = some (.int .i64 n10) ∧
 IfB (decide ((n10 : Int) = 0))
 (IfB (decide ((most : Int) < n2))
 (C54 (some ⟨r, 0, none⟩) code n1 w5 fun w11 =>
 M8 w11)
 (M8 w5))
 (M8 w5)) ∧
 ∀ (_ : Env) (w9 : World), M8 w9 →
 ∃ (n12 : Int), World.cell? w9 ⟨r, 2, none⟩ = some (.int .i64 n12) ∧
 IfB (!decide ((n12 : Int) = 0))
 (K 0 w9)
 (K n2 w9)
theorem r_f52 (r : Nat) (most : Int) (code : Int) (w : World) (K : Int → World → Prop) (h : V_f52 r most code w K) : C52 (some ⟨r, 0, none⟩) most code w K :=
  @calls_of_eq Try.prog 52 Try.f52 [.pointer (some ⟨r, 0, none⟩), .int .i64 most, .int .i64 code] w [.leaf (.int .i64)] K _ (cfg true (fun _ => [])) (fun _ => none) (fun n => bif Nat.beq n 5 then some ⟨[], []⟩ else bif Nat.beq n 7 then some ⟨[], []⟩ else none) (fun _ => none) Try.func52 (by kernel_rfl) (by kernel_rfl) h

/-- gneiss/gneissref1.Number -/
def V_f87 (x : Int) (w : World) (K : Bool → World → Prop) : Prop :=
 IfB (decide (((-2147483648) : Int) ≤ x))
 (K (decide ((x : Int) ≤ 2147483647)) w)
 (K false w)
theorem r_f87 (x : Int) (w : World) (K : Bool → World → Prop) (h : V_f87 x w K) : C87 x w K :=
  @calls_of_eq Try.prog 87 Try.f87 [.int .i64 x] w [.leaf .bool] K _ (cfg true (fun _ => [])) (fun _ => none) (fun _ => none) (fun _ => none) Try.func87 (by kernel_rfl) (by kernel_rfl) h

/-- gneiss/gneissref14.Name -/
def V_f102 (s : ByteArray) (w : World) (K : Bool → World → Prop) : Prop :=
 ∃ M1 : World → Prop,
 (IfB (ByteArray.toList s == ByteArray.toList (ByteArray.mk #[]))
 (K false w)
 (IfB (decide ((16 : Int) < (ByteArray.size s : Int)))
 (K false w)
 (M1 w))) ∧
 ∀ (_ : Env) (w2 : World), M1 w2 →
 ∃ (I3 : Int → World → Prop) (m4 : Int → World → Nat),
 I3 0 w2 ∧
 ∀ (_ : Env) (n5 : Int) (w6 : World), I3 n5 w6 →
 IfB (decide ((n5 : Int) < (ByteArray.size s : Int)))
 (∃ h7 : Int.toNat n5 < ByteArray.size s, 0 ≤ n5 ∧
 ∃ M8 : Bool → World → Prop,
 (IfB (decide ((((UInt8.toNat (s[Int.toNat n5]'h7) : Nat) : Int) : Int) = 95))
 (M8 true w6)
 (IfB (decide ((97 : Int) ≤ ((UInt8.toNat (s[Int.toNat n5]'h7) : Nat) : Int)))
 (IfB (decide ((((UInt8.toNat (s[Int.toNat n5]'h7) : Nat) : Int) : Int) ≤ 122))
 (M8 true w6)
 (IfB (decide ((65 : Int) ≤ ((UInt8.toNat (s[Int.toNat n5]'h7) : Nat) : Int)))
 (M8 (decide ((((UInt8.toNat (s[Int.toNat n5]'h7) : Nat) : Int) : Int) ≤ 90)) w6)
 (M8 false w6)))
 (IfB (decide ((65 : Int) ≤ ((UInt8.toNat (s[Int.toNat n5]'h7) : Nat) : Int)))
 (M8 (decide ((((UInt8.toNat (s[Int.toNat n5]'h7) : Nat) : Int) : Int) ≤ 90)) w6)
 (M8 false w6)))) ∧
 ∀ (_ : Env) (b9 : Bool) (w10 : World), M8 b9 w10 →
 IfB (!b9)
 (IfB (decide ((n5 : Int) = 0))
 (K false w10)
 (IfB (decide ((((UInt8.toNat (s[Int.toNat n5]'h7) : Nat) : Int) : Int) < 48))
 (K false w10)
 (IfB (decide ((57 : Int) < ((UInt8.toNat (s[Int.toNat n5]'h7) : Nat) : Int)))
 (K false w10)
 (Fit .i64 (n5 + 1) ∧
 (I3 (n5 + 1) w10 ∧
 m4 (n5 + 1) w10 < m4 n5 w6)))))
 (Fit .i64 (n5 + 1) ∧
 (I3 (n5 + 1) w10 ∧
 m4 (n5 + 1) w10 < m4 n5 w6)))
 (K true w6)
theorem r_f102 (s : ByteArray) (w : World) (K : Bool → World → Prop) (h : V_f102 s w K) : C102 s w K :=
  @calls_of_eq Try.prog 102 Try.f102 [.string s] w [.leaf .bool] K _ (cfg true (fun _ => [])) (fun n => bif Nat.beq n 0 then some ⟨[3], [.int .i64]⟩ else none) (fun n => bif Nat.beq n 3 then some ⟨[], []⟩ else bif Nat.beq n 8 then some ⟨[5], [.bool]⟩ else none) (fun _ => none) Try.func102 (by kernel_rfl) (by kernel_rfl) h

/-- gneiss/gneissref1.GetText -/
def V_f101 (s : ByteArray) (atV : Int) (most : Int) (w : World) (K : ByteArray → Int → Int → World → Prop) : Prop :=
 C75 s atV w fun n1 n2 n3 w4 =>
 ∃ M5 : World → Prop,
 (IfB (!decide ((n3 : Int) = 0))
 (K (ByteArray.mk #[]) 0 n3 w4)
 (IfB (decide ((n1 : Int) < 0))
 (K (ByteArray.mk #[]) 0 202 w4)
 (IfB (decide ((most : Int) < n1))
 (K (ByteArray.mk #[]) 0 202 w4)
 (Fit .i64 ((ByteArray.size s : Int) - n2) ∧
 IfB (decide ((((ByteArray.size s : Int) - n2) : Int) < n1))
 (K (ByteArray.mk #[]) 0 200 w4)
 (M5 w4))))) ∧
 ∀ (_ : Env) (w6 : World), M5 w6 →
 Fit .i64 (n2 + n1) ∧
 ((0 : Int) ≤ n2 ∧ (n2 : Int) ≤ (n2 + n1) ∧ ((n2 + n1) : Int) ≤ (ByteArray.size s : Int)) ∧
 Fit .i64 (n2 + n1) ∧
 K (ByteArray.extract s (Int.toNat n2) (Int.toNat (n2 + n1))) (n2 + n1) 0 w6
theorem r_f101 (s : ByteArray) (atV : Int) (most : Int) (w : World) (K : ByteArray → Int → Int → World → Prop) (h : V_f101 s atV most w K) : C101 s atV most w K :=
  @calls_of_eq Try.prog 101 Try.f101 [.string s, .int .i64 atV, .int .i64 most] w [.leaf .str, .leaf (.int .i64), .leaf (.int .i64)] K _ (cfg true (fun _ => [])) (fun _ => none) (fun n => bif Nat.beq n 8 then some ⟨[], []⟩ else none) (fun _ => none) Try.func101 (by kernel_rfl) (by kernel_rfl) h

/-- (*gneiss/gneissref14.reader).name -/
def V_f76 (r : Nat) (w : World) (K : ByteArray → World → Prop) : Prop :=
 ∃ (n1 : Int), World.cell? w ⟨r, 2, none⟩ = some (.int .i64 n1) ∧
 IfB (!decide ((n1 : Int) = 0))
 (K (ByteArray.mk #[]) w)
 (∃ M2 : ByteArray → Int → Int → World → Prop,
 (∀ w7 : World, Drew w w7 →
 ∃ (s8 : ByteArray), World.cell? w7 ⟨r, 0, none⟩ = some (.string s8) ∧
 ∃ (n9 : Int), World.cell? w7 ⟨r, 1, none⟩ = some (.int .i64 n9) ∧
 C101 s8 n9 16 w7 fun s10 n11 n12 w13 =>
 M2 s10 n11 n12 w13) ∧
 ∀ (_ : Env) (s3 : ByteArray) (n4 : Int) (n5 : Int) (w6 : World), M2 s3 n4 n5 w6 →
 ∃ M14 : World → Prop,
 (IfB (decide ((n5 : Int) = 200))
 (∃ (n16 : Int), World.cell? w6 ⟨r, 1, none⟩ = some (.int .i64 n16) ∧
 C54 (some ⟨r, 0, none⟩) 1401 n16 w6 fun w17 =>
 M14 w17)
 (IfB (decide ((n5 : Int) = 201))
 (∃ (n18 : Int), World.cell? w6 ⟨r, 1, none⟩ = some (.int .i64 n18) ∧
 C54 (some ⟨r, 0, none⟩) 1402 n18 w6 fun w19 =>
 M14 w19)
 (IfB (!decide ((n5 : Int) = 0))
 (∃ (n20 : Int), World.cell? w6 ⟨r, 1, none⟩ = some (.int .i64 n20) ∧
 C54 (some ⟨r, 0, none⟩) 1403 n20 w6 fun w21 =>
 M14 w21)
 (C102 s3 w6 fun b22 w23 =>
 IfB (!b22)
 (∃ (n24 : Int), World.cell? w23 ⟨r, 1, none⟩ = some (.int .i64 n24) ∧
 C54 (some ⟨r, 0, none⟩) 1403 n24 w23 fun w25 =>
 M14 w25)
 (M14 w23))))) ∧
 ∀ (_ : Env) (w15 : World), M14 w15 →
 ∃ (n26 : Int), World.cell? w15 ⟨r, 2, none⟩ = some (.int .i64 n26) ∧
 IfB (!decide ((n26 : Int) = 0))
 (K (ByteArray.mk #[]) w15)
 (May w15 ⟨r, 1, none⟩ ∧ ∀ w27 : World, SetC w15 w27 ⟨r, 1, none⟩ (.int .i64 n4) →
 K s3 w27))
theorem r_f76 (r : Nat) (w : World) (K : ByteArray → World → Prop) (h : V_f76 r w K) : C76 (some ⟨r, 0, none⟩) w K :=
  @calls_of_eq Try.prog 76 Try.f76 [.pointer (some ⟨r, 0, none⟩)] w [.leaf .str] K _ (cfg true (fun _ => [])) (fun _ => none) (fun n => bif Nat.beq n 4 then some ⟨[3, 4, 5], [.str, .int .i64, .int .i64]⟩ else bif Nat.beq n 10 then some ⟨[], []⟩ else none) (fun _ => none) Try.func76 (by kernel_rfl) (by kernel_rfl) h

/-- (*gneiss/gneissref14.reader).list -/
def V_f77 (r : Nat) (most : Int) (w : World) (K : Option Addr → Nat → Nat → World → Prop) : Prop :=
 C52 (some ⟨r, 0, none⟩) most 1404 w fun n1 w2 =>
 ∃ (I3 : Option Addr → Nat → Nat → Int → World → Prop) (m4 : Option Addr → Nat → Nat → Int → World → Nat),
 I3 none 0 0 0 w2 ∧
 ∀ (_ : Env) (a5 : Option Addr) (l5 c5 : Nat) (n6 : Int) (w7 : World), I3 a5 l5 c5 n6 w7 →
 IfB (decide ((n6 : Int) < n1))
 (∃ (n8 : Int), World.cell? w7 ⟨r, 2, none⟩ = some (.int .i64 n8) ∧
 IfB (decide ((n8 : Int) = 0))
 (C51 (some ⟨r, 0, none⟩) w7 fun n9 w10 =>
 ∀ (b11 : Nat) (w12 : World), NewAt w10 w12 b11 #[.int .i64 n9] 3 →
 RunF Try.prog (Builtin.append_ #[38, 38] 38 #[.slice a5 l5 c5, .slice (some ⟨b11, 0, none⟩) 1 1]) w12 [.leaf .slice] fun (a13 : Option Addr) (l13 c13 : Nat) (w14 : World) =>
 Fit .i64 (n6 + 1) ∧
 (I3 a13 l13 c13 (n6 + 1) w14 ∧
 m4 a13 l13 c13 (n6 + 1) w14 < m4 a5 l5 c5 n6 w7))
 (K a5 l5 c5 w7))
 (K a5 l5 c5 w7)
theorem r_f77 (r : Nat) (most : Int) (w : World) (K : Option Addr → Nat → Nat → World → Prop) (h : V_f77 r most w K) : C77 (some ⟨r, 0, none⟩) most w K :=
  @calls_of_eq Try.prog 77 Try.f77 [.pointer (some ⟨r, 0, none⟩), .int .i64 most] w [.leaf .slice] K _ (cfg true (fun _ => [])) (fun n => bif Nat.beq n 0 then some ⟨[5, 7], [.slice, .int .i64]⟩ else none) (fun _ => none) (fun _ => none) Try.func77 (by kernel_rfl) (by kernel_rfl) h

/-- (*gneiss/gneissref14.reader).fields -/
def V_f78 (r : Nat) (w : World) (K : Option Addr → Nat → Nat → World → Prop) : Prop :=
 C52 (some ⟨r, 0, none⟩) 24 1404 w fun n1 w2 =>
 ∃ (I3 : Option Addr → Nat → Nat → Int → World → Prop) (m4 : Option Addr → Nat → Nat → Int → World → Nat),
 I3 none 0 0 0 w2 ∧
 ∀ (_ : Env) (a5 : Option Addr) (l5 c5 : Nat) (n6 : Int) (w7 : World), I3 a5 l5 c5 n6 w7 →
 IfB (decide ((n6 : Int) < n1))
 (∃ (n8 : Int), World.cell? w7 ⟨r, 2, none⟩ = some (.int .i64 n8) ∧
 IfB (decide ((n8 : Int) = 0))
 (C76 (some ⟨r, 0, none⟩) w7 fun s9 w10 =>
 C51 (some ⟨r, 0, none⟩) w10 fun n11 w12 =>
 ∀ (b13 : Nat) (w14 : World), NewAt w12 w14 b13 #[.string s9, .int .i64 n11] 77 →
 RunF Try.prog (Builtin.append_ #[72, 72] 72 #[.slice a5 l5 c5, .slice (some ⟨b13, 0, none⟩) 1 1]) w14 [.leaf .slice] fun (a15 : Option Addr) (l15 c15 : Nat) (w16 : World) =>
 Fit .i64 (n6 + 1) ∧
 (I3 a15 l15 c15 (n6 + 1) w16 ∧
 m4 a15 l15 c15 (n6 + 1) w16 < m4 a5 l5 c5 n6 w7))
 (K a5 l5 c5 w7))
 (K a5 l5 c5 w7)
theorem r_f78 (r : Nat) (w : World) (K : Option Addr → Nat → Nat → World → Prop) (h : V_f78 r w K) : C78 (some ⟨r, 0, none⟩) w K :=
  @calls_of_eq Try.prog 78 Try.f78 [.pointer (some ⟨r, 0, none⟩)] w [.leaf .slice] K _ (cfg true (fun _ => [])) (fun n => bif Nat.beq n 0 then some ⟨[3, 5], [.slice, .int .i64]⟩ else none) (fun _ => none) (fun _ => none) Try.func78 (by kernel_rfl) (by kernel_rfl) h

/-- (*gneiss/gneissref14.reader).code_ -/
def V_f103 (r : Nat) (w : World) (K : Option Addr → Nat → Nat → World → Prop) : Prop :=
 C52 (some ⟨r, 0, none⟩) 300 1404 w fun n1 w2 =>
 ∃ (I3 : Option Addr → Nat → Nat → Int → World → Prop) (m4 : Option Addr → Nat → Nat → Int → World → Nat),
 I3 none 0 0 0 w2 ∧
 ∀ (_ : Env) (a5 : Option Addr) (l5 c5 : Nat) (n6 : Int) (w7 : World), I3 a5 l5 c5 n6 w7 →
 IfB (decide ((n6 : Int) < n1))
 (∃ (n8 : Int), World.cell? w7 ⟨r, 2, none⟩ = some (.int .i64 n8) ∧
 IfB (decide ((n8 : Int) = 0))
 (C51 (some ⟨r, 0, none⟩) w7 fun n9 w10 =>
 C51 (some ⟨r, 0, none⟩) w10 fun n11 w12 =>
 C51 (some ⟨r, 0, none⟩) w12 fun n13 w14 =>
 ∀ (b15 : Nat) (w16 : World), NewAt w14 w16 b15 #[.int .i64 n9, .int .i64 n11, .int .i64 n13] 87 →
 RunF Try.prog (Builtin.append_ #[78, 78] 78 #[.slice a5 l5 c5, .slice (some ⟨b15, 0, none⟩) 1 1]) w16 [.leaf .slice] fun (a17 : Option Addr) (l17 c17 : Nat) (w18 : World) =>
 Fit .i64 (n6 + 1) ∧
 (I3 a17 l17 c17 (n6 + 1) w18 ∧
 m4 a17 l17 c17 (n6 + 1) w18 < m4 a5 l5 c5 n6 w7))
 (K a5 l5 c5 w7))
 (K a5 l5 c5 w7)
theorem r_f103 (r : Nat) (w : World) (K : Option Addr → Nat → Nat → World → Prop) (h : V_f103 r w K) : C103 (some ⟨r, 0, none⟩) w K :=
  @calls_of_eq Try.prog 103 Try.f103 [.pointer (some ⟨r, 0, none⟩)] w [.leaf .slice] K _ (cfg true (fun _ => [])) (fun n => bif Nat.beq n 0 then some ⟨[3, 5], [.slice, .int .i64]⟩ else none) (fun _ => none) (fun _ => none) Try.func103 (by kernel_rfl) (by kernel_rfl) h

/-- (*gneiss/gneissref14.reader).method -/
def V_f79 (r : Nat) (w : World) (K : ByteArray → Bool → Option Addr → Nat → Nat → Int → Int → Int → Option Addr → Nat → Nat → Option Addr → Nat → Nat → Option Addr → Nat → Nat → World → Prop) : Prop :=
 ∀ (b1 : Nat) (w2 : World), NewAt w w2 b1 #[.string (ByteArray.mk #[]), .bool false, .slice none 0 0, .int .i64 0, .int .i64 0, .int .i64 0, .slice none 0 0, .slice none 0 0, .slice none 0 0] 82 →
 ∀ (b3 : Nat) (w4 : World), NewAt w2 w4 b3 #[.string (ByteArray.mk #[]), .bool false, .slice none 0 0, .int .i64 0, .int .i64 0, .int .i64 0, .slice none 0 0, .slice none 0 0, .slice none 0 0] 82 →
 C76 (some ⟨r, 0, none⟩) w4 fun s5 w6 =>
 C52 (some ⟨r, 0, none⟩) 1 1402 w6 fun n7 w8 =>
 May w8 ⟨b3, 0, none⟩ ∧ ∀ w9 : World, SetC w8 w9 ⟨b3, 0, none⟩ (.string s5) →
 May w9 ⟨b3, 1, none⟩ ∧ ∀ w10 : World, SetC w9 w10 ⟨b3, 1, none⟩ (.bool (decide ((n7 : Int) = 1))) →
 C77 (some ⟨r, 0, none⟩) 8 w10 fun a11 l11 c11 w12 =>
 May w12 ⟨b3, 2, none⟩ ∧ ∀ w13 : World, SetC w12 w13 ⟨b3, 2, none⟩ (.slice a11 l11 c11) →
 C51 (some ⟨r, 0, none⟩) w13 fun n14 w15 =>
 May w15 ⟨b3, 3, none⟩ ∧ ∀ w16 : World, SetC w15 w16 ⟨b3, 3, none⟩ (.int .i64 n14) →
 C52 (some ⟨r, 0, none⟩) 24 1402 w16 fun n17 w18 =>
 May w18 ⟨b3, 4, none⟩ ∧ ∀ w19 : World, SetC w18 w19 ⟨b3, 4, none⟩ (.int .i64 n17) →
 C52 (some ⟨r, 0, none⟩) 24 1402 w19 fun n20 w21 =>
 May w21 ⟨b3, 5, none⟩ ∧ ∀ w22 : World, SetC w21 w22 ⟨b3, 5, none⟩ (.int .i64 n20) →
 C103 (some ⟨r, 0, none⟩) w22 fun a23 l23 c23 w24 =>
 May w24 ⟨b3, 6, none⟩ ∧ ∀ w25 : World, SetC w24 w25 ⟨b3, 6, none⟩ (.slice a23 l23 c23) →
 C52 (some ⟨r, 0, none⟩) 16 1404 w25 fun n26 w27 =>
 ∃ M28 : World → Prop,
 (∃ (I30 : Int → World → Prop) (m31 : Int → World → Nat),
 I30 0 w27 ∧
 ∀ (_ : Env) (n32 : Int) (w33 : World), I30 n32 w33 →
 IfB (decide ((n32 : Int) < n26))
 (∃ (n34 : Int), World.cell? w33 ⟨r, 2, none⟩ = some (.int .i64 n34) ∧
 IfB (decide ((n34 : Int) = 0))
 (C51 (some ⟨r, 0, none⟩) w33 fun n35 w36 =>
 C51 (some ⟨r, 0, none⟩) w36 fun n37 w38 =>
 C51 (some ⟨r, 0, none⟩) w38 fun n39 w40 =>
 C51 (some ⟨r, 0, none⟩) w40 fun n41 w42 =>
 ∃ (a43 : Option Addr) (l43 c43 : Nat), World.cell? w42 ⟨b3, 7, none⟩ = some (.slice a43 l43 c43) ∧
 ∀ (b44 : Nat) (w45 : World), NewAt w42 w45 b44 #[.int .i64 n35, .int .i64 n37, .int .i64 n39, .int .i64 n41] 91 →
 RunF Try.prog (Builtin.append_ #[79, 79] 79 #[.slice a43 l43 c43, .slice (some ⟨b44, 0, none⟩) 1 1]) w45 [.leaf .slice] fun (a46 : Option Addr) (l46 c46 : Nat) (w47 : World) =>
 May w47 ⟨b3, 7, none⟩ ∧ ∀ w48 : World, SetC w47 w48 ⟨b3, 7, none⟩ (.slice a46 l46 c46) →
 Fit .i64 (n32 + 1) ∧
 (I30 (n32 + 1) w48 ∧
 m31 (n32 + 1) w48 < m31 n32 w33))
 (M28 w33))
 (M28 w33)) ∧
 ∀ (_ : Env) (w29 : World), M28 w29 →
 C52 (some ⟨r, 0, none⟩) 64 1404 w29 fun n49 w50 =>
 ∃ (I51 : Int → World → Prop) (m52 : Int → World → Nat),
 I51 0 w50 ∧
 ∀ (_ : Env) (n53 : Int) (w54 : World), I51 n53 w54 →
 IfB (decide ((n53 : Int) < n49))
 (∃ (n55 : Int), World.cell? w54 ⟨r, 2, none⟩ = some (.int .i64 n55) ∧
 IfB (decide ((n55 : Int) = 0))
 (C51 (some ⟨r, 0, none⟩) w54 fun n56 w57 =>
 C77 (some ⟨r, 0, none⟩) 24 w57 fun a58 l58 c58 w59 =>
 C77 (some ⟨r, 0, none⟩) 24 w59 fun a60 l60 c60 w61 =>
 ∃ (a62 : Option Addr) (l62 c62 : Nat), World.cell? w61 ⟨b3, 8, none⟩ = some (.slice a62 l62 c62) ∧
 ∀ (b63 : Nat) (w64 : World), NewAt w61 w64 b63 #[.int .i64 n56, .slice a58 l58 c58, .slice a60 l60 c60] 89 →
 RunF Try.prog (Builtin.append_ #[80, 80] 80 #[.slice a62 l62 c62, .slice (some ⟨b63, 0, none⟩) 1 1]) w64 [.leaf .slice] fun (a65 : Option Addr) (l65 c65 : Nat) (w66 : World) =>
 May w66 ⟨b3, 8, none⟩ ∧ ∀ w67 : World, SetC w66 w67 ⟨b3, 8, none⟩ (.slice a65 l65 c65) →
 Fit .i64 (n53 + 1) ∧
 (I51 (n53 + 1) w67 ∧
 m52 (n53 + 1) w67 < m52 n53 w54))
 (∃ (s68 : ByteArray), ∃ (b69 : Bool), ∃ (a70 : Option Addr) (l70 c70 : Nat), ∃ (n71 : Int), ∃ (n72 : Int), ∃ (n73 : Int), ∃ (a74 : Option Addr) (l74 c74 : Nat), ∃ (a75 : Option Addr) (l75 c75 : Nat), ∃ (a76 : Option Addr) (l76 c76 : Nat), CellsAt w54 ⟨b3, 0, none⟩ [.string s68, .bool b69, .slice a70 l70 c70, .int .i64 n71, .int .i64 n72, .int .i64 n73, .slice a74 l74 c74, .slice a75 l75 c75, .slice a76 l76 c76] ∧
 MayL w54 ⟨b1, 0, none⟩ 9 ∧ ∀ w77 : World, SetL w54 w77 ⟨b1, 0, none⟩ [.string s68, .bool b69, .slice a70 l70 c70, .int .i64 n71, .int .i64 n72, .int .i64 n73, .slice a74 l74 c74, .slice a75 l75 c75, .slice a76 l76 c76] →
 ∃ (s78 : ByteArray), ∃ (b79 : Bool), ∃ (a80 : Option Addr) (l80 c80 : Nat), ∃ (n81 : Int), ∃ (n82 : Int), ∃ (n83 : Int), ∃ (a84 : Option Addr) (l84 c84 : Nat), ∃ (a85 : Option Addr) (l85 c85 : Nat), ∃ (a86 : Option Addr) (l86 c86 : Nat), CellsAt w77 ⟨b1, 0, none⟩ [.string s78, .bool b79, .slice a80 l80 c80, .int .i64 n81, .int .i64 n82, .int .i64 n83, .slice a84 l84 c84, .slice a85 l85 c85, .slice a86 l86 c86] ∧
 K s78 b79 a80 l80 c80 n81 n82 n83 a84 l84 c84 a85 l85 c85 a86 l86 c86 w77))
 (∃ (s87 : ByteArray), ∃ (b88 : Bool), ∃ (a89 : Option Addr) (l89 c89 : Nat), ∃ (n90 : Int), ∃ (n91 : Int), ∃ (n92 : Int), ∃ (a93 : Option Addr) (l93 c93 : Nat), ∃ (a94 : Option Addr) (l94 c94 : Nat), ∃ (a95 : Option Addr) (l95 c95 : Nat), CellsAt w54 ⟨b3, 0, none⟩ [.string s87, .bool b88, .slice a89 l89 c89, .int .i64 n90, .int .i64 n91, .int .i64 n92, .slice a93 l93 c93, .slice a94 l94 c94, .slice a95 l95 c95] ∧
 MayL w54 ⟨b1, 0, none⟩ 9 ∧ ∀ w96 : World, SetL w54 w96 ⟨b1, 0, none⟩ [.string s87, .bool b88, .slice a89 l89 c89, .int .i64 n90, .int .i64 n91, .int .i64 n92, .slice a93 l93 c93, .slice a94 l94 c94, .slice a95 l95 c95] →
 ∃ (s97 : ByteArray), ∃ (b98 : Bool), ∃ (a99 : Option Addr) (l99 c99 : Nat), ∃ (n100 : Int), ∃ (n101 : Int), ∃ (n102 : Int), ∃ (a103 : Option Addr) (l103 c103 : Nat), ∃ (a104 : Option Addr) (l104 c104 : Nat), ∃ (a105 : Option Addr) (l105 c105 : Nat), CellsAt w96 ⟨b1, 0, none⟩ [.string s97, .bool b98, .slice a99 l99 c99, .int .i64 n100, .int .i64 n101, .int .i64 n102, .slice a103 l103 c103, .slice a104 l104 c104, .slice a105 l105 c105] ∧
 K s97 b98 a99 l99 c99 n100 n101 n102 a103 l103 c103 a104 l104 c104 a105 l105 c105 w96)
theorem r_f79 (r : Nat) (w : World) (K : ByteArray → Bool → Option Addr → Nat → Nat → Int → Int → Int → Option Addr → Nat → Nat → Option Addr → Nat → Nat → Option Addr → Nat → Nat → World → Prop) (h : V_f79 r w K) : C79 (some ⟨r, 0, none⟩) w K :=
  @calls_of_eq Try.prog 79 Try.f79 [.pointer (some ⟨r, 0, none⟩)] w [.agg [.str, .bool, .slice, .int .i64, .int .i64, .int .i64, .slice, .slice, .slice]] K _ (cfg true (fun _ => [])) (fun n => bif Nat.beq n 0 then some ⟨[12], [.int .i64]⟩ else bif Nat.beq n 2 then some ⟨[17], [.int .i64]⟩ else none) (fun n => bif Nat.beq n 25 then some ⟨[], []⟩ else none) (fun _ => none) Try.func79 (by kernel_rfl) (by kernel_rfl) h

/-- (*gneiss/gneissref14.reader).class -/
def V_f53 (r : Nat) (w : World) (K : ByteArray → Bool → Bool → Int → Option Addr → Nat → Nat → Option Addr → Nat → Nat → Option Addr → Nat → Nat → Option Addr → Nat → Nat → World → Prop) : Prop :=
 ∀ (b1 : Nat) (w2 : World), NewAt w w2 b1 #[.string (ByteArray.mk #[]), .bool false, .bool false, .int .i64 0, .slice none 0 0, .slice none 0 0, .slice none 0 0, .slice none 0 0] 75 →
 ∀ (b3 : Nat) (w4 : World), NewAt w2 w4 b3 #[.string (ByteArray.mk #[]), .bool false, .bool false, .int .i64 0, .slice none 0 0, .slice none 0 0, .slice none 0 0, .slice none 0 0] 75 →
 C76 (some ⟨r, 0, none⟩) w4 fun s5 w6 =>
 C52 (some ⟨r, 0, none⟩) 3 1402 w6 fun n7 w8 =>
 May w8 ⟨b3, 0, none⟩ ∧ ∀ w9 : World, SetC w8 w9 ⟨b3, 0, none⟩ (.string s5) →
 (2 : Int) ≠ 0 ∧
 May w9 ⟨b3, 1, none⟩ ∧ ∀ w10 : World, SetC w9 w10 ⟨b3, 1, none⟩ (.bool (decide (((Int.tmod n7 2) : Int) = 1))) →
 May w10 ⟨b3, 2, none⟩ ∧ ∀ w11 : World, SetC w10 w11 ⟨b3, 2, none⟩ (.bool (decide ((2 : Int) ≤ n7))) →
 C51 (some ⟨r, 0, none⟩) w11 fun n12 w13 =>
 May w13 ⟨b3, 3, none⟩ ∧ ∀ w14 : World, SetC w13 w14 ⟨b3, 3, none⟩ (.int .i64 n12) →
 C77 (some ⟨r, 0, none⟩) 8 w14 fun a15 l15 c15 w16 =>
 May w16 ⟨b3, 4, none⟩ ∧ ∀ w17 : World, SetC w16 w17 ⟨b3, 4, none⟩ (.slice a15 l15 c15) →
 C78 (some ⟨r, 0, none⟩) w17 fun a18 l18 c18 w19 =>
 May w19 ⟨b3, 5, none⟩ ∧ ∀ w20 : World, SetC w19 w20 ⟨b3, 5, none⟩ (.slice a18 l18 c18) →
 C78 (some ⟨r, 0, none⟩) w20 fun a21 l21 c21 w22 =>
 May w22 ⟨b3, 6, none⟩ ∧ ∀ w23 : World, SetC w22 w23 ⟨b3, 6, none⟩ (.slice a21 l21 c21) →
 C52 (some ⟨r, 0, none⟩) 24 1404 w23 fun n24 w25 =>
 ∃ (I26 : Int → World → Prop) (m27 : Int → World → Nat),
 I26 0 w25 ∧
 ∀ (_ : Env) (n28 : Int) (w29 : World), I26 n28 w29 →
 IfB (decide ((n28 : Int) < n24))
 (∃ (n30 : Int), World.cell? w29 ⟨r, 2, none⟩ = some (.int .i64 n30) ∧
 IfB (decide ((n30 : Int) = 0))
 (C79 (some ⟨r, 0, none⟩) w29 fun s31 b32 a33 l33 c33 n34 n35 n36 a37 l37 c37 a38 l38 c38 a39 l39 c39 w40 =>
 ∀ (b41 : Nat) (w42 : World), NewAt w40 w42 b41 #[.string (ByteArray.mk #[]), .bool false, .slice none 0 0, .int .i64 0, .int .i64 0, .int .i64 0, .slice none 0 0, .slice none 0 0, .slice none 0 0] 82 →
 MayL w42 ⟨b41, 0, none⟩ 9 ∧ ∀ w43 : World, SetL w42 w43 ⟨b41, 0, none⟩ [.string s31, .bool b32, .slice a33 l33 c33, .int .i64 n34, .int .i64 n35, .int .i64 n36, .slice a37 l37 c37, .slice a38 l38 c38, .slice a39 l39 c39] →
 ∃ (a44 : Option Addr) (l44 c44 : Nat), World.cell? w43 ⟨b3, 7, none⟩ = some (.slice a44 l44 c44) ∧
 ∃ (s45 : ByteArray), ∃ (b46 : Bool), ∃ (a47 : Option Addr) (l47 c47 : Nat), ∃ (n48 : Int), ∃ (n49 : Int), ∃ (n50 : Int), ∃ (a51 : Option Addr) (l51 c51 : Nat), ∃ (a52 : Option Addr) (l52 c52 : Nat), ∃ (a53 : Option Addr) (l53 c53 : Nat), CellsAt w43 ⟨b41, 0, none⟩ [.string s45, .bool b46, .slice a47 l47 c47, .int .i64 n48, .int .i64 n49, .int .i64 n50, .slice a51 l51 c51, .slice a52 l52 c52, .slice a53 l53 c53] ∧
 ∀ (b54 : Nat) (w55 : World), NewAt w43 w55 b54 #[.string s45, .bool b46, .slice a47 l47 c47, .int .i64 n48, .int .i64 n49, .int .i64 n50, .slice a51 l51 c51, .slice a52 l52 c52, .slice a53 l53 c53] 82 →
 RunF Try.prog (Builtin.append_ #[73, 73] 73 #[.slice a44 l44 c44, .slice (some ⟨b54, 0, none⟩) 1 1]) w55 [.leaf .slice] fun (a56 : Option Addr) (l56 c56 : Nat) (w57 : World) =>
 May w57 ⟨b3, 7, none⟩ ∧ ∀ w58 : World, SetC w57 w58 ⟨b3, 7, none⟩ (.slice a56 l56 c56) →
 Fit .i64 (n28 + 1) ∧
 (I26 (n28 + 1) w58 ∧
 m27 (n28 + 1) w58 < m27 n28 w29))
 (∃ (s59 : ByteArray), ∃ (b60 : Bool), ∃ (b61 : Bool), ∃ (n62 : Int), ∃ (a63 : Option Addr) (l63 c63 : Nat), ∃ (a64 : Option Addr) (l64 c64 : Nat), ∃ (a65 : Option Addr) (l65 c65 : Nat), ∃ (a66 : Option Addr) (l66 c66 : Nat), CellsAt w29 ⟨b3, 0, none⟩ [.string s59, .bool b60, .bool b61, .int .i64 n62, .slice a63 l63 c63, .slice a64 l64 c64, .slice a65 l65 c65, .slice a66 l66 c66] ∧
 MayL w29 ⟨b1, 0, none⟩ 8 ∧ ∀ w67 : World, SetL w29 w67 ⟨b1, 0, none⟩ [.string s59, .bool b60, .bool b61, .int .i64 n62, .slice a63 l63 c63, .slice a64 l64 c64, .slice a65 l65 c65, .slice a66 l66 c66] →
 ∃ (s68 : ByteArray), ∃ (b69 : Bool), ∃ (b70 : Bool), ∃ (n71 : Int), ∃ (a72 : Option Addr) (l72 c72 : Nat), ∃ (a73 : Option Addr) (l73 c73 : Nat), ∃ (a74 : Option Addr) (l74 c74 : Nat), ∃ (a75 : Option Addr) (l75 c75 : Nat), CellsAt w67 ⟨b1, 0, none⟩ [.string s68, .bool b69, .bool b70, .int .i64 n71, .slice a72 l72 c72, .slice a73 l73 c73, .slice a74 l74 c74, .slice a75 l75 c75] ∧
 K s68 b69 b70 n71 a72 l72 c72 a73 l73 c73 a74 l74 c74 a75 l75 c75 w67))
 (∃ (s76 : ByteArray), ∃ (b77 : Bool), ∃ (b78 : Bool), ∃ (n79 : Int), ∃ (a80 : Option Addr) (l80 c80 : Nat), ∃ (a81 : Option Addr) (l81 c81 : Nat), ∃ (a82 : Option Addr) (l82 c82 : Nat), ∃ (a83 : Option Addr) (l83 c83 : Nat), CellsAt w29 ⟨b3, 0, none⟩ [.string s76, .bool b77, .bool b78, .int .i64 n79, .slice a80 l80 c80, .slice a81 l81 c81, .slice a82 l82 c82, .slice a83 l83 c83] ∧
 MayL w29 ⟨b1, 0, none⟩ 8 ∧ ∀ w84 : World, SetL w29 w84 ⟨b1, 0, none⟩ [.string s76, .bool b77, .bool b78, .int .i64 n79, .slice a80 l80 c80, .slice a81 l81 c81, .slice a82 l82 c82, .slice a83 l83 c83] →
 ∃ (s85 : ByteArray), ∃ (b86 : Bool), ∃ (b87 : Bool), ∃ (n88 : Int), ∃ (a89 : Option Addr) (l89 c89 : Nat), ∃ (a90 : Option Addr) (l90 c90 : Nat), ∃ (a91 : Option Addr) (l91 c91 : Nat), ∃ (a92 : Option Addr) (l92 c92 : Nat), CellsAt w84 ⟨b1, 0, none⟩ [.string s85, .bool b86, .bool b87, .int .i64 n88, .slice a89 l89 c89, .slice a90 l90 c90, .slice a91 l91 c91, .slice a92 l92 c92] ∧
 K s85 b86 b87 n88 a89 l89 c89 a90 l90 c90 a91 l91 c91 a92 l92 c92 w84)
theorem r_f53 (r : Nat) (w : World) (K : ByteArray → Bool → Bool → Int → Option Addr → Nat → Nat → Option Addr → Nat → Nat → Option Addr → Nat → Nat → Option Addr → Nat → Nat → World → Prop) (h : V_f53 r w K) : C53 (some ⟨r, 0, none⟩) w K :=
  @calls_of_eq Try.prog 53 Try.f53 [.pointer (some ⟨r, 0, none⟩)] w [.agg [.str, .bool, .bool, .int .i64, .slice, .slice, .slice, .slice]] K _ (cfg true (fun _ => [])) (fun n => bif Nat.beq n 0 then some ⟨[11], [.int .i64]⟩ else none) (fun _ => none) (fun _ => none) Try.func53 (by kernel_rfl) (by kernel_rfl) h

/-- gneiss/gneissref14.Decode -/
def V_f30 (s : ByteArray) (w : World) (K : Int → Option Addr → Nat → Nat → Int → Int → World → Prop) : Prop :=
 ∀ (b1 : Nat) (w2 : World), NewAt w w2 b1 #[.int .i64 0, .slice none 0 0] 54 →
 IfB (decide ((32768 : Int) < (ByteArray.size s : Int)))
 (MayL w2 ⟨b1, 0, none⟩ 2 ∧ ∀ w3 : World, SetL w2 w3 ⟨b1, 0, none⟩ [.int .i64 0, .slice none 0 0] →
 ∃ (n4 : Int), ∃ (a5 : Option Addr) (l5 c5 : Nat), CellsAt w3 ⟨b1, 0, none⟩ [.int .i64 n4, .slice a5 l5 c5] ∧
 K n4 a5 l5 c5 0 1406 w3)
 (∃ M6 : World → Prop,
 (IfB (decide (((ByteArray.size s : Int) : Int) < 4))
 (MayL w2 ⟨b1, 0, none⟩ 2 ∧ ∀ w8 : World, SetL w2 w8 ⟨b1, 0, none⟩ [.int .i64 0, .slice none 0 0] →
 ∃ (n9 : Int), ∃ (a10 : Option Addr) (l10 c10 : Nat), CellsAt w8 ⟨b1, 0, none⟩ [.int .i64 n9, .slice a10 l10 c10] ∧
 K n9 a10 l10 c10 0 1400 w8)
 (((0 : Int) ≤ 4 ∧ (4 : Int) ≤ (ByteArray.size s : Int)) ∧
 IfB (!(ByteArray.toList (ByteArray.extract s 0 (Int.toNat 4)) == ByteArray.toList (ByteArray.mk #[71, 78, 83, 83])))
 (MayL w2 ⟨b1, 0, none⟩ 2 ∧ ∀ w11 : World, SetL w2 w11 ⟨b1, 0, none⟩ [.int .i64 0, .slice none 0 0] →
 ∃ (n12 : Int), ∃ (a13 : Option Addr) (l13 c13 : Nat), CellsAt w11 ⟨b1, 0, none⟩ [.int .i64 n12, .slice a13 l13 c13] ∧
 K n12 a13 l13 c13 0 1400 w11)
 (M6 w2))) ∧
 ∀ (_ : Env) (w7 : World), M6 w7 →
 ∀ (b14 : Nat) (w15 : World), NewAt w7 w15 b14 #[.string s, .int .i64 4, .int .i64 0, .int .i64 0] 118 →
 ∀ (b16 : Nat) (w17 : World), NewAt w15 w17 b16 #[.int .i64 0, .slice none 0 0] 54 →
 C51 (some ⟨b14, 0, none⟩) w17 fun n18 w19 =>
 May w19 ⟨b16, 0, none⟩ ∧ ∀ w20 : World, SetC w19 w20 ⟨b16, 0, none⟩ (.int .i64 n18) →
 C52 (some ⟨b14, 0, none⟩) 40 1404 w20 fun n21 w22 =>
 ∃ M23 : World → Prop,
 (∃ (I25 : Int → World → Prop) (m26 : Int → World → Nat),
 I25 0 w22 ∧
 ∀ (_ : Env) (n27 : Int) (w28 : World), I25 n27 w28 →
 IfB (decide ((n27 : Int) < n21))
 (∃ (n29 : Int), World.cell? w28 ⟨b14, 2, none⟩ = some (.int .i64 n29) ∧
 IfB (decide ((n29 : Int) = 0))
 (C53 (some ⟨b14, 0, none⟩) w28 fun s30 b31 b32 n33 a34 l34 c34 a35 l35 c35 a36 l36 c36 a37 l37 c37 w38 =>
 ∀ (b39 : Nat) (w40 : World), NewAt w38 w40 b39 #[.string (ByteArray.mk #[]), .bool false, .bool false, .int .i64 0, .slice none 0 0, .slice none 0 0, .slice none 0 0, .slice none 0 0] 75 →
 MayL w40 ⟨b39, 0, none⟩ 8 ∧ ∀ w41 : World, SetL w40 w41 ⟨b39, 0, none⟩ [.string s30, .bool b31, .bool b32, .int .i64 n33, .slice a34 l34 c34, .slice a35 l35 c35, .slice a36 l36 c36, .slice a37 l37 c37] →
 ∃ (a42 : Option Addr) (l42 c42 : Nat), World.cell? w41 ⟨b16, 1, none⟩ = some (.slice a42 l42 c42) ∧
 ∃ (s43 : ByteArray), ∃ (b44 : Bool), ∃ (b45 : Bool), ∃ (n46 : Int), ∃ (a47 : Option Addr) (l47 c47 : Nat), ∃ (a48 : Option Addr) (l48 c48 : Nat), ∃ (a49 : Option Addr) (l49 c49 : Nat), ∃ (a50 : Option Addr) (l50 c50 : Nat), CellsAt w41 ⟨b39, 0, none⟩ [.string s43, .bool b44, .bool b45, .int .i64 n46, .slice a47 l47 c47, .slice a48 l48 c48, .slice a49 l49 c49, .slice a50 l50 c50] ∧
 ∀ (b51 : Nat) (w52 : World), NewAt w41 w52 b51 #[.string s43, .bool b44, .bool b45, .int .i64 n46, .slice a47 l47 c47, .slice a48 l48 c48, .slice a49 l49 c49, .slice a50 l50 c50] 75 →
 RunF Try.prog (Builtin.append_ #[52, 52] 52 #[.slice a42 l42 c42, .slice (some ⟨b51, 0, none⟩) 1 1]) w52 [.leaf .slice] fun (a53 : Option Addr) (l53 c53 : Nat) (w54 : World) =>
 May w54 ⟨b16, 1, none⟩ ∧ ∀ w55 : World, SetC w54 w55 ⟨b16, 1, none⟩ (.slice a53 l53 c53) →
 Fit .i64 (n27 + 1) ∧
 (I25 (n27 + 1) w55 ∧
 m26 (n27 + 1) w55 < m26 n27 w28))
 (M23 w28))
 (M23 w28)) ∧
 ∀ (_ : Env) (w24 : World), M23 w24 →
 ∃ M56 : World → Prop,
 (∃ (n58 : Int), World.cell? w24 ⟨b14, 2, none⟩ = some (.int .i64 n58) ∧
 IfB (decide ((n58 : Int) = 0))
 (∃ (n59 : Int), World.cell? w24 ⟨b14, 1, none⟩ = some (.int .i64 n59) ∧
 IfB (decide ((n59 : Int) < (ByteArray.size s : Int)))
 (∃ (n60 : Int), World.cell? w24 ⟨b14, 1, none⟩ = some (.int .i64 n60) ∧
 C54 (some ⟨b14, 0, none⟩) 1405 n60 w24 fun w61 =>
 M56 w61)
 (M56 w24))
 (M56 w24)) ∧
 ∀ (_ : Env) (w57 : World), M56 w57 →
 ∃ (n62 : Int), World.cell? w57 ⟨b14, 2, none⟩ = some (.int .i64 n62) ∧
 IfB (!decide ((n62 : Int) = 0))
 (∀ w63 : World, Drew w57 w63 →
 (∃ (n64 : Int), World.cell? w63 ⟨b14, 3, none⟩ = some (.int .i64 n64) ∧
 (∃ (n65 : Int), World.cell? w63 ⟨b14, 2, none⟩ = some (.int .i64 n65) ∧
 MayL w63 ⟨b1, 0, none⟩ 2 ∧ ∀ w66 : World, SetL w63 w66 ⟨b1, 0, none⟩ [.int .i64 0, .slice none 0 0] →
 ∃ (n67 : Int), ∃ (a68 : Option Addr) (l68 c68 : Nat), CellsAt w66 ⟨b1, 0, none⟩ [.int .i64 n67, .slice a68 l68 c68] ∧
 K n67 a68 l68 c68 n64 n65 w66) ∧
 (MayL w63 ⟨b1, 0, none⟩ 2 ∧ ∀ w69 : World, SetL w63 w69 ⟨b1, 0, none⟩ [.int .i64 0, .slice none 0 0] →
 ∃ (n70 : Int), World.cell? w69 ⟨b14, 2, none⟩ = some (.int .i64 n70) ∧
 ∃ (n71 : Int), ∃ (a72 : Option Addr) (l72 c72 : Nat), CellsAt w69 ⟨b1, 0, none⟩ [.int .i64 n71, .slice a72 l72 c72] ∧
 K n71 a72 l72 c72 n64 n70 w69)) ∧
 (∃ (n73 : Int), World.cell? w63 ⟨b14, 2, none⟩ = some (.int .i64 n73) ∧
 (∃ (n74 : Int), World.cell? w63 ⟨b14, 3, none⟩ = some (.int .i64 n74) ∧
 MayL w63 ⟨b1, 0, none⟩ 2 ∧ ∀ w75 : World, SetL w63 w75 ⟨b1, 0, none⟩ [.int .i64 0, .slice none 0 0] →
 ∃ (n76 : Int), ∃ (a77 : Option Addr) (l77 c77 : Nat), CellsAt w75 ⟨b1, 0, none⟩ [.int .i64 n76, .slice a77 l77 c77] ∧
 K n76 a77 l77 c77 n74 n73 w75) ∧
 (MayL w63 ⟨b1, 0, none⟩ 2 ∧ ∀ w78 : World, SetL w63 w78 ⟨b1, 0, none⟩ [.int .i64 0, .slice none 0 0] →
 ∃ (n79 : Int), World.cell? w78 ⟨b14, 3, none⟩ = some (.int .i64 n79) ∧
 ∃ (n80 : Int), ∃ (a81 : Option Addr) (l81 c81 : Nat), CellsAt w78 ⟨b1, 0, none⟩ [.int .i64 n80, .slice a81 l81 c81] ∧
 K n80 a81 l81 c81 n79 n73 w78)) ∧
 (MayL w63 ⟨b1, 0, none⟩ 2 ∧ ∀ w82 : World, SetL w63 w82 ⟨b1, 0, none⟩ [.int .i64 0, .slice none 0 0] →
 ∃ (n83 : Int), World.cell? w82 ⟨b14, 3, none⟩ = some (.int .i64 n83) ∧
 ∃ (n84 : Int), World.cell? w82 ⟨b14, 2, none⟩ = some (.int .i64 n84) ∧
 ∃ (n85 : Int), ∃ (a86 : Option Addr) (l86 c86 : Nat), CellsAt w82 ⟨b1, 0, none⟩ [.int .i64 n85, .slice a86 l86 c86] ∧
 K n85 a86 l86 c86 n83 n84 w82))
 (∃ (n87 : Int), ∃ (a88 : Option Addr) (l88 c88 : Nat), CellsAt w57 ⟨b16, 0, none⟩ [.int .i64 n87, .slice a88 l88 c88] ∧
 MayL w57 ⟨b1, 0, none⟩ 2 ∧ ∀ w89 : World, SetL w57 w89 ⟨b1, 0, none⟩ [.int .i64 n87, .slice a88 l88 c88] →
 ∃ (n90 : Int), ∃ (a91 : Option Addr) (l91 c91 : Nat), CellsAt w89 ⟨b1, 0, none⟩ [.int .i64 n90, .slice a91 l91 c91] ∧
 K n90 a91 l91 c91 0 0 w89))
theorem r_f30 (s : ByteArray) (w : World) (K : Int → Option Addr → Nat → Nat → Int → Int → World → Prop) (h : V_f30 s w K) : C30 s w K :=
  @calls_of_eq Try.prog 30 Try.f30 [.string s] w [.agg [.int .i64, .slice], .leaf (.int .i64), .leaf (.int .i64)] K _ (cfg true (fun _ => [])) (fun n => bif Nat.beq n 0 then some ⟨[9], [.int .i64]⟩ else none) (fun n => bif Nat.beq n 5 then some ⟨[], []⟩ else bif Nat.beq n 15 then some ⟨[], []⟩ else bif Nat.beq n 17 then some ⟨[], []⟩ else none) (fun _ => none) Try.func30 (by kernel_rfl) (by kernel_rfl) h

end Go.Proofs.Ytmlhdmnnijapjaa.V
