/- Readings of the program's functions. No condition. -/
import Derived.Test.YtmlhdmnnijapjaaGCfg
namespace Go.Proofs.Ytmlhdmnnijapjaa.V
open Go
set_option maxRecDepth 100000
set_option linter.unusedVariables false
/-- gneiss/arith.Fits -/
def V_f40 (x : Int) (w : World) (K : Bool → World → Prop) : Prop :=
 K (decide ((x : Int) = (IntKind.wrap .i64 (IntKind.wrap .i32 x)))) w
theorem r_f40 (x : Int) (w : World) (K : Bool → World → Prop) (h : V_f40 x w K) : C40 x w K :=
  @calls_of_eq Try.prog 40 Try.f40 [.int .i64 x] w [.leaf .bool] K _ (cfg false (fun _ => [])) (fun _ => none) (fun _ => none) (fun _ => none) Try.func40 (by kernel_rfl) (by kernel_rfl) h

/-- gneiss/wire.PutNum -/
def V_f16 (x : Int) (w : World) (K : ByteArray → World → Prop) : Prop :=
 C40 x w fun b1 w2 =>
 IfB (!b1)
 (K (ByteArray.mk #[]) w2)
 (∃ M3 : Int → World → Prop,
 (IfB (decide ((x : Int) < 0))
 (M3 (IntKind.wrap .u64 (IntKind.wrap .i64 ((IntKind.wrap .i64 ((-2) * x)) - 1))) w2)
 (M3 (IntKind.wrap .u64 (IntKind.wrap .i64 (2 * x))) w2)) ∧
 ∀ (_ : Env) (n4 : Int) (w5 : World), M3 n4 w5 →
 ∃ (I6 : Int → Option Addr → Nat → Nat → World → Prop) (m7 : Int → Option Addr → Nat → Nat → World → Nat),
 I6 n4 none 0 0 w5 ∧
 ∀ (_ : Env) (n8 : Int) (a9 : Option Addr) (l9 c9 : Nat) (w10 : World), I6 n8 a9 l9 c9 w10 →
 IfB (decide ((128 : Int) ≤ n8))
 (∀ (b11 : Nat) (w12 : World), NewAt w10 w12 b11 #[.int .u8 (bits .or .u8 (IntKind.wrap .u8 n8) 128)] 5 →
 RunF Try.prog (Builtin.append_ #[24, 24] 24 #[.slice a9 l9 c9, .slice (some ⟨b11, 0, none⟩) 1 1]) w12 [.leaf .slice] fun (a13 : Option Addr) (l13 c13 : Nat) (w14 : World) =>
 ((0 : Int) ≤ 7 ∧ 7 ≤ (64 : Int)) ∧
 (I6 (n8 / 2 ^ Int.toNat 7) a13 l13 c13 w14 ∧
 m7 (n8 / 2 ^ Int.toNat 7) a13 l13 c13 w14 < m7 n8 a9 l9 c9 w10))
 (∀ (b15 : Nat) (w16 : World), NewAt w10 w16 b15 #[.int .u8 (IntKind.wrap .u8 n8)] 5 →
 RunF Try.prog (Builtin.append_ #[24, 24] 24 #[.slice a9 l9 c9, .slice (some ⟨b15, 0, none⟩) 1 1]) w16 [.leaf .slice] fun (a17 : Option Addr) (l17 c17 : Nat) (w18 : World) =>
 RunF Try.prog (convert 24 9 (.slice a17 l17 c17)) w18 [.leaf .str] fun (s19 : ByteArray) (w20 : World) =>
 K s19 w20))
theorem r_f16 (x : Int) (w : World) (K : ByteArray → World → Prop) (h : V_f16 x w K) : C16 x w K :=
  @calls_of_eq Try.prog 16 Try.f16 [.int .i64 x] w [.leaf .str] K _ (cfg false (fun _ => [])) (fun n => bif Nat.beq n 0 then some ⟨[3, 4], [.int .u64, .slice]⟩ else none) (fun n => bif Nat.beq n 6 then some ⟨[3], [.int .u64]⟩ else none) (fun _ => none) Try.func16 (by kernel_rfl) (by kernel_rfl) h

/-- gneiss/wire.GetNum -/
def V_f17 (s : ByteArray) (atV : Int) (w : World) (K : Int → Int → Int → World → Prop) : Prop :=
 ∃ M1 : World → Prop,
 (IfB (decide ((atV : Int) < 0))
 (K 0 0 200 w)
 (IfB (decide (((ByteArray.size s : Int) : Int) < atV))
 (K 0 0 200 w)
 (M1 w))) ∧
 ∀ (_ : Env) (w2 : World), M1 w2 →
 ∃ (I3 : Int → Int → World → Prop) (m4 : Int → Int → World → Nat),
 I3 0 0 w2 ∧
 ∀ (_ : Env) (n5 : Int) (n6 : Int) (w7 : World), I3 n5 n6 w7 →
 Fit .i64 ((ByteArray.size s : Int) - atV) ∧
 IfB (decide ((n6 : Int) = ((ByteArray.size s : Int) - atV)))
 (K 0 0 200 w7)
 (Fit .i64 (atV + n6) ∧
 ∃ h8 : Int.toNat (atV + n6) < ByteArray.size s, 0 ≤ (atV + n6) ∧
 Fit .u64 (bits .and .u8 ((UInt8.toNat (s[Int.toNat (atV + n6)]'h8) : Nat) : Int) 127) ∧
 Fit .i64 (7 * n6) ∧
 ((0 : Int) ≤ (7 * n6) ∧ (7 * n6) ≤ (64 : Int)) ∧
 ∃ M9 : World → Prop,
 (IfB (decide ((4294967296 : Int) ≤ (bits .or .u64 n5 (IntKind.wrap .u64 ((bits .and .u8 ((UInt8.toNat (s[Int.toNat (atV + n6)]'h8) : Nat) : Int) 127) * 2 ^ Int.toNat (7 * n6))))))
 (K 0 0 201 w7)
 (IfB (decide ((((UInt8.toNat (s[Int.toNat (atV + n6)]'h8) : Nat) : Int) : Int) = 0))
 (IfB (decide ((0 : Int) < n6))
 (K 0 0 201 w7)
 (IfB (decide ((128 : Int) ≤ ((UInt8.toNat (s[Int.toNat (atV + n6)]'h8) : Nat) : Int)))
 (IfB (decide ((n6 : Int) = 4))
 (K 0 0 201 w7)
 (M9 w7))
 (M9 w7)))
 (IfB (decide ((128 : Int) ≤ ((UInt8.toNat (s[Int.toNat (atV + n6)]'h8) : Nat) : Int)))
 (IfB (decide ((n6 : Int) = 4))
 (K 0 0 201 w7)
 (M9 w7))
 (M9 w7)))) ∧
 ∀ (_ : Env) (w10 : World), M9 w10 →
 IfB (decide ((((UInt8.toNat (s[Int.toNat (atV + n6)]'h8) : Nat) : Int) : Int) < 128))
 (((0 : Int) ≤ 1 ∧ 1 ≤ (64 : Int)) ∧
 Fit .i64 ((bits .or .u64 n5 (IntKind.wrap .u64 ((bits .and .u8 ((UInt8.toNat (s[Int.toNat (atV + n6)]'h8) : Nat) : Int) 127) * 2 ^ Int.toNat (7 * n6)))) / 2 ^ Int.toNat 1) ∧
 ∃ M11 : Int → World → Prop,
 (IfB (decide (((bits .and .u64 (bits .or .u64 n5 (IntKind.wrap .u64 ((bits .and .u8 ((UInt8.toNat (s[Int.toNat (atV + n6)]'h8) : Nat) : Int) 127) * 2 ^ Int.toNat (7 * n6)))) 1) : Int) = 1))
 (Fit .i64 (-((bits .or .u64 n5 (IntKind.wrap .u64 ((bits .and .u8 ((UInt8.toNat (s[Int.toNat (atV + n6)]'h8) : Nat) : Int) 127) * 2 ^ Int.toNat (7 * n6)))) / 2 ^ Int.toNat 1)) ∧
 Fit .i64 ((-((bits .or .u64 n5 (IntKind.wrap .u64 ((bits .and .u8 ((UInt8.toNat (s[Int.toNat (atV + n6)]'h8) : Nat) : Int) 127) * 2 ^ Int.toNat (7 * n6)))) / 2 ^ Int.toNat 1)) - 1) ∧
 M11 ((-((bits .or .u64 n5 (IntKind.wrap .u64 ((bits .and .u8 ((UInt8.toNat (s[Int.toNat (atV + n6)]'h8) : Nat) : Int) 127) * 2 ^ Int.toNat (7 * n6)))) / 2 ^ Int.toNat 1)) - 1) w10)
 (M11 ((bits .or .u64 n5 (IntKind.wrap .u64 ((bits .and .u8 ((UInt8.toNat (s[Int.toNat (atV + n6)]'h8) : Nat) : Int) 127) * 2 ^ Int.toNat (7 * n6)))) / 2 ^ Int.toNat 1) w10)) ∧
 ∀ (_ : Env) (n12 : Int) (w13 : World), M11 n12 w13 →
 Fit .i64 (atV + n6) ∧
 Fit .i64 ((atV + n6) + 1) ∧
 K n12 ((atV + n6) + 1) 0 w13)
 (Fit .i64 (n6 + 1) ∧
 (I3 (bits .or .u64 n5 (IntKind.wrap .u64 ((bits .and .u8 ((UInt8.toNat (s[Int.toNat (atV + n6)]'h8) : Nat) : Int) 127) * 2 ^ Int.toNat (7 * n6)))) (n6 + 1) w10 ∧
 m4 (bits .or .u64 n5 (IntKind.wrap .u64 ((bits .and .u8 ((UInt8.toNat (s[Int.toNat (atV + n6)]'h8) : Nat) : Int) 127) * 2 ^ Int.toNat (7 * n6)))) (n6 + 1) w10 < m4 n5 n6 w7)))
theorem r_f17 (s : ByteArray) (atV : Int) (w : World) (K : Int → Int → Int → World → Prop) (h : V_f17 s atV w K) : C17 s atV w K :=
  @calls_of_eq Try.prog 17 Try.f17 [.string s, .int .i64 atV] w [.leaf (.int .i64), .leaf (.int .i64), .leaf (.int .i64)] K _ (cfg true (fun _ => [])) (fun n => bif Nat.beq n 0 then some ⟨[7, 8], [.int .u64, .int .i64]⟩ else none) (fun n => bif Nat.beq n 3 then some ⟨[], []⟩ else bif Nat.beq n 12 then some ⟨[], []⟩ else bif Nat.beq n 16 then some ⟨[10], [.int .i64]⟩ else none) (fun _ => none) Try.func17 (by kernel_rfl) (by kernel_rfl) h

/-- gneiss/wire.PutText -/
def V_f19 (s : ByteArray) (w : World) (K : ByteArray → World → Prop) : Prop :=
 C16 (ByteArray.size s : Int) w fun s1 w2 =>
 (ByteArray.size s1 + ByteArray.size s ≤ 9223372036854775807) ∧
 K (s1 ++ s) w2
theorem r_f19 (s : ByteArray) (w : World) (K : ByteArray → World → Prop) (h : V_f19 s w K) : C19 s w K :=
  @calls_of_eq Try.prog 19 Try.f19 [.string s] w [.leaf .str] K _ (cfg true (fun _ => [])) (fun _ => none) (fun _ => none) (fun _ => none) Try.func19 (by kernel_rfl) (by kernel_rfl) h

/-- gneiss/wire.GetText -/
def V_f20 (s : ByteArray) (atV : Int) (most : Int) (w : World) (K : ByteArray → Int → Int → World → Prop) : Prop :=
 C17 s atV w fun n1 n2 n3 w4 =>
 IfB (!decide ((n3 : Int) = 0))
 (K (ByteArray.mk #[]) 0 n3 w4)
 (IfB (decide ((n1 : Int) < 0))
 (K (ByteArray.mk #[]) 0 202 w4)
 (IfB (decide ((most : Int) < n1))
 (K (ByteArray.mk #[]) 0 202 w4)
 (Fit .i64 ((ByteArray.size s : Int) - n2) ∧
 IfB (decide ((((ByteArray.size s : Int) - n2) : Int) < n1))
 (K (ByteArray.mk #[]) 0 200 w4)
 (Fit .i64 (n2 + n1) ∧
 ((0 : Int) ≤ n2 ∧ (n2 : Int) ≤ (n2 + n1) ∧ ((n2 + n1) : Int) ≤ (ByteArray.size s : Int)) ∧
 Fit .i64 (n2 + n1) ∧
 K (ByteArray.extract s (Int.toNat n2) (Int.toNat (n2 + n1))) (n2 + n1) 0 w4))))
theorem r_f20 (s : ByteArray) (atV : Int) (most : Int) (w : World) (K : ByteArray → Int → Int → World → Prop) (h : V_f20 s atV most w K) : C20 s atV most w K :=
  @calls_of_eq Try.prog 20 Try.f20 [.string s, .int .i64 atV, .int .i64 most] w [.leaf .str, .leaf (.int .i64), .leaf (.int .i64)] K _ (cfg true (fun _ => [])) (fun _ => none) (fun _ => none) (fun _ => none) Try.func20 (by kernel_rfl) (by kernel_rfl) h

/-- gneiss/gneisslaw2.awake -/
def V_f15 (w : World) (K : Bool → World → Prop) : Prop :=
 C17 (ByteArray.mk #[172, 2]) 0 w fun n1 n2 n3 w4 =>
 C17 (ByteArray.mk #[128, 0]) 0 w4 fun n5 n6 n7 w8 =>
 C16 (-1) w8 fun s9 w10 =>
 IfB (ByteArray.toList s9 == ByteArray.toList (ByteArray.mk #[1]))
 (IfB (decide ((n1 : Int) = 150))
 (IfB (decide ((n2 : Int) = 2))
 (IfB (decide ((n3 : Int) = 0))
 (K (decide ((n7 : Int) = 201)) w10)
 (K false w10))
 (K false w10))
 (K false w10))
 (K false w10)
theorem r_f15 (w : World) (K : Bool → World → Prop) (h : V_f15 w K) : C15  w K :=
  @calls_of_eq Try.prog 15 Try.f15 [] w [.leaf .bool] K _ (cfg true (fun _ => [])) (fun _ => none) (fun _ => none) (fun _ => none) Try.func15 (by kernel_rfl) (by kernel_rfl) h

/-- gneiss/gneisslaw2.WireShort -/
def V_f3 (x : Int) (tail : ByteArray) (w : World) (K : Bool → World → Prop) : Prop :=
 C15  w fun b1 w2 =>
 IfB (!b1)
 (K false w2)
 ((2147483648 : Int) ≠ 0 ∧
 C16 (Int.tmod x 2147483648) w2 fun s3 w4 =>
 Fit .i64 (2 * (Int.tmod x 2147483648)) ∧
 ∃ M5 : Int → World → Prop,
 (IfB (decide (((Int.tmod x 2147483648) : Int) < 0))
 (Fit .i64 ((-2) * (Int.tmod x 2147483648)) ∧
 Fit .i64 (((-2) * (Int.tmod x 2147483648)) - 1) ∧
 M5 (((-2) * (Int.tmod x 2147483648)) - 1) w4)
 (M5 (2 * (Int.tmod x 2147483648)) w4)) ∧
 ∀ (_ : Env) (n6 : Int) (w7 : World), M5 n6 w7 →
 ∃ (I8 : Int → Int → World → Prop) (m9 : Int → Int → World → Nat),
 I8 n6 1 w7 ∧
 ∀ (_ : Env) (n10 : Int) (n11 : Int) (w12 : World), I8 n10 n11 w12 →
 IfB (decide ((128 : Int) ≤ n10))
 (Fit .i64 (n11 + 1) ∧
 (128 : Int) ≠ 0 ∧
 Fit .i64 (Int.tdiv n10 128) ∧
 (I8 (Int.tdiv n10 128) (n11 + 1) w12 ∧
 m9 (Int.tdiv n10 128) (n11 + 1) w12 < m9 n10 n11 w12))
 (IfB (!decide (((ByteArray.size s3 : Int) : Int) = n11))
 (K false w12)
 (∃ M13 : ByteArray → World → Prop,
 (∀ w16 : World, Drew w12 w16 →
 Fit .i64 ((ByteArray.size s3 : Int) - 1) ∧
 ((0 : Int) ≤ ((ByteArray.size s3 : Int) - 1) ∧ (((ByteArray.size s3 : Int) - 1) : Int) ≤ (ByteArray.size s3 : Int)) ∧
 Fit .i64 ((ByteArray.size s3 : Int) - 1) ∧
 ∃ h17 : Int.toNat ((ByteArray.size s3 : Int) - 1) < ByteArray.size s3, 0 ≤ ((ByteArray.size s3 : Int) - 1) ∧
 Fit .u8 (((UInt8.toNat (s3[Int.toNat ((ByteArray.size s3 : Int) - 1)]'h17) : Nat) : Int) + 128) ∧
 ∀ (b18 : Nat) (w19 : World), NewAt w16 w19 b18 #[.int .u8 (((UInt8.toNat (s3[Int.toNat ((ByteArray.size s3 : Int) - 1)]'h17) : Nat) : Int) + 128), .int .u8 0] 5 →
 RunF Try.prog (convert 24 9 (.slice (some ⟨b18, 0, none⟩) 2 2)) w19 [.leaf .str] fun (s20 : ByteArray) (w21 : World) =>
 (ByteArray.size (ByteArray.extract s3 0 (Int.toNat ((ByteArray.size s3 : Int) - 1))) + ByteArray.size s20 ≤ 9223372036854775807) ∧
 M13 ((ByteArray.extract s3 0 (Int.toNat ((ByteArray.size s3 : Int) - 1))) ++ s20) w21) ∧
 ∀ (_ : Env) (s14 : ByteArray) (w15 : World), M13 s14 w15 →
 (ByteArray.size s14 + ByteArray.size tail ≤ 9223372036854775807) ∧
 C17 (s14 ++ tail) 0 w15 fun n22 n23 n24 w25 =>
 Fit .i64 ((ByteArray.size s3 : Int) - 1) ∧
 ((0 : Int) ≤ ((ByteArray.size s3 : Int) - 1) ∧ (((ByteArray.size s3 : Int) - 1) : Int) ≤ (ByteArray.size s3 : Int)) ∧
 C17 (ByteArray.extract s3 0 (Int.toNat ((ByteArray.size s3 : Int) - 1))) 0 w25 fun n26 n27 n28 w29 =>
 IfB (decide ((n24 : Int) = 201))
 (IfB (decide ((n28 : Int) = 200))
 (Fit .i64 ((Int.tmod x 2147483648) * (Int.tmod x 2147483648)) ∧
 Fit .i64 (2147483648 + ((Int.tmod x 2147483648) * (Int.tmod x 2147483648))) ∧
 C16 (2147483648 + ((Int.tmod x 2147483648) * (Int.tmod x 2147483648))) w29 fun s30 w31 =>
 K (ByteArray.toList s30 == ByteArray.toList (ByteArray.mk #[])) w31)
 (K false w29))
 (K false w29))))
theorem r_f3 (x : Int) (tail : ByteArray) (w : World) (K : Bool → World → Prop) (h : V_f3 x tail w K) : C3 x tail w K :=
  @calls_of_eq Try.prog 3 Try.f3 [.int .i64 x, .string tail] w [.leaf .bool] K _ (cfg true (fun _ => [])) (fun n => bif Nat.beq n 0 then some ⟨[7, 8], [.int .i64, .int .i64]⟩ else none) (fun n => bif Nat.beq n 8 then some ⟨[7], [.int .i64]⟩ else bif Nat.beq n 15 then some ⟨[9], [.str]⟩ else none) (fun _ => none) Try.func3 (by kernel_rfl) (by kernel_rfl) h

/-- gneiss/gneisslaw2.WireBack -/
def V_f4 (x : Int) (t : ByteArray) (ahead : ByteArray) (behind : ByteArray) (w : World) (K : Bool → World → Prop) : Prop :=
 C15  w fun b1 w2 =>
 IfB (!b1)
 (K false w2)
 ((2147483648 : Int) ≠ 0 ∧
 C16 (Int.tmod x 2147483648) w2 fun s3 w4 =>
 (ByteArray.size ahead + ByteArray.size s3 ≤ 9223372036854775807) ∧
 (ByteArray.size (ahead ++ s3) + ByteArray.size behind ≤ 9223372036854775807) ∧
 C17 ((ahead ++ s3) ++ behind) (ByteArray.size ahead : Int) w4 fun n5 n6 n7 w8 =>
 C19 t w8 fun s9 w10 =>
 (ByteArray.size ahead + ByteArray.size s9 ≤ 9223372036854775807) ∧
 (ByteArray.size (ahead ++ s9) + ByteArray.size behind ≤ 9223372036854775807) ∧
 C20 ((ahead ++ s9) ++ behind) (ByteArray.size ahead : Int) (ByteArray.size t : Int) w10 fun s11 n12 n13 w14 =>
 IfB (!decide ((n7 : Int) = 0))
 (K false w14)
 (IfB (!decide ((n5 : Int) = (Int.tmod x 2147483648)))
 (K false w14)
 (Fit .i64 ((ByteArray.size ((ahead ++ s3) ++ behind) : Int) - (ByteArray.size behind : Int)) ∧
 IfB (!decide ((n6 : Int) = ((ByteArray.size ((ahead ++ s3) ++ behind) : Int) - (ByteArray.size behind : Int))))
 (K false w14)
 (IfB (!decide ((n13 : Int) = 0))
 (K false w14)
 (IfB (!(ByteArray.toList s11 == ByteArray.toList t))
 (K false w14)
 (Fit .i64 ((ByteArray.size ((ahead ++ s9) ++ behind) : Int) - (ByteArray.size behind : Int)) ∧
 IfB (!decide ((n12 : Int) = ((ByteArray.size ((ahead ++ s9) ++ behind) : Int) - (ByteArray.size behind : Int))))
 (K false w14)
 (C17 behind 0 w14 fun n15 n16 n17 w18 =>
 ∀ w19 : World, Drew w18 w19 →
 IfB (!decide ((n17 : Int) = 0))
 (K true w19)
 (((0 : Int) ≤ n16 ∧ (n16 : Int) ≤ (ByteArray.size behind : Int)) ∧
 C16 n15 w19 fun s20 w21 =>
 K (ByteArray.toList s20 == ByteArray.toList (ByteArray.extract behind 0 (Int.toNat n16))) w21))))))))
theorem r_f4 (x : Int) (t : ByteArray) (ahead : ByteArray) (behind : ByteArray) (w : World) (K : Bool → World → Prop) (h : V_f4 x t ahead behind w K) : C4 x t ahead behind w K :=
  @calls_of_eq Try.prog 4 Try.f4 [.int .i64 x, .string t, .string ahead, .string behind] w [.leaf .bool] K _ (cfg true (fun _ => [])) (fun _ => none) (fun _ => none) (fun _ => none) Try.func4 (by kernel_rfl) (by kernel_rfl) h

end Go.Proofs.Ytmlhdmnnijapjaa.V
