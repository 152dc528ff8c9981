/- Readings of the program's functions. No condition. -/
import Derived.Test.YtfpghcdjfiggiaaGCfg
namespace Go.Proofs.Ytfpghcdjfiggiaa.V
open Go
set_option maxRecDepth 100000
set_option linter.unusedVariables false
/-- gneiss/gneisslaw6.FragForms -/
def V_f7 (words : Int) (base : Int) (count : Int) (w : World) (K : Bool → World → Prop) : Prop :=
 C46  w fun b1 w2 =>
 IfB (!b1)
 (K false w2)
 (Fit .i64 (1 + (bits .and .i64 words 2047)) ∧
 C40 (1 + (bits .and .i64 words 2047)) 1 w2 fun q3 n4 w5 =>
 ∃ (I6 : Int → World → Prop) (m7 : Int → World → Nat),
 I6 0 w5 ∧
 ∀ (_ : Env) (n8 : Int) (w9 : World), I6 n8 w9 →
 IfB (decide ((n8 : Int) < (1 + (bits .and .i64 words 2047))))
 (Fit .i64 (1000 + n8) ∧
 C43 q3 0 n8 (1000 + n8) w9 fun n10 w11 =>
 Fit .i64 (n8 + 1) ∧
 (I6 (n8 + 1) w11 ∧
 m7 (n8 + 1) w11 < m7 n8 w9))
 (C47 q3 base count w9 fun q12 n13 w14 =>
 IfB (decide ((count : Int) < 1))
 (IfB (decide ((n13 : Int) = 600))
 (K (Option.isNone q12) w14)
 (K false w14))
 (IfB (decide ((2000 : Int) < count))
 (IfB (decide ((n13 : Int) = 600))
 (K (Option.isNone q12) w14)
 (K false w14))
 (IfB (decide ((base : Int) < 0))
 (IfB (decide ((n13 : Int) = 600))
 (K (Option.isNone q12) w14)
 (K false w14))
 (IfB (decide (((1 + (bits .and .i64 words 2047)) : Int) < base))
 (IfB (decide ((n13 : Int) = 600))
 (K (Option.isNone q12) w14)
 (K false w14))
 (Fit .i64 (14 * count) ∧
 Fit .i64 ((14 * count) + 64) ∧
 Fit .i64 ((1 + (bits .and .i64 words 2047)) - base) ∧
 IfB (decide ((((1 + (bits .and .i64 words 2047)) - base) : Int) < ((14 * count) + 64)))
 (IfB (decide ((n13 : Int) = 600))
 (K (Option.isNone q12) w14)
 (K false w14))
 (IfB (!decide ((n13 : Int) = 0))
 (K false w14)
 (IfB (Option.isNone q12)
 (K false w14)
 (∃ (I15 : Int → World → Prop) (m16 : Int → World → Nat),
 I15 0 w14 ∧
 ∀ (_ : Env) (n17 : Int) (w18 : World), I15 n17 w18 →
 IfB (decide ((n17 : Int) < count))
 (C48 q12 0 w18 fun n19 n20 w21 =>
 IfB (!decide ((n20 : Int) = 0))
 (K false w21)
 (∃ (I22 : Int → World → Prop) (m23 : Int → World → Nat),
 I22 0 w21 ∧
 ∀ (_ : Env) (n24 : Int) (w25 : World), I22 n24 w25 →
 IfB (decide ((n24 : Int) < 8))
 (C49 q12 0 n19 n24 7 w25 fun n26 w27 =>
 Fit .i64 (n24 + 1) ∧
 (I22 (n24 + 1) w27 ∧
 m23 (n24 + 1) w27 < m23 n24 w25))
 (Fit .i64 (n17 + 1) ∧
 (I15 (n17 + 1) w25 ∧
 m16 (n17 + 1) w25 < m16 n17 w18))))
 (∃ (I28 : Int → World → Prop) (m29 : Int → World → Nat),
 I28 0 w18 ∧
 ∀ (_ : Env) (n30 : Int) (w31 : World), I28 n30 w31 →
 IfB (decide ((n30 : Int) < (1 + (bits .and .i64 words 2047))))
 (C42 q3 0 n30 w31 fun n32 n33 w34 =>
 IfB (decide ((n30 : Int) < base))
 (Fit .i64 (1000 + n30) ∧
 IfB (!decide ((n32 : Int) = (1000 + n30)))
 (K false w34)
 (Fit .i64 (n30 + 1) ∧
 (I28 (n30 + 1) w34 ∧
 m29 (n30 + 1) w34 < m29 n30 w31)))
 (Fit .i64 (14 * count) ∧
 Fit .i64 (base + (14 * count)) ∧
 Fit .i64 ((base + (14 * count)) + 64) ∧
 IfB (decide ((((base + (14 * count)) + 64) : Int) ≤ n30))
 (Fit .i64 (1000 + n30) ∧
 IfB (!decide ((n32 : Int) = (1000 + n30)))
 (K false w34)
 (Fit .i64 (n30 + 1) ∧
 (I28 (n30 + 1) w34 ∧
 m29 (n30 + 1) w34 < m29 n30 w31)))
 (Fit .i64 (n30 + 1) ∧
 (I28 (n30 + 1) w34 ∧
 m29 (n30 + 1) w34 < m29 n30 w31))))
 (C50 q12 w31 fun a35 l35 c35 w36 =>
 K (decide (((l35 : Int) : Int) = count)) w36)))))))))))
theorem r_f7 (words : Int) (base : Int) (count : Int) (w : World) (K : Bool → World → Prop) (h : V_f7 words base count w K) : C7 words base count w K :=
  @calls_of_eq Try.prog 7 Try.f7 [.int .i64 words, .int .i64 base, .int .i64 count] w [.leaf .bool] K _ (cfg true (fun _ => [])) (fun n => bif Nat.beq n 0 then some ⟨[10], [.int .i64]⟩ else bif Nat.beq n 2 then some ⟨[13], [.int .i64]⟩ else bif Nat.beq n 4 then some ⟨[16], [.int .i64]⟩ else bif Nat.beq n 6 then some ⟨[17], [.int .i64]⟩ else none) (fun _ => none) (fun _ => none) Try.func7 (by kernel_rfl) (by kernel_rfl) h

/-- gneiss/gneisslaw6.FragAgain -/
def V_f8 (count : Int) (rounds : Int) (w : World) (K : Bool → World → Prop) : Prop :=
 C46  w fun b1 w2 =>
 IfB (!b1)
 (K false w2)
 (Fit .i64 (1 + (bits .and .i64 count 31)) ∧
 C51 0 (1 + (bits .and .i64 count 31)) w2 fun q3 q4 b5 w6 =>
 IfB (!b5)
 (K false w6)
 (∃ (I7 : Int → World → Prop) (m8 : Int → World → Nat),
 I7 0 w6 ∧
 ∀ (_ : Env) (n9 : Int) (w10 : World), I7 n9 w10 →
 IfB (decide ((n9 : Int) ≤ (bits .and .i64 rounds 7)))
 (∃ (I11 : Int → World → Prop) (m12 : Int → World → Nat),
 I11 0 w10 ∧
 ∀ (_ : Env) (n13 : Int) (w14 : World), I11 n13 w14 →
 IfB (decide ((n13 : Int) < (1 + (bits .and .i64 count 31))))
 ((3 : Int) ≠ 0 ∧
 C48 q3 (Int.tmod n13 3) w14 fun n15 n16 w17 =>
 C52 q3 0 n15 n9 w17 fun n18 n19 w20 =>
 C49 q3 1 n15 n9 5 w20 fun n21 w22 =>
 C53 q3 2 n15 3 w22 fun n23 w24 =>
 IfB (!decide ((n16 : Int) = 0))
 (K false w24)
 (IfB (!decide ((n19 : Int) = 0))
 (K false w24)
 (IfB (!decide ((n18 : Int) = 0))
 (K false w24)
 (IfB (!decide ((n21 : Int) = 0))
 (K false w24)
 (IfB (!decide ((n23 : Int) = 0))
 (K false w24)
 (Fit .i64 (n13 + 1) ∧
 (I11 (n13 + 1) w24 ∧
 m12 (n13 + 1) w24 < m12 n13 w14)))))))
 (C48 q3 0 w14 fun n25 n26 w27 =>
 IfB (!decide ((n26 : Int) = 601))
 (K false w27)
 (C50 q3 w27 fun a28 l28 c28 w29 =>
 IfB (!decide (((l28 : Int) : Int) = (1 + (bits .and .i64 count 31))))
 (K false w29)
 (∃ (I30 : Int → World → Prop) (m31 : Int → World → Nat),
 I30 0 w29 ∧
 ∀ (_ : Env) (n32 : Int) (w33 : World), I30 n32 w33 →
 IfB (decide ((n32 : Int) < (1 + (bits .and .i64 count 31))))
 ((3 : Int) ≠ 0 ∧
 C54 q3 (Int.tmod n32 3) n32 w33 fun n34 w35 =>
 IfB (!decide ((n34 : Int) = 0))
 (K false w35)
 (Fit .i64 (n32 + 1) ∧
 (I30 (n32 + 1) w35 ∧
 m31 (n32 + 1) w35 < m31 n32 w33)))
 (Fit .i64 (n9 + 1) ∧
 (I7 (n9 + 1) w33 ∧
 m8 (n9 + 1) w33 < m8 n9 w10))))))
 (C50 q3 w10 fun a36 l36 c36 w37 =>
 K (decide (((l36 : Int) : Int) = 0)) w37)))
theorem r_f8 (count : Int) (rounds : Int) (w : World) (K : Bool → World → Prop) (h : V_f8 count rounds w K) : C8 count rounds w K :=
  @calls_of_eq Try.prog 8 Try.f8 [.int .i64 count, .int .i64 rounds] w [.leaf .bool] K _ (cfg true (fun _ => [])) (fun n => bif Nat.beq n 0 then some ⟨[9], [.int .i64]⟩ else bif Nat.beq n 2 then some ⟨[10], [.int .i64]⟩ else bif Nat.beq n 4 then some ⟨[19], [.int .i64]⟩ else none) (fun _ => none) (fun _ => none) Try.func8 (by kernel_rfl) (by kernel_rfl) h

/-- gneiss/gneisslaw6.FragActs -/
def V_f9 (base : Int) (count : Int) (actsa : Option Addr) (actsl actsc : Nat) (w : World) (K : Bool → World → Prop) : Prop :=
 Fit .i64 (1 + (bits .and .i64 count 31)) ∧
 C51 (bits .and .i64 base 15) (1 + (bits .and .i64 count 31)) w fun q1 q2 b3 w4 =>
 IfB (!b3)
 (K false w4)
 (RunF Try.prog (Instr.makeSlice 65 (.int .i64 (1 + (bits .and .i64 count 31))) (.int .i64 (1 + (bits .and .i64 count 31)))) w4 [.leaf .slice] fun (a5 : Option Addr) (l5 c5 : Nat) (w6 : World) =>
 ∀ (b7 : Nat) (w8 : World), NewAt w6 w8 b7 #[.pointer q1, .pointer q2, .slice a5 l5 c5, .int .i64 0] 67 →
 ∃ (I9 : Int → World → Prop) (m10 : Int → World → Nat),
 I9 0 w8 ∧
 ∀ (_ : Env) (n11 : Int) (w12 : World), I9 n11 w12 →
 IfB (decide ((n11 : Int) < (actsl : Int)))
 (IfB (decide ((n11 : Int) < 300))
 (PtrOK actsa fun (p13 : Addr) =>
 ((0 : Int) ≤ n11 ∧ n11 < (actsl : Int)) ∧
 ∃ (n14 : Int), ∃ (n15 : Int), ∃ (n16 : Int), ∃ (n17 : Int), ∃ (n18 : Int), CellsAt w12 (Addr.add p13 (Int.toNat n11 * 5)) [.int .i64 n14, .int .i64 n15, .int .i64 n16, .int .i64 n17, .int .i64 n18] ∧
 C55 (some ⟨b7, 0, none⟩) n14 n15 n16 n17 n18 w12 fun b19 w20 =>
 IfB (!b19)
 (K false w20)
 (∃ (q21 : Option Addr), World.cell? w20 ⟨b7, 0, none⟩ = some (.pointer q21) ∧
 C50 q21 w20 fun a22 l22 c22 w23 =>
 ∃ (q24 : Option Addr), World.cell? w23 ⟨b7, 0, none⟩ = some (.pointer q24) ∧
 C50 q24 w23 fun a25 l25 c25 w26 =>
 ∃ (I27 : Int → Int → World → Prop) (m28 : Int → Int → World → Nat),
 I27 0 0 w26 ∧
 ∀ (_ : Env) (n29 : Int) (n30 : Int) (w31 : World), I27 n29 n30 w31 →
 IfB (decide ((n30 : Int) < (1 + (bits .and .i64 count 31))))
 (∃ (a32 : Option Addr) (l32 c32 : Nat), World.cell? w31 ⟨b7, 2, none⟩ = some (.slice a32 l32 c32) ∧
 PtrOK a32 fun (p33 : Addr) =>
 ((0 : Int) ≤ n30 ∧ n30 < (l32 : Int)) ∧
 ∃ (b34 : Bool), World.cell? w31 (Addr.add (Addr.add p33 (Int.toNat n30 * 10)) 0) = some (.bool b34) ∧
 IfB (!b34)
 (Fit .i64 (n30 + 1) ∧
 (I27 n29 (n30 + 1) w31 ∧
 m28 n29 (n30 + 1) w31 < m28 n29 n30 w31))
 (IfB (decide (((l22 : Int) : Int) ≤ n29))
 (K false w31)
 (PtrOK a22 fun (p35 : Addr) =>
 ((0 : Int) ≤ n29 ∧ n29 < (l22 : Int)) ∧
 ∃ (n36 : Int), World.cell? w31 (Addr.add p35 (Int.toNat n29 * 1)) = some (.int .i64 n36) ∧
 IfB (!decide ((n36 : Int) = n30))
 (K false w31)
 (Fit .i64 (n29 + 1) ∧
 Fit .i64 (n30 + 1) ∧
 (I27 (n29 + 1) (n30 + 1) w31 ∧
 m28 (n29 + 1) (n30 + 1) w31 < m28 n29 n30 w31)))))
 (IfB (!decide ((n29 : Int) = (l22 : Int)))
 (K false w31)
 (C56 a22 l22 c22 w31 fun w37 =>
 ∀ w38 : World, Drew w37 w38 →
 IfB (!decide (((l25 : Int) : Int) = n29))
 (K false w38)
 (IfB (decide ((0 : Int) < n29))
 (PtrOK a25 fun (p39 : Addr) =>
 ((0 : Int) ≤ 0 ∧ 0 < (l25 : Int)) ∧
 ∃ (n40 : Int), World.cell? w38 (Addr.add p39 (Int.toNat 0 * 1)) = some (.int .i64 n40) ∧
 IfB (decide ((n40 : Int) < 0))
 (K false w38)
 (∃ (a41 : Option Addr) (l41 c41 : Nat), World.cell? w38 ⟨b7, 2, none⟩ = some (.slice a41 l41 c41) ∧
 PtrOK a25 fun (p42 : Addr) =>
 ((0 : Int) ≤ 0 ∧ 0 < (l25 : Int)) ∧
 ∃ (n43 : Int), World.cell? w38 (Addr.add p42 (Int.toNat 0 * 1)) = some (.int .i64 n43) ∧
 PtrOK a41 fun (p44 : Addr) =>
 ((0 : Int) ≤ n43 ∧ n43 < (l41 : Int)) ∧
 ∃ (b45 : Bool), World.cell? w38 (Addr.add (Addr.add p44 (Int.toNat n43 * 10)) 0) = some (.bool b45) ∧
 IfB (!b45)
 (K false w38)
 (Fit .i64 (n11 + 1) ∧
 (I9 (n11 + 1) w38 ∧
 m10 (n11 + 1) w38 < m10 n11 w12))))
 (Fit .i64 (n11 + 1) ∧
 (I9 (n11 + 1) w38 ∧
 m10 (n11 + 1) w38 < m10 n11 w12)))))))
 (C46  w12 fun b46 w47 =>
 K b46 w47))
 (C46  w12 fun b48 w49 =>
 K b48 w49))
theorem r_f9 (base : Int) (count : Int) (actsa : Option Addr) (actsl actsc : Nat) (w : World) (K : Bool → World → Prop) (h : V_f9 base count actsa actsl actsc w K) : C9 base count actsa actsl actsc w K :=
  @calls_of_eq Try.prog 9 Try.f9 [.int .i64 base, .int .i64 count, .slice actsa actsl actsc] w [.leaf .bool] K _ (cfg true (fun _ => [])) (fun n => bif Nat.beq n 0 then some ⟨[13], [.int .i64]⟩ else bif Nat.beq n 2 then some ⟨[16, 17], [.int .i64, .int .i64]⟩ else none) (fun _ => none) (fun n => bif Nat.beq n 24 then some 27 else none) Try.func9 (by kernel_rfl) (by kernel_rfl) h

/-- gneiss/gneisslaw0.SpoilInts -/
def V_f56 (aa : Option Addr) (al ac : Nat) (w : World) (K : World → Prop) : Prop :=
 ∃ (I1 : Int → World → Prop) (m2 : Int → World → Nat),
 I1 0 w ∧
 ∀ (_ : Env) (n3 : Int) (w4 : World), I1 n3 w4 →
 IfB (decide ((n3 : Int) < (al : Int)))
 (PtrOK aa fun (p5 : Addr) =>
 ((0 : Int) ≤ n3 ∧ n3 < (al : Int)) ∧
 ∃ (n6 : Int), World.cell? w4 (Addr.add p5 (Int.toNat n3 * 1)) = some (.int .i64 n6) ∧
 Fit .i64 ((-9) - n6) ∧
 PtrOK aa fun (p7 : Addr) =>
 ((0 : Int) ≤ n3 ∧ n3 < (al : Int)) ∧
 May w4 (Addr.add p7 (Int.toNat n3 * 1)) ∧ ∀ w8 : World, SetC w4 w8 (Addr.add p7 (Int.toNat n3 * 1)) (.int .i64 ((-9) - n6)) →
 Fit .i64 (n3 + 1) ∧
 (I1 (n3 + 1) w8 ∧
 m2 (n3 + 1) w8 < m2 n3 w4))
 (K w4)
theorem r_f56 (aa : Option Addr) (al ac : Nat) (w : World) (K : World → Prop) (h : V_f56 aa al ac w K) : C56 aa al ac w K :=
  @calls_of_eq Try.prog 56 Try.f56 [.slice aa al ac] w [] K _ (cfg true (fun _ => [])) (fun n => bif Nat.beq n 0 then some ⟨[2], [.int .i64]⟩ else none) (fun _ => none) (fun _ => none) Try.func56 (by kernel_rfl) (by kernel_rfl) h

/-- (*gneiss/gneisslaw6.play).paint -/
def V_f139 (y : Nat) (xa : Int) (xb : Int) (xc : Int) (xd : Int) (xe : Int) (agent : Bool) (inV : Bool) (w : World) (K : Bool → World → Prop) : Prop :=
 ∀ (b1 : Nat) (w2 : World), NewAt w w2 b1 #[.int .i64 xa, .int .i64 xb, .int .i64 xc, .int .i64 xd, .int .i64 xe] 70 →
 ∃ (n3 : Int), World.cell? w2 ⟨b1, 0, none⟩ = some (.int .i64 n3) ∧
 IfB (decide ((n3 : Int) = 7))
 (∀ w4 : World, Drew w2 w4 →
 ∃ (q5 : Option Addr), World.cell? w4 ⟨y, 0, none⟩ = some (.pointer q5) ∧
 ∃ (n6 : Int), World.cell? w4 ⟨b1, 1, none⟩ = some (.int .i64 n6) ∧
 ∃ (n7 : Int), World.cell? w4 ⟨b1, 2, none⟩ = some (.int .i64 n7) ∧
 ∃ (n8 : Int), World.cell? w4 ⟨b1, 4, none⟩ = some (.int .i64 n8) ∧
 C53 q5 n6 n7 n8 w4 fun n9 w10 =>
 IfB (!agent)
 (K (decide ((n9 : Int) = 602)) w10)
 (IfB (!inV)
 (K (decide ((n9 : Int) = 602)) w10)
 (∃ (n11 : Int), World.cell? w10 ⟨b1, 4, none⟩ = some (.int .i64 n11) ∧
 IfB (decide ((n11 : Int) < 1))
 (K (decide ((n9 : Int) = 603)) w10)
 (∃ (n12 : Int), World.cell? w10 ⟨b1, 4, none⟩ = some (.int .i64 n12) ∧
 IfB (decide ((3 : Int) < n12))
 (K (decide ((n9 : Int) = 603)) w10)
 (∀ w13 : World, Drew w10 w13 →
 ∃ (a14 : Option Addr) (l14 c14 : Nat), World.cell? w13 ⟨y, 2, none⟩ = some (.slice a14 l14 c14) ∧
 ∃ (n15 : Int), World.cell? w13 ⟨b1, 2, none⟩ = some (.int .i64 n15) ∧
 ∃ (n16 : Int), World.cell? w13 ⟨b1, 4, none⟩ = some (.int .i64 n16) ∧
 PtrOK a14 fun (p17 : Addr) =>
 ((0 : Int) ≤ n15 ∧ n15 < (l14 : Int)) ∧
 May w13 (Addr.add (Addr.add p17 (Int.toNat n15 * 10)) 1) ∧ ∀ w18 : World, SetC w13 w18 (Addr.add (Addr.add p17 (Int.toNat n15 * 10)) 1) (.int .i64 n16) →
 K (decide ((n9 : Int) = 0)) w18)))))
 (∃ M19 : Int → Int → World → Prop,
 (∀ w23 : World, Drew w2 w23 →
 ∃ (q24 : Option Addr), World.cell? w23 ⟨y, 0, none⟩ = some (.pointer q24) ∧
 ∃ (n25 : Int), World.cell? w23 ⟨b1, 2, none⟩ = some (.int .i64 n25) ∧
 C131 q24 n25 w23 fun n26 n27 w28 =>
 M19 n26 n27 w28) ∧
 ∀ (_ : Env) (n20 : Int) (n21 : Int) (w22 : World), M19 n20 n21 w22 →
 ∀ w29 : World, Drew w22 w29 →
 ∃ (n30 : Int), World.cell? w29 ⟨b1, 2, none⟩ = some (.int .i64 n30) ∧
 IfB (decide ((n30 : Int) < 0))
 (IfB (decide ((n21 : Int) = 602))
 (K (decide ((n20 : Int) = 0)) w29)
 (K false w29))
 (∃ (n31 : Int), World.cell? w29 ⟨b1, 2, none⟩ = some (.int .i64 n31) ∧
 ∃ (a32 : Option Addr) (l32 c32 : Nat), World.cell? w29 ⟨y, 2, none⟩ = some (.slice a32 l32 c32) ∧
 IfB (decide (((l32 : Int) : Int) ≤ n31))
 (IfB (decide ((n21 : Int) = 602))
 (K (decide ((n20 : Int) = 0)) w29)
 (K false w29))
 (∃ M33 : Int → World → Prop,
 (IfB inV
 (∀ w36 : World, Drew w29 w36 →
 ∃ (a37 : Option Addr) (l37 c37 : Nat), World.cell? w36 ⟨y, 2, none⟩ = some (.slice a37 l37 c37) ∧
 ∃ (n38 : Int), World.cell? w36 ⟨b1, 2, none⟩ = some (.int .i64 n38) ∧
 PtrOK a37 fun (p39 : Addr) =>
 ((0 : Int) ≤ n38 ∧ n38 < (l37 : Int)) ∧
 ∃ (n40 : Int), World.cell? w36 (Addr.add (Addr.add p39 (Int.toNat n38 * 10)) 1) = some (.int .i64 n40) ∧
 M33 n40 w36)
 (M33 0 w29)) ∧
 ∀ (_ : Env) (n34 : Int) (w35 : World), M33 n34 w35 →
 IfB (decide ((n21 : Int) = 0))
 (K (decide ((n20 : Int) = n34)) w35)
 (K false w35))))
theorem r_f139 (y : Nat) (xa : Int) (xb : Int) (xc : Int) (xd : Int) (xe : Int) (agent : Bool) (inV : Bool) (w : World) (K : Bool → World → Prop) (h : V_f139 y xa xb xc xd xe agent inV w K) : C139 (some ⟨y, 0, none⟩) xa xb xc xd xe agent inV w K :=
  @calls_of_eq Try.prog 139 Try.f139 [.pointer (some ⟨y, 0, none⟩), .agg #[.int .i64 xa, .int .i64 xb, .int .i64 xc, .int .i64 xd, .int .i64 xe], .bool agent, .bool inV] w [.leaf .bool] K _ (cfg true (fun _ => [])) (fun _ => none) (fun n => bif Nat.beq n 10 then some ⟨[10, 11], [.int .i64, .int .i64]⟩ else bif Nat.beq n 15 then some ⟨[12], [.int .i64]⟩ else none) (fun n => bif Nat.beq n 2 then some 10 else bif Nat.beq n 7 then some 10 else bif Nat.beq n 10 then some 13 else bif Nat.beq n 14 then some 10 else none) Try.func139 (by kernel_rfl) (by kernel_rfl) h

/-- (*gneiss/gneisslaw6.play).act -/
def V_f55 (y : Nat) (xa : Int) (xb : Int) (xc : Int) (xd : Int) (xe : Int) (w : World) (K : Bool → World → Prop) : Prop :=
 ∀ (b1 : Nat) (w2 : World), NewAt w w2 b1 #[.int .i64 xa, .int .i64 xb, .int .i64 xc, .int .i64 xd, .int .i64 xe] 70 →
 ∃ M3 : Bool → World → Prop,
 (∃ (n6 : Int), World.cell? w2 ⟨b1, 1, none⟩ = some (.int .i64 n6) ∧
 IfB (decide ((0 : Int) ≤ n6))
 (∃ (n7 : Int), World.cell? w2 ⟨b1, 1, none⟩ = some (.int .i64 n7) ∧
 M3 (decide ((n7 : Int) < 3)) w2)
 (M3 false w2)) ∧
 ∀ (_ : Env) (b4 : Bool) (w5 : World), M3 b4 w5 →
 ∃ M8 : Bool → World → Prop,
 (∀ w11 : World, Drew w5 w11 →
 ∃ (n12 : Int), World.cell? w11 ⟨b1, 2, none⟩ = some (.int .i64 n12) ∧
 IfB (decide ((0 : Int) ≤ n12))
 (∃ (n13 : Int), World.cell? w11 ⟨b1, 2, none⟩ = some (.int .i64 n13) ∧
 ∃ (a14 : Option Addr) (l14 c14 : Nat), World.cell? w11 ⟨y, 2, none⟩ = some (.slice a14 l14 c14) ∧
 IfB (decide ((n13 : Int) < (l14 : Int)))
 (∃ (a15 : Option Addr) (l15 c15 : Nat), World.cell? w11 ⟨y, 2, none⟩ = some (.slice a15 l15 c15) ∧
 ∃ (n16 : Int), World.cell? w11 ⟨b1, 2, none⟩ = some (.int .i64 n16) ∧
 PtrOK a15 fun (p17 : Addr) =>
 ((0 : Int) ≤ n16 ∧ n16 < (l15 : Int)) ∧
 ∃ (b18 : Bool), World.cell? w11 (Addr.add (Addr.add p17 (Int.toNat n16 * 10)) 0) = some (.bool b18) ∧
 M8 b18 w11)
 (M8 false w11))
 (M8 false w11)) ∧
 ∀ (_ : Env) (b9 : Bool) (w10 : World), M8 b9 w10 →
 ∃ M19 : Bool → World → Prop,
 (IfB b9
 (∃ (n22 : Int), World.cell? w10 ⟨b1, 3, none⟩ = some (.int .i64 n22) ∧
 IfB (decide ((0 : Int) ≤ n22))
 (∃ (n23 : Int), World.cell? w10 ⟨b1, 3, none⟩ = some (.int .i64 n23) ∧
 M19 (decide ((n23 : Int) < 8)) w10)
 (M19 false w10))
 (M19 false w10)) ∧
 ∀ (_ : Env) (b20 : Bool) (w21 : World), M19 b20 w21 →
 ∃ M24 : World → Prop,
 (∃ (n26 : Int), World.cell? w21 ⟨b1, 0, none⟩ = some (.int .i64 n26) ∧
 IfB (decide ((n26 : Int) = 0))
 (∃ M27 : Int → Int → World → Prop,
 (∀ w31 : World, Drew w21 w31 →
 ∃ (q32 : Option Addr), World.cell? w31 ⟨y, 0, none⟩ = some (.pointer q32) ∧
 ∃ (n33 : Int), World.cell? w31 ⟨b1, 1, none⟩ = some (.int .i64 n33) ∧
 C48 q32 n33 w31 fun n34 n35 w36 =>
 M27 n34 n35 w36) ∧
 ∀ (_ : Env) (n28 : Int) (n29 : Int) (w30 : World), M27 n28 n29 w30 →
 IfB (!b4)
 (IfB (decide ((n29 : Int) = 602))
 (K (decide ((n28 : Int) = 0)) w30)
 (K false w30))
 (∀ w37 : World, Drew w30 w37 →
 ∃ (n38 : Int), World.cell? w37 ⟨y, 3, none⟩ = some (.int .i64 n38) ∧
 ∃ (a39 : Option Addr) (l39 c39 : Nat), World.cell? w37 ⟨y, 2, none⟩ = some (.slice a39 l39 c39) ∧
 IfB (decide ((n38 : Int) = (l39 : Int)))
 (IfB (decide ((n29 : Int) = 601))
 (K (decide ((n28 : Int) = 0)) w37)
 (K false w37))
 (IfB (!decide ((n29 : Int) = 0))
 (K false w37)
 (IfB (decide ((n28 : Int) < 0))
 (K false w37)
 (∃ (a40 : Option Addr) (l40 c40 : Nat), World.cell? w37 ⟨y, 2, none⟩ = some (.slice a40 l40 c40) ∧
 IfB (decide (((l40 : Int) : Int) ≤ n28))
 (K false w37)
 (∃ (a41 : Option Addr) (l41 c41 : Nat), World.cell? w37 ⟨y, 2, none⟩ = some (.slice a41 l41 c41) ∧
 PtrOK a41 fun (p42 : Addr) =>
 ((0 : Int) ≤ n28 ∧ n28 < (l41 : Int)) ∧
 ∃ (b43 : Bool), World.cell? w37 (Addr.add (Addr.add p42 (Int.toNat n28 * 10)) 0) = some (.bool b43) ∧
 IfB b43
 (K false w37)
 (∃ (a44 : Option Addr) (l44 c44 : Nat), World.cell? w37 ⟨y, 2, none⟩ = some (.slice a44 l44 c44) ∧
 PtrOK a44 fun (p45 : Addr) =>
 ((0 : Int) ≤ n28 ∧ n28 < (l44 : Int)) ∧
 MayL w37 (Addr.add p45 (Int.toNat n28 * 10)) 10 ∧ ∀ w46 : World, SetL w37 w46 (Addr.add p45 (Int.toNat n28 * 10)) [.bool true, .int .i64 1, .int .i64 0, .int .i64 0, .int .i64 0, .int .i64 0, .int .i64 0, .int .i64 0, .int .i64 0, .int .i64 0] →
 ∃ (n47 : Int), World.cell? w46 ⟨y, 3, none⟩ = some (.int .i64 n47) ∧
 Fit .i64 (n47 + 1) ∧
 May w46 ⟨y, 3, none⟩ ∧ ∀ w48 : World, SetC w46 w48 ⟨y, 3, none⟩ (.int .i64 (n47 + 1)) →
 K true w48)))))))
 (IfB (decide ((n26 : Int) = 1))
 (∃ M49 : Int → Int → World → Prop,
 (∀ w53 : World, Drew w21 w53 →
 ∃ (q54 : Option Addr), World.cell? w53 ⟨y, 0, none⟩ = some (.pointer q54) ∧
 ∃ (n55 : Int), World.cell? w53 ⟨b1, 1, none⟩ = some (.int .i64 n55) ∧
 C48 q54 n55 w53 fun n56 n57 w58 =>
 M49 n56 n57 w58) ∧
 ∀ (_ : Env) (n50 : Int) (n51 : Int) (w52 : World), M49 n50 n51 w52 →
 IfB (!b4)
 (IfB (decide ((n51 : Int) = 602))
 (K (decide ((n50 : Int) = 0)) w52)
 (K false w52))
 (∀ w59 : World, Drew w52 w59 →
 ∃ (n60 : Int), World.cell? w59 ⟨y, 3, none⟩ = some (.int .i64 n60) ∧
 ∃ (a61 : Option Addr) (l61 c61 : Nat), World.cell? w59 ⟨y, 2, none⟩ = some (.slice a61 l61 c61) ∧
 IfB (decide ((n60 : Int) = (l61 : Int)))
 (IfB (decide ((n51 : Int) = 601))
 (K (decide ((n50 : Int) = 0)) w59)
 (K false w59))
 (IfB (!decide ((n51 : Int) = 0))
 (K false w59)
 (IfB (decide ((n50 : Int) < 0))
 (K false w59)
 (∃ (a62 : Option Addr) (l62 c62 : Nat), World.cell? w59 ⟨y, 2, none⟩ = some (.slice a62 l62 c62) ∧
 IfB (decide (((l62 : Int) : Int) ≤ n50))
 (K false w59)
 (∃ (a63 : Option Addr) (l63 c63 : Nat), World.cell? w59 ⟨y, 2, none⟩ = some (.slice a63 l63 c63) ∧
 PtrOK a63 fun (p64 : Addr) =>
 ((0 : Int) ≤ n50 ∧ n50 < (l63 : Int)) ∧
 ∃ (b65 : Bool), World.cell? w59 (Addr.add (Addr.add p64 (Int.toNat n50 * 10)) 0) = some (.bool b65) ∧
 IfB b65
 (K false w59)
 (∃ (a66 : Option Addr) (l66 c66 : Nat), World.cell? w59 ⟨y, 2, none⟩ = some (.slice a66 l66 c66) ∧
 PtrOK a66 fun (p67 : Addr) =>
 ((0 : Int) ≤ n50 ∧ n50 < (l66 : Int)) ∧
 MayL w59 (Addr.add p67 (Int.toNat n50 * 10)) 10 ∧ ∀ w68 : World, SetL w59 w68 (Addr.add p67 (Int.toNat n50 * 10)) [.bool true, .int .i64 1, .int .i64 0, .int .i64 0, .int .i64 0, .int .i64 0, .int .i64 0, .int .i64 0, .int .i64 0, .int .i64 0] →
 ∃ (n69 : Int), World.cell? w68 ⟨y, 3, none⟩ = some (.int .i64 n69) ∧
 Fit .i64 (n69 + 1) ∧
 May w68 ⟨y, 3, none⟩ ∧ ∀ w70 : World, SetC w68 w70 ⟨y, 3, none⟩ (.int .i64 (n69 + 1)) →
 K true w70)))))))
 (IfB (decide ((n26 : Int) = 2))
 (∃ M71 : Int → Int → World → Prop,
 (∀ w75 : World, Drew w21 w75 →
 ∃ (q76 : Option Addr), World.cell? w75 ⟨y, 0, none⟩ = some (.pointer q76) ∧
 ∃ (n77 : Int), World.cell? w75 ⟨b1, 1, none⟩ = some (.int .i64 n77) ∧
 C48 q76 n77 w75 fun n78 n79 w80 =>
 M71 n78 n79 w80) ∧
 ∀ (_ : Env) (n72 : Int) (n73 : Int) (w74 : World), M71 n72 n73 w74 →
 IfB (!b4)
 (IfB (decide ((n73 : Int) = 602))
 (K (decide ((n72 : Int) = 0)) w74)
 (K false w74))
 (∀ w81 : World, Drew w74 w81 →
 ∃ (n82 : Int), World.cell? w81 ⟨y, 3, none⟩ = some (.int .i64 n82) ∧
 ∃ (a83 : Option Addr) (l83 c83 : Nat), World.cell? w81 ⟨y, 2, none⟩ = some (.slice a83 l83 c83) ∧
 IfB (decide ((n82 : Int) = (l83 : Int)))
 (IfB (decide ((n73 : Int) = 601))
 (K (decide ((n72 : Int) = 0)) w81)
 (K false w81))
 (IfB (!decide ((n73 : Int) = 0))
 (K false w81)
 (IfB (decide ((n72 : Int) < 0))
 (K false w81)
 (∃ (a84 : Option Addr) (l84 c84 : Nat), World.cell? w81 ⟨y, 2, none⟩ = some (.slice a84 l84 c84) ∧
 IfB (decide (((l84 : Int) : Int) ≤ n72))
 (K false w81)
 (∃ (a85 : Option Addr) (l85 c85 : Nat), World.cell? w81 ⟨y, 2, none⟩ = some (.slice a85 l85 c85) ∧
 PtrOK a85 fun (p86 : Addr) =>
 ((0 : Int) ≤ n72 ∧ n72 < (l85 : Int)) ∧
 ∃ (b87 : Bool), World.cell? w81 (Addr.add (Addr.add p86 (Int.toNat n72 * 10)) 0) = some (.bool b87) ∧
 IfB b87
 (K false w81)
 (∃ (a88 : Option Addr) (l88 c88 : Nat), World.cell? w81 ⟨y, 2, none⟩ = some (.slice a88 l88 c88) ∧
 PtrOK a88 fun (p89 : Addr) =>
 ((0 : Int) ≤ n72 ∧ n72 < (l88 : Int)) ∧
 MayL w81 (Addr.add p89 (Int.toNat n72 * 10)) 10 ∧ ∀ w90 : World, SetL w81 w90 (Addr.add p89 (Int.toNat n72 * 10)) [.bool true, .int .i64 1, .int .i64 0, .int .i64 0, .int .i64 0, .int .i64 0, .int .i64 0, .int .i64 0, .int .i64 0, .int .i64 0] →
 ∃ (n91 : Int), World.cell? w90 ⟨y, 3, none⟩ = some (.int .i64 n91) ∧
 Fit .i64 (n91 + 1) ∧
 May w90 ⟨y, 3, none⟩ ∧ ∀ w92 : World, SetC w90 w92 ⟨y, 3, none⟩ (.int .i64 (n91 + 1)) →
 K true w92)))))))
 (IfB (decide ((n26 : Int) = 3))
 (∀ w93 : World, Drew w21 w93 →
 ∃ (q94 : Option Addr), World.cell? w93 ⟨y, 0, none⟩ = some (.pointer q94) ∧
 ∃ (n95 : Int), World.cell? w93 ⟨b1, 1, none⟩ = some (.int .i64 n95) ∧
 ∃ (n96 : Int), World.cell? w93 ⟨b1, 2, none⟩ = some (.int .i64 n96) ∧
 C54 q94 n95 n96 w93 fun n97 w98 =>
 IfB (!b4)
 (K (decide ((n97 : Int) = 602)) w98)
 (IfB (!b9)
 (K (decide ((n97 : Int) = 602)) w98)
 (∀ w99 : World, Drew w98 w99 →
 ∃ (a100 : Option Addr) (l100 c100 : Nat), World.cell? w99 ⟨y, 2, none⟩ = some (.slice a100 l100 c100) ∧
 ∃ (n101 : Int), World.cell? w99 ⟨b1, 2, none⟩ = some (.int .i64 n101) ∧
 PtrOK a100 fun (p102 : Addr) =>
 ((0 : Int) ≤ n101 ∧ n101 < (l100 : Int)) ∧
 MayL w99 (Addr.add p102 (Int.toNat n101 * 10)) 10 ∧ ∀ w103 : World, SetL w99 w103 (Addr.add p102 (Int.toNat n101 * 10)) [.bool false, .int .i64 0, .int .i64 0, .int .i64 0, .int .i64 0, .int .i64 0, .int .i64 0, .int .i64 0, .int .i64 0, .int .i64 0] →
 ∃ (n104 : Int), World.cell? w103 ⟨y, 3, none⟩ = some (.int .i64 n104) ∧
 Fit .i64 (n104 - 1) ∧
 May w103 ⟨y, 3, none⟩ ∧ ∀ w105 : World, SetC w103 w105 ⟨y, 3, none⟩ (.int .i64 (n104 - 1)) →
 K (decide ((n97 : Int) = 0)) w105)))
 (IfB (decide ((n26 : Int) = 4))
 (∀ w106 : World, Drew w21 w106 →
 ∃ (q107 : Option Addr), World.cell? w106 ⟨y, 1, none⟩ = some (.pointer q107) ∧
 ∃ (n108 : Int), World.cell? w106 ⟨b1, 1, none⟩ = some (.int .i64 n108) ∧
 C128 q107 n108 w106 fun n109 w110 =>
 ∃ M111 : Int → Int → World → Prop,
 (∀ w115 : World, Drew w110 w115 →
 ∃ (q116 : Option Addr), World.cell? w115 ⟨y, 0, none⟩ = some (.pointer q116) ∧
 ∃ (n117 : Int), World.cell? w115 ⟨b1, 1, none⟩ = some (.int .i64 n117) ∧
 ∃ (n118 : Int), World.cell? w115 ⟨b1, 2, none⟩ = some (.int .i64 n118) ∧
 ∃ (n119 : Int), World.cell? w115 ⟨b1, 3, none⟩ = some (.int .i64 n119) ∧
 C52 q116 n117 n118 n119 w115 fun n120 n121 w122 =>
 M111 n120 n121 w122) ∧
 ∀ (_ : Env) (n112 : Int) (n113 : Int) (w114 : World), M111 n112 n113 w114 →
 IfB (!b4)
 (IfB (decide ((n113 : Int) = 602))
 (K (decide ((n112 : Int) = 0)) w114)
 (K false w114))
 (IfB (!b20)
 (IfB (decide ((n113 : Int) = 602))
 (K (decide ((n112 : Int) = 0)) w114)
 (K false w114))
 (∀ w123 : World, Drew w114 w123 →
 IfB (decide ((n113 : Int) = 0))
 (∃ (a124 : Option Addr) (l124 c124 : Nat), World.cell? w123 ⟨y, 2, none⟩ = some (.slice a124 l124 c124) ∧
 ∃ (n125 : Int), World.cell? w123 ⟨b1, 2, none⟩ = some (.int .i64 n125) ∧
 ∃ (n126 : Int), World.cell? w123 ⟨b1, 3, none⟩ = some (.int .i64 n126) ∧
 PtrOK a124 fun (p127 : Addr) =>
 ((0 : Int) ≤ n125 ∧ n125 < (l124 : Int)) ∧
 ((0 : Int) ≤ n126 ∧ n126 < (8 : Int)) ∧
 ∃ (n128 : Int), World.cell? w123 (Addr.add (Addr.add (Addr.add p127 (Int.toNat n125 * 10)) 2) (Int.toNat n126 * 1)) = some (.int .i64 n128) ∧
 IfB (decide ((n112 : Int) = n128))
 (∃ (q129 : Option Addr), World.cell? w123 ⟨y, 1, none⟩ = some (.pointer q129) ∧
 ∃ (n130 : Int), World.cell? w123 ⟨b1, 1, none⟩ = some (.int .i64 n130) ∧
 Fit .i64 (n109 + 1) ∧
 C128 q129 n130 w123 fun n131 w132 =>
 K (decide ((n131 : Int) = (n109 + 1))) w132)
 (K false w123))
 (K false w123))))
 (IfB (decide ((n26 : Int) = 5))
 (∀ w133 : World, Drew w21 w133 →
 ∃ (q134 : Option Addr), World.cell? w133 ⟨y, 1, none⟩ = some (.pointer q134) ∧
 ∃ (n135 : Int), World.cell? w133 ⟨b1, 1, none⟩ = some (.int .i64 n135) ∧
 C128 q134 n135 w133 fun n136 w137 =>
 ∀ w138 : World, Drew w137 w138 →
 ∃ (q139 : Option Addr), World.cell? w138 ⟨y, 0, none⟩ = some (.pointer q139) ∧
 ∃ (n140 : Int), World.cell? w138 ⟨b1, 1, none⟩ = some (.int .i64 n140) ∧
 ∃ (n141 : Int), World.cell? w138 ⟨b1, 2, none⟩ = some (.int .i64 n141) ∧
 ∃ (n142 : Int), World.cell? w138 ⟨b1, 3, none⟩ = some (.int .i64 n142) ∧
 ∃ (n143 : Int), World.cell? w138 ⟨b1, 4, none⟩ = some (.int .i64 n143) ∧
 C49 q139 n140 n141 n142 n143 w138 fun n144 w145 =>
 IfB (!b4)
 (K (decide ((n144 : Int) = 602)) w145)
 (IfB (!b20)
 (K (decide ((n144 : Int) = 602)) w145)
 (∀ w146 : World, Drew w145 w146 →
 ∃ (a147 : Option Addr) (l147 c147 : Nat), World.cell? w146 ⟨y, 2, none⟩ = some (.slice a147 l147 c147) ∧
 ∃ (n148 : Int), World.cell? w146 ⟨b1, 2, none⟩ = some (.int .i64 n148) ∧
 ∃ (n149 : Int), World.cell? w146 ⟨b1, 3, none⟩ = some (.int .i64 n149) ∧
 ∃ (n150 : Int), World.cell? w146 ⟨b1, 4, none⟩ = some (.int .i64 n150) ∧
 PtrOK a147 fun (p151 : Addr) =>
 ((0 : Int) ≤ n148 ∧ n148 < (l147 : Int)) ∧
 ((0 : Int) ≤ n149 ∧ n149 < (8 : Int)) ∧
 May w146 (Addr.add (Addr.add (Addr.add p151 (Int.toNat n148 * 10)) 2) (Int.toNat n149 * 1)) ∧ ∀ w152 : World, SetC w146 w152 (Addr.add (Addr.add (Addr.add p151 (Int.toNat n148 * 10)) 2) (Int.toNat n149 * 1)) (.int .i64 n150) →
 ∀ w153 : World, Drew w152 w153 →
 IfB (decide ((n144 : Int) = 0))
 (∃ (q154 : Option Addr), World.cell? w153 ⟨y, 1, none⟩ = some (.pointer q154) ∧
 ∃ (n155 : Int), World.cell? w153 ⟨b1, 1, none⟩ = some (.int .i64 n155) ∧
 Fit .i64 (n136 + 1) ∧
 C128 q154 n155 w153 fun n156 w157 =>
 K (decide ((n156 : Int) = (n136 + 1))) w157)
 (K false w153))))
 (IfB (decide ((n26 : Int) = 6))
 (∀ w158 : World, Drew w21 w158 →
 ∃ (q159 : Option Addr), World.cell? w158 ⟨y, 1, none⟩ = some (.pointer q159) ∧
 ∃ (n160 : Int), World.cell? w158 ⟨b1, 1, none⟩ = some (.int .i64 n160) ∧
 C128 q159 n160 w158 fun n161 w162 =>
 ∀ w163 : World, Drew w162 w163 →
 ∃ (q164 : Option Addr), World.cell? w163 ⟨y, 0, none⟩ = some (.pointer q164) ∧
 ∃ (n165 : Int), World.cell? w163 ⟨b1, 1, none⟩ = some (.int .i64 n165) ∧
 ∃ (n166 : Int), World.cell? w163 ⟨b1, 2, none⟩ = some (.int .i64 n166) ∧
 ∃ (n167 : Int), World.cell? w163 ⟨b1, 3, none⟩ = some (.int .i64 n167) ∧
 ∃ (n168 : Int), World.cell? w163 ⟨b1, 4, none⟩ = some (.int .i64 n168) ∧
 C49 q164 n165 n166 n167 n168 w163 fun n169 w170 =>
 IfB (!b4)
 (K (decide ((n169 : Int) = 602)) w170)
 (IfB (!b20)
 (K (decide ((n169 : Int) = 602)) w170)
 (∀ w171 : World, Drew w170 w171 →
 ∃ (a172 : Option Addr) (l172 c172 : Nat), World.cell? w171 ⟨y, 2, none⟩ = some (.slice a172 l172 c172) ∧
 ∃ (n173 : Int), World.cell? w171 ⟨b1, 2, none⟩ = some (.int .i64 n173) ∧
 ∃ (n174 : Int), World.cell? w171 ⟨b1, 3, none⟩ = some (.int .i64 n174) ∧
 ∃ (n175 : Int), World.cell? w171 ⟨b1, 4, none⟩ = some (.int .i64 n175) ∧
 PtrOK a172 fun (p176 : Addr) =>
 ((0 : Int) ≤ n173 ∧ n173 < (l172 : Int)) ∧
 ((0 : Int) ≤ n174 ∧ n174 < (8 : Int)) ∧
 May w171 (Addr.add (Addr.add (Addr.add p176 (Int.toNat n173 * 10)) 2) (Int.toNat n174 * 1)) ∧ ∀ w177 : World, SetC w171 w177 (Addr.add (Addr.add (Addr.add p176 (Int.toNat n173 * 10)) 2) (Int.toNat n174 * 1)) (.int .i64 n175) →
 ∀ w178 : World, Drew w177 w178 →
 IfB (decide ((n169 : Int) = 0))
 (∃ (q179 : Option Addr), World.cell? w178 ⟨y, 1, none⟩ = some (.pointer q179) ∧
 ∃ (n180 : Int), World.cell? w178 ⟨b1, 1, none⟩ = some (.int .i64 n180) ∧
 Fit .i64 (n161 + 1) ∧
 C128 q179 n180 w178 fun n181 w182 =>
 K (decide ((n181 : Int) = (n161 + 1))) w182)
 (K false w178))))
 (M24 w21)))))))) ∧
 ∀ (_ : Env) (w25 : World), M24 w25 →
 ∃ (n183 : Int), ∃ (n184 : Int), ∃ (n185 : Int), ∃ (n186 : Int), ∃ (n187 : Int), CellsAt w25 ⟨b1, 0, none⟩ [.int .i64 n183, .int .i64 n184, .int .i64 n185, .int .i64 n186, .int .i64 n187] ∧
 C139 (some ⟨y, 0, none⟩) n183 n184 n185 n186 n187 b4 b9 w25 fun b188 w189 =>
 K b188 w189
theorem r_f55 (y : Nat) (xa : Int) (xb : Int) (xc : Int) (xd : Int) (xe : Int) (w : World) (K : Bool → World → Prop) (h : V_f55 y xa xb xc xd xe w K) : C55 (some ⟨y, 0, none⟩) xa xb xc xd xe w K :=
  @calls_of_eq Try.prog 55 Try.f55 [.pointer (some ⟨y, 0, none⟩), .agg #[.int .i64 xa, .int .i64 xb, .int .i64 xc, .int .i64 xd, .int .i64 xe]] w [.leaf .bool] K _ (cfg true (fun _ => [])) (fun _ => none) (fun n => bif Nat.beq n 2 then some ⟨[5], [.bool]⟩ else bif Nat.beq n 3 then some ⟨[6], [.bool]⟩ else bif Nat.beq n 4 then some ⟨[7], [.bool]⟩ else bif Nat.beq n 9 then some ⟨[8, 9], [.int .i64, .int .i64]⟩ else bif Nat.beq n 28 then some ⟨[12, 13], [.int .i64, .int .i64]⟩ else bif Nat.beq n 39 then some ⟨[], []⟩ else none) (fun n => bif Nat.beq n 2 then some 25 else bif Nat.beq n 11 then some 10 else bif Nat.beq n 19 then some 8 else bif Nat.beq n 22 then some 8 else bif Nat.beq n 26 then some 6 else bif Nat.beq n 33 then some 6 else bif Nat.beq n 34 then some 12 else bif Nat.beq n 37 then some 13 else none) Try.func55 (by kernel_rfl) (by kernel_rfl) h

end Go.Proofs.Ytfpghcdjfiggiaa.V
