/- Readings of the program's functions. No condition. -/
import Derived.Test.YtfpghcdjfiggiaaGCfg
namespace Go.Proofs.Ytfpghcdjfiggiaa.V
open Go
set_option maxRecDepth 100000
set_option linter.unusedVariables false
/-- gneiss/gneisslaw0.SameInts -/
def V_f140 (aa : Option Addr) (al ac : Nat) (ba : Option Addr) (bl bc : Nat) (w : World) (K : Bool → World → Prop) : Prop :=
 IfB (!decide (((al : Int) : Int) = (bl : Int)))
 (K false w)
 (∃ (I1 : Int → World → Prop) (m2 : Int → World → Nat),
 I1 0 w ∧
 ∀ (_ : Env) (n3 : Int) (w4 : World), I1 n3 w4 →
 IfB (decide ((n3 : Int) < (al : Int)))
 (∀ w5 : World, Drew w4 w5 →
 PtrOK aa fun (p6 : Addr) =>
 ((0 : Int) ≤ n3 ∧ n3 < (al : Int)) ∧
 ∃ (n7 : Int), World.cell? w5 (Addr.add p6 (Int.toNat n3 * 1)) = some (.int .i64 n7) ∧
 PtrOK ba fun (p8 : Addr) =>
 ((0 : Int) ≤ n3 ∧ n3 < (bl : Int)) ∧
 ∃ (n9 : Int), World.cell? w5 (Addr.add p8 (Int.toNat n3 * 1)) = some (.int .i64 n9) ∧
 IfB (!decide ((n7 : Int) = n9))
 (K false w5)
 (Fit .i64 (n3 + 1) ∧
 (I1 (n3 + 1) w5 ∧
 m2 (n3 + 1) w5 < m2 n3 w4)))
 (K true w4))
theorem r_f140 (aa : Option Addr) (al ac : Nat) (ba : Option Addr) (bl bc : Nat) (w : World) (K : Bool → World → Prop) (h : V_f140 aa al ac ba bl bc w K) : C140 aa al ac ba bl bc w K :=
  @calls_of_eq Try.prog 140 Try.f140 [.slice aa al ac, .slice ba bl bc] w [.leaf .bool] K _ (cfg true (fun _ => [])) (fun n => bif Nat.beq n 0 then some ⟨[5], [.int .i64]⟩ else none) (fun _ => none) (fun n => bif Nat.beq n 6 then some 9 else none) Try.func140 (by kernel_rfl) (by kernel_rfl) h

/-- gneiss/gneisslaw5.has -/
def V_f145 (xsa : Option Addr) (xsl xsc : Nat) (x : Int) (w : World) (K : Bool → World → Prop) : Prop :=
 ∃ (I1 : Int → World → Prop) (m2 : Int → World → Nat),
 I1 0 w ∧
 ∀ (_ : Env) (n3 : Int) (w4 : World), I1 n3 w4 →
 IfB (decide ((n3 : Int) < (xsl : Int)))
 (PtrOK xsa fun (p5 : Addr) =>
 ((0 : Int) ≤ n3 ∧ n3 < (xsl : Int)) ∧
 ∃ (n6 : Int), World.cell? w4 (Addr.add p5 (Int.toNat n3 * 1)) = some (.int .i64 n6) ∧
 IfB (decide ((n6 : Int) = x))
 (K true w4)
 (Fit .i64 (n3 + 1) ∧
 (I1 (n3 + 1) w4 ∧
 m2 (n3 + 1) w4 < m2 n3 w4)))
 (K false w4)
theorem r_f145 (xsa : Option Addr) (xsl xsc : Nat) (x : Int) (w : World) (K : Bool → World → Prop) (h : V_f145 xsa xsl xsc x w K) : C145 xsa xsl xsc x w K :=
  @calls_of_eq Try.prog 145 Try.f145 [.slice xsa xsl xsc, .int .i64 x] w [.leaf .bool] K _ (cfg true (fun _ => [])) (fun n => bif Nat.beq n 0 then some ⟨[5], [.int .i64]⟩ else none) (fun _ => none) (fun _ => none) Try.func145 (by kernel_rfl) (by kernel_rfl) h

/-- gneiss/gneisslaw5.awake -/
def V_f57 (w : World) (K : Bool → World → Prop) : Prop :=
 C61 2 3 4 w fun q1 q2 b3 w4 =>
 IfB (!b3)
 (K false w4)
 (C59 q1 0 0 2 w4 fun n5 b6 n7 b8 w9 =>
 C59 q1 1 0 3 w9 fun n10 b11 n12 b13 w14 =>
 C62 q1 0 0 3 w14 fun n15 w16 =>
 C59 q1 0 1 0 w16 fun n17 b18 n19 b20 w21 =>
 C63 q1 1 w21 fun b22 n23 b24 n25 w26 =>
 C58 none 0 1 w26 fun q27 n28 w29 =>
 IfB b6
 (IfB b8
 (IfB b11
 (IfB b13
 (IfB (decide ((n15 : Int) = 504))
 (IfB (decide ((n17 : Int) = 3))
 (IfB b18
 (IfB b20
 (IfB (decide ((n25 : Int) = 503))
 (IfB (decide ((n28 : Int) = 1))
 (C60 q1 w29 fun a30 l30 c30 w31 =>
 ∀ (b32 : Nat) (w33 : World), NewAt w31 w33 b32 #[.int .i64 2] 3 →
 C140 a30 l30 c30 (some ⟨b32, 0, none⟩) 1 1 w33 fun b34 w35 =>
 K b34 w35)
 (K false w29))
 (K false w29))
 (K false w29))
 (K false w29))
 (K false w29))
 (K false w29))
 (K false w29))
 (K false w29))
 (K false w29))
 (K false w29))
theorem r_f57 (w : World) (K : Bool → World → Prop) (h : V_f57 w K) : C57  w K :=
  @calls_of_eq Try.prog 57 Try.f57 [] w [.leaf .bool] K _ (cfg true (fun _ => [])) (fun _ => none) (fun _ => none) (fun _ => none) Try.func57 (by kernel_rfl) (by kernel_rfl) h

/-- gneiss/gneisslaw5.StackForms -/
def V_f10 (words : Int) (base : Int) (cap0 : Int) (w : World) (K : Bool → World → Prop) : Prop :=
 C57  w fun b1 w2 =>
 IfB (!b1)
 (K false w2)
 (Fit .i64 (1 + (bits .and .i64 words 1023)) ∧
 C40 (1 + (bits .and .i64 words 1023)) 1 w2 fun q3 n4 w5 =>
 ∃ (I6 : Int → World → Prop) (m7 : Int → World → Nat),
 I6 0 w5 ∧
 ∀ (_ : Env) (n8 : Int) (w9 : World), I6 n8 w9 →
 IfB (decide ((n8 : Int) < (1 + (bits .and .i64 words 1023))))
 (Fit .i64 (1000 + n8) ∧
 C43 q3 0 n8 (1000 + n8) w9 fun n10 w11 =>
 Fit .i64 (n8 + 1) ∧
 (I6 (n8 + 1) w11 ∧
 m7 (n8 + 1) w11 < m7 n8 w9))
 (C58 q3 base cap0 w9 fun q12 n13 w14 =>
 ∃ M15 : World → Prop,
 (IfB (decide ((cap0 : Int) < 1))
 (IfB (decide ((n13 : Int) = 500))
 (K (Option.isNone q12) w14)
 (K false w14))
 (IfB (decide ((1000 : Int) < cap0))
 (IfB (decide ((n13 : Int) = 500))
 (K (Option.isNone q12) w14)
 (K false w14))
 (IfB (decide ((base : Int) < 0))
 (IfB (decide ((n13 : Int) = 500))
 (K (Option.isNone q12) w14)
 (K false w14))
 (IfB (decide (((1 + (bits .and .i64 words 1023)) : Int) < base))
 (IfB (decide ((n13 : Int) = 500))
 (K (Option.isNone q12) w14)
 (K false w14))
 (Fit .i64 (2 * cap0) ∧
 Fit .i64 ((2 * cap0) + 8) ∧
 Fit .i64 ((1 + (bits .and .i64 words 1023)) - base) ∧
 IfB (decide ((((1 + (bits .and .i64 words 1023)) - base) : Int) < ((2 * cap0) + 8)))
 (IfB (decide ((n13 : Int) = 500))
 (K (Option.isNone q12) w14)
 (K false w14))
 (M15 w14)))))) ∧
 ∀ (_ : Env) (w16 : World), M15 w16 →
 ∃ M17 : World → Prop,
 (IfB (!decide ((n13 : Int) = 0))
 (K false w16)
 (IfB (Option.isNone q12)
 (K false w16)
 (M17 w16))) ∧
 ∀ (_ : Env) (w18 : World), M17 w18 →
 ∃ M19 : World → Prop,
 (∃ (I21 : Int → World → Prop) (m22 : Int → World → Nat),
 I21 0 w18 ∧
 ∀ (_ : Env) (n23 : Int) (w24 : World), I21 n23 w24 →
 IfB (decide ((n23 : Int) < cap0))
 (IfB (decide ((n23 : Int) < 40))
 (C59 q12 0 0 n23 w24 fun n25 b26 n27 b28 w29 =>
 IfB (!b26)
 (K false w29)
 (IfB (!b28)
 (K false w29)
 (Fit .i64 (n23 + 1) ∧
 (I21 (n23 + 1) w29 ∧
 m22 (n23 + 1) w29 < m22 n23 w24))))
 (M19 w24))
 (M19 w24)) ∧
 ∀ (_ : Env) (w20 : World), M19 w20 →
 ∃ (I30 : Int → World → Prop) (m31 : Int → World → Nat),
 I30 0 w20 ∧
 ∀ (_ : Env) (n32 : Int) (w33 : World), I30 n32 w33 →
 IfB (decide ((n32 : Int) < (1 + (bits .and .i64 words 1023))))
 (C42 q3 0 n32 w33 fun n34 n35 w36 =>
 IfB (decide ((n32 : Int) < base))
 (Fit .i64 (1000 + n32) ∧
 IfB (!decide ((n34 : Int) = (1000 + n32)))
 (K false w36)
 (Fit .i64 (n32 + 1) ∧
 (I30 (n32 + 1) w36 ∧
 m31 (n32 + 1) w36 < m31 n32 w33)))
 (Fit .i64 (2 * cap0) ∧
 Fit .i64 (base + (2 * cap0)) ∧
 Fit .i64 ((base + (2 * cap0)) + 8) ∧
 IfB (decide ((((base + (2 * cap0)) + 8) : Int) ≤ n32))
 (Fit .i64 (1000 + n32) ∧
 IfB (!decide ((n34 : Int) = (1000 + n32)))
 (K false w36)
 (Fit .i64 (n32 + 1) ∧
 (I30 (n32 + 1) w36 ∧
 m31 (n32 + 1) w36 < m31 n32 w33)))
 (Fit .i64 (n32 + 1) ∧
 (I30 (n32 + 1) w36 ∧
 m31 (n32 + 1) w36 < m31 n32 w33))))
 (C60 q12 w33 fun a37 l37 c37 w38 =>
 K (decide (((l37 : Int) : Int) = (min cap0 40))) w38)))
theorem r_f10 (words : Int) (base : Int) (cap0 : Int) (w : World) (K : Bool → World → Prop) (h : V_f10 words base cap0 w K) : C10 words base cap0 w K :=
  @calls_of_eq Try.prog 10 Try.f10 [.int .i64 words, .int .i64 base, .int .i64 cap0] w [.leaf .bool] K _ (cfg true (fun _ => [])) (fun n => bif Nat.beq n 0 then some ⟨[10], [.int .i64]⟩ else bif Nat.beq n 2 then some ⟨[13], [.int .i64]⟩ else bif Nat.beq n 4 then some ⟨[18], [.int .i64]⟩ else none) (fun n => bif Nat.beq n 12 then some ⟨[], []⟩ else bif Nat.beq n 14 then some ⟨[], []⟩ else bif Nat.beq n 20 then some ⟨[], []⟩ else none) (fun _ => none) Try.func10 (by kernel_rfl) (by kernel_rfl) h

/-- gneiss/gneisslaw5.StackAlone -/
def V_f11 (lefta : Option Addr) (leftl leftc : Nat) (cap0 : Int) (w : World) (K : Bool → World → Prop) : Prop :=
 C57  w fun b1 w2 =>
 IfB (!b1)
 (K false w2)
 (Fit .i64 (4 + (bits .and .i64 cap0 15)) ∧
 C61 8 0 (4 + (bits .and .i64 cap0 15)) w2 fun q3 q4 b5 w6 =>
 IfB (!b5)
 (K false w6)
 (∃ (I7 : Int → World → Prop) (m8 : Int → World → Nat),
 I7 0 w6 ∧
 ∀ (_ : Env) (n9 : Int) (w10 : World), I7 n9 w10 →
 IfB (decide ((n9 : Int) < 4))
 (C59 q3 7 0 n9 w10 fun n11 b12 n13 b14 w15 =>
 Fit .i64 (n9 + 1) ∧
 (I7 (n9 + 1) w15 ∧
 m8 (n9 + 1) w15 < m8 n9 w10))
 (∃ M16 : World → Prop,
 (∃ (I18 : Int → World → Prop) (m19 : Int → World → Nat),
 I18 0 w10 ∧
 ∀ (_ : Env) (n20 : Int) (w21 : World), I18 n20 w21 →
 IfB (decide ((n20 : Int) < (leftl : Int)))
 (IfB (decide ((n20 : Int) < 6))
 (C62 q3 n20 1 0 w21 fun n22 w23 =>
 ∃ (I24 : Int → World → Prop) (m25 : Int → World → Nat),
 I24 0 w23 ∧
 ∀ (_ : Env) (n26 : Int) (w27 : World), I24 n26 w27 →
 PtrOK lefta fun (p28 : Addr) =>
 ((0 : Int) ≤ n20 ∧ n20 < (leftl : Int)) ∧
 ∃ (n29 : Int), World.cell? w27 (Addr.add p28 (Int.toNat n20 * 1)) = some (.int .i64 n29) ∧
 IfB (decide ((n26 : Int) < (bits .and .i64 n29 3)))
 (C63 q3 n20 w27 fun b30 n31 b32 n33 w34 =>
 Fit .i64 (n26 + 1) ∧
 (I24 (n26 + 1) w34 ∧
 m25 (n26 + 1) w34 < m25 n26 w27))
 (Fit .i64 (n20 + 1) ∧
 (I18 (n20 + 1) w27 ∧
 m19 (n20 + 1) w27 < m19 n20 w21)))
 (M16 w21))
 (M16 w21)) ∧
 ∀ (_ : Env) (w17 : World), M16 w17 →
 C60 q3 w17 fun a35 l35 c35 w36 =>
 ∃ (I37 : Int → World → Prop) (m38 : Int → World → Nat),
 I37 0 w36 ∧
 ∀ (_ : Env) (n39 : Int) (w40 : World), I37 n39 w40 →
 IfB (decide ((n39 : Int) < (l35 : Int)))
 (C60 q3 w40 fun a41 l41 c41 w42 =>
 C59 q3 7 1 0 w42 fun n43 b44 n45 b46 w47 =>
 IfB (!b46)
 (K false w47)
 (IfB (!b44)
 (K false w47)
 (IfB (decide (((l41 : Int) : Int) = 0))
 (K false w47)
 (PtrOK a41 fun (p48 : Addr) =>
 ((0 : Int) ≤ 0 ∧ 0 < (l41 : Int)) ∧
 ∃ (n49 : Int), World.cell? w47 (Addr.add p48 (Int.toNat 0 * 1)) = some (.int .i64 n49) ∧
 IfB (!decide ((n43 : Int) = n49))
 (K false w47)
 (Fit .i64 (n39 + 1) ∧
 (I37 (n39 + 1) w47 ∧
 m38 (n39 + 1) w47 < m38 n39 w40))))))
 (C59 q3 7 1 0 w40 fun n50 b51 n52 b53 w54 =>
 IfB b53
 (IfB (!b51)
 (C60 q3 w54 fun a55 l55 c55 w56 =>
 K (decide (((l55 : Int) : Int) = 0)) w56)
 (K false w54))
 (K false w54)))))
theorem r_f11 (lefta : Option Addr) (leftl leftc : Nat) (cap0 : Int) (w : World) (K : Bool → World → Prop) (h : V_f11 lefta leftl leftc cap0 w K) : C11 lefta leftl leftc cap0 w K :=
  @calls_of_eq Try.prog 11 Try.f11 [.slice lefta leftl leftc, .int .i64 cap0] w [.leaf .bool] K _ (cfg true (fun _ => [])) (fun n => bif Nat.beq n 0 then some ⟨[9], [.int .i64]⟩ else bif Nat.beq n 2 then some ⟨[10], [.int .i64]⟩ else bif Nat.beq n 4 then some ⟨[11], [.int .i64]⟩ else bif Nat.beq n 6 then some ⟨[13], [.int .i64]⟩ else none) (fun n => bif Nat.beq n 19 then some ⟨[], []⟩ else none) (fun _ => none) Try.func11 (by kernel_rfl) (by kernel_rfl) h

/-- gneiss/gneisslaw5.StackRows -/
def V_f12 (many : Int) (picksa : Option Addr) (picksl picksc : Nat) (w : World) (K : Bool → World → Prop) : Prop :=
 C57  w fun b1 w2 =>
 IfB (!b1)
 (K false w2)
 (Fit .i64 (1 + (bits .and .i64 many 15)) ∧
 C61 4 5 (1 + (bits .and .i64 many 15)) w2 fun q3 q4 b5 w6 =>
 IfB (!b5)
 (K false w6)
 (∃ (I7 : Int → World → Prop) (m8 : Int → World → Nat),
 I7 0 w6 ∧
 ∀ (_ : Env) (n9 : Int) (w10 : World), I7 n9 w10 →
 IfB (decide ((n9 : Int) < (1 + (bits .and .i64 many 15))))
 (Fit .i64 (7 * n9) ∧
 ((1 + (bits .and .i64 many 15)) : Int) ≠ 0 ∧
 C59 q3 (bits .and .i64 n9 3) 0 (Int.tmod (7 * n9) (1 + (bits .and .i64 many 15))) w10 fun n11 b12 n13 b14 w15 =>
 (7 : Int) ≠ 0 ∧
 IfB (!decide (((Int.tmod (1 + (bits .and .i64 many 15)) 7) : Int) = 0))
 (IfB (!b12)
 (K false w15)
 (IfB (!b14)
 (K false w15)
 (Fit .i64 (n9 + 1) ∧
 (I7 (n9 + 1) w15 ∧
 m8 (n9 + 1) w15 < m8 n9 w10))))
 (Fit .i64 (n9 + 1) ∧
 (I7 (n9 + 1) w15 ∧
 m8 (n9 + 1) w15 < m8 n9 w10)))
 ((7 : Int) ≠ 0 ∧
 IfB (decide (((Int.tmod (1 + (bits .and .i64 many 15)) 7) : Int) = 0))
 (K true w10)
 (Fit .i64 ((1 + (bits .and .i64 many 15)) - 1) ∧
 ∃ (I16 : Int → World → Prop) (m17 : Int → World → Nat),
 I16 ((1 + (bits .and .i64 many 15)) - 1) w10 ∧
 ∀ (_ : Env) (n18 : Int) (w19 : World), I16 n18 w19 →
 IfB (decide ((0 : Int) ≤ n18))
 (∃ M20 : Int → World → Prop,
 (IfB (decide ((n18 : Int) < (picksl : Int)))
 (PtrOK picksa fun (p23 : Addr) =>
 ((0 : Int) ≤ n18 ∧ n18 < (picksl : Int)) ∧
 ∃ (n24 : Int), World.cell? w19 (Addr.add p23 (Int.toNat n18 * 1)) = some (.int .i64 n24) ∧
 M20 (bits .and .i64 n24 3) w19)
 (M20 0 w19)) ∧
 ∀ (_ : Env) (n21 : Int) (w22 : World), M20 n21 w22 →
 C59 q3 n21 1 0 w22 fun n25 b26 n27 b28 w29 =>
 IfB (!b26)
 (K false w29)
 (IfB (!b28)
 (K false w29)
 (Fit .i64 (7 * n18) ∧
 ((1 + (bits .and .i64 many 15)) : Int) ≠ 0 ∧
 IfB (!decide ((n25 : Int) = (Int.tmod (7 * n18) (1 + (bits .and .i64 many 15)))))
 (K false w29)
 (Fit .i64 (n18 - 1) ∧
 (I16 (n18 - 1) w29 ∧
 m17 (n18 - 1) w29 < m17 n18 w19)))))
 (C62 q3 4 1 0 w19 fun n30 w31 =>
 C60 q3 w31 fun a32 l32 c32 w33 =>
 IfB (decide (((l32 : Int) : Int) = 0))
 (K (decide ((n30 : Int) = 501)) w33)
 (K false w33))))))
theorem r_f12 (many : Int) (picksa : Option Addr) (picksl picksc : Nat) (w : World) (K : Bool → World → Prop) (h : V_f12 many picksa picksl picksc w K) : C12 many picksa picksl picksc w K :=
  @calls_of_eq Try.prog 12 Try.f12 [.int .i64 many, .slice picksa picksl picksc] w [.leaf .bool] K _ (cfg true (fun _ => [])) (fun n => bif Nat.beq n 0 then some ⟨[9], [.int .i64]⟩ else bif Nat.beq n 2 then some ⟨[14], [.int .i64]⟩ else none) (fun n => bif Nat.beq n 21 then some ⟨[15], [.int .i64]⟩ else none) (fun _ => none) Try.func12 (by kernel_rfl) (by kernel_rfl) h

end Go.Proofs.Ytfpghcdjfiggiaa.V
