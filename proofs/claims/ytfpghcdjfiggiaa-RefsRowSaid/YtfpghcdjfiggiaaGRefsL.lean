/- Readings of the program's functions. No condition. -/
import Derived.Test.YtfpghcdjfiggiaaGCfg
namespace Go.Proofs.Ytfpghcdjfiggiaa.V
open Go
set_option maxRecDepth 100000
set_option linter.unusedVariables false
/-- gneiss/gneisslaw0.SameInts -/
def V_f140 (aa : Option Addr) (al ac : Nat) (ba : Option Addr) (bl bc : Nat) (w : World) (K : Bool → World → Prop) : Prop :=
 IfB (!decide (((al : Int) : Int) = (bl : Int)))
 (K false w)
 (∃ (I1 : Int → World → Prop) (m2 : Int → World → Nat),
 I1 0 w ∧
 ∀ (_ : Env) (n3 : Int) (w4 : World), I1 n3 w4 →
 IfB (decide ((n3 : Int) < (al : Int)))
 (∀ w5 : World, Drew w4 w5 →
 PtrOK aa fun (p6 : Addr) =>
 ((0 : Int) ≤ n3 ∧ n3 < (al : Int)) ∧
 ∃ (n7 : Int), World.cell? w5 (Addr.add p6 (Int.toNat n3 * 1)) = some (.int .i64 n7) ∧
 PtrOK ba fun (p8 : Addr) =>
 ((0 : Int) ≤ n3 ∧ n3 < (bl : Int)) ∧
 ∃ (n9 : Int), World.cell? w5 (Addr.add p8 (Int.toNat n3 * 1)) = some (.int .i64 n9) ∧
 IfB (!decide ((n7 : Int) = n9))
 (K false w5)
 (Fit .i64 (n3 + 1) ∧
 (I1 (n3 + 1) w5 ∧
 m2 (n3 + 1) w5 < m2 n3 w4)))
 (K true w4))
theorem r_f140 (aa : Option Addr) (al ac : Nat) (ba : Option Addr) (bl bc : Nat) (w : World) (K : Bool → World → Prop) (h : V_f140 aa al ac ba bl bc w K) : C140 aa al ac ba bl bc w K :=
  @calls_of_eq Try.prog 140 Try.f140 [.slice aa al ac, .slice ba bl bc] w [.leaf .bool] K _ (cfg true (fun _ => [])) (fun n => bif Nat.beq n 0 then some ⟨[5], [.int .i64]⟩ else none) (fun _ => none) (fun n => bif Nat.beq n 6 then some 9 else none) Try.func140 (by kernel_rfl) (by kernel_rfl) h

/-- gneiss/gneisslaw13.RefsOnce -/
def V_f24 (many : Int) (back : Int) (w : World) (K : Bool → World → Prop) : Prop :=
 C101  w fun b1 w2 =>
 IfB (!b1)
 (K false w2)
 (C102 8192 1 w2 fun q3 n4 w5 =>
 ∃ (I6 : Option Addr → Nat → Nat → Int → World → Prop) (m7 : Option Addr → Nat → Nat → Int → World → Nat),
 I6 none 0 0 0 w5 ∧
 ∀ (_ : Env) (a8 : Option Addr) (l8 c8 : Nat) (n9 : Int) (w10 : World), I6 a8 l8 c8 n9 w10 →
 IfB (decide ((n9 : Int) < (IntKind.wrap .i64 (1 + (bits .and .i64 many 7)))))
 (C103 q3 0 1 0 1 true w10 fun n11 n12 w13 =>
 IfB (!decide ((n12 : Int) = 0))
 (K false w13)
 (∀ (b14 : Nat) (w15 : World), NewAt w13 w15 b14 #[.int .i64 n11] 3 →
 RunF Try.prog (Builtin.append_ #[42, 42] 42 #[.slice a8 l8 c8, .slice (some ⟨b14, 0, none⟩) 1 1]) w15 [.leaf .slice] fun (a16 : Option Addr) (l16 c16 : Nat) (w17 : World) =>
 (I6 a16 l16 c16 (IntKind.wrap .i64 (n9 + 1)) w17 ∧
 m7 a16 l16 c16 (IntKind.wrap .i64 (n9 + 1)) w17 < m7 a8 l8 c8 n9 w10)))
 (∃ (I18 : Int → World → Prop) (m19 : Int → World → Nat),
 I18 0 w10 ∧
 ∀ (_ : Env) (n20 : Int) (w21 : World), I18 n20 w21 →
 IfB (decide ((n20 : Int) < (IntKind.wrap .i64 (1 + (bits .and .i64 many 7)))))
 (PtrOK a8 fun (p22 : Addr) =>
 ((0 : Int) ≤ n20 ∧ n20 < (l8 : Int)) ∧
 ∃ (n23 : Int), World.cell? w21 (Addr.add p22 (Int.toNat n20 * 1)) = some (.int .i64 n23) ∧
 C104 q3 0 n23 w21 fun n24 n25 w26 =>
 (I18 (IntKind.wrap .i64 (n20 + 1)) w26 ∧
 m19 (IntKind.wrap .i64 (n20 + 1)) w26 < m19 n20 w21))
 (∃ (I27 : Option Addr → Nat → Nat → Int → World → Prop) (m28 : Option Addr → Nat → Nat → Int → World → Nat),
 I27 none 0 0 0 w21 ∧
 ∀ (_ : Env) (a29 : Option Addr) (l29 c29 : Nat) (n30 : Int) (w31 : World), I27 a29 l29 c29 n30 w31 →
 IfB (decide ((n30 : Int) < (IntKind.wrap .i64 (1 + (bits .and .i64 many 7)))))
 (C105 q3 0 w31 fun n32 n33 w34 =>
 ∀ (b35 : Nat) (w36 : World), NewAt w34 w36 b35 #[.int .i64 n32] 3 →
 RunF Try.prog (Builtin.append_ #[42, 42] 42 #[.slice a29 l29 c29, .slice (some ⟨b35, 0, none⟩) 1 1]) w36 [.leaf .slice] fun (a37 : Option Addr) (l37 c37 : Nat) (w38 : World) =>
 (I27 a37 l37 c37 (IntKind.wrap .i64 (n30 + 1)) w38 ∧
 m28 a37 l37 c37 (IntKind.wrap .i64 (n30 + 1)) w38 < m28 a29 l29 c29 n30 w31))
 (∃ (I39 : Int → World → Prop) (m40 : Int → World → Nat),
 I39 0 w31 ∧
 ∀ (_ : Env) (n41 : Int) (w42 : World), I39 n41 w42 →
 IfB (decide ((n41 : Int) < (IntKind.wrap .i64 (1 + (bits .and .i64 many 7)))))
 (C105 q3 0 w42 fun n43 n44 w45 =>
 (I39 (IntKind.wrap .i64 (n41 + 1)) w45 ∧
 m40 (IntKind.wrap .i64 (n41 + 1)) w45 < m40 n41 w42))
 (C106 q3 w42 fun a46 l46 c46 a47 l47 c47 n48 w49 =>
 ∃ M50 : World → Prop,
 (IfB (!decide ((n4 : Int) = 0))
 (K false w49)
 (IfB (!decide ((n48 : Int) = 0))
 (K false w49)
 (IfB (!decide (((l47 : Int) : Int) = (IntKind.wrap .i64 (1 + (bits .and .i64 many 7)))))
 (K false w49)
 (M50 w49)))) ∧
 ∀ (_ : Env) (w51 : World), M50 w51 →
 ∃ (I52 : Int → World → Prop) (m53 : Int → World → Nat),
 I52 0 w51 ∧
 ∀ (_ : Env) (n54 : Int) (w55 : World), I52 n54 w55 →
 IfB (decide ((n54 : Int) < (IntKind.wrap .i64 (1 + (bits .and .i64 many 7)))))
 (C107 q3 w55 fun n56 b57 w58 =>
 IfB (!b57)
 (K false w58)
 (PtrOK a47 fun (p59 : Addr) =>
 ((0 : Int) ≤ n54 ∧ n54 < (l47 : Int)) ∧
 ∃ (n60 : Int), World.cell? w58 (Addr.add p59 (Int.toNat n54 * 1)) = some (.int .i64 n60) ∧
 IfB (!decide ((n56 : Int) = n60))
 (K false w58)
 ((I52 (IntKind.wrap .i64 (n54 + 1)) w58 ∧
 m53 (IntKind.wrap .i64 (n54 + 1)) w58 < m53 n54 w55))))
 (∃ (I61 : Int → World → Prop) (m62 : Int → World → Nat),
 I61 0 w55 ∧
 ∀ (_ : Env) (n63 : Int) (w64 : World), I61 n63 w64 →
 IfB (decide ((n63 : Int) < (bits .and .i64 back 3)))
 (C106 q3 w64 fun a65 l65 c65 a66 l66 c66 n67 w68 =>
 IfB (!decide ((n67 : Int) = 0))
 (K false w68)
 (IfB (!decide (((l65 : Int) : Int) = 0))
 (K false w68)
 (IfB (!decide (((l66 : Int) : Int) = 0))
 (K false w68)
 (C108 q3 w68 fun a69 l69 c69 w70 =>
 IfB (!decide (((l69 : Int) : Int) = (IntKind.wrap .i64 (1 + (bits .and .i64 many 7)))))
 (K false w70)
 ((I61 (IntKind.wrap .i64 (n63 + 1)) w70 ∧
 m62 (IntKind.wrap .i64 (n63 + 1)) w70 < m62 n63 w64))))))
 (∃ (I71 : Int → World → Prop) (m72 : Int → World → Nat),
 I71 0 w64 ∧
 ∀ (_ : Env) (n73 : Int) (w74 : World), I71 n73 w74 →
 IfB (decide ((n73 : Int) < (IntKind.wrap .i64 (1 + (bits .and .i64 many 7)))))
 (C105 q3 0 w74 fun n75 n76 w77 =>
 (I71 (IntKind.wrap .i64 (n73 + 1)) w77 ∧
 m72 (IntKind.wrap .i64 (n73 + 1)) w77 < m72 n73 w74))
 (C106 q3 w74 fun a78 l78 c78 a79 l79 c79 n80 w81 =>
 IfB (decide ((n80 : Int) = 0))
 (IfB (decide (((l78 : Int) : Int) = 0))
 (IfB (decide (((l79 : Int) : Int) = 0))
 (C108 q3 w81 fun a82 l82 c82 w83 =>
 IfB (decide (((l82 : Int) : Int) = 0))
 (K (decide (((l29 : Int) : Int) = (IntKind.wrap .i64 (1 + (bits .and .i64 many 7))))) w83)
 (K false w83))
 (K false w81))
 (K false w81))
 (K false w81)))))))))
theorem r_f24 (many : Int) (back : Int) (w : World) (K : Bool → World → Prop) (h : V_f24 many back w K) : C24 many back w K :=
  @calls_of_eq Try.prog 24 Try.f24 [.int .i64 many, .int .i64 back] w [.leaf .bool] K _ (cfg false (fun _ => [])) (fun n => bif Nat.beq n 0 then some ⟨[8, 10], [.slice, .int .i64]⟩ else bif Nat.beq n 2 then some ⟨[13], [.int .i64]⟩ else bif Nat.beq n 4 then some ⟨[9, 14], [.slice, .int .i64]⟩ else bif Nat.beq n 6 then some ⟨[17], [.int .i64]⟩ else bif Nat.beq n 8 then some ⟨[21], [.int .i64]⟩ else bif Nat.beq n 10 then some ⟨[24], [.int .i64]⟩ else bif Nat.beq n 12 then some ⟨[28], [.int .i64]⟩ else none) (fun n => bif Nat.beq n 29 then some ⟨[], []⟩ else none) (fun _ => none) Try.func24 (by kernel_rfl) (by kernel_rfl) h

/-- gneiss/gneisslaw13.RefsWeaks -/
def V_f26 (many : Int) (rounds : Int) (w : World) (K : Bool → World → Prop) : Prop :=
 C101  w fun b1 w2 =>
 IfB (!b1)
 (K false w2)
 (C102 8192 1 w2 fun q3 n4 w5 =>
 C103 q3 0 2 0 3 false w5 fun n6 n7 w8 =>
 ∃ (I9 : Option Addr → Nat → Nat → Int → World → Prop) (m10 : Option Addr → Nat → Nat → Int → World → Nat),
 I9 none 0 0 0 w8 ∧
 ∀ (_ : Env) (a11 : Option Addr) (l11 c11 : Nat) (n12 : Int) (w13 : World), I9 a11 l11 c11 n12 w13 →
 IfB (decide ((n12 : Int) < (IntKind.wrap .i64 (1 + (bits .and .i64 many 15)))))
 (C104 q3 0 n6 w13 fun n14 n15 w16 =>
 IfB (!decide ((n15 : Int) = 0))
 (K false w16)
 (∀ (b17 : Nat) (w18 : World), NewAt w16 w18 b17 #[.int .i64 n14] 3 →
 RunF Try.prog (Builtin.append_ #[42, 42] 42 #[.slice a11 l11 c11, .slice (some ⟨b17, 0, none⟩) 1 1]) w18 [.leaf .slice] fun (a19 : Option Addr) (l19 c19 : Nat) (w20 : World) =>
 (I9 a19 l19 c19 (IntKind.wrap .i64 (n12 + 1)) w20 ∧
 m10 a19 l19 c19 (IntKind.wrap .i64 (n12 + 1)) w20 < m10 a11 l11 c11 n12 w13)))
 (∃ (I21 : Int → World → Prop) (m22 : Int → World → Nat),
 I21 0 w13 ∧
 ∀ (_ : Env) (n23 : Int) (w24 : World), I21 n23 w24 →
 IfB (decide ((n23 : Int) < (bits .and .i64 rounds 3)))
 (C106 q3 w24 fun a25 l25 c25 a26 l26 c26 n27 w28 =>
 ∃ M29 : World → Prop,
 (IfB (!decide (((l25 : Int) : Int) = 0))
 (K false w28)
 (IfB (!decide (((l26 : Int) : Int) = 0))
 (K false w28)
 (IfB (!decide ((n27 : Int) = 0))
 (K false w28)
 (M29 w28)))) ∧
 ∀ (_ : Env) (w30 : World), M29 w30 →
 ∃ (I31 : Int → World → Prop) (m32 : Int → World → Nat),
 I31 0 w30 ∧
 ∀ (_ : Env) (n33 : Int) (w34 : World), I31 n33 w34 →
 IfB (decide ((n33 : Int) < (IntKind.wrap .i64 (1 + (bits .and .i64 many 15)))))
 (PtrOK a11 fun (p35 : Addr) =>
 ((0 : Int) ≤ n33 ∧ n33 < (l11 : Int)) ∧
 ∃ (n36 : Int), World.cell? w34 (Addr.add p35 (Int.toNat n33 * 1)) = some (.int .i64 n36) ∧
 C109 q3 0 n36 w34 fun n37 n38 w39 =>
 IfB (!decide ((n37 : Int) = n6))
 (K false w39)
 (IfB (!decide ((n38 : Int) = 0))
 (K false w39)
 ((I31 (IntKind.wrap .i64 (n33 + 1)) w39 ∧
 m32 (IntKind.wrap .i64 (n33 + 1)) w39 < m32 n33 w34))))
 ((I21 (IntKind.wrap .i64 (n23 + 1)) w34 ∧
 m22 (IntKind.wrap .i64 (n23 + 1)) w34 < m22 n23 w24)))
 (∃ (I40 : Int → World → Prop) (m41 : Int → World → Nat),
 I40 0 w24 ∧
 ∀ (_ : Env) (n42 : Int) (w43 : World), I40 n42 w43 →
 IfB (decide ((n42 : Int) < (IntKind.wrap .i64 (1 + (bits .and .i64 many 15)))))
 (C105 q3 0 w43 fun n44 n45 w46 =>
 (I40 (IntKind.wrap .i64 (n42 + 1)) w46 ∧
 m41 (IntKind.wrap .i64 (n42 + 1)) w46 < m41 n42 w43))
 (C105 q3 0 w43 fun n47 n48 w49 =>
 ∃ (I50 : Int → World → Prop) (m51 : Int → World → Nat),
 I50 0 w49 ∧
 ∀ (_ : Env) (n52 : Int) (w53 : World), I50 n52 w53 →
 IfB (decide ((n52 : Int) < (IntKind.wrap .i64 (1 + (bits .and .i64 many 15)))))
 (C110 q3 0 0 w53 fun n54 w55 =>
 (I50 (IntKind.wrap .i64 (n52 + 1)) w55 ∧
 m51 (IntKind.wrap .i64 (n52 + 1)) w55 < m51 n52 w53))
 (C106 q3 w53 fun a56 l56 c56 a57 l57 c57 n58 w59 =>
 IfB (decide ((n4 : Int) = 0))
 (IfB (decide ((n7 : Int) = 0))
 (IfB (decide ((n58 : Int) = 0))
 (IfB (decide (((l56 : Int) : Int) = (IntKind.wrap .i64 (1 + (bits .and .i64 many 15)))))
 (C108 q3 w59 fun a60 l60 c60 w61 =>
 K (decide (((l60 : Int) : Int) = 0)) w61)
 (K false w59))
 (K false w59))
 (K false w59))
 (K false w59))))))
theorem r_f26 (many : Int) (rounds : Int) (w : World) (K : Bool → World → Prop) (h : V_f26 many rounds w K) : C26 many rounds w K :=
  @calls_of_eq Try.prog 26 Try.f26 [.int .i64 many, .int .i64 rounds] w [.leaf .bool] K _ (cfg false (fun _ => [])) (fun n => bif Nat.beq n 0 then some ⟨[10, 11], [.slice, .int .i64]⟩ else bif Nat.beq n 2 then some ⟨[14], [.int .i64]⟩ else bif Nat.beq n 4 then some ⟨[18], [.int .i64]⟩ else bif Nat.beq n 6 then some ⟨[21], [.int .i64]⟩ else bif Nat.beq n 8 then some ⟨[22], [.int .i64]⟩ else none) (fun n => bif Nat.beq n 20 then some ⟨[], []⟩ else none) (fun _ => none) Try.func26 (by kernel_rfl) (by kernel_rfl) h

/-- gneiss/gneisslaw13.RefsChains -/
def V_f28 (many : Int) (w : World) (K : Bool → World → Prop) : Prop :=
 C101  w fun b1 w2 =>
 IfB (!b1)
 (K false w2)
 (C102 8192 1 w2 fun q3 n4 w5 =>
 C103 q3 0 1 0 1 true w5 fun n6 n7 w8 =>
 ∃ (I9 : Int → Int → World → Prop) (m10 : Int → Int → World → Nat),
 I9 n6 0 w8 ∧
 ∀ (_ : Env) (n11 : Int) (n12 : Int) (w13 : World), I9 n11 n12 w13 →
 IfB (decide ((n12 : Int) < (IntKind.wrap .i64 (1 + (bits .and .i64 many 7)))))
 (C103 q3 0 1 0 1 false w13 fun n14 n15 w16 =>
 IfB (!decide ((n15 : Int) = 0))
 (K false w16)
 (C116 q3 0 n11 0 n14 w16 fun n17 w18 =>
 (I9 n14 (IntKind.wrap .i64 (n12 + 1)) w18 ∧
 m10 n14 (IntKind.wrap .i64 (n12 + 1)) w18 < m10 n11 n12 w13)))
 (C104 q3 0 n11 w13 fun n19 n20 w21 =>
 ∃ (I22 : Int → World → Prop) (m23 : Int → World → Nat),
 I22 0 w21 ∧
 ∀ (_ : Env) (n24 : Int) (w25 : World), I22 n24 w25 →
 IfB (decide ((n24 : Int) < (IntKind.wrap .i64 ((IntKind.wrap .i64 (1 + (bits .and .i64 many 7))) + 2))))
 (C105 q3 0 w25 fun n26 n27 w28 =>
 (I22 (IntKind.wrap .i64 (n24 + 1)) w28 ∧
 m23 (IntKind.wrap .i64 (n24 + 1)) w28 < m23 n24 w25))
 (C110 q3 0 0 w25 fun n29 w30 =>
 C106 q3 w30 fun a31 l31 c31 a32 l32 c32 n33 w34 =>
 ∃ M35 : World → Prop,
 (IfB (!decide (((l31 : Int) : Int) = 1))
 (K false w34)
 (PtrOK a31 fun (p37 : Addr) =>
 ((0 : Int) ≤ 0 ∧ 0 < (l31 : Int)) ∧
 ∃ (n38 : Int), World.cell? w34 (Addr.add p37 (Int.toNat 0 * 1)) = some (.int .i64 n38) ∧
 IfB (!decide ((n38 : Int) = n19))
 (K false w34)
 (IfB (!decide (((l32 : Int) : Int) = 1))
 (K false w34)
 (PtrOK a32 fun (p39 : Addr) =>
 ((0 : Int) ≤ 0 ∧ 0 < (l32 : Int)) ∧
 ∃ (n40 : Int), World.cell? w34 (Addr.add p39 (Int.toNat 0 * 1)) = some (.int .i64 n40) ∧
 IfB (!decide ((n40 : Int) = n6))
 (K false w34)
 (C108 q3 w34 fun a41 l41 c41 w42 =>
 IfB (!decide (((l41 : Int) : Int) = (IntKind.wrap .i64 ((IntKind.wrap .i64 (1 + (bits .and .i64 many 7))) + 1))))
 (K false w42)
 (M35 w42)))))) ∧
 ∀ (_ : Env) (w36 : World), M35 w36 →
 C107 q3 w36 fun n43 b44 w45 =>
 C106 q3 w45 fun a46 l46 c46 a47 l47 c47 n48 w49 =>
 ∃ M50 : World → Prop,
 (IfB (!b44)
 (K false w49)
 (IfB (!decide ((n43 : Int) = n6))
 (K false w49)
 (IfB (!decide (((l47 : Int) : Int) = 0))
 (K false w49)
 (C108 q3 w49 fun a52 l52 c52 w53 =>
 IfB (!decide (((l52 : Int) : Int) = (IntKind.wrap .i64 ((IntKind.wrap .i64 (1 + (bits .and .i64 many 7))) + 1))))
 (K false w53)
 (M50 w53))))) ∧
 ∀ (_ : Env) (w51 : World), M50 w51 →
 ∃ (I54 : Int → Int → World → Prop) (m55 : Int → Int → World → Nat),
 I54 0 n6 w51 ∧
 ∀ (_ : Env) (n56 : Int) (n57 : Int) (w58 : World), I54 n56 n57 w58 →
 IfB (decide ((n56 : Int) < (IntKind.wrap .i64 (1 + (bits .and .i64 many 7)))))
 (C117 q3 0 n57 0 w58 fun n59 n60 w61 =>
 IfB (!decide ((n60 : Int) = 0))
 (K false w61)
 (IfB (decide ((n59 : Int) = 0))
 (K false w61)
 ((I54 (IntKind.wrap .i64 (n56 + 1)) n59 w61 ∧
 m55 (IntKind.wrap .i64 (n56 + 1)) n59 w61 < m55 n56 n57 w58))))
 (C105 q3 0 w58 fun n62 n63 w64 =>
 C106 q3 w64 fun a65 l65 c65 a66 l66 c66 n67 w68 =>
 IfB (decide ((n4 : Int) = 0))
 (IfB (decide ((n7 : Int) = 0))
 (IfB (decide ((n20 : Int) = 0))
 (IfB (decide ((n33 : Int) = 0))
 (IfB (decide ((n48 : Int) = 0))
 (IfB (decide ((n67 : Int) = 0))
 (C108 q3 w68 fun a69 l69 c69 w70 =>
 K (decide (((l69 : Int) : Int) = 0)) w70)
 (K false w68))
 (K false w68))
 (K false w68))
 (K false w68))
 (K false w68))
 (K false w68)))))
theorem r_f28 (many : Int) (w : World) (K : Bool → World → Prop) (h : V_f28 many w K) : C28 many w K :=
  @calls_of_eq Try.prog 28 Try.f28 [.int .i64 many] w [.leaf .bool] K _ (cfg false (fun _ => [])) (fun n => bif Nat.beq n 0 then some ⟨[8, 9], [.int .i64, .int .i64]⟩ else bif Nat.beq n 2 then some ⟨[14], [.int .i64]⟩ else bif Nat.beq n 4 then some ⟨[23, 24], [.int .i64, .int .i64]⟩ else none) (fun n => bif Nat.beq n 24 then some ⟨[], []⟩ else bif Nat.beq n 28 then some ⟨[], []⟩ else none) (fun _ => none) Try.func28 (by kernel_rfl) (by kernel_rfl) h

/-- gneiss/gneisslaw13.RefsRow -/
def V_f25 (many : Int) (cut : Int) (w : World) (K : Bool → World → Prop) : Prop :=
 C101  w fun b1 w2 =>
 IfB (!b1)
 (K false w2)
 (C102 16384 2 w2 fun q3 n4 w5 =>
 ((IntKind.wrap .u64 (IntKind.wrap .i64 (2 + (bits .and .i64 many 15)))) : Int) ≠ 0 ∧
 ∃ (I6 : Int → World → Prop) (m7 : Int → World → Nat),
 I6 0 w5 ∧
 ∀ (_ : Env) (n8 : Int) (w9 : World), I6 n8 w9 →
 IfB (decide ((n8 : Int) < (IntKind.wrap .i64 (2 + (bits .and .i64 many 15)))))
 (C103 q3 (bits .and .i64 n8 1) 1 0 1 true w9 fun n10 n11 w12 =>
 IfB (!decide ((n11 : Int) = 0))
 (K false w12)
 ((I6 (IntKind.wrap .i64 (n8 + 1)) w12 ∧
 m7 (IntKind.wrap .i64 (n8 + 1)) w12 < m7 n8 w9)))
 (∃ (I13 : Option Addr → Nat → Nat → Int → Int → World → Prop) (m14 : Option Addr → Nat → Nat → Int → Int → World → Nat),
 I13 none 0 0 0 0 w9 ∧
 ∀ (_ : Env) (a15 : Option Addr) (l15 c15 : Nat) (n16 : Int) (n17 : Int) (w18 : World), I13 a15 l15 c15 n16 n17 w18 →
 IfB (decide ((n17 : Int) < 2))
 (∃ M19 : Int → World → Prop,
 (∃ (I22 : Int → Int → World → Prop) (m23 : Int → Int → World → Nat),
 I22 n16 0 w18 ∧
 ∀ (_ : Env) (n24 : Int) (n25 : Int) (w26 : World), I22 n24 n25 w26 →
 IfB (decide ((n25 : Int) < (IntKind.wrap .i64 (2 + (bits .and .i64 many 15)))))
 (∃ M27 : World → Prop,
 (IfB (decide ((n17 : Int) = 0))
 (IfB (decide (((IntKind.wrap .i64 (Int.tmod (IntKind.wrap .u64 cut) (IntKind.wrap .u64 (IntKind.wrap .i64 (2 + (bits .and .i64 many 15)))))) : Int) ≤ n25))
 (M19 n24 w26)
 (M27 w26))
 (M27 w26)) ∧
 ∀ (_ : Env) (w28 : World), M27 w28 →
 C105 q3 (bits .and .i64 n25 1) w28 fun n29 n30 w31 =>
 IfB (decide ((n30 : Int) = 0))
 (IfB (decide ((0 : Int) < n29))
 ((I22 (IntKind.wrap .i64 (n24 + 1)) (IntKind.wrap .i64 (n25 + 1)) w31 ∧
 m23 (IntKind.wrap .i64 (n24 + 1)) (IntKind.wrap .i64 (n25 + 1)) w31 < m23 n24 n25 w26))
 ((I22 n24 (IntKind.wrap .i64 (n25 + 1)) w31 ∧
 m23 n24 (IntKind.wrap .i64 (n25 + 1)) w31 < m23 n24 n25 w26)))
 ((I22 n24 (IntKind.wrap .i64 (n25 + 1)) w31 ∧
 m23 n24 (IntKind.wrap .i64 (n25 + 1)) w31 < m23 n24 n25 w26)))
 (M19 n24 w26)) ∧
 ∀ (_ : Env) (n20 : Int) (w21 : World), M19 n20 w21 →
 ∃ M32 : Int → World → Prop,
 (IfB (decide ((n17 : Int) = 1))
 (∃ (I35 : Int → Int → World → Prop) (m36 : Int → Int → World → Nat),
 I35 n20 0 w21 ∧
 ∀ (_ : Env) (n37 : Int) (n38 : Int) (w39 : World), I35 n37 n38 w39 →
 IfB (decide ((n38 : Int) < (IntKind.wrap .i64 (2 * (IntKind.wrap .i64 (2 + (bits .and .i64 many 15)))))))
 (C105 q3 (bits .and .i64 n38 1) w39 fun n40 n41 w42 =>
 IfB (decide ((n41 : Int) = 0))
 (IfB (decide ((0 : Int) < n40))
 ((I35 (IntKind.wrap .i64 (n37 + 1)) (IntKind.wrap .i64 (n38 + 1)) w42 ∧
 m36 (IntKind.wrap .i64 (n37 + 1)) (IntKind.wrap .i64 (n38 + 1)) w42 < m36 n37 n38 w39))
 ((I35 n37 (IntKind.wrap .i64 (n38 + 1)) w42 ∧
 m36 n37 (IntKind.wrap .i64 (n38 + 1)) w42 < m36 n37 n38 w39)))
 ((I35 n37 (IntKind.wrap .i64 (n38 + 1)) w42 ∧
 m36 n37 (IntKind.wrap .i64 (n38 + 1)) w42 < m36 n37 n38 w39)))
 (M32 n37 w39))
 (M32 n20 w21)) ∧
 ∀ (_ : Env) (n33 : Int) (w34 : World), M32 n33 w34 →
 C106 q3 w34 fun a43 l43 c43 a44 l44 c44 n45 w46 =>
 ∃ (I47 : Int → World → Prop) (m48 : Int → World → Nat),
 I47 1 w46 ∧
 ∀ (_ : Env) (n49 : Int) (w50 : World), I47 n49 w50 →
 IfB (decide ((n49 : Int) < (l44 : Int)))
 (∀ w51 : World, Drew w50 w51 →
 PtrOK a44 fun (p52 : Addr) =>
 ((0 : Int) ≤ (IntKind.wrap .i64 (n49 - 1)) ∧ (IntKind.wrap .i64 (n49 - 1)) < (l44 : Int)) ∧
 ∃ (n53 : Int), World.cell? w51 (Addr.add p52 (Int.toNat (IntKind.wrap .i64 (n49 - 1)) * 1)) = some (.int .i64 n53) ∧
 PtrOK a44 fun (p54 : Addr) =>
 ((0 : Int) ≤ n49 ∧ n49 < (l44 : Int)) ∧
 ∃ (n55 : Int), World.cell? w51 (Addr.add p54 (Int.toNat n49 * 1)) = some (.int .i64 n55) ∧
 IfB (decide ((n55 : Int) ≤ n53))
 (K false w51)
 ((I47 (IntKind.wrap .i64 (n49 + 1)) w51 ∧
 m48 (IntKind.wrap .i64 (n49 + 1)) w51 < m48 n49 w50)))
 (RunF Try.prog (Builtin.append_ #[42, 42] 42 #[.slice a15 l15 c15, .slice a44 l44 c44]) w50 [.leaf .slice] fun (a56 : Option Addr) (l56 c56 : Nat) (w57 : World) =>
 IfB (!decide ((n45 : Int) = 0))
 (K false w57)
 (IfB (!decide (((l56 : Int) : Int) = n33))
 (K false w57)
 ((I13 a56 l56 c56 n33 (IntKind.wrap .i64 (n17 + 1)) w57 ∧
 m14 a56 l56 c56 n33 (IntKind.wrap .i64 (n17 + 1)) w57 < m14 a15 l15 c15 n16 n17 w18)))))
 (∃ (I58 : Int → World → Prop) (m59 : Int → World → Nat),
 I58 0 w18 ∧
 ∀ (_ : Env) (n60 : Int) (w61 : World), I58 n60 w61 →
 IfB (decide ((n60 : Int) < (l15 : Int)))
 (C107 q3 w61 fun n62 b63 w64 =>
 IfB (!b63)
 (K false w64)
 (PtrOK a15 fun (p65 : Addr) =>
 ((0 : Int) ≤ n60 ∧ n60 < (l15 : Int)) ∧
 ∃ (n66 : Int), World.cell? w64 (Addr.add p65 (Int.toNat n60 * 1)) = some (.int .i64 n66) ∧
 IfB (!decide ((n62 : Int) = n66))
 (K false w64)
 ((I58 (IntKind.wrap .i64 (n60 + 1)) w64 ∧
 m59 (IntKind.wrap .i64 (n60 + 1)) w64 < m59 n60 w61))))
 (C107 q3 w61 fun n67 b68 w69 =>
 IfB (decide ((n4 : Int) = 0))
 (IfB (!b68)
 (K (decide (((l15 : Int) : Int) = (IntKind.wrap .i64 (2 + (bits .and .i64 many 15))))) w69)
 (K false w69))
 (K false w69)))))
theorem r_f25 (many : Int) (cut : Int) (w : World) (K : Bool → World → Prop) (h : V_f25 many cut w K) : C25 many cut w K :=
  @calls_of_eq Try.prog 25 Try.f25 [.int .i64 many, .int .i64 cut] w [.leaf .bool] K _ (cfg false (fun _ => [])) (fun n => bif Nat.beq n 0 then some ⟨[9], [.int .i64]⟩ else bif Nat.beq n 2 then some ⟨[12, 13, 14], [.slice, .int .i64, .int .i64]⟩ else bif Nat.beq n 4 then some ⟨[13, 15], [.int .i64, .int .i64]⟩ else bif Nat.beq n 6 then some ⟨[13, 18], [.int .i64, .int .i64]⟩ else bif Nat.beq n 8 then some ⟨[24], [.int .i64]⟩ else bif Nat.beq n 10 then some ⟨[25], [.int .i64]⟩ else none) (fun n => bif Nat.beq n 21 then some ⟨[], []⟩ else bif Nat.beq n 24 then some ⟨[13], [.int .i64]⟩ else bif Nat.beq n 31 then some ⟨[13], [.int .i64]⟩ else none) (fun n => bif Nat.beq n 35 then some 10 else none) Try.func25 (by kernel_rfl) (by kernel_rfl) h

end Go.Proofs.Ytfpghcdjfiggiaa.V
