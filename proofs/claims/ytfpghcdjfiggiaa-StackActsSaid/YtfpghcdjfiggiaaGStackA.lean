/- Readings of the program's functions. No condition. -/
import Derived.Test.YtfpghcdjfiggiaaGCfg
namespace Go.Proofs.Ytfpghcdjfiggiaa.V
open Go
set_option maxRecDepth 100000
set_option linter.unusedVariables false
/-- (*gneiss/gneisslaw5.play).begin -/
def V_f65 (y : Nat) (xa : Int) (xb : Int) (xc : Int) (w : World) (K : Bool → World → Prop) : Prop :=
 ∀ (b1 : Nat) (w2 : World), NewAt w w2 b1 #[.int .i64 xa, .int .i64 xb, .int .i64 xc] 93 →
 ∃ M3 : Int → World → Prop,
 (∃ (n6 : Int), World.cell? w2 ⟨b1, 0, none⟩ = some (.int .i64 n6) ∧
 IfB (decide ((2 : Int) ≤ n6))
 (M3 1 w2)
 (M3 0 w2)) ∧
 ∀ (_ : Env) (n4 : Int) (w5 : World), M3 n4 w5 →
 ∃ M7 : Int → World → Prop,
 (∀ w10 : World, Drew w5 w10 →
 ∃ (n11 : Int), World.cell? w10 ⟨b1, 1, none⟩ = some (.int .i64 n11) ∧
 IfB (decide ((n11 : Int) < 0))
 (M7 501 w10)
 (∃ (n12 : Int), World.cell? w10 ⟨b1, 1, none⟩ = some (.int .i64 n12) ∧
 ∃ (a13 : Option Addr) (l13 c13 : Nat), World.cell? w10 ⟨y, 4, none⟩ = some (.slice a13 l13 c13) ∧
 IfB (decide (((l13 : Int) : Int) ≤ n12))
 (M7 501 w10)
 (∀ w14 : World, Drew w10 w14 →
 ∃ (a15 : Option Addr) (l15 c15 : Nat), World.cell? w14 ⟨y, 4, none⟩ = some (.slice a15 l15 c15) ∧
 ∃ (n16 : Int), World.cell? w14 ⟨b1, 1, none⟩ = some (.int .i64 n16) ∧
 PtrOK a15 fun (p17 : Addr) =>
 ((0 : Int) ≤ n16 ∧ n16 < (l15 : Int)) ∧
 ∃ (n18 : Int), World.cell? w14 (Addr.add p17 (Int.toNat n16 * 1)) = some (.int .i64 n18) ∧
 IfB (decide ((0 : Int) ≤ n18))
 (M7 502 w14)
 (∀ w19 : World, Drew w14 w19 →
 IfB (decide ((n4 : Int) = 0))
 (∃ (n20 : Int), World.cell? w19 ⟨b1, 2, none⟩ = some (.int .i64 n20) ∧
 IfB (decide ((n20 : Int) < 0))
 (M7 504 w19)
 (∃ (n21 : Int), World.cell? w19 ⟨b1, 2, none⟩ = some (.int .i64 n21) ∧
 ∃ (n22 : Int), World.cell? w19 ⟨y, 2, none⟩ = some (.int .i64 n22) ∧
 IfB (decide ((n22 : Int) ≤ n21))
 (M7 504 w19)
 (∃ (a23 : Option Addr) (l23 c23 : Nat), World.cell? w19 ⟨y, 3, none⟩ = some (.slice a23 l23 c23) ∧
 ∃ (n24 : Int), World.cell? w19 ⟨b1, 2, none⟩ = some (.int .i64 n24) ∧
 C145 a23 l23 c23 n24 w19 fun b25 w26 =>
 IfB b25
 (M7 504 w26)
 (∃ (a27 : Option Addr) (l27 c27 : Nat), World.cell? w26 ⟨y, 4, none⟩ = some (.slice a27 l27 c27) ∧
 ∃ (n28 : Int), World.cell? w26 ⟨b1, 2, none⟩ = some (.int .i64 n28) ∧
 C145 a27 l27 c27 n28 w26 fun b29 w30 =>
 IfB b29
 (M7 504 w30)
 (M7 0 w30)))))
 (M7 0 w19))))) ∧
 ∀ (_ : Env) (n8 : Int) (w9 : World), M7 n8 w9 →
 ∀ w31 : World, Drew w9 w31 →
 ∃ (q32 : Option Addr), World.cell? w31 ⟨y, 0, none⟩ = some (.pointer q32) ∧
 ∃ (n33 : Int), World.cell? w31 ⟨b1, 1, none⟩ = some (.int .i64 n33) ∧
 ∃ (n34 : Int), World.cell? w31 ⟨b1, 2, none⟩ = some (.int .i64 n34) ∧
 C62 q32 n33 n4 n34 w31 fun n35 w36 =>
 IfB (decide ((n8 : Int) = 0))
 (∀ w37 : World, Drew w36 w37 →
 ∃ (a38 : Option Addr) (l38 c38 : Nat), World.cell? w37 ⟨y, 4, none⟩ = some (.slice a38 l38 c38) ∧
 ∃ (n39 : Int), World.cell? w37 ⟨b1, 1, none⟩ = some (.int .i64 n39) ∧
 ∃ (n40 : Int), World.cell? w37 ⟨b1, 2, none⟩ = some (.int .i64 n40) ∧
 PtrOK a38 fun (p41 : Addr) =>
 ((0 : Int) ≤ n39 ∧ n39 < (l38 : Int)) ∧
 May w37 (Addr.add p41 (Int.toNat n39 * 1)) ∧ ∀ w42 : World, SetC w37 w42 (Addr.add p41 (Int.toNat n39 * 1)) (.int .i64 n40) →
 IfB (decide ((n4 : Int) = 1))
 (∀ w43 : World, Drew w42 w43 →
 ∃ (a44 : Option Addr) (l44 c44 : Nat), World.cell? w43 ⟨y, 4, none⟩ = some (.slice a44 l44 c44) ∧
 ∃ (n45 : Int), World.cell? w43 ⟨b1, 1, none⟩ = some (.int .i64 n45) ∧
 ∃ (n46 : Int), World.cell? w43 ⟨y, 2, none⟩ = some (.int .i64 n46) ∧
 PtrOK a44 fun (p47 : Addr) =>
 ((0 : Int) ≤ n45 ∧ n45 < (l44 : Int)) ∧
 May w43 (Addr.add p47 (Int.toNat n45 * 1)) ∧ ∀ w48 : World, SetC w43 w48 (Addr.add p47 (Int.toNat n45 * 1)) (.int .i64 n46) →
 K (decide ((n35 : Int) = n8)) w48)
 (K (decide ((n35 : Int) = n8)) w42))
 (K (decide ((n35 : Int) = n8)) w36)
theorem r_f65 (y : Nat) (xa : Int) (xb : Int) (xc : Int) (w : World) (K : Bool → World → Prop) (h : V_f65 y xa xb xc w K) : C65 (some ⟨y, 0, none⟩) xa xb xc w K :=
  @calls_of_eq Try.prog 65 Try.f65 [.pointer (some ⟨y, 0, none⟩), .agg #[.int .i64 xa, .int .i64 xb, .int .i64 xc]] w [.leaf .bool] K _ (cfg true (fun _ => [])) (fun _ => none) (fun n => bif Nat.beq n 4 then some ⟨[5], [.int .i64]⟩ else bif Nat.beq n 11 then some ⟨[6], [.int .i64]⟩ else none) (fun n => bif Nat.beq n 5 then some 14 else bif Nat.beq n 7 then some 10 else bif Nat.beq n 11 then some 9 else bif Nat.beq n 13 then some 9 else bif Nat.beq n 15 then some 11 else none) Try.func65 (by kernel_rfl) (by kernel_rfl) h

/-- (*gneiss/gneisslaw5.play).step -/
def V_f66 (y : Nat) (agent : Int) (w : World) (K : Bool → World → Prop) : Prop :=
 ∃ (q1 : Option Addr), World.cell? w ⟨y, 1, none⟩ = some (.pointer q1) ∧
 C128 q1 agent w fun n2 w3 =>
 ∃ (q4 : Option Addr), World.cell? w3 ⟨y, 0, none⟩ = some (.pointer q4) ∧
 C63 q4 agent w3 fun b5 n6 b7 n8 w9 =>
 ∃ M10 : World → Prop,
 (IfB (decide ((agent : Int) < 0))
 (IfB (decide ((n8 : Int) = 501))
 (IfB (!b5)
 (IfB (decide ((n6 : Int) = 0))
 (K (!b7) w9)
 (K false w9))
 (K false w9))
 (K false w9))
 (∃ (a12 : Option Addr) (l12 c12 : Nat), World.cell? w9 ⟨y, 4, none⟩ = some (.slice a12 l12 c12) ∧
 IfB (decide (((l12 : Int) : Int) ≤ agent))
 (IfB (decide ((n8 : Int) = 501))
 (IfB (!b5)
 (IfB (decide ((n6 : Int) = 0))
 (K (!b7) w9)
 (K false w9))
 (K false w9))
 (K false w9))
 (M10 w9))) ∧
 ∀ (_ : Env) (w11 : World), M10 w11 →
 ∃ (a13 : Option Addr) (l13 c13 : Nat), World.cell? w11 ⟨y, 4, none⟩ = some (.slice a13 l13 c13) ∧
 PtrOK a13 fun (p14 : Addr) =>
 ((0 : Int) ≤ agent ∧ agent < (l13 : Int)) ∧
 ∃ (n15 : Int), World.cell? w11 (Addr.add p14 (Int.toNat agent * 1)) = some (.int .i64 n15) ∧
 IfB (decide ((n15 : Int) < 0))
 (IfB (decide ((n8 : Int) = 503))
 (IfB (!b5)
 (IfB (decide ((n6 : Int) = 0))
 (K (!b7) w11)
 (K false w11))
 (K false w11))
 (K false w11))
 (∃ M16 : World → Prop,
 (IfB (!decide ((n8 : Int) = 0))
 (K false w11)
 (∃ (q18 : Option Addr), World.cell? w11 ⟨y, 1, none⟩ = some (.pointer q18) ∧
 C128 q18 agent w11 fun n19 w20 =>
 Fit .i64 (n2 + 1) ∧
 IfB (decide (((n2 + 1) : Int) < n19))
 (K false w20)
 (M16 w20))) ∧
 ∀ (_ : Env) (w17 : World), M16 w17 →
 IfB (!b5)
 (IfB (decide ((n6 : Int) = 0))
 (K (!b7) w17)
 (K false w17))
 (∃ (a21 : Option Addr) (l21 c21 : Nat), World.cell? w17 ⟨y, 4, none⟩ = some (.slice a21 l21 c21) ∧
 PtrOK a21 fun (p22 : Addr) =>
 ((0 : Int) ≤ agent ∧ agent < (l21 : Int)) ∧
 ∃ (n23 : Int), World.cell? w17 (Addr.add p22 (Int.toNat agent * 1)) = some (.int .i64 n23) ∧
 ∃ (a24 : Option Addr) (l24 c24 : Nat), World.cell? w17 ⟨y, 4, none⟩ = some (.slice a24 l24 c24) ∧
 PtrOK a24 fun (p25 : Addr) =>
 ((0 : Int) ≤ agent ∧ agent < (l24 : Int)) ∧
 May w17 (Addr.add p25 (Int.toNat agent * 1)) ∧ ∀ w26 : World, SetC w17 w26 (Addr.add p25 (Int.toNat agent * 1)) (.int .i64 (-1)) →
 ∃ (n27 : Int), World.cell? w26 ⟨y, 2, none⟩ = some (.int .i64 n27) ∧
 IfB (decide ((n23 : Int) < n27))
 (∃ (a28 : Option Addr) (l28 c28 : Nat), World.cell? w26 ⟨y, 3, none⟩ = some (.slice a28 l28 c28) ∧
 ∀ (b29 : Nat) (w30 : World), NewAt w26 w30 b29 #[.int .i64 n23] 3 →
 RunF Try.prog (Builtin.append_ #[42, 42] 42 #[.slice a28 l28 c28, .slice (some ⟨b29, 0, none⟩) 1 1]) w30 [.leaf .slice] fun (a31 : Option Addr) (l31 c31 : Nat) (w32 : World) =>
 May w32 ⟨y, 3, none⟩ ∧ ∀ w33 : World, SetC w32 w33 ⟨y, 3, none⟩ (.slice a31 l31 c31) →
 IfB b7
 (K (decide ((n6 : Int) = 0)) w33)
 (K false w33))
 (∃ (a34 : Option Addr) (l34 c34 : Nat), World.cell? w26 ⟨y, 3, none⟩ = some (.slice a34 l34 c34) ∧
 IfB (decide (((l34 : Int) : Int) = 0))
 (IfB (!b7)
 (K (decide ((n6 : Int) = 0)) w26)
 (K false w26))
 (∀ w35 : World, Drew w26 w35 →
 ∃ (a36 : Option Addr) (l36 c36 : Nat), World.cell? w35 ⟨y, 3, none⟩ = some (.slice a36 l36 c36) ∧
 ∃ (a37 : Option Addr) (l37 c37 : Nat), World.cell? w35 ⟨y, 3, none⟩ = some (.slice a37 l37 c37) ∧
 Fit .i64 ((l37 : Int) - 1) ∧
 PtrOK a36 fun (p38 : Addr) =>
 ((0 : Int) ≤ ((l37 : Int) - 1) ∧ ((l37 : Int) - 1) < (l36 : Int)) ∧
 ∃ (n39 : Int), World.cell? w35 (Addr.add p38 (Int.toNat ((l37 : Int) - 1) * 1)) = some (.int .i64 n39) ∧
 ∀ w40 : World, Drew w35 w40 →
 ∃ (a41 : Option Addr) (l41 c41 : Nat), World.cell? w40 ⟨y, 3, none⟩ = some (.slice a41 l41 c41) ∧
 ∃ (a42 : Option Addr) (l42 c42 : Nat), World.cell? w40 ⟨y, 3, none⟩ = some (.slice a42 l42 c42) ∧
 Fit .i64 ((l42 : Int) - 1) ∧
 ((0 : Int) ≤ ((l42 : Int) - 1) ∧ ((l42 : Int) - 1) ≤ (c41 : Int)) ∧
 May w40 ⟨y, 3, none⟩ ∧ ∀ w43 : World, SetC w40 w43 ⟨y, 3, none⟩ (.slice a41 (Int.toNat ((l42 : Int) - 1)) c41) →
 IfB b7
 (K (decide ((n6 : Int) = n39)) w43)
 (K false w43)))))
theorem r_f66 (y : Nat) (agent : Int) (w : World) (K : Bool → World → Prop) (h : V_f66 y agent w K) : C66 (some ⟨y, 0, none⟩) agent w K :=
  @calls_of_eq Try.prog 66 Try.f66 [.pointer (some ⟨y, 0, none⟩), .int .i64 agent] w [.leaf .bool] K _ (cfg true (fun _ => [])) (fun _ => none) (fun n => bif Nat.beq n 5 then some ⟨[], []⟩ else bif Nat.beq n 9 then some ⟨[], []⟩ else none) (fun n => bif Nat.beq n 18 then some 13 else bif Nat.beq n 19 then some 14 else none) Try.func66 (by kernel_rfl) (by kernel_rfl) h

/-- gneiss/gneisslaw5.StackActs -/
def V_f14 (agents : Int) (base : Int) (cap0 : Int) (actsa : Option Addr) (actsl actsc : Nat) (w : World) (K : Bool → World → Prop) : Prop :=
 Fit .i64 (1 + (bits .and .i64 agents 7)) ∧
 Fit .i64 (1 + (bits .and .i64 cap0 31)) ∧
 C61 (1 + (bits .and .i64 agents 7)) (bits .and .i64 base 15) (1 + (bits .and .i64 cap0 31)) w fun q1 q2 b3 w4 =>
 IfB (!b3)
 (K false w4)
 (∀ (b5 : Nat) (w6 : World), NewAt w4 w6 b5 #[.pointer q1, .pointer q2, .int .i64 (1 + (bits .and .i64 cap0 31)), .slice none 0 0, .slice none 0 0] 91 →
 ∃ (I7 : Int → World → Prop) (m8 : Int → World → Nat),
 I7 0 w6 ∧
 ∀ (_ : Env) (n9 : Int) (w10 : World), I7 n9 w10 →
 IfB (decide ((n9 : Int) < (1 + (bits .and .i64 agents 7))))
 (∃ (a11 : Option Addr) (l11 c11 : Nat), World.cell? w10 ⟨b5, 4, none⟩ = some (.slice a11 l11 c11) ∧
 ∀ (b12 : Nat) (w13 : World), NewAt w10 w13 b12 #[.int .i64 (-1)] 3 →
 RunF Try.prog (Builtin.append_ #[42, 42] 42 #[.slice a11 l11 c11, .slice (some ⟨b12, 0, none⟩) 1 1]) w13 [.leaf .slice] fun (a14 : Option Addr) (l14 c14 : Nat) (w15 : World) =>
 May w15 ⟨b5, 4, none⟩ ∧ ∀ w16 : World, SetC w15 w16 ⟨b5, 4, none⟩ (.slice a14 l14 c14) →
 Fit .i64 (n9 + 1) ∧
 (I7 (n9 + 1) w16 ∧
 m8 (n9 + 1) w16 < m8 n9 w10))
 (∃ (I17 : Int → World → Prop) (m18 : Int → World → Nat),
 I17 0 w10 ∧
 ∀ (_ : Env) (n19 : Int) (w20 : World), I17 n19 w20 →
 IfB (decide ((n19 : Int) < (actsl : Int)))
 (IfB (decide ((n19 : Int) < 500))
 (PtrOK actsa fun (p21 : Addr) =>
 ((0 : Int) ≤ n19 ∧ n19 < (actsl : Int)) ∧
 ∃ (n22 : Int), ∃ (n23 : Int), ∃ (n24 : Int), CellsAt w20 (Addr.add p21 (Int.toNat n19 * 3)) [.int .i64 n22, .int .i64 n23, .int .i64 n24] ∧
 ∀ (b25 : Nat) (w26 : World), NewAt w20 w26 b25 #[.int .i64 0, .int .i64 0, .int .i64 0] 93 →
 MayL w26 ⟨b25, 0, none⟩ 3 ∧ ∀ w27 : World, SetL w26 w27 ⟨b25, 0, none⟩ [.int .i64 n22, .int .i64 n23, .int .i64 n24] →
 ∃ M28 : Bool → World → Prop,
 (∃ (n31 : Int), World.cell? w27 ⟨b25, 0, none⟩ = some (.int .i64 n31) ∧
 IfB (decide ((n31 : Int) < 4))
 (∃ (n32 : Int), ∃ (n33 : Int), ∃ (n34 : Int), CellsAt w27 ⟨b25, 0, none⟩ [.int .i64 n32, .int .i64 n33, .int .i64 n34] ∧
 C65 (some ⟨b5, 0, none⟩) n32 n33 n34 w27 fun b35 w36 =>
 M28 b35 w36)
 (∃ (n37 : Int), World.cell? w27 ⟨b25, 1, none⟩ = some (.int .i64 n37) ∧
 C66 (some ⟨b5, 0, none⟩) n37 w27 fun b38 w39 =>
 M28 b38 w39)) ∧
 ∀ (_ : Env) (b29 : Bool) (w30 : World), M28 b29 w30 →
 IfB (!b29)
 (K false w30)
 (∃ (q40 : Option Addr), World.cell? w30 ⟨b5, 0, none⟩ = some (.pointer q40) ∧
 C60 q40 w30 fun a41 l41 c41 w42 =>
 ∃ (q43 : Option Addr), World.cell? w42 ⟨b5, 0, none⟩ = some (.pointer q43) ∧
 C60 q43 w42 fun a44 l44 c44 w45 =>
 ∃ (I46 : Int → World → Prop) (m47 : Int → World → Nat),
 I46 0 w45 ∧
 ∀ (_ : Env) (n48 : Int) (w49 : World), I46 n48 w49 →
 IfB (decide ((n48 : Int) < (l41 : Int)))
 (∀ w50 : World, Drew w49 w50 →
 ∃ (a51 : Option Addr) (l51 c51 : Nat), World.cell? w50 ⟨b5, 3, none⟩ = some (.slice a51 l51 c51) ∧
 IfB (!decide (((l41 : Int) : Int) = (l51 : Int)))
 (K false w50)
 (PtrOK a41 fun (p52 : Addr) =>
 ((0 : Int) ≤ n48 ∧ n48 < (l41 : Int)) ∧
 ∃ (n53 : Int), World.cell? w50 (Addr.add p52 (Int.toNat n48 * 1)) = some (.int .i64 n53) ∧
 ∃ (a54 : Option Addr) (l54 c54 : Nat), World.cell? w50 ⟨b5, 3, none⟩ = some (.slice a54 l54 c54) ∧
 ∃ (a55 : Option Addr) (l55 c55 : Nat), World.cell? w50 ⟨b5, 3, none⟩ = some (.slice a55 l55 c55) ∧
 Fit .i64 ((l55 : Int) - 1) ∧
 Fit .i64 (((l55 : Int) - 1) - n48) ∧
 PtrOK a54 fun (p56 : Addr) =>
 ((0 : Int) ≤ (((l55 : Int) - 1) - n48) ∧ (((l55 : Int) - 1) - n48) < (l54 : Int)) ∧
 ∃ (n57 : Int), World.cell? w50 (Addr.add p56 (Int.toNat (((l55 : Int) - 1) - n48) * 1)) = some (.int .i64 n57) ∧
 IfB (!decide ((n53 : Int) = n57))
 (K false w50)
 (Fit .i64 (n48 + 1) ∧
 (I46 (n48 + 1) w50 ∧
 m47 (n48 + 1) w50 < m47 n48 w49))))
 (C56 a41 l41 c41 w49 fun w58 =>
 ∀ w59 : World, Drew w58 w59 →
 ∃ (a60 : Option Addr) (l60 c60 : Nat), World.cell? w59 ⟨b5, 3, none⟩ = some (.slice a60 l60 c60) ∧
 IfB (!decide (((l44 : Int) : Int) = (l60 : Int)))
 (K false w59)
 (IfB (decide ((0 : Int) < (l44 : Int)))
 (PtrOK a44 fun (p61 : Addr) =>
 ((0 : Int) ≤ 0 ∧ 0 < (l44 : Int)) ∧
 ∃ (n62 : Int), World.cell? w59 (Addr.add p61 (Int.toNat 0 * 1)) = some (.int .i64 n62) ∧
 ∃ (a63 : Option Addr) (l63 c63 : Nat), World.cell? w59 ⟨b5, 3, none⟩ = some (.slice a63 l63 c63) ∧
 ∃ (a64 : Option Addr) (l64 c64 : Nat), World.cell? w59 ⟨b5, 3, none⟩ = some (.slice a64 l64 c64) ∧
 Fit .i64 ((l64 : Int) - 1) ∧
 PtrOK a63 fun (p65 : Addr) =>
 ((0 : Int) ≤ ((l64 : Int) - 1) ∧ ((l64 : Int) - 1) < (l63 : Int)) ∧
 ∃ (n66 : Int), World.cell? w59 (Addr.add p65 (Int.toNat ((l64 : Int) - 1) * 1)) = some (.int .i64 n66) ∧
 IfB (!decide ((n62 : Int) = n66))
 (K false w59)
 (Fit .i64 (n19 + 1) ∧
 (I17 (n19 + 1) w59 ∧
 m18 (n19 + 1) w59 < m18 n19 w20)))
 (Fit .i64 (n19 + 1) ∧
 (I17 (n19 + 1) w59 ∧
 m18 (n19 + 1) w59 < m18 n19 w20))))))
 (C57  w20 fun b67 w68 =>
 K b67 w68))
 (C57  w20 fun b69 w70 =>
 K b69 w70)))
theorem r_f14 (agents : Int) (base : Int) (cap0 : Int) (actsa : Option Addr) (actsl actsc : Nat) (w : World) (K : Bool → World → Prop) (h : V_f14 agents base cap0 actsa actsl actsc w K) : C14 agents base cap0 actsa actsl actsc w K :=
  @calls_of_eq Try.prog 14 Try.f14 [.int .i64 agents, .int .i64 base, .int .i64 cap0, .slice actsa actsl actsc] w [.leaf .bool] K _ (cfg true (fun _ => [])) (fun n => bif Nat.beq n 0 then some ⟨[16], [.int .i64]⟩ else bif Nat.beq n 2 then some ⟨[17], [.int .i64]⟩ else bif Nat.beq n 4 then some ⟨[22], [.int .i64]⟩ else none) (fun n => bif Nat.beq n 18 then some ⟨[19], [.bool]⟩ else none) (fun n => bif Nat.beq n 25 then some 29 else bif Nat.beq n 28 then some 31 else none) Try.func14 (by kernel_rfl) (by kernel_rfl) h

end Go.Proofs.Ytfpghcdjfiggiaa.V
