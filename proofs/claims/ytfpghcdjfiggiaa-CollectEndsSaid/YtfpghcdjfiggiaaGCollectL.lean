/- Readings of the program's functions. No condition. -/
import Derived.Test.YtfpghcdjfiggiaaGCfg
namespace Go.Proofs.Ytfpghcdjfiggiaa.V
open Go
set_option maxRecDepth 100000
set_option linter.unusedVariables false
/-- gneiss/gneisslaw12.CollectRoots -/
def V_f27 (picksa : Option Addr) (picksl picksc : Nat) (w : World) (K : Bool → World → Prop) : Prop :=
 C111  w fun b1 w2 =>
 IfB (!b1)
 (K false w2)
 (C112 8192 3 w2 fun q3 n4 w5 =>
 C113 q3 0 1 1 1 w5 fun n6 n7 w8 =>
 C113 q3 1 1 2 1 w8 fun n9 n10 w11 =>
 ∀ (b12 : Nat) (w13 : World), NewAt w11 w13 b12 #[.int .i64 n6] 3 →
 ∀ (b14 : Nat) (w15 : World), NewAt w13 w15 b14 #[.int .i64 n9] 3 →
 ∀ (b16 : Nat) (w17 : World), NewAt w15 w17 b16 #[] 3 →
 ∀ (b18 : Nat) (w19 : World), NewAt w17 w19 b18 #[.slice none 0 0, .slice none 0 0, .slice none 0 0] 156 →
 MayL w19 ⟨b18, 0, none⟩ 3 ∧ ∀ w20 : World, SetL w19 w20 ⟨b18, 0, none⟩ [.slice (some ⟨b12, 0, none⟩) 1 1, .slice (some ⟨b14, 0, none⟩) 1 1, .slice (some ⟨b16, 0, none⟩) 0 0] →
 ∃ M21 : World → Prop,
 (∃ (I23 : Int → World → Prop) (m24 : Int → World → Nat),
 I23 0 w20 ∧
 ∀ (_ : Env) (n25 : Int) (w26 : World), I23 n25 w26 →
 IfB (decide ((n25 : Int) < (picksl : Int)))
 (IfB (decide ((n25 : Int) < 100))
 (PtrOK picksa fun (p27 : Addr) =>
 ((0 : Int) ≤ n25 ∧ n25 < (picksl : Int)) ∧
 ∃ (n28 : Int), World.cell? w26 (Addr.add p27 (Int.toNat n25 * 1)) = some (.int .i64 n28) ∧
 (3 : Int) ≠ 0 ∧
 ∀ (b29 : Nat) (w30 : World), NewAt w26 w30 b29 #[.int .i64 n6, .int .i64 n9, .int .i64 0] 3 →
 PtrOK picksa fun (p31 : Addr) =>
 ((0 : Int) ≤ n25 ∧ n25 < (picksl : Int)) ∧
 ∃ (n32 : Int), World.cell? w30 (Addr.add p31 (Int.toNat n25 * 1)) = some (.int .i64 n32) ∧
 (3 : Int) ≠ 0 ∧
 (3 : Int) ≠ 0 ∧
 ((0 : Int) ≤ (Int.tmod (bits .and .i64 (IntKind.wrap .i64 (Int.tdiv n32 3)) 255) 3) ∧ (Int.tmod (bits .and .i64 (IntKind.wrap .i64 (Int.tdiv n32 3)) 255) 3) < (3 : Int)) ∧
 ∃ (n33 : Int), World.cell? w30 (Addr.add ⟨b29, 0, none⟩ (Int.toNat (Int.tmod (bits .and .i64 (IntKind.wrap .i64 (Int.tdiv n32 3)) 255) 3) * 1)) = some (.int .i64 n33) ∧
 ((0 : Int) ≤ (Int.tmod (bits .and .i64 n28 255) 3) ∧ (Int.tmod (bits .and .i64 n28 255) 3) < (3 : Int)) ∧
 ∃ (a34 : Option Addr) (l34 c34 : Nat), World.cell? w30 (Addr.add ⟨b18, 0, none⟩ (Int.toNat (Int.tmod (bits .and .i64 n28 255) 3) * 1)) = some (.slice a34 l34 c34) ∧
 IfB (decide ((64 : Int) ≤ (l34 : Int)))
 ((I23 (IntKind.wrap .i64 (n25 + 1)) w30 ∧
 m24 (IntKind.wrap .i64 (n25 + 1)) w30 < m24 n25 w26))
 (C114 q3 (Int.tmod (bits .and .i64 n28 255) 3) n33 w30 fun n35 w36 =>
 IfB (!decide ((n35 : Int) = 0))
 (K false w36)
 (((0 : Int) ≤ (Int.tmod (bits .and .i64 n28 255) 3) ∧ (Int.tmod (bits .and .i64 n28 255) 3) < (3 : Int)) ∧
 ∃ (a37 : Option Addr) (l37 c37 : Nat), World.cell? w36 (Addr.add ⟨b18, 0, none⟩ (Int.toNat (Int.tmod (bits .and .i64 n28 255) 3) * 1)) = some (.slice a37 l37 c37) ∧
 ∀ (b38 : Nat) (w39 : World), NewAt w36 w39 b38 #[.int .i64 n33] 3 →
 RunF Try.prog (Builtin.append_ #[42, 42] 42 #[.slice a37 l37 c37, .slice (some ⟨b38, 0, none⟩) 1 1]) w39 [.leaf .slice] fun (a40 : Option Addr) (l40 c40 : Nat) (w41 : World) =>
 ((0 : Int) ≤ (Int.tmod (bits .and .i64 n28 255) 3) ∧ (Int.tmod (bits .and .i64 n28 255) 3) < (3 : Int)) ∧
 May w41 (Addr.add ⟨b18, 0, none⟩ (Int.toNat (Int.tmod (bits .and .i64 n28 255) 3) * 1)) ∧ ∀ w42 : World, SetC w41 w42 (Addr.add ⟨b18, 0, none⟩ (Int.toNat (Int.tmod (bits .and .i64 n28 255) 3) * 1)) (.slice a40 l40 c40) →
 (I23 (IntKind.wrap .i64 (n25 + 1)) w42 ∧
 m24 (IntKind.wrap .i64 (n25 + 1)) w42 < m24 n25 w26))))
 (M21 w26))
 (M21 w26)) ∧
 ∀ (_ : Env) (w22 : World), M21 w22 →
 ∃ (I43 : Int → World → Prop) (m44 : Int → World → Nat),
 I43 0 w22 ∧
 ∀ (_ : Env) (n45 : Int) (w46 : World), I43 n45 w46 →
 IfB (decide ((n45 : Int) < 3))
 (((0 : Int) ≤ n45 ∧ n45 < (3 : Int)) ∧
 ∃ (a47 : Option Addr) (l47 c47 : Nat), World.cell? w46 (Addr.add ⟨b18, 0, none⟩ (Int.toNat n45 * 1)) = some (.slice a47 l47 c47) ∧
 ∃ (I48 : Int → World → Prop) (m49 : Int → World → Nat),
 I48 (IntKind.wrap .i64 ((l47 : Int) - 1)) w46 ∧
 ∀ (_ : Env) (n50 : Int) (w51 : World), I48 n50 w51 →
 IfB (decide ((0 : Int) ≤ n50))
 (C115 q3 n45 w51 fun n52 n53 w54 =>
 IfB (!decide ((n53 : Int) = 0))
 (K false w54)
 (((0 : Int) ≤ n45 ∧ n45 < (3 : Int)) ∧
 ∃ (a55 : Option Addr) (l55 c55 : Nat), World.cell? w54 (Addr.add ⟨b18, 0, none⟩ (Int.toNat n45 * 1)) = some (.slice a55 l55 c55) ∧
 PtrOK a55 fun (p56 : Addr) =>
 ((0 : Int) ≤ n50 ∧ n50 < (l55 : Int)) ∧
 ∃ (n57 : Int), World.cell? w54 (Addr.add p56 (Int.toNat n50 * 1)) = some (.int .i64 n57) ∧
 IfB (!decide ((n52 : Int) = n57))
 (K false w54)
 ((I48 (IntKind.wrap .i64 (n50 - 1)) w54 ∧
 m49 (IntKind.wrap .i64 (n50 - 1)) w54 < m49 n50 w51))))
 (C115 q3 n45 w51 fun n58 n59 w60 =>
 IfB (!decide ((n59 : Int) = 1203))
 (K false w60)
 ((I43 (IntKind.wrap .i64 (n45 + 1)) w60 ∧
 m44 (IntKind.wrap .i64 (n45 + 1)) w60 < m44 n45 w46))))
 (IfB (decide ((n4 : Int) = 0))
 (IfB (decide ((n7 : Int) = 0))
 (K (decide ((n10 : Int) = 0)) w46)
 (K false w46))
 (K false w46)))
theorem r_f27 (picksa : Option Addr) (picksl picksc : Nat) (w : World) (K : Bool → World → Prop) (h : V_f27 picksa picksl picksc w K) : C27 picksa picksl picksc w K :=
  @calls_of_eq Try.prog 27 Try.f27 [.slice picksa picksl picksc] w [.leaf .bool] K _ (cfg false (fun _ => [])) (fun n => bif Nat.beq n 0 then some ⟨[10], [.int .i64]⟩ else bif Nat.beq n 2 then some ⟨[14], [.int .i64]⟩ else bif Nat.beq n 4 then some ⟨[15], [.int .i64]⟩ else none) (fun n => bif Nat.beq n 17 then some ⟨[], []⟩ else none) (fun _ => none) Try.func27 (by kernel_rfl) (by kernel_rfl) h

/-- gneiss/gneisslaw12.CollectFull -/
def V_f29 (size : Int) (rounds : Int) (w : World) (K : Bool → World → Prop) : Prop :=
 C111  w fun b1 w2 =>
 IfB (!b1)
 (K false w2)
 (C112 4096 1 w2 fun q3 n4 w5 =>
 ∃ (I6 : Int → World → Prop) (m7 : Int → World → Nat),
 I6 0 w5 ∧
 ∀ (_ : Env) (n8 : Int) (w9 : World), I6 n8 w9 →
 IfB (decide ((n8 : Int) ≤ (bits .and .i64 rounds 3)))
 (∃ (I10 : Int → World → Prop) (m11 : Int → World → Nat),
 I10 0 w9 ∧
 ∀ (_ : Env) (n12 : Int) (w13 : World), I10 n12 w13 →
 C113 q3 0 2 0 (IntKind.wrap .i64 (20 + (bits .and .i64 size 63))) w13 fun n14 n15 w16 =>
 ∃ M17 : World → Prop,
 (IfB (decide ((n15 : Int) = 1201))
 (((IntKind.wrap .i64 ((IntKind.wrap .i64 (20 + (bits .and .i64 size 63))) + 16)) : Int) ≠ 0 ∧
 IfB (!decide ((n12 : Int) = (min (IntKind.wrap .i64 (Int.tdiv 1024 (IntKind.wrap .i64 ((IntKind.wrap .i64 (20 + (bits .and .i64 size 63))) + 16)))) 64)))
 (K false w16)
 (∃ (I19 : Int → World → Prop) (m20 : Int → World → Nat),
 I19 0 w16 ∧
 ∀ (_ : Env) (n21 : Int) (w22 : World), I19 n21 w22 →
 IfB (decide ((n21 : Int) < n12))
 (C115 q3 0 w22 fun n23 n24 w25 =>
 (I19 (IntKind.wrap .i64 (n21 + 1)) w25 ∧
 m20 (IntKind.wrap .i64 (n21 + 1)) w25 < m20 n21 w22))
 (C118 q3 w22 fun n26 w27 =>
 ∃ (I28 : Int → World → Prop) (m29 : Int → World → Nat),
 I28 0 w27 ∧
 ∀ (_ : Env) (n30 : Int) (w31 : World), I28 n30 w31 →
 C119 q3 1 w31 fun b32 w33 =>
 IfB b32
 (IfB (decide ((8000 : Int) < n30))
 (K false w33)
 ((I28 (IntKind.wrap .i64 (n30 + 1)) w33 ∧
 m29 (IntKind.wrap .i64 (n30 + 1)) w33 < m29 n30 w31)))
 (C120 q3 w33 fun a34 l34 c34 w35 =>
 IfB (!decide (((l34 : Int) : Int) = 0))
 (K false w35)
 ((I6 (IntKind.wrap .i64 (n8 + 1)) w35 ∧
 m7 (IntKind.wrap .i64 (n8 + 1)) w35 < m7 n8 w9))))))
 (IfB (decide ((64 : Int) ≤ n12))
 (((IntKind.wrap .i64 ((IntKind.wrap .i64 (20 + (bits .and .i64 size 63))) + 16)) : Int) ≠ 0 ∧
 IfB (!decide ((n12 : Int) = (min (IntKind.wrap .i64 (Int.tdiv 1024 (IntKind.wrap .i64 ((IntKind.wrap .i64 (20 + (bits .and .i64 size 63))) + 16)))) 64)))
 (K false w16)
 (∃ (I36 : Int → World → Prop) (m37 : Int → World → Nat),
 I36 0 w16 ∧
 ∀ (_ : Env) (n38 : Int) (w39 : World), I36 n38 w39 →
 IfB (decide ((n38 : Int) < n12))
 (C115 q3 0 w39 fun n40 n41 w42 =>
 (I36 (IntKind.wrap .i64 (n38 + 1)) w42 ∧
 m37 (IntKind.wrap .i64 (n38 + 1)) w42 < m37 n38 w39))
 (C118 q3 w39 fun n43 w44 =>
 ∃ (I45 : Int → World → Prop) (m46 : Int → World → Nat),
 I45 0 w44 ∧
 ∀ (_ : Env) (n47 : Int) (w48 : World), I45 n47 w48 →
 C119 q3 1 w48 fun b49 w50 =>
 IfB b49
 (IfB (decide ((8000 : Int) < n47))
 (K false w50)
 ((I45 (IntKind.wrap .i64 (n47 + 1)) w50 ∧
 m46 (IntKind.wrap .i64 (n47 + 1)) w50 < m46 n47 w48)))
 (C120 q3 w50 fun a51 l51 c51 w52 =>
 IfB (!decide (((l51 : Int) : Int) = 0))
 (K false w52)
 ((I6 (IntKind.wrap .i64 (n8 + 1)) w52 ∧
 m7 (IntKind.wrap .i64 (n8 + 1)) w52 < m7 n8 w9))))))
 (M17 w16))) ∧
 ∀ (_ : Env) (w18 : World), M17 w18 →
 IfB (!decide ((n15 : Int) = 0))
 (K false w18)
 ((I10 (IntKind.wrap .i64 (n12 + 1)) w18 ∧
 m11 (IntKind.wrap .i64 (n12 + 1)) w18 < m11 n12 w13)))
 (K (decide ((n4 : Int) = 0)) w9))
theorem r_f29 (size : Int) (rounds : Int) (w : World) (K : Bool → World → Prop) (h : V_f29 size rounds w K) : C29 size rounds w K :=
  @calls_of_eq Try.prog 29 Try.f29 [.int .i64 size, .int .i64 rounds] w [.leaf .bool] K _ (cfg false (fun _ => [])) (fun n => bif Nat.beq n 0 then some ⟨[8], [.int .i64]⟩ else bif Nat.beq n 2 then some ⟨[9], [.int .i64]⟩ else bif Nat.beq n 4 then some ⟨[12], [.int .i64]⟩ else bif Nat.beq n 6 then some ⟨[13], [.int .i64]⟩ else none) (fun n => bif Nat.beq n 11 then some ⟨[], []⟩ else none) (fun _ => none) Try.func29 (by kernel_rfl) (by kernel_rfl) h

/-- gneiss/gneisslaw12.CollectRings -/
def V_f30 (sizesa : Option Addr) (sizesl sizesc : Nat) (w : World) (K : Bool → World → Prop) : Prop :=
 C111  w fun b1 w2 =>
 IfB (!b1)
 (K false w2)
 (C112 16384 1 w2 fun q3 n4 w5 =>
 ∃ M6 : Int → World → Prop,
 (∃ (I9 : Int → Int → World → Prop) (m10 : Int → Int → World → Nat),
 I9 0 0 w5 ∧
 ∀ (_ : Env) (n11 : Int) (n12 : Int) (w13 : World), I9 n11 n12 w13 →
 IfB (decide ((n12 : Int) < (sizesl : Int)))
 (IfB (decide ((n12 : Int) < 6))
 (PtrOK sizesa fun (p14 : Addr) =>
 ((0 : Int) ≤ n12 ∧ n12 < (sizesl : Int)) ∧
 ∃ (n15 : Int), World.cell? w13 (Addr.add p14 (Int.toNat n12 * 1)) = some (.int .i64 n15) ∧
 (8 : Int) ≠ 0 ∧
 ∃ (I16 : Int → Int → Int → World → Prop) (m17 : Int → Int → Int → World → Nat),
 I16 0 0 0 w13 ∧
 ∀ (_ : Env) (n18 : Int) (n19 : Int) (n20 : Int) (w21 : World), I16 n18 n19 n20 w21 →
 IfB (decide ((n20 : Int) < (IntKind.wrap .i64 (1 + (IntKind.wrap .i64 (Int.tmod (IntKind.wrap .u64 n15) 8))))))
 (C113 q3 0 1 0 2 w21 fun n22 n23 w24 =>
 IfB (!decide ((n23 : Int) = 0))
 (K false w24)
 (IfB (decide ((n20 : Int) = 0))
 ((I16 n22 n22 (IntKind.wrap .i64 (n20 + 1)) w24 ∧
 m17 n22 n22 (IntKind.wrap .i64 (n20 + 1)) w24 < m17 n18 n19 n20 w21))
 (C121 q3 0 n19 0 n22 w24 fun n25 w26 =>
 (I16 n18 n22 (IntKind.wrap .i64 (n20 + 1)) w26 ∧
 m17 n18 n22 (IntKind.wrap .i64 (n20 + 1)) w26 < m17 n18 n19 n20 w21))))
 (C121 q3 0 n19 0 n18 w21 fun n27 w28 =>
 ∃ M29 : Int → Int → World → Prop,
 (IfB (decide ((n12 : Int) = 0))
 (M29 (IntKind.wrap .i64 (1 + (IntKind.wrap .i64 (Int.tmod (IntKind.wrap .u64 n15) 8)))) (IntKind.wrap .i64 ((IntKind.wrap .i64 (1 + (IntKind.wrap .i64 (Int.tmod (IntKind.wrap .u64 n15) 8)))) - 1)) w28)
 (M29 n11 (IntKind.wrap .i64 (1 + (IntKind.wrap .i64 (Int.tmod (IntKind.wrap .u64 n15) 8)))) w28)) ∧
 ∀ (_ : Env) (n30 : Int) (n31 : Int) (w32 : World), M29 n30 n31 w32 →
 ∃ (I33 : Int → World → Prop) (m34 : Int → World → Nat),
 I33 0 w32 ∧
 ∀ (_ : Env) (n35 : Int) (w36 : World), I33 n35 w36 →
 IfB (decide ((n35 : Int) < n31))
 (C115 q3 0 w36 fun n37 n38 w39 =>
 (I33 (IntKind.wrap .i64 (n35 + 1)) w39 ∧
 m34 (IntKind.wrap .i64 (n35 + 1)) w39 < m34 n35 w36))
 ((I9 n30 (IntKind.wrap .i64 (n12 + 1)) w36 ∧
 m10 n30 (IntKind.wrap .i64 (n12 + 1)) w36 < m10 n11 n12 w13))))
 (M6 n11 w13))
 (M6 n11 w13)) ∧
 ∀ (_ : Env) (n7 : Int) (w8 : World), M6 n7 w8 →
 ∃ (I40 : Int → World → Prop) (m41 : Int → World → Nat),
 I40 0 w8 ∧
 ∀ (_ : Env) (n42 : Int) (w43 : World), I40 n42 w43 →
 IfB (decide ((n42 : Int) < 2))
 (C118 q3 w43 fun n44 w45 =>
 ∃ (I46 : Int → World → Prop) (m47 : Int → World → Nat),
 I46 0 w45 ∧
 ∀ (_ : Env) (n48 : Int) (w49 : World), I46 n48 w49 →
 C119 q3 1 w49 fun b50 w51 =>
 IfB b50
 (IfB (decide ((8000 : Int) < n48))
 (K false w51)
 ((I46 (IntKind.wrap .i64 (n48 + 1)) w51 ∧
 m47 (IntKind.wrap .i64 (n48 + 1)) w51 < m47 n48 w49)))
 ((I40 (IntKind.wrap .i64 (n42 + 1)) w51 ∧
 m41 (IntKind.wrap .i64 (n42 + 1)) w51 < m41 n42 w43)))
 (IfB (decide ((n4 : Int) = 0))
 (C120 q3 w43 fun a52 l52 c52 w53 =>
 IfB (decide (((l52 : Int) : Int) = n7))
 (C122 q3 w53 fun n54 w55 =>
 K (decide ((n54 : Int) = 2)) w55)
 (K false w53))
 (K false w43)))
theorem r_f30 (sizesa : Option Addr) (sizesl sizesc : Nat) (w : World) (K : Bool → World → Prop) (h : V_f30 sizesa sizesl sizesc w K) : C30 sizesa sizesl sizesc w K :=
  @calls_of_eq Try.prog 30 Try.f30 [.slice sizesa sizesl sizesc] w [.leaf .bool] K _ (cfg false (fun _ => [])) (fun n => bif Nat.beq n 0 then some ⟨[5, 6], [.int .i64, .int .i64]⟩ else bif Nat.beq n 2 then some ⟨[8, 9, 10], [.int .i64, .int .i64, .int .i64]⟩ else bif Nat.beq n 4 then some ⟨[14], [.int .i64]⟩ else bif Nat.beq n 6 then some ⟨[15], [.int .i64]⟩ else bif Nat.beq n 8 then some ⟨[16], [.int .i64]⟩ else none) (fun n => bif Nat.beq n 25 then some ⟨[5, 13], [.int .i64, .int .i64]⟩ else bif Nat.beq n 29 then some ⟨[5], [.int .i64]⟩ else none) (fun _ => none) Try.func30 (by kernel_rfl) (by kernel_rfl) h

/-- gneiss/gneisslaw12.CollectEnds -/
def V_f31 (sizesa : Option Addr) (sizesl sizesc : Nat) (linksa : Option Addr) (linksl linksc : Nat) (drops : Int) (w : World) (K : Bool → World → Prop) : Prop :=
 C111  w fun b1 w2 =>
 IfB (!b1)
 (K false w2)
 (C112 16384 2 w2 fun q3 n4 w5 =>
 ∃ M6 : Option Addr → Nat → Nat → Option Addr → Nat → Nat → Int → World → Prop,
 (∃ (I11 : Option Addr → Nat → Nat → Option Addr → Nat → Nat → Int → Int → World → Prop) (m12 : Option Addr → Nat → Nat → Option Addr → Nat → Nat → Int → Int → World → Nat),
 I11 none 0 0 none 0 0 0 0 w5 ∧
 ∀ (_ : Env) (a13 : Option Addr) (l13 c13 : Nat) (a14 : Option Addr) (l14 c14 : Nat) (n15 : Int) (n16 : Int) (w17 : World), I11 a13 l13 c13 a14 l14 c14 n15 n16 w17 →
 IfB (decide ((n16 : Int) < (sizesl : Int)))
 (IfB (decide ((n16 : Int) < 20))
 (PtrOK sizesa fun (p18 : Addr) =>
 ((0 : Int) ≤ n16 ∧ n16 < (sizesl : Int)) ∧
 ∃ (n19 : Int), World.cell? w17 (Addr.add p18 (Int.toNat n16 * 1)) = some (.int .i64 n19) ∧
 (40 : Int) ≠ 0 ∧
 ∀ (b20 : Nat) (w21 : World), NewAt w17 w21 b20 #[.int .i64 1, .int .i64 3] 3 →
 ((0 : Int) ≤ (bits .and .i64 n16 1) ∧ (bits .and .i64 n16 1) < (2 : Int)) ∧
 ∃ (n22 : Int), World.cell? w21 (Addr.add ⟨b20, 0, none⟩ (Int.toNat (bits .and .i64 n16 1) * 1)) = some (.int .i64 n22) ∧
 C113 q3 0 n22 n16 (IntKind.wrap .i64 (1 + (IntKind.wrap .i64 (Int.tmod (IntKind.wrap .u64 n19) 40)))) w21 fun n23 n24 w25 =>
 IfB (!decide ((n24 : Int) = 0))
 (K false w25)
 (∀ (b26 : Nat) (w27 : World), NewAt w25 w27 b26 #[.int .i64 n23] 3 →
 RunF Try.prog (Builtin.append_ #[42, 42] 42 #[.slice a13 l13 c13, .slice (some ⟨b26, 0, none⟩) 1 1]) w27 [.leaf .slice] fun (a28 : Option Addr) (l28 c28 : Nat) (w29 : World) =>
 ∀ (b30 : Nat) (w31 : World), NewAt w29 w31 b30 #[.int .i64 (IntKind.wrap .i64 (1 + (IntKind.wrap .i64 (Int.tmod (IntKind.wrap .u64 n19) 40))))] 3 →
 RunF Try.prog (Builtin.append_ #[42, 42] 42 #[.slice a14 l14 c14, .slice (some ⟨b30, 0, none⟩) 1 1]) w31 [.leaf .slice] fun (a32 : Option Addr) (l32 c32 : Nat) (w33 : World) =>
 (I11 a28 l28 c28 a32 l32 c32 (IntKind.wrap .i64 (n15 + (IntKind.wrap .i64 (1 + (IntKind.wrap .i64 (Int.tmod (IntKind.wrap .u64 n19) 40)))))) (IntKind.wrap .i64 (n16 + 1)) w33 ∧
 m12 a28 l28 c28 a32 l32 c32 (IntKind.wrap .i64 (n15 + (IntKind.wrap .i64 (1 + (IntKind.wrap .i64 (Int.tmod (IntKind.wrap .u64 n19) 40)))))) (IntKind.wrap .i64 (n16 + 1)) w33 < m12 a13 l13 c13 a14 l14 c14 n15 n16 w17)))
 (M6 a13 l13 c13 a14 l14 c14 n15 w17))
 (M6 a13 l13 c13 a14 l14 c14 n15 w17)) ∧
 ∀ (_ : Env) (a7 : Option Addr) (l7 c7 : Nat) (a8 : Option Addr) (l8 c8 : Nat) (n9 : Int) (w10 : World), M6 a7 l7 c7 a8 l8 c8 n9 w10 →
 RunF Try.prog (Instr.makeSlice 42 (.int .i64 (l7 : Int)) (.int .i64 (l7 : Int))) w10 [.leaf .slice] fun (a34 : Option Addr) (l34 c34 : Nat) (w35 : World) =>
 ∃ (I36 : Int → World → Prop) (m37 : Int → World → Nat),
 I36 0 w35 ∧
 ∀ (_ : Env) (n38 : Int) (w39 : World), I36 n38 w39 →
 IfB (decide ((n38 : Int) < (l7 : Int)))
 (IfB (decide ((n38 : Int) < (linksl : Int)))
 (PtrOK linksa fun (p40 : Addr) =>
 ((0 : Int) ≤ n38 ∧ n38 < (linksl : Int)) ∧
 ∃ (n41 : Int), World.cell? w39 (Addr.add p40 (Int.toNat n38 * 1)) = some (.int .i64 n41) ∧
 ((IntKind.wrap .u64 (l7 : Int)) : Int) ≠ 0 ∧
 PtrOK a7 fun (p42 : Addr) =>
 ((0 : Int) ≤ (IntKind.wrap .i64 (Int.tmod (IntKind.wrap .u64 n41) (IntKind.wrap .u64 (l7 : Int)))) ∧ (IntKind.wrap .i64 (Int.tmod (IntKind.wrap .u64 n41) (IntKind.wrap .u64 (l7 : Int)))) < (l7 : Int)) ∧
 ∃ (n43 : Int), World.cell? w39 (Addr.add p42 (Int.toNat (IntKind.wrap .i64 (Int.tmod (IntKind.wrap .u64 n41) (IntKind.wrap .u64 (l7 : Int)))) * 1)) = some (.int .i64 n43) ∧
 PtrOK a34 fun (p44 : Addr) =>
 ((0 : Int) ≤ n38 ∧ n38 < (l34 : Int)) ∧
 May w39 (Addr.add p44 (Int.toNat n38 * 1)) ∧ ∀ w45 : World, SetC w39 w45 (Addr.add p44 (Int.toNat n38 * 1)) (.int .i64 n43) →
 ∀ w46 : World, Drew w45 w46 →
 PtrOK a7 fun (p47 : Addr) =>
 ((0 : Int) ≤ n38 ∧ n38 < (l7 : Int)) ∧
 ∃ (n48 : Int), World.cell? w46 (Addr.add p47 (Int.toNat n38 * 1)) = some (.int .i64 n48) ∧
 PtrOK a8 fun (p49 : Addr) =>
 ((0 : Int) ≤ n38 ∧ n38 < (l8 : Int)) ∧
 ∃ (n50 : Int), World.cell? w46 (Addr.add p49 (Int.toNat n38 * 1)) = some (.int .i64 n50) ∧
 PtrOK a34 fun (p51 : Addr) =>
 ((0 : Int) ≤ n38 ∧ n38 < (l34 : Int)) ∧
 ∃ (n52 : Int), World.cell? w46 (Addr.add p51 (Int.toNat n38 * 1)) = some (.int .i64 n52) ∧
 C121 q3 0 n48 (IntKind.wrap .i64 (n50 - 1)) n52 w46 fun n53 w54 =>
 (I36 (IntKind.wrap .i64 (n38 + 1)) w54 ∧
 m37 (IntKind.wrap .i64 (n38 + 1)) w54 < m37 n38 w39))
 ((I36 (IntKind.wrap .i64 (n38 + 1)) w39 ∧
 m37 (IntKind.wrap .i64 (n38 + 1)) w39 < m37 n38 w39)))
 (∃ M55 : Int → World → Prop,
 (IfB (decide ((0 : Int) < (l7 : Int)))
 (((IntKind.wrap .u64 (IntKind.wrap .i64 ((l7 : Int) + 1))) : Int) ≠ 0 ∧
 M55 (IntKind.wrap .i64 (Int.tmod (IntKind.wrap .u64 drops) (IntKind.wrap .u64 (IntKind.wrap .i64 ((l7 : Int) + 1))))) w39)
 (M55 (l7 : Int) w39)) ∧
 ∀ (_ : Env) (n56 : Int) (w57 : World), M55 n56 w57 →
 ∃ (I58 : Int → World → Prop) (m59 : Int → World → Nat),
 I58 (l7 : Int) w57 ∧
 ∀ (_ : Env) (n60 : Int) (w61 : World), I58 n60 w61 →
 IfB (decide ((n56 : Int) < n60))
 (C115 q3 0 w61 fun n62 n63 w64 =>
 (I58 (IntKind.wrap .i64 (n60 - 1)) w64 ∧
 m59 (IntKind.wrap .i64 (n60 - 1)) w64 < m59 n60 w61))
 (C123 a7 l7 c7 a34 l34 c34 n56 w61 fun a65 l65 c65 n66 w67 =>
 C118 q3 w67 fun n68 w69 =>
 ∃ (I70 : Int → Bool → World → Prop) (m71 : Int → Bool → World → Nat),
 I70 0 true w69 ∧
 ∀ (_ : Env) (n72 : Int) (b73 : Bool) (w74 : World), I70 n72 b73 w74 →
 IfB b73
 (C124 q3 w74 fun b75 n76 w77 =>
 C125 q3 0 w77 fun n78 w79 =>
 C125 q3 1 w79 fun n80 w81 =>
 IfB (!decide ((n76 : Int) = 0))
 (K false w81)
 (IfB (decide (((IntKind.wrap .i64 ((IntKind.wrap .i64 ((IntKind.wrap .i64 (64 + (IntKind.wrap .i64 (24 * (l7 : Int))))) + (IntKind.wrap .i64 (8 * n9)))) + (IntKind.wrap .i64 (8 * (l7 : Int))))) : Int) < (IntKind.wrap .i64 (n72 + 1))))
 (K false w81)
 ((I70 (IntKind.wrap .i64 (n72 + 1)) b75 w81 ∧
 m71 (IntKind.wrap .i64 (n72 + 1)) b75 w81 < m71 n72 b73 w74))))
 (C120 q3 w74 fun a82 l82 c82 w83 =>
 ∃ M84 : World → Prop,
 (IfB (!decide ((n4 : Int) = 0))
 (K false w83)
 (IfB (!decide ((n68 : Int) = 0))
 (K false w83)
 (IfB (!decide (((l82 : Int) : Int) = n66))
 (K false w83)
 (M84 w83)))) ∧
 ∀ (_ : Env) (w85 : World), M84 w85 →
 ∃ (I86 : Int → World → Prop) (m87 : Int → World → Nat),
 I86 0 w85 ∧
 ∀ (_ : Env) (n88 : Int) (w89 : World), I86 n88 w89 →
 IfB (decide ((n88 : Int) < (l7 : Int)))
 (PtrOK a65 fun (p90 : Addr) =>
 ((0 : Int) ≤ n88 ∧ n88 < (l65 : Int)) ∧
 ∃ (b91 : Bool), World.cell? w89 (Addr.add p90 (Int.toNat n88 * 1)) = some (.bool b91) ∧
 IfB (!b91)
 ((I86 (IntKind.wrap .i64 (n88 + 1)) w89 ∧
 m87 (IntKind.wrap .i64 (n88 + 1)) w89 < m87 n88 w89))
 (∃ M92 : Int → Int → World → Prop,
 (∀ w96 : World, Drew w89 w96 →
 PtrOK a7 fun (p97 : Addr) =>
 ((0 : Int) ≤ n88 ∧ n88 < (l7 : Int)) ∧
 ∃ (n98 : Int), World.cell? w96 (Addr.add p97 (Int.toNat n88 * 1)) = some (.int .i64 n98) ∧
 PtrOK a8 fun (p99 : Addr) =>
 ((0 : Int) ≤ n88 ∧ n88 < (l8 : Int)) ∧
 ∃ (n100 : Int), World.cell? w96 (Addr.add p99 (Int.toNat n88 * 1)) = some (.int .i64 n100) ∧
 C126 q3 1 n98 (IntKind.wrap .i64 (n100 - 1)) w96 fun n101 n102 w103 =>
 M92 n101 n102 w103) ∧
 ∀ (_ : Env) (n93 : Int) (n94 : Int) (w95 : World), M92 n93 n94 w95 →
 IfB (!decide ((n94 : Int) = 0))
 (K false w95)
 (PtrOK a34 fun (p104 : Addr) =>
 ((0 : Int) ≤ n88 ∧ n88 < (l34 : Int)) ∧
 ∃ (n105 : Int), World.cell? w95 (Addr.add p104 (Int.toNat n88 * 1)) = some (.int .i64 n105) ∧
 IfB (!decide ((n93 : Int) = n105))
 (K false w95)
 ((I86 (IntKind.wrap .i64 (n88 + 1)) w95 ∧
 m87 (IntKind.wrap .i64 (n88 + 1)) w95 < m87 n88 w89)))))
 (C122 q3 w89 fun n106 w107 =>
 IfB (decide ((n106 : Int) = 1))
 (C127 q3 w107 fun n108 w109 =>
 K (decide ((n108 : Int) = 0)) w109)
 (K false w107))))))
theorem r_f31 (sizesa : Option Addr) (sizesl sizesc : Nat) (linksa : Option Addr) (linksl linksc : Nat) (drops : Int) (w : World) (K : Bool → World → Prop) (h : V_f31 sizesa sizesl sizesc linksa linksl linksc drops w K) : C31 sizesa sizesl sizesc linksa linksl linksc drops w K :=
  @calls_of_eq Try.prog 31 Try.f31 [.slice sizesa sizesl sizesc, .slice linksa linksl linksc, .int .i64 drops] w [.leaf .bool] K _ (cfg false (fun _ => [])) (fun n => bif Nat.beq n 0 then some ⟨[9, 10, 11, 12], [.slice, .slice, .int .i64, .int .i64]⟩ else bif Nat.beq n 2 then some ⟨[17], [.int .i64]⟩ else bif Nat.beq n 4 then some ⟨[19], [.int .i64]⟩ else bif Nat.beq n 6 then some ⟨[24, 25], [.int .i64, .bool]⟩ else bif Nat.beq n 8 then some ⟨[29], [.int .i64]⟩ else none) (fun n => bif Nat.beq n 16 then some ⟨[9, 10, 11], [.slice, .slice, .int .i64]⟩ else bif Nat.beq n 26 then some ⟨[18], [.int .i64]⟩ else bif Nat.beq n 46 then some ⟨[], []⟩ else bif Nat.beq n 51 then some ⟨[30, 31], [.int .i64, .int .i64]⟩ else none) (fun n => bif Nat.beq n 22 then some 14 else none) Try.func31 (by kernel_rfl) (by kernel_rfl) h

end Go.Proofs.Ytfpghcdjfiggiaa.V
