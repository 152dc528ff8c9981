/- Readings of the program's functions. No condition. -/
import Derived.Test.YtfpghcdjfiggiaaGCfg
namespace Go.Proofs.Ytfpghcdjfiggiaa.V
open Go
set_option maxRecDepth 100000
set_option linter.unusedVariables false
/-- gneiss/gneisslaw5.ended -/
def V_f64 (s : Nat) (busya : Option Addr) (busyl busyc : Nat) (gota : Option Addr) (gotl gotc : Nat) (next : Int) (w : World) (K : Bool → World → Prop) : Prop :=
 ∃ (I1 : Int → World → Prop) (m2 : Int → World → Nat),
 I1 0 w ∧
 ∀ (_ : Env) (n3 : Int) (w4 : World), I1 n3 w4 →
 IfB (decide ((n3 : Int) < (busyl : Int)))
 (∃ M5 : World → Prop,
 (∃ (I7 : Int → World → Prop) (m8 : Int → World → Nat),
 I7 0 w4 ∧
 ∀ (_ : Env) (n9 : Int) (w10 : World), I7 n9 w10 →
 IfB (decide ((n9 : Int) < 4000))
 (PtrOK busya fun (p11 : Addr) =>
 ((0 : Int) ≤ n3 ∧ n3 < (busyl : Int)) ∧
 ∃ (n12 : Int), World.cell? w10 (Addr.add p11 (Int.toNat n3 * 1)) = some (.int .i64 n12) ∧
 IfB (!decide ((n12 : Int) = 0))
 (C63 (some ⟨s, 0, none⟩) n3 w10 fun b13 n14 b15 n16 w17 =>
 ∃ M18 : World → Prop,
 (IfB (decide ((n14 : Int) < 0))
 (K false w17)
 (IfB (decide (((gotl : Int) : Int) ≤ n14))
 (K false w17)
 (M18 w17))) ∧
 ∀ (_ : Env) (w19 : World), M18 w19 →
 IfB b13
 (PtrOK busya fun (p20 : Addr) =>
 ((0 : Int) ≤ n3 ∧ n3 < (busyl : Int)) ∧
 ∃ (n21 : Int), World.cell? w19 (Addr.add p20 (Int.toNat n3 * 1)) = some (.int .i64 n21) ∧
 IfB (decide ((n21 : Int) = 2))
 (IfB b15
 (PtrOK gota fun (p22 : Addr) =>
 ((0 : Int) ≤ n14 ∧ n14 < (gotl : Int)) ∧
 ∃ (n23 : Int), World.cell? w19 (Addr.add p22 (Int.toNat n14 * 1)) = some (.int .i64 n23) ∧
 Fit .i64 (n23 + 1) ∧
 PtrOK gota fun (p24 : Addr) =>
 ((0 : Int) ≤ n14 ∧ n14 < (gotl : Int)) ∧
 May w19 (Addr.add p24 (Int.toNat n14 * 1)) ∧ ∀ w25 : World, SetC w19 w25 (Addr.add p24 (Int.toNat n14 * 1)) (.int .i64 (n23 + 1)) →
 PtrOK busya fun (p26 : Addr) =>
 ((0 : Int) ≤ n3 ∧ n3 < (busyl : Int)) ∧
 May w25 (Addr.add p26 (Int.toNat n3 * 1)) ∧ ∀ w27 : World, SetC w25 w27 (Addr.add p26 (Int.toNat n3 * 1)) (.int .i64 0) →
 Fit .i64 (n9 + 1) ∧
 (I7 (n9 + 1) w27 ∧
 m8 (n9 + 1) w27 < m8 n9 w10))
 (PtrOK busya fun (p28 : Addr) =>
 ((0 : Int) ≤ n3 ∧ n3 < (busyl : Int)) ∧
 May w19 (Addr.add p28 (Int.toNat n3 * 1)) ∧ ∀ w29 : World, SetC w19 w29 (Addr.add p28 (Int.toNat n3 * 1)) (.int .i64 0) →
 Fit .i64 (n9 + 1) ∧
 (I7 (n9 + 1) w29 ∧
 m8 (n9 + 1) w29 < m8 n9 w10)))
 (PtrOK busya fun (p30 : Addr) =>
 ((0 : Int) ≤ n3 ∧ n3 < (busyl : Int)) ∧
 May w19 (Addr.add p30 (Int.toNat n3 * 1)) ∧ ∀ w31 : World, SetC w19 w31 (Addr.add p30 (Int.toNat n3 * 1)) (.int .i64 0) →
 Fit .i64 (n9 + 1) ∧
 (I7 (n9 + 1) w31 ∧
 m8 (n9 + 1) w31 < m8 n9 w10)))
 (Fit .i64 (n9 + 1) ∧
 (I7 (n9 + 1) w19 ∧
 m8 (n9 + 1) w19 < m8 n9 w10)))
 (M5 w10))
 (M5 w10)) ∧
 ∀ (_ : Env) (w6 : World), M5 w6 →
 PtrOK busya fun (p32 : Addr) =>
 ((0 : Int) ≤ n3 ∧ n3 < (busyl : Int)) ∧
 ∃ (n33 : Int), World.cell? w6 (Addr.add p32 (Int.toNat n3 * 1)) = some (.int .i64 n33) ∧
 IfB (!decide ((n33 : Int) = 0))
 (K false w6)
 (Fit .i64 (n3 + 1) ∧
 (I1 (n3 + 1) w6 ∧
 m2 (n3 + 1) w6 < m2 n3 w4)))
 (C60 (some ⟨s, 0, none⟩) w4 fun a34 l34 c34 w35 =>
 ∃ (I36 : Int → World → Prop) (m37 : Int → World → Nat),
 I36 0 w35 ∧
 ∀ (_ : Env) (n38 : Int) (w39 : World), I36 n38 w39 →
 IfB (decide ((n38 : Int) < (l34 : Int)))
 (∃ M40 : World → Prop,
 (PtrOK a34 fun (p42 : Addr) =>
 ((0 : Int) ≤ n38 ∧ n38 < (l34 : Int)) ∧
 ∃ (n43 : Int), World.cell? w39 (Addr.add p42 (Int.toNat n38 * 1)) = some (.int .i64 n43) ∧
 IfB (decide ((n43 : Int) < 0))
 (K false w39)
 (PtrOK a34 fun (p44 : Addr) =>
 ((0 : Int) ≤ n38 ∧ n38 < (l34 : Int)) ∧
 ∃ (n45 : Int), World.cell? w39 (Addr.add p44 (Int.toNat n38 * 1)) = some (.int .i64 n45) ∧
 IfB (decide (((gotl : Int) : Int) ≤ n45))
 (K false w39)
 (M40 w39))) ∧
 ∀ (_ : Env) (w41 : World), M40 w41 →
 PtrOK a34 fun (p46 : Addr) =>
 ((0 : Int) ≤ n38 ∧ n38 < (l34 : Int)) ∧
 ∃ (n47 : Int), World.cell? w41 (Addr.add p46 (Int.toNat n38 * 1)) = some (.int .i64 n47) ∧
 PtrOK gota fun (p48 : Addr) =>
 ((0 : Int) ≤ n47 ∧ n47 < (gotl : Int)) ∧
 ∃ (n49 : Int), World.cell? w41 (Addr.add p48 (Int.toNat n47 * 1)) = some (.int .i64 n49) ∧
 Fit .i64 (n49 + 1) ∧
 PtrOK gota fun (p50 : Addr) =>
 ((0 : Int) ≤ n47 ∧ n47 < (gotl : Int)) ∧
 May w41 (Addr.add p50 (Int.toNat n47 * 1)) ∧ ∀ w51 : World, SetC w41 w51 (Addr.add p50 (Int.toNat n47 * 1)) (.int .i64 (n49 + 1)) →
 Fit .i64 (n38 + 1) ∧
 (I36 (n38 + 1) w51 ∧
 m37 (n38 + 1) w51 < m37 n38 w39))
 (∃ (I52 : Int → World → Prop) (m53 : Int → World → Nat),
 I52 0 w39 ∧
 ∀ (_ : Env) (n54 : Int) (w55 : World), I52 n54 w55 →
 IfB (decide ((n54 : Int) < (gotl : Int)))
 (∃ M56 : Int → World → Prop,
 (IfB (decide ((n54 : Int) < next))
 (M56 1 w55)
 (M56 0 w55)) ∧
 ∀ (_ : Env) (n57 : Int) (w58 : World), M56 n57 w58 →
 PtrOK gota fun (p59 : Addr) =>
 ((0 : Int) ≤ n54 ∧ n54 < (gotl : Int)) ∧
 ∃ (n60 : Int), World.cell? w58 (Addr.add p59 (Int.toNat n54 * 1)) = some (.int .i64 n60) ∧
 IfB (!decide ((n60 : Int) = n57))
 (K false w58)
 (Fit .i64 (n54 + 1) ∧
 (I52 (n54 + 1) w58 ∧
 m53 (n54 + 1) w58 < m53 n54 w55)))
 (K true w55)))
theorem r_f64 (s : Nat) (busya : Option Addr) (busyl busyc : Nat) (gota : Option Addr) (gotl gotc : Nat) (next : Int) (w : World) (K : Bool → World → Prop) (h : V_f64 s busya busyl busyc gota gotl gotc next w K) : C64 (some ⟨s, 0, none⟩) busya busyl busyc gota gotl gotc next w K :=
  @calls_of_eq Try.prog 64 Try.f64 [.pointer (some ⟨s, 0, none⟩), .slice busya busyl busyc, .slice gota gotl gotc, .int .i64 next] w [.leaf .bool] K _ (cfg true (fun _ => [])) (fun n => bif Nat.beq n 0 then some ⟨[9], [.int .i64]⟩ else bif Nat.beq n 2 then some ⟨[10], [.int .i64]⟩ else bif Nat.beq n 4 then some ⟨[16], [.int .i64]⟩ else bif Nat.beq n 6 then some ⟨[17], [.int .i64]⟩ else none) (fun n => bif Nat.beq n 10 then some ⟨[], []⟩ else bif Nat.beq n 14 then some ⟨[], []⟩ else bif Nat.beq n 22 then some ⟨[], []⟩ else bif Nat.beq n 29 then some ⟨[18], [.int .i64]⟩ else none) (fun _ => none) Try.func64 (by kernel_rfl) (by kernel_rfl) h

/-- gneiss/gneisslaw5.StackMany -/
def V_f13 (agents : Int) (picksa : Option Addr) (picksl picksc : Nat) (w : World) (K : Bool → World → Prop) : Prop :=
 C57  w fun b1 w2 =>
 IfB (!b1)
 (K false w2)
 (Fit .i64 (2 + (bits .and .i64 agents 3)) ∧
 C61 (2 + (bits .and .i64 agents 3)) 0 32 w2 fun q3 q4 b5 w6 =>
 IfB (!b5)
 (K false w6)
 (∃ M7 : Int → Option Addr → Nat → Nat → World → Prop,
 (∀ w11 : World, Drew w6 w11 →
 RunF Try.prog (Instr.makeSlice 42 (.int .i64 32) (.int .i64 32)) w11 [.leaf .slice] fun (a12 : Option Addr) (l12 c12 : Nat) (w13 : World) =>
 M7 0 a12 l12 c12 w13) ∧
 ∀ (_ : Env) (n8 : Int) (a9 : Option Addr) (l9 c9 : Nat) (w10 : World), M7 n8 a9 l9 c9 w10 →
 RunF Try.prog (Instr.makeSlice 42 (.int .i64 (2 + (bits .and .i64 agents 3))) (.int .i64 (2 + (bits .and .i64 agents 3)))) w10 [.leaf .slice] fun (a14 : Option Addr) (l14 c14 : Nat) (w15 : World) =>
 ∃ M16 : Int → World → Prop,
 (∃ (I19 : Int → Int → World → Prop) (m20 : Int → Int → World → Nat),
 I19 n8 0 w15 ∧
 ∀ (_ : Env) (n21 : Int) (n22 : Int) (w23 : World), I19 n21 n22 w23 →
 IfB (decide ((n22 : Int) < (picksl : Int)))
 (IfB (decide ((n22 : Int) < 400))
 (PtrOK picksa fun (p24 : Addr) =>
 ((0 : Int) ≤ n22 ∧ n22 < (picksl : Int)) ∧
 ∃ (n25 : Int), World.cell? w23 (Addr.add p24 (Int.toNat n22 * 1)) = some (.int .i64 n25) ∧
 ((2 + (bits .and .i64 agents 3)) : Int) ≠ 0 ∧
 PtrOK a14 fun (p26 : Addr) =>
 ((0 : Int) ≤ (Int.tmod (bits .and .i64 n25 255) (2 + (bits .and .i64 agents 3))) ∧ (Int.tmod (bits .and .i64 n25 255) (2 + (bits .and .i64 agents 3))) < (l14 : Int)) ∧
 ∃ (n27 : Int), World.cell? w23 (Addr.add p26 (Int.toNat (Int.tmod (bits .and .i64 n25 255) (2 + (bits .and .i64 agents 3))) * 1)) = some (.int .i64 n27) ∧
 IfB (decide ((n27 : Int) = 0))
 (PtrOK a14 fun (p28 : Addr) =>
 ((0 : Int) ≤ (Int.tmod (bits .and .i64 n25 255) (2 + (bits .and .i64 agents 3))) ∧ (Int.tmod (bits .and .i64 n25 255) (2 + (bits .and .i64 agents 3))) < (l14 : Int)) ∧
 May w23 (Addr.add p28 (Int.toNat (Int.tmod (bits .and .i64 n25 255) (2 + (bits .and .i64 agents 3))) * 1)) ∧ ∀ w29 : World, SetC w23 w29 (Addr.add p28 (Int.toNat (Int.tmod (bits .and .i64 n25 255) (2 + (bits .and .i64 agents 3))) * 1)) (.int .i64 2) →
 PtrOK picksa fun (p30 : Addr) =>
 ((0 : Int) ≤ n22 ∧ n22 < (picksl : Int)) ∧
 ∃ (n31 : Int), World.cell? w29 (Addr.add p30 (Int.toNat n22 * 1)) = some (.int .i64 n31) ∧
 IfB (decide (((bits .and .i64 n31 256) : Int) = 0))
 (IfB (decide ((n21 : Int) < 32))
 (PtrOK a14 fun (p32 : Addr) =>
 ((0 : Int) ≤ (Int.tmod (bits .and .i64 n25 255) (2 + (bits .and .i64 agents 3))) ∧ (Int.tmod (bits .and .i64 n25 255) (2 + (bits .and .i64 agents 3))) < (l14 : Int)) ∧
 May w29 (Addr.add p32 (Int.toNat (Int.tmod (bits .and .i64 n25 255) (2 + (bits .and .i64 agents 3))) * 1)) ∧ ∀ w33 : World, SetC w29 w33 (Addr.add p32 (Int.toNat (Int.tmod (bits .and .i64 n25 255) (2 + (bits .and .i64 agents 3))) * 1)) (.int .i64 1) →
 C62 q3 (Int.tmod (bits .and .i64 n25 255) (2 + (bits .and .i64 agents 3))) 0 n21 w33 fun n34 w35 =>
 Fit .i64 (n21 + 1) ∧
 Fit .i64 (n22 + 1) ∧
 (I19 (n21 + 1) (n22 + 1) w35 ∧
 m20 (n21 + 1) (n22 + 1) w35 < m20 n21 n22 w23))
 (C62 q3 (Int.tmod (bits .and .i64 n25 255) (2 + (bits .and .i64 agents 3))) 1 0 w29 fun n36 w37 =>
 Fit .i64 (n22 + 1) ∧
 (I19 n21 (n22 + 1) w37 ∧
 m20 n21 (n22 + 1) w37 < m20 n21 n22 w23)))
 (C62 q3 (Int.tmod (bits .and .i64 n25 255) (2 + (bits .and .i64 agents 3))) 1 0 w29 fun n38 w39 =>
 Fit .i64 (n22 + 1) ∧
 (I19 n21 (n22 + 1) w39 ∧
 m20 n21 (n22 + 1) w39 < m20 n21 n22 w23)))
 (C63 q3 (Int.tmod (bits .and .i64 n25 255) (2 + (bits .and .i64 agents 3))) w23 fun b40 n41 b42 n43 w44 =>
 IfB (!decide ((n43 : Int) = 0))
 (K false w44)
 (IfB b40
 (∃ M45 : World → Prop,
 (IfB (decide ((n41 : Int) < 0))
 (K false w44)
 (IfB (decide ((32 : Int) ≤ n41))
 (K false w44)
 (M45 w44))) ∧
 ∀ (_ : Env) (w46 : World), M45 w46 →
 PtrOK a14 fun (p47 : Addr) =>
 ((0 : Int) ≤ (Int.tmod (bits .and .i64 n25 255) (2 + (bits .and .i64 agents 3))) ∧ (Int.tmod (bits .and .i64 n25 255) (2 + (bits .and .i64 agents 3))) < (l14 : Int)) ∧
 ∃ (n48 : Int), World.cell? w46 (Addr.add p47 (Int.toNat (Int.tmod (bits .and .i64 n25 255) (2 + (bits .and .i64 agents 3))) * 1)) = some (.int .i64 n48) ∧
 IfB (decide ((n48 : Int) = 2))
 (IfB b42
 (PtrOK a9 fun (p49 : Addr) =>
 ((0 : Int) ≤ n41 ∧ n41 < (l9 : Int)) ∧
 ∃ (n50 : Int), World.cell? w46 (Addr.add p49 (Int.toNat n41 * 1)) = some (.int .i64 n50) ∧
 Fit .i64 (n50 + 1) ∧
 PtrOK a9 fun (p51 : Addr) =>
 ((0 : Int) ≤ n41 ∧ n41 < (l9 : Int)) ∧
 May w46 (Addr.add p51 (Int.toNat n41 * 1)) ∧ ∀ w52 : World, SetC w46 w52 (Addr.add p51 (Int.toNat n41 * 1)) (.int .i64 (n50 + 1)) →
 PtrOK a14 fun (p53 : Addr) =>
 ((0 : Int) ≤ (Int.tmod (bits .and .i64 n25 255) (2 + (bits .and .i64 agents 3))) ∧ (Int.tmod (bits .and .i64 n25 255) (2 + (bits .and .i64 agents 3))) < (l14 : Int)) ∧
 May w52 (Addr.add p53 (Int.toNat (Int.tmod (bits .and .i64 n25 255) (2 + (bits .and .i64 agents 3))) * 1)) ∧ ∀ w54 : World, SetC w52 w54 (Addr.add p53 (Int.toNat (Int.tmod (bits .and .i64 n25 255) (2 + (bits .and .i64 agents 3))) * 1)) (.int .i64 0) →
 Fit .i64 (n22 + 1) ∧
 (I19 n21 (n22 + 1) w54 ∧
 m20 n21 (n22 + 1) w54 < m20 n21 n22 w23))
 (PtrOK a14 fun (p55 : Addr) =>
 ((0 : Int) ≤ (Int.tmod (bits .and .i64 n25 255) (2 + (bits .and .i64 agents 3))) ∧ (Int.tmod (bits .and .i64 n25 255) (2 + (bits .and .i64 agents 3))) < (l14 : Int)) ∧
 May w46 (Addr.add p55 (Int.toNat (Int.tmod (bits .and .i64 n25 255) (2 + (bits .and .i64 agents 3))) * 1)) ∧ ∀ w56 : World, SetC w46 w56 (Addr.add p55 (Int.toNat (Int.tmod (bits .and .i64 n25 255) (2 + (bits .and .i64 agents 3))) * 1)) (.int .i64 0) →
 Fit .i64 (n22 + 1) ∧
 (I19 n21 (n22 + 1) w56 ∧
 m20 n21 (n22 + 1) w56 < m20 n21 n22 w23)))
 (PtrOK a14 fun (p57 : Addr) =>
 ((0 : Int) ≤ (Int.tmod (bits .and .i64 n25 255) (2 + (bits .and .i64 agents 3))) ∧ (Int.tmod (bits .and .i64 n25 255) (2 + (bits .and .i64 agents 3))) < (l14 : Int)) ∧
 May w46 (Addr.add p57 (Int.toNat (Int.tmod (bits .and .i64 n25 255) (2 + (bits .and .i64 agents 3))) * 1)) ∧ ∀ w58 : World, SetC w46 w58 (Addr.add p57 (Int.toNat (Int.tmod (bits .and .i64 n25 255) (2 + (bits .and .i64 agents 3))) * 1)) (.int .i64 0) →
 Fit .i64 (n22 + 1) ∧
 (I19 n21 (n22 + 1) w58 ∧
 m20 n21 (n22 + 1) w58 < m20 n21 n22 w23)))
 (Fit .i64 (n22 + 1) ∧
 (I19 n21 (n22 + 1) w44 ∧
 m20 n21 (n22 + 1) w44 < m20 n21 n22 w23)))))
 (M16 n21 w23))
 (M16 n21 w23)) ∧
 ∀ (_ : Env) (n17 : Int) (w18 : World), M16 n17 w18 →
 C64 q3 a14 l14 c14 a9 l9 c9 n17 w18 fun b59 w60 =>
 K b59 w60))
theorem r_f13 (agents : Int) (picksa : Option Addr) (picksl picksc : Nat) (w : World) (K : Bool → World → Prop) (h : V_f13 agents picksa picksl picksc w K) : C13 agents picksa picksl picksc w K :=
  @calls_of_eq Try.prog 13 Try.f13 [.int .i64 agents, .slice picksa picksl picksc] w [.leaf .bool] K _ (cfg true (fun _ => [])) (fun n => bif Nat.beq n 0 then some ⟨[9, 12], [.int .i64, .int .i64]⟩ else none) (fun n => bif Nat.beq n 8 then some ⟨[9, 10], [.int .i64, .slice]⟩ else bif Nat.beq n 26 then some ⟨[], []⟩ else bif Nat.beq n 29 then some ⟨[9], [.int .i64]⟩ else none) (fun _ => none) Try.func13 (by kernel_rfl) (by kernel_rfl) h

end Go.Proofs.Ytfpghcdjfiggiaa.V
