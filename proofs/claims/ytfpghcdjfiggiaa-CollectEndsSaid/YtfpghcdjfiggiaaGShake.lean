/- Readings of the program's functions. No condition. -/
import Derived.Test.YtfpghcdjfiggiaaGCfg
namespace Go.Proofs.Ytfpghcdjfiggiaa.V
open Go
set_option maxRecDepth 100000
set_option linter.unusedVariables false
/-- gneiss/shake.New -/
def V_f32 (threads : Int) (w : World) (K : Option Addr → Int → World → Prop) : Prop :=
 IfB (decide ((threads : Int) < 1))
 (K none 1000 w)
 (IfB (decide ((8 : Int) < threads))
 (K none 1000 w)
 (∀ (b1 : Nat) (w2 : World), NewMap w w2 b1 →
 ∀ (b3 : Nat) (w4 : World), NewAt w2 w4 b3 #[.int .i64 threads, .map (some b1), .int .i64 0, .int .i64 0] 165 →
 K (some ⟨b3, 0, none⟩) 0 w4))
theorem r_f32 (threads : Int) (w : World) (K : Option Addr → Int → World → Prop) (h : V_f32 threads w K) : C32 threads w K :=
  @calls_of_eq Try.prog 32 Try.f32 [.int .i64 threads] w [.leaf .ptr, .leaf (.int .i64)] K _ (cfg true (fun _ => [])) (fun _ => none) (fun _ => none) (fun _ => none) Try.func32 (by kernel_rfl) (by kernel_rfl) h

/-- (*gneiss/shake.Shake).Ask -/
def V_f35 (s : Nat) (what : Int) (w : World) (K : Int → World → Prop) : Prop :=
 ∃ (m1 : Option Nat), World.cell? w ⟨s, 1, none⟩ = some (.map m1) ∧
 RunF Try.prog (Builtin.len_ #[163] 3 #[.map m1]) w [.leaf (.int .i64)] fun (n2 : Int) (w3 : World) =>
 IfB (decide ((0 : Int) < n2))
 (K 1001 w3)
 (May w3 ⟨s, 2, none⟩ ∧ ∀ w4 : World, SetC w3 w4 ⟨s, 2, none⟩ (.int .i64 what) →
 ∃ (n5 : Int), World.cell? w4 ⟨s, 3, none⟩ = some (.int .i64 n5) ∧
 Fit .i64 (n5 + 1) ∧
 May w4 ⟨s, 3, none⟩ ∧ ∀ w6 : World, SetC w4 w6 ⟨s, 3, none⟩ (.int .i64 (n5 + 1)) →
 ∃ (n7 : Int), World.cell? w6 ⟨s, 0, none⟩ = some (.int .i64 n7) ∧
 ∃ (I8 : Int → World → Prop) (m9 : Int → World → Nat),
 I8 0 w6 ∧
 ∀ (_ : Env) (n10 : Int) (w11 : World), I8 n10 w11 →
 IfB (decide ((n10 : Int) < n7))
 (∃ (m12 : Option Nat), World.cell? w11 ⟨s, 1, none⟩ = some (.map m12) ∧
 ∃ w13 : World, Sem.run Try.prog (Instr.mapUpdate 163 (.map m12) (.int .i64 n10) (.bool true)) w11 = .ok () w13 ∧
 Fit .i64 (n10 + 1) ∧
 (I8 (n10 + 1) w13 ∧
 m9 (n10 + 1) w13 < m9 n10 w11))
 (K 0 w11))
theorem r_f35 (s : Nat) (what : Int) (w : World) (K : Int → World → Prop) (h : V_f35 s what w K) : C35 (some ⟨s, 0, none⟩) what w K :=
  @calls_of_eq Try.prog 35 Try.f35 [.pointer (some ⟨s, 0, none⟩), .int .i64 what] w [.leaf (.int .i64)] K _ (cfg true (fun _ => [])) (fun n => bif Nat.beq n 1 then some ⟨[31], [.int .i64]⟩ else none) (fun _ => none) (fun _ => none) Try.func35 (by kernel_rfl) (by kernel_rfl) h

/-- (*gneiss/shake.Shake).See -/
def V_f36 (s : Nat) (thread : Int) (w : World) (K : Int → Bool → Int → World → Prop) : Prop :=
 IfB (decide ((thread : Int) < 0))
 (K 0 false 1002 w)
 (∃ (n1 : Int), World.cell? w ⟨s, 0, none⟩ = some (.int .i64 n1) ∧
 IfB (decide ((n1 : Int) ≤ thread))
 (K 0 false 1002 w)
 (∃ (m2 : Option Nat), World.cell? w ⟨s, 1, none⟩ = some (.map m2) ∧
 RunF Try.prog (Instr.lookup 163 (.map m2) (.int .i64 thread) false) w [.leaf .bool] fun (b3 : Bool) (w4 : World) =>
 IfB (!b3)
 (K 0 false 0 w4)
 (∃ (n5 : Int), World.cell? w4 ⟨s, 2, none⟩ = some (.int .i64 n5) ∧
 K n5 true 0 w4)))
theorem r_f36 (s : Nat) (thread : Int) (w : World) (K : Int → Bool → Int → World → Prop) (h : V_f36 s thread w K) : C36 (some ⟨s, 0, none⟩) thread w K :=
  @calls_of_eq Try.prog 36 Try.f36 [.pointer (some ⟨s, 0, none⟩), .int .i64 thread] w [.leaf (.int .i64), .leaf .bool, .leaf (.int .i64)] K _ (cfg true (fun _ => [])) (fun _ => none) (fun _ => none) (fun _ => none) Try.func36 (by kernel_rfl) (by kernel_rfl) h

/-- (*gneiss/shake.Shake).Answer -/
def V_f37 (s : Nat) (thread : Int) (w : World) (K : Int → World → Prop) : Prop :=
 IfB (decide ((thread : Int) < 0))
 (K 1002 w)
 (∃ (n1 : Int), World.cell? w ⟨s, 0, none⟩ = some (.int .i64 n1) ∧
 IfB (decide ((n1 : Int) ≤ thread))
 (K 1002 w)
 (∃ (m2 : Option Nat), World.cell? w ⟨s, 1, none⟩ = some (.map m2) ∧
 RunF Try.prog (Builtin.delete_ #[163, 3] 0 #[.map m2, .int .i64 thread]) w [] fun (w3 : World) =>
 K 0 w3))
theorem r_f37 (s : Nat) (thread : Int) (w : World) (K : Int → World → Prop) (h : V_f37 s thread w K) : C37 (some ⟨s, 0, none⟩) thread w K :=
  @calls_of_eq Try.prog 37 Try.f37 [.pointer (some ⟨s, 0, none⟩), .int .i64 thread] w [.leaf (.int .i64)] K _ (cfg true (fun _ => [])) (fun _ => none) (fun _ => none) (fun _ => none) Try.func37 (by kernel_rfl) (by kernel_rfl) h

/-- (*gneiss/shake.Shake).Done -/
def V_f38 (s : Nat) (w : World) (K : Bool → World → Prop) : Prop :=
 ∃ (m1 : Option Nat), World.cell? w ⟨s, 1, none⟩ = some (.map m1) ∧
 RunF Try.prog (Builtin.len_ #[163] 3 #[.map m1]) w [.leaf (.int .i64)] fun (n2 : Int) (w3 : World) =>
 K (decide ((n2 : Int) = 0)) w3
theorem r_f38 (s : Nat) (w : World) (K : Bool → World → Prop) (h : V_f38 s w K) : C38 (some ⟨s, 0, none⟩) w K :=
  @calls_of_eq Try.prog 38 Try.f38 [.pointer (some ⟨s, 0, none⟩)] w [.leaf .bool] K _ (cfg true (fun _ => [])) (fun _ => none) (fun _ => none) (fun _ => none) Try.func38 (by kernel_rfl) (by kernel_rfl) h

/-- (*gneiss/shake.Shake).Rounds -/
def V_f39 (s : Nat) (w : World) (K : Int → World → Prop) : Prop :=
 ∃ (n1 : Int), World.cell? w ⟨s, 3, none⟩ = some (.int .i64 n1) ∧
 K n1 w
theorem r_f39 (s : Nat) (w : World) (K : Int → World → Prop) (h : V_f39 s w K) : C39 (some ⟨s, 0, none⟩) w K :=
  @calls_of_eq Try.prog 39 Try.f39 [.pointer (some ⟨s, 0, none⟩)] w [.leaf (.int .i64)] K _ (cfg true (fun _ => [])) (fun _ => none) (fun _ => none) (fun _ => none) Try.func39 (by kernel_rfl) (by kernel_rfl) h

/-- gneiss/gneisslaw10.awake -/
def V_f34 (w : World) (K : Bool → World → Prop) : Prop :=
 C32 2 w fun q1 n2 w3 =>
 C35 q1 5 w3 fun n4 w5 =>
 C35 q1 6 w5 fun n6 w7 =>
 C36 q1 1 w7 fun n8 b9 n10 w11 =>
 C37 q1 0 w11 fun n12 w13 =>
 C37 q1 1 w13 fun n14 w15 =>
 C36 q1 2 w15 fun n16 b17 n18 w19 =>
 IfB (decide ((n2 : Int) = 0))
 (IfB (decide ((n4 : Int) = 0))
 (IfB (decide ((n6 : Int) = 1001))
 (IfB (decide ((n8 : Int) = 5))
 (IfB b9
 (IfB (decide ((n10 : Int) = 0))
 (IfB (decide ((n14 : Int) = 0))
 (C38 q1 w19 fun b20 w21 =>
 IfB b20
 (C39 q1 w21 fun n22 w23 =>
 IfB (decide ((n22 : Int) = 1))
 (K (decide ((n18 : Int) = 1002)) w23)
 (K false w23))
 (K false w21))
 (K false w19))
 (K false w19))
 (K false w19))
 (K false w19))
 (K false w19))
 (K false w19))
 (K false w19)
theorem r_f34 (w : World) (K : Bool → World → Prop) (h : V_f34 w K) : C34  w K :=
  @calls_of_eq Try.prog 34 Try.f34 [] w [.leaf .bool] K _ (cfg true (fun _ => [])) (fun _ => none) (fun _ => none) (fun _ => none) Try.func34 (by kernel_rfl) (by kernel_rfl) h

/-- gneiss/gneisslaw10.ShakeRounds -/
def V_f4 (threads : Int) (rounds : Int) (order : Int) (w : World) (K : Bool → World → Prop) : Prop :=
 C34  w fun b1 w2 =>
 IfB (!b1)
 (K false w2)
 (Fit .i64 (1 + (bits .and .i64 threads 7)) ∧
 C32 (1 + (bits .and .i64 threads 7)) w2 fun q3 n4 w5 =>
 ∃ (I6 : Int → World → Prop) (m7 : Int → World → Nat),
 I6 0 w5 ∧
 ∀ (_ : Env) (n8 : Int) (w9 : World), I6 n8 w9 →
 IfB (decide ((n8 : Int) < (bits .and .i64 rounds 15)))
 (Fit .i64 (100 + n8) ∧
 C35 q3 (100 + n8) w9 fun n10 w11 =>
 ∃ (I12 : Int → World → Prop) (m13 : Int → World → Nat),
 I12 0 w11 ∧
 ∀ (_ : Env) (n14 : Int) (w15 : World), I12 n14 w15 →
 IfB (decide ((n14 : Int) < (1 + (bits .and .i64 threads 7))))
 (Fit .i64 (2 * (bits .and .i64 order 3)) ∧
 Fit .i64 ((2 * (bits .and .i64 order 3)) + 1) ∧
 Fit .i64 (n14 * ((2 * (bits .and .i64 order 3)) + 1)) ∧
 Fit .i64 ((n14 * ((2 * (bits .and .i64 order 3)) + 1)) + n8) ∧
 ((1 + (bits .and .i64 threads 7)) : Int) ≠ 0 ∧
 ∃ M16 : Int → World → Prop,
 ((3 : Int) ≠ 0 ∧
 IfB (decide (((Int.tmod (1 + (bits .and .i64 threads 7)) 3) : Int) = 0))
 (Fit .i64 (n14 + n8) ∧
 ((1 + (bits .and .i64 threads 7)) : Int) ≠ 0 ∧
 M16 (Int.tmod (n14 + n8) (1 + (bits .and .i64 threads 7))) w15)
 ((5 : Int) ≠ 0 ∧
 IfB (decide (((Int.tmod (1 + (bits .and .i64 threads 7)) 5) : Int) = 0))
 (Fit .i64 (n14 + n8) ∧
 ((1 + (bits .and .i64 threads 7)) : Int) ≠ 0 ∧
 M16 (Int.tmod (n14 + n8) (1 + (bits .and .i64 threads 7))) w15)
 ((7 : Int) ≠ 0 ∧
 IfB (decide (((Int.tmod (1 + (bits .and .i64 threads 7)) 7) : Int) = 0))
 (Fit .i64 (n14 + n8) ∧
 ((1 + (bits .and .i64 threads 7)) : Int) ≠ 0 ∧
 M16 (Int.tmod (n14 + n8) (1 + (bits .and .i64 threads 7))) w15)
 (M16 (Int.tmod ((n14 * ((2 * (bits .and .i64 order 3)) + 1)) + n8) (1 + (bits .and .i64 threads 7))) w15)))) ∧
 ∀ (_ : Env) (n17 : Int) (w18 : World), M16 n17 w18 →
 C36 q3 n17 w18 fun n19 b20 n21 w22 =>
 C38 q3 w22 fun b23 w24 =>
 IfB b23
 (K false w24)
 (IfB (!b20)
 (K false w24)
 (Fit .i64 (100 + n8) ∧
 IfB (!decide ((n19 : Int) = (100 + n8)))
 (K false w24)
 (IfB (!decide ((n21 : Int) = 0))
 (K false w24)
 (C37 q3 n17 w24 fun n25 w26 =>
 C37 q3 n17 w26 fun n27 w28 =>
 C36 q3 n17 w28 fun n29 b30 n31 w32 =>
 IfB b30
 (K false w32)
 (Fit .i64 (n14 + 1) ∧
 (I12 (n14 + 1) w32 ∧
 m13 (n14 + 1) w32 < m13 n14 w15)))))))
 (C38 q3 w15 fun b33 w34 =>
 IfB (!b33)
 (K false w34)
 (IfB (!decide ((n10 : Int) = 0))
 (K false w34)
 (Fit .i64 (n8 + 1) ∧
 (I6 (n8 + 1) w34 ∧
 m7 (n8 + 1) w34 < m7 n8 w9)))))
 (IfB (decide ((n4 : Int) = 0))
 (C39 q3 w9 fun n35 w36 =>
 K (decide ((n35 : Int) = (bits .and .i64 rounds 15))) w36)
 (K false w9)))
theorem r_f4 (threads : Int) (rounds : Int) (order : Int) (w : World) (K : Bool → World → Prop) (h : V_f4 threads rounds order w K) : C4 threads rounds order w K :=
  @calls_of_eq Try.prog 4 Try.f4 [.int .i64 threads, .int .i64 rounds, .int .i64 order] w [.leaf .bool] K _ (cfg true (fun _ => [])) (fun n => bif Nat.beq n 0 then some ⟨[10], [.int .i64]⟩ else bif Nat.beq n 2 then some ⟨[12], [.int .i64]⟩ else none) (fun n => bif Nat.beq n 15 then some ⟨[13], [.int .i64]⟩ else none) (fun _ => none) Try.func4 (by kernel_rfl) (by kernel_rfl) h

/-- gneiss/gneisslaw10.ShakeActs -/
def V_f3 (threads : Int) (actsa : Option Addr) (actsl actsc : Nat) (w : World) (K : Bool → World → Prop) : Prop :=
 C32 threads w fun q1 n2 w3 =>
 IfB (decide ((threads : Int) < 1))
 (IfB (decide ((n2 : Int) = 1000))
 (C34  w3 fun b4 w5 =>
 K b4 w5)
 (K false w3))
 (IfB (decide ((8 : Int) < threads))
 (IfB (decide ((n2 : Int) = 1000))
 (C34  w3 fun b6 w7 =>
 K b6 w7)
 (K false w3))
 (RunF Try.prog (Instr.makeSlice 29 (.int .i64 threads) (.int .i64 threads)) w3 [.leaf .slice] fun (a8 : Option Addr) (l8 c8 : Nat) (w9 : World) =>
 ∃ (I10 : Bool → Int → Int → Int → World → Prop) (m11 : Bool → Int → Int → Int → World → Nat),
 I10 false 0 0 0 w9 ∧
 ∀ (_ : Env) (b12 : Bool) (n13 : Int) (n14 : Int) (n15 : Int) (w16 : World), I10 b12 n13 n14 n15 w16 →
 IfB (decide ((n15 : Int) < (actsl : Int)))
 (IfB (decide ((n15 : Int) < 200))
 (PtrOK actsa fun (p17 : Addr) =>
 ((0 : Int) ≤ n15 ∧ n15 < (actsl : Int)) ∧
 ∃ (n18 : Int), ∃ (n19 : Int), ∃ (n20 : Int), CellsAt w16 (Addr.add p17 (Int.toNat n15 * 3)) [.int .i64 n18, .int .i64 n19, .int .i64 n20] ∧
 ∀ (b21 : Nat) (w22 : World), NewAt w16 w22 b21 #[.int .i64 0, .int .i64 0, .int .i64 0] 31 →
 MayL w22 ⟨b21, 0, none⟩ 3 ∧ ∀ w23 : World, SetL w22 w23 ⟨b21, 0, none⟩ [.int .i64 n18, .int .i64 n19, .int .i64 n20] →
 ∃ M24 : Bool → World → Prop,
 (∃ (n27 : Int), World.cell? w23 ⟨b21, 1, none⟩ = some (.int .i64 n27) ∧
 IfB (decide ((0 : Int) ≤ n27))
 (∃ (n28 : Int), World.cell? w23 ⟨b21, 1, none⟩ = some (.int .i64 n28) ∧
 M24 (decide ((n28 : Int) < threads)) w23)
 (M24 false w23)) ∧
 ∀ (_ : Env) (b25 : Bool) (w26 : World), M24 b25 w26 →
 ∃ M29 : Bool → Int → Int → World → Prop,
 (∃ (n34 : Int), World.cell? w26 ⟨b21, 0, none⟩ = some (.int .i64 n34) ∧
 IfB (decide ((n34 : Int) < 2))
 (∃ (n35 : Int), World.cell? w26 ⟨b21, 2, none⟩ = some (.int .i64 n35) ∧
 C35 q1 n35 w26 fun n36 w37 =>
 IfB (!(b12 == (decide ((n36 : Int) = 1001))))
 (K false w37)
 (IfB (!b12)
 (IfB (!decide ((n36 : Int) = 0))
 (K false w37)
 (IfB (!b12)
 (∀ w38 : World, Drew w37 w38 →
 ∃ (n39 : Int), World.cell? w38 ⟨b21, 2, none⟩ = some (.int .i64 n39) ∧
 Fit .i64 (n14 + 1) ∧
 ∃ (I40 : Int → World → Prop) (m41 : Int → World → Nat),
 I40 0 w38 ∧
 ∀ (_ : Env) (n42 : Int) (w43 : World), I40 n42 w43 →
 IfB (decide ((n42 : Int) < threads))
 (PtrOK a8 fun (p44 : Addr) =>
 ((0 : Int) ≤ n42 ∧ n42 < (l8 : Int)) ∧
 May w43 (Addr.add p44 (Int.toNat n42 * 1)) ∧ ∀ w45 : World, SetC w43 w45 (Addr.add p44 (Int.toNat n42 * 1)) (.bool true) →
 Fit .i64 (n42 + 1) ∧
 (I40 (n42 + 1) w45 ∧
 m41 (n42 + 1) w45 < m41 n42 w43))
 (M29 true n39 (n14 + 1) w43))
 (M29 b12 n13 n14 w37)))
 (IfB (!b12)
 (∀ w46 : World, Drew w37 w46 →
 ∃ (n47 : Int), World.cell? w46 ⟨b21, 2, none⟩ = some (.int .i64 n47) ∧
 Fit .i64 (n14 + 1) ∧
 ∃ (I48 : Int → World → Prop) (m49 : Int → World → Nat),
 I48 0 w46 ∧
 ∀ (_ : Env) (n50 : Int) (w51 : World), I48 n50 w51 →
 IfB (decide ((n50 : Int) < threads))
 (PtrOK a8 fun (p52 : Addr) =>
 ((0 : Int) ≤ n50 ∧ n50 < (l8 : Int)) ∧
 May w51 (Addr.add p52 (Int.toNat n50 * 1)) ∧ ∀ w53 : World, SetC w51 w53 (Addr.add p52 (Int.toNat n50 * 1)) (.bool true) →
 Fit .i64 (n50 + 1) ∧
 (I48 (n50 + 1) w53 ∧
 m49 (n50 + 1) w53 < m49 n50 w51))
 (M29 true n47 (n14 + 1) w51))
 (M29 b12 n13 n14 w37))))
 (∃ (n54 : Int), World.cell? w26 ⟨b21, 0, none⟩ = some (.int .i64 n54) ∧
 IfB (decide ((n54 : Int) < 4))
 (∃ (n55 : Int), World.cell? w26 ⟨b21, 1, none⟩ = some (.int .i64 n55) ∧
 C36 q1 n55 w26 fun n56 b57 n58 w59 =>
 ∃ M60 : Bool → World → Prop,
 (IfB b25
 (∃ (n63 : Int), World.cell? w59 ⟨b21, 1, none⟩ = some (.int .i64 n63) ∧
 PtrOK a8 fun (p64 : Addr) =>
 ((0 : Int) ≤ n63 ∧ n63 < (l8 : Int)) ∧
 ∃ (b65 : Bool), World.cell? w59 (Addr.add p64 (Int.toNat n63 * 1)) = some (.bool b65) ∧
 M60 b65 w59)
 (M60 false w59)) ∧
 ∀ (_ : Env) (b61 : Bool) (w62 : World), M60 b61 w62 →
 IfB (!(b25 == (decide ((n58 : Int) = 0))))
 (K false w62)
 (IfB (!b25)
 (IfB (!decide ((n58 : Int) = 1002))
 (K false w62)
 (IfB (!(b57 == b61))
 (K false w62)
 (IfB b61
 (IfB (!decide ((n56 : Int) = n13))
 (K false w62)
 (IfB (!b61)
 (IfB (!decide ((n56 : Int) = 0))
 (K false w62)
 (M29 b12 n13 n14 w62))
 (M29 b12 n13 n14 w62)))
 (IfB (!b61)
 (IfB (!decide ((n56 : Int) = 0))
 (K false w62)
 (M29 b12 n13 n14 w62))
 (M29 b12 n13 n14 w62)))))
 (IfB (!(b57 == b61))
 (K false w62)
 (IfB b61
 (IfB (!decide ((n56 : Int) = n13))
 (K false w62)
 (IfB (!b61)
 (IfB (!decide ((n56 : Int) = 0))
 (K false w62)
 (M29 b12 n13 n14 w62))
 (M29 b12 n13 n14 w62)))
 (IfB (!b61)
 (IfB (!decide ((n56 : Int) = 0))
 (K false w62)
 (M29 b12 n13 n14 w62))
 (M29 b12 n13 n14 w62))))))
 (∃ (n66 : Int), World.cell? w26 ⟨b21, 1, none⟩ = some (.int .i64 n66) ∧
 C37 q1 n66 w26 fun n67 w68 =>
 IfB (!(b25 == (decide ((n67 : Int) = 0))))
 (K false w68)
 (IfB (!b25)
 (IfB (!decide ((n67 : Int) = 1002))
 (K false w68)
 (IfB b25
 (∃ (n69 : Int), World.cell? w68 ⟨b21, 1, none⟩ = some (.int .i64 n69) ∧
 PtrOK a8 fun (p70 : Addr) =>
 ((0 : Int) ≤ n69 ∧ n69 < (l8 : Int)) ∧
 May w68 (Addr.add p70 (Int.toNat n69 * 1)) ∧ ∀ w71 : World, SetC w68 w71 (Addr.add p70 (Int.toNat n69 * 1)) (.bool false) →
 ∃ (I72 : Bool → Int → World → Prop) (m73 : Bool → Int → World → Nat),
 I72 false 0 w71 ∧
 ∀ (_ : Env) (b74 : Bool) (n75 : Int) (w76 : World), I72 b74 n75 w76 →
 IfB (decide ((n75 : Int) < threads))
 (IfB b74
 (Fit .i64 (n75 + 1) ∧
 (I72 true (n75 + 1) w76 ∧
 m73 true (n75 + 1) w76 < m73 b74 n75 w76))
 (PtrOK a8 fun (p77 : Addr) =>
 ((0 : Int) ≤ n75 ∧ n75 < (l8 : Int)) ∧
 ∃ (b78 : Bool), World.cell? w76 (Addr.add p77 (Int.toNat n75 * 1)) = some (.bool b78) ∧
 Fit .i64 (n75 + 1) ∧
 (I72 b78 (n75 + 1) w76 ∧
 m73 b78 (n75 + 1) w76 < m73 b74 n75 w76)))
 (M29 b74 n13 n14 w76))
 (M29 b12 n13 n14 w68)))
 (IfB b25
 (∃ (n79 : Int), World.cell? w68 ⟨b21, 1, none⟩ = some (.int .i64 n79) ∧
 PtrOK a8 fun (p80 : Addr) =>
 ((0 : Int) ≤ n79 ∧ n79 < (l8 : Int)) ∧
 May w68 (Addr.add p80 (Int.toNat n79 * 1)) ∧ ∀ w81 : World, SetC w68 w81 (Addr.add p80 (Int.toNat n79 * 1)) (.bool false) →
 ∃ (I82 : Bool → Int → World → Prop) (m83 : Bool → Int → World → Nat),
 I82 false 0 w81 ∧
 ∀ (_ : Env) (b84 : Bool) (n85 : Int) (w86 : World), I82 b84 n85 w86 →
 IfB (decide ((n85 : Int) < threads))
 (IfB b84
 (Fit .i64 (n85 + 1) ∧
 (I82 true (n85 + 1) w86 ∧
 m83 true (n85 + 1) w86 < m83 b84 n85 w86))
 (PtrOK a8 fun (p87 : Addr) =>
 ((0 : Int) ≤ n85 ∧ n85 < (l8 : Int)) ∧
 ∃ (b88 : Bool), World.cell? w86 (Addr.add p87 (Int.toNat n85 * 1)) = some (.bool b88) ∧
 Fit .i64 (n85 + 1) ∧
 (I82 b88 (n85 + 1) w86 ∧
 m83 b88 (n85 + 1) w86 < m83 b84 n85 w86)))
 (M29 b84 n13 n14 w86))
 (M29 b12 n13 n14 w68)))))) ∧
 ∀ (_ : Env) (b30 : Bool) (n31 : Int) (n32 : Int) (w33 : World), M29 b30 n31 n32 w33 →
 C38 q1 w33 fun b89 w90 =>
 IfB (b89 == b30)
 (K false w90)
 (C39 q1 w90 fun n91 w92 =>
 IfB (!decide ((n91 : Int) = n32))
 (K false w92)
 (Fit .i64 (n15 + 1) ∧
 (I10 b30 n31 n32 (n15 + 1) w92 ∧
 m11 b30 n31 n32 (n15 + 1) w92 < m11 b12 n13 n14 n15 w16))))
 (IfB (decide ((n2 : Int) = 0))
 (C34  w16 fun b93 w94 =>
 K b93 w94)
 (K false w16)))
 (IfB (decide ((n2 : Int) = 0))
 (C34  w16 fun b95 w96 =>
 K b95 w96)
 (K false w16))))
theorem r_f3 (threads : Int) (actsa : Option Addr) (actsl actsc : Nat) (w : World) (K : Bool → World → Prop) (h : V_f3 threads actsa actsl actsc w K) : C3 threads actsa actsl actsc w K :=
  @calls_of_eq Try.prog 3 Try.f3 [.int .i64 threads, .slice actsa actsl actsc] w [.leaf .bool] K _ (cfg true (fun _ => [])) (fun n => bif Nat.beq n 0 then some ⟨[8, 9, 10, 11], [.bool, .int .i64, .int .i64, .int .i64]⟩ else bif Nat.beq n 3 then some ⟨[8, 21], [.bool, .int .i64]⟩ else bif Nat.beq n 5 then some ⟨[15], [.int .i64]⟩ else none) (fun n => bif Nat.beq n 21 then some ⟨[13], [.bool]⟩ else bif Nat.beq n 35 then some ⟨[19], [.bool]⟩ else bif Nat.beq n 37 then some ⟨[8, 9, 10], [.bool, .int .i64, .int .i64]⟩ else none) (fun n => bif Nat.beq n 26 then some 4 else none) Try.func3 (by kernel_rfl) (by kernel_rfl) h

end Go.Proofs.Ytfpghcdjfiggiaa.V
