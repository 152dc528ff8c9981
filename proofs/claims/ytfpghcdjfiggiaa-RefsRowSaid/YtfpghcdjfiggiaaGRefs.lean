/- Readings of the program's functions. No condition. -/
import Derived.Test.YtfpghcdjfiggiaaGCfg
namespace Go.Proofs.Ytfpghcdjfiggiaa.V
open Go
set_option maxRecDepth 100000
set_option linter.unusedVariables false
/-- gneiss/gneisslaw13.awake -/
def V_f101 (w : World) (K : Bool → World → Prop) : Prop :=
 C102 4000 2 w fun q1 n2 w3 =>
 C103 q1 0 1 3 1 true w3 fun n4 n5 w6 =>
 C104 q1 1 n4 w6 fun n7 n8 w9 =>
 C105 q1 0 w9 fun n10 n11 w12 =>
 C106 q1 w12 fun a13 l13 c13 a14 l14 c14 n15 w16 =>
 C109 q1 1 n7 w16 fun n17 n18 w19 =>
 C107 q1 w19 fun n20 b21 w22 =>
 C107 q1 w22 fun n23 b24 w25 =>
 IfB (decide ((n2 : Int) = 0))
 (IfB (decide ((n5 : Int) = 0))
 (IfB (decide ((n8 : Int) = 0))
 (∀ (b26 : Nat) (w27 : World), NewAt w25 w27 b26 #[.int .i64 n7] 3 →
 C140 a13 l13 c13 (some ⟨b26, 0, none⟩) 1 1 w27 fun b28 w29 =>
 IfB b28
 (∀ (b30 : Nat) (w31 : World), NewAt w29 w31 b30 #[.int .i64 n4] 3 →
 C140 a14 l14 c14 (some ⟨b30, 0, none⟩) 1 1 w31 fun b32 w33 =>
 IfB b32
 (IfB (decide ((n15 : Int) = 0))
 (IfB (decide ((n17 : Int) = 0))
 (IfB (decide ((n18 : Int) = 0))
 (IfB (decide ((n20 : Int) = n4))
 (IfB b21
 (IfB (!b24)
 (C108 q1 w33 fun a34 l34 c34 w35 =>
 K (decide (((l34 : Int) : Int) = 2)) w35)
 (K false w33))
 (K false w33))
 (K false w33))
 (K false w33))
 (K false w33))
 (K false w33))
 (K false w33))
 (K false w29))
 (K false w25))
 (K false w25))
 (K false w25)
theorem r_f101 (w : World) (K : Bool → World → Prop) (h : V_f101 w K) : C101  w K :=
  @calls_of_eq Try.prog 101 Try.f101 [] w [.leaf .bool] K _ (cfg true (fun _ => [])) (fun _ => none) (fun _ => none) (fun _ => none) Try.func101 (by kernel_rfl) (by kernel_rfl) h

/-- gneiss/refs.New -/
def V_f102 (words : Int) (threads : Int) (w : World) (K : Option Addr → Int → World → Prop) : Prop :=
 ∃ M1 : World → Prop,
 (IfB (decide ((words : Int) < 1024))
 (K none 1300 w)
 (IfB (decide ((65536 : Int) < words))
 (K none 1300 w)
 (IfB (decide ((threads : Int) < 1))
 (K none 1300 w)
 (IfB (decide ((8 : Int) < threads))
 (K none 1300 w)
 (M1 w))))) ∧
 ∀ (_ : Env) (w2 : World), M1 w2 →
 C80 words threads w2 fun q3 n4 w5 =>
 RunF Try.prog (Instr.makeSlice 126 (.int .i64 threads) (.int .i64 threads)) w5 [.leaf .slice] fun (a6 : Option Addr) (l6 c6 : Nat) (w7 : World) =>
 ∀ (b8 : Nat) (w9 : World), NewMap w7 w9 b8 →
 ∀ (b10 : Nat) (w11 : World), NewAt w9 w11 b10 #[.pointer q3, .int .i64 words, .int .i64 0, .slice a6 l6 c6, .map (some b8), .slice none 0 0] 222 →
 K (some ⟨b10, 0, none⟩) 0 w11
theorem r_f102 (words : Int) (threads : Int) (w : World) (K : Option Addr → Int → World → Prop) (h : V_f102 words threads w K) : C102 words threads w K :=
  @calls_of_eq Try.prog 102 Try.f102 [.int .i64 words, .int .i64 threads] w [.leaf .ptr, .leaf (.int .i64)] K _ (cfg true (fun _ => [])) (fun _ => none) (fun n => bif Nat.beq n 3 then some ⟨[], []⟩ else none) (fun _ => none) Try.func102 (by kernel_rfl) (by kernel_rfl) h

/-- (*gneiss/refs.Heap).Make -/
def V_f103 (hV : Nat) (thread : Int) (kind : Int) (classV : Int) (n : Int) (final : Bool) (w : World) (K : Int → Int → World → Prop) : Prop :=
 C166 (some ⟨hV, 0, none⟩) thread w fun n1 w2 =>
 IfB (!decide ((n1 : Int) = 0))
 (K 0 n1 w2)
 (∃ M3 : World → Prop,
 (IfB (decide ((kind : Int) = 4))
 (K 0 1304 w2)
 (C152 kind classV n w2 fun n5 w6 =>
 IfB (!decide ((n5 : Int) = 0))
 (K 0 1304 w6)
 (M3 w6))) ∧
 ∀ (_ : Env) (w4 : World), M3 w4 →
 C167 (some ⟨hV, 0, none⟩) thread kind classV n w4 fun n7 n8 w9 =>
 IfB (decide ((n8 : Int) = 0))
 (IfB final
 (∃ (m10 : Option Nat), World.cell? w9 ⟨hV, 4, none⟩ = some (.map m10) ∧
 ∃ w11 : World, Sem.run Try.prog (Instr.mapUpdate 162 (.map m10) (.int .i64 n7) (.bool true)) w9 = .ok () w11 ∧
 K n7 n8 w11)
 (K n7 n8 w9))
 (K n7 n8 w9))
theorem r_f103 (hV : Nat) (thread : Int) (kind : Int) (classV : Int) (n : Int) (final : Bool) (w : World) (K : Int → Int → World → Prop) (h : V_f103 hV thread kind classV n final w K) : C103 (some ⟨hV, 0, none⟩) thread kind classV n final w K :=
  @calls_of_eq Try.prog 103 Try.f103 [.pointer (some ⟨hV, 0, none⟩), .int .i64 thread, .int .i64 kind, .int .i64 classV, .int .i64 n, .bool final] w [.leaf (.int .i64), .leaf (.int .i64)] K _ (cfg true (fun _ => [])) (fun _ => none) (fun n => bif Nat.beq n 6 then some ⟨[], []⟩ else none) (fun _ => none) Try.func103 (by kernel_rfl) (by kernel_rfl) h

/-- (*gneiss/refs.Heap).Weak -/
def V_f104 (hV : Nat) (thread : Int) (ref : Int) (w : World) (K : Int → Int → World → Prop) : Prop :=
 C166 (some ⟨hV, 0, none⟩) thread w fun n1 w2 =>
 IfB (!decide ((n1 : Int) = 0))
 (K 0 n1 w2)
 (∃ (q3 : Option Addr), World.cell? w2 ⟨hV, 0, none⟩ = some (.pointer q3) ∧
 C94 q3 ref w2 fun n4 n5 n6 n7 w8 =>
 ∀ (b9 : Nat) (w10 : World), NewAt w8 w10 b9 #[.int .i64 0, .int .i64 0, .int .i64 0] 133 →
 MayL w10 ⟨b9, 0, none⟩ 3 ∧ ∀ w11 : World, SetL w10 w11 ⟨b9, 0, none⟩ [.int .i64 n4, .int .i64 n5, .int .i64 n6] →
 IfB (!decide ((n7 : Int) = 0))
 (K 0 1302 w11)
 (C167 (some ⟨hV, 0, none⟩) thread 4 0 1 w11 fun n12 n13 w14 =>
 IfB (decide ((n13 : Int) = 0))
 (∃ (q15 : Option Addr), World.cell? w14 ⟨hV, 0, none⟩ = some (.pointer q15) ∧
 C83 q15 thread n12 0 ref w14 fun n16 w17 =>
 K n12 n13 w17)
 (K n12 n13 w14)))
theorem r_f104 (hV : Nat) (thread : Int) (ref : Int) (w : World) (K : Int → Int → World → Prop) (h : V_f104 hV thread ref w K) : C104 (some ⟨hV, 0, none⟩) thread ref w K :=
  @calls_of_eq Try.prog 104 Try.f104 [.pointer (some ⟨hV, 0, none⟩), .int .i64 thread, .int .i64 ref] w [.leaf (.int .i64), .leaf (.int .i64)] K _ (cfg true (fun _ => [])) (fun _ => none) (fun _ => none) (fun _ => none) Try.func104 (by kernel_rfl) (by kernel_rfl) h

/-- (*gneiss/refs.Heap).Pop -/
def V_f105 (hV : Nat) (thread : Int) (w : World) (K : Int → Int → World → Prop) : Prop :=
 C166 (some ⟨hV, 0, none⟩) thread w fun n1 w2 =>
 IfB (!decide ((n1 : Int) = 0))
 (K 0 n1 w2)
 (∃ (a3 : Option Addr) (l3 c3 : Nat), World.cell? w2 ⟨hV, 3, none⟩ = some (.slice a3 l3 c3) ∧
 PtrOK a3 fun (p4 : Addr) =>
 ((0 : Int) ≤ thread ∧ thread < (l3 : Int)) ∧
 ∃ (a5 : Option Addr) (l5 c5 : Nat), World.cell? w2 (Addr.add p4 (Int.toNat thread * 1)) = some (.slice a5 l5 c5) ∧
 IfB (decide (((l5 : Int) : Int) = 0))
 (K 0 1303 w2)
 (∀ w6 : World, Drew w2 w6 →
 ∃ (a7 : Option Addr) (l7 c7 : Nat), World.cell? w6 ⟨hV, 3, none⟩ = some (.slice a7 l7 c7) ∧
 Fit .i64 ((l5 : Int) - 1) ∧
 ((0 : Int) ≤ ((l5 : Int) - 1) ∧ ((l5 : Int) - 1) ≤ (c5 : Int)) ∧
 PtrOK a7 fun (p8 : Addr) =>
 ((0 : Int) ≤ thread ∧ thread < (l7 : Int)) ∧
 May w6 (Addr.add p8 (Int.toNat thread * 1)) ∧ ∀ w9 : World, SetC w6 w9 (Addr.add p8 (Int.toNat thread * 1)) (.slice a5 (Int.toNat ((l5 : Int) - 1)) c5) →
 Fit .i64 ((l5 : Int) - 1) ∧
 PtrOK a5 fun (p10 : Addr) =>
 ((0 : Int) ≤ ((l5 : Int) - 1) ∧ ((l5 : Int) - 1) < (l5 : Int)) ∧
 ∃ (n11 : Int), World.cell? w9 (Addr.add p10 (Int.toNat ((l5 : Int) - 1) * 1)) = some (.int .i64 n11) ∧
 K n11 0 w9))
theorem r_f105 (hV : Nat) (thread : Int) (w : World) (K : Int → Int → World → Prop) (h : V_f105 hV thread w K) : C105 (some ⟨hV, 0, none⟩) thread w K :=
  @calls_of_eq Try.prog 105 Try.f105 [.pointer (some ⟨hV, 0, none⟩), .int .i64 thread] w [.leaf (.int .i64), .leaf (.int .i64)] K _ (cfg true (fun _ => [])) (fun _ => none) (fun _ => none) (fun n => bif Nat.beq n 7 then some 11 else none) Try.func105 (by kernel_rfl) (by kernel_rfl) h

/-- (*gneiss/refs.Heap).Cycle -/
def V_f106 (hV : Nat) (w : World) (K : Option Addr → Nat → Nat → Option Addr → Nat → Nat → Int → World → Prop) : Prop :=
 C168 (some ⟨hV, 0, none⟩) w fun m1 w2 =>
 ∃ (q3 : Option Addr), World.cell? w2 ⟨hV, 0, none⟩ = some (.pointer q3) ∧
 C95 q3 w2 fun a4 l4 c4 w5 =>
 ∃ (I6 : Option Addr → Nat → Nat → Int → World → Prop) (m7 : Option Addr → Nat → Nat → Int → World → Nat),
 I6 none 0 0 0 w5 ∧
 ∀ (_ : Env) (a8 : Option Addr) (l8 c8 : Nat) (n9 : Int) (w10 : World), I6 a8 l8 c8 n9 w10 →
 IfB (decide ((n9 : Int) < (l4 : Int)))
 (PtrOK a4 fun (p11 : Addr) =>
 ((0 : Int) ≤ n9 ∧ n9 < (l4 : Int)) ∧
 ∃ (n12 : Int), World.cell? w10 (Addr.add p11 (Int.toNat n9 * 1)) = some (.int .i64 n12) ∧
 ∃ (q13 : Option Addr), World.cell? w10 ⟨hV, 0, none⟩ = some (.pointer q13) ∧
 C94 q13 n12 w10 fun n14 n15 n16 n17 w18 =>
 ∀ (b19 : Nat) (w20 : World), NewAt w18 w20 b19 #[.int .i64 0, .int .i64 0, .int .i64 0] 133 →
 MayL w20 ⟨b19, 0, none⟩ 3 ∧ ∀ w21 : World, SetL w20 w21 ⟨b19, 0, none⟩ [.int .i64 n14, .int .i64 n15, .int .i64 n16] →
 ∃ (n22 : Int), World.cell? w21 ⟨b19, 0, none⟩ = some (.int .i64 n22) ∧
 IfB (!decide ((n22 : Int) = 4))
 (Fit .i64 (n9 + 1) ∧
 (I6 a8 l8 c8 (n9 + 1) w21 ∧
 m7 a8 l8 c8 (n9 + 1) w21 < m7 a8 l8 c8 n9 w10))
 (∃ (q23 : Option Addr), World.cell? w21 ⟨hV, 0, none⟩ = some (.pointer q23) ∧
 C84 q23 0 n12 0 w21 fun n24 n25 w26 =>
 IfB (!decide ((n24 : Int) = 0))
 (RunF Try.prog (Instr.lookup 162 (.map m1) (.int .i64 n24) false) w26 [.leaf .bool] fun (b27 : Bool) (w28 : World) =>
 IfB (!b27)
 (∃ (q29 : Option Addr), World.cell? w28 ⟨hV, 0, none⟩ = some (.pointer q29) ∧
 C83 q29 0 n12 0 0 w28 fun n30 w31 =>
 ∀ (b32 : Nat) (w33 : World), NewAt w31 w33 b32 #[.int .i64 n12] 3 →
 RunF Try.prog (Builtin.append_ #[42, 42] 42 #[.slice a8 l8 c8, .slice (some ⟨b32, 0, none⟩) 1 1]) w33 [.leaf .slice] fun (a34 : Option Addr) (l34 c34 : Nat) (w35 : World) =>
 Fit .i64 (n9 + 1) ∧
 (I6 a34 l34 c34 (n9 + 1) w35 ∧
 m7 a34 l34 c34 (n9 + 1) w35 < m7 a8 l8 c8 n9 w10))
 (Fit .i64 (n9 + 1) ∧
 (I6 a8 l8 c8 (n9 + 1) w28 ∧
 m7 a8 l8 c8 (n9 + 1) w28 < m7 a8 l8 c8 n9 w10)))
 (Fit .i64 (n9 + 1) ∧
 (I6 a8 l8 c8 (n9 + 1) w26 ∧
 m7 a8 l8 c8 (n9 + 1) w26 < m7 a8 l8 c8 n9 w10))))
 (∃ (q36 : Option Addr), World.cell? w10 ⟨hV, 0, none⟩ = some (.pointer q36) ∧
 C95 q36 w10 fun a37 l37 c37 w38 =>
 ∃ (I39 : Option Addr → Nat → Nat → Int → World → Prop) (m40 : Option Addr → Nat → Nat → Int → World → Nat),
 I39 none 0 0 0 w38 ∧
 ∀ (_ : Env) (a41 : Option Addr) (l41 c41 : Nat) (n42 : Int) (w43 : World), I39 a41 l41 c41 n42 w43 →
 IfB (decide ((n42 : Int) < (l37 : Int)))
 (PtrOK a37 fun (p44 : Addr) =>
 ((0 : Int) ≤ n42 ∧ n42 < (l37 : Int)) ∧
 ∃ (n45 : Int), World.cell? w43 (Addr.add p44 (Int.toNat n42 * 1)) = some (.int .i64 n45) ∧
 ∃ (m46 : Option Nat), World.cell? w43 ⟨hV, 4, none⟩ = some (.map m46) ∧
 RunF Try.prog (Instr.lookup 162 (.map m46) (.int .i64 n45) false) w43 [.leaf .bool] fun (b47 : Bool) (w48 : World) =>
 IfB b47
 (RunF Try.prog (Instr.lookup 162 (.map m1) (.int .i64 n45) false) w48 [.leaf .bool] fun (b49 : Bool) (w50 : World) =>
 IfB (!b49)
 (∃ (m51 : Option Nat), World.cell? w50 ⟨hV, 4, none⟩ = some (.map m51) ∧
 RunF Try.prog (Builtin.delete_ #[162, 3] 0 #[.map m51, .int .i64 n45]) w50 [] fun (w52 : World) =>
 ∀ (b53 : Nat) (w54 : World), NewAt w52 w54 b53 #[.int .i64 n45] 3 →
 RunF Try.prog (Builtin.append_ #[42, 42] 42 #[.slice a41 l41 c41, .slice (some ⟨b53, 0, none⟩) 1 1]) w54 [.leaf .slice] fun (a55 : Option Addr) (l55 c55 : Nat) (w56 : World) =>
 Fit .i64 (n42 + 1) ∧
 (I39 a55 l55 c55 (n42 + 1) w56 ∧
 m40 a55 l55 c55 (n42 + 1) w56 < m40 a41 l41 c41 n42 w43))
 (Fit .i64 (n42 + 1) ∧
 (I39 a41 l41 c41 (n42 + 1) w50 ∧
 m40 a41 l41 c41 (n42 + 1) w50 < m40 a41 l41 c41 n42 w43)))
 (Fit .i64 (n42 + 1) ∧
 (I39 a41 l41 c41 (n42 + 1) w48 ∧
 m40 a41 l41 c41 (n42 + 1) w48 < m40 a41 l41 c41 n42 w43)))
 (∃ (a57 : Option Addr) (l57 c57 : Nat), World.cell? w43 ⟨hV, 5, none⟩ = some (.slice a57 l57 c57) ∧
 RunF Try.prog (Builtin.append_ #[42, 42] 42 #[.slice a57 l57 c57, .slice a41 l41 c41]) w43 [.leaf .slice] fun (a58 : Option Addr) (l58 c58 : Nat) (w59 : World) =>
 May w59 ⟨hV, 5, none⟩ ∧ ∀ w60 : World, SetC w59 w60 ⟨hV, 5, none⟩ (.slice a58 l58 c58) →
 C168 (some ⟨hV, 0, none⟩) w60 fun m61 w62 =>
 ∃ (q63 : Option Addr), World.cell? w62 ⟨hV, 0, none⟩ = some (.pointer q63) ∧
 C95 q63 w62 fun a64 l64 c64 w65 =>
 ∃ (I66 : Int → World → Prop) (m67 : Int → World → Nat),
 I66 0 w65 ∧
 ∀ (_ : Env) (n68 : Int) (w69 : World), I66 n68 w69 →
 IfB (decide ((n68 : Int) < (l64 : Int)))
 (PtrOK a64 fun (p70 : Addr) =>
 ((0 : Int) ≤ n68 ∧ n68 < (l64 : Int)) ∧
 ∃ (n71 : Int), World.cell? w69 (Addr.add p70 (Int.toNat n68 * 1)) = some (.int .i64 n71) ∧
 RunF Try.prog (Instr.lookup 162 (.map m61) (.int .i64 n71) false) w69 [.leaf .bool] fun (b72 : Bool) (w73 : World) =>
 IfB (!b72)
 (∃ (q74 : Option Addr), World.cell? w73 ⟨hV, 0, none⟩ = some (.pointer q74) ∧
 C94 q74 n71 w73 fun n75 n76 n77 n78 w79 =>
 ∀ (b80 : Nat) (w81 : World), NewAt w79 w81 b80 #[.int .i64 0, .int .i64 0, .int .i64 0] 133 →
 MayL w81 ⟨b80, 0, none⟩ 3 ∧ ∀ w82 : World, SetL w81 w82 ⟨b80, 0, none⟩ [.int .i64 n75, .int .i64 n76, .int .i64 n77] →
 ∀ w83 : World, Drew w82 w83 →
 ∃ (n84 : Int), World.cell? w83 ⟨hV, 2, none⟩ = some (.int .i64 n84) ∧
 ∃ (n85 : Int), World.cell? w83 ⟨b80, 2, none⟩ = some (.int .i64 n85) ∧
 Fit .i64 (n85 + 16) ∧
 Fit .i64 (n84 - (n85 + 16)) ∧
 May w83 ⟨hV, 2, none⟩ ∧ ∀ w86 : World, SetC w83 w86 ⟨hV, 2, none⟩ (.int .i64 (n84 - (n85 + 16))) →
 ∃ (q87 : Option Addr), World.cell? w86 ⟨hV, 0, none⟩ = some (.pointer q87) ∧
 C96 q87 0 n71 w86 fun n88 w89 =>
 ∃ (m90 : Option Nat), World.cell? w89 ⟨hV, 4, none⟩ = some (.map m90) ∧
 RunF Try.prog (Builtin.delete_ #[162, 3] 0 #[.map m90, .int .i64 n71]) w89 [] fun (w91 : World) =>
 Fit .i64 (n68 + 1) ∧
 (I66 (n68 + 1) w91 ∧
 m67 (n68 + 1) w91 < m67 n68 w69))
 (Fit .i64 (n68 + 1) ∧
 (I66 (n68 + 1) w73 ∧
 m67 (n68 + 1) w73 < m67 n68 w69)))
 (RunF Try.prog (Builtin.append_ #[42, 42] 42 #[.slice none 0 0, .slice a41 l41 c41]) w69 [.leaf .slice] fun (a92 : Option Addr) (l92 c92 : Nat) (w93 : World) =>
 K a8 l8 c8 a92 l92 c92 0 w93)))
theorem r_f106 (hV : Nat) (w : World) (K : Option Addr → Nat → Nat → Option Addr → Nat → Nat → Int → World → Prop) (h : V_f106 hV w K) : C106 (some ⟨hV, 0, none⟩) w K :=
  @calls_of_eq Try.prog 106 Try.f106 [.pointer (some ⟨hV, 0, none⟩)] w [.leaf .slice, .leaf .slice, .leaf (.int .i64)] K _ (cfg true (fun _ => [])) (fun n => bif Nat.beq n 0 then some ⟨[5, 30], [.slice, .int .i64]⟩ else bif Nat.beq n 2 then some ⟨[6, 80], [.slice, .int .i64]⟩ else bif Nat.beq n 4 then some ⟨[125], [.int .i64]⟩ else none) (fun _ => none) (fun n => bif Nat.beq n 29 then some 10 else none) Try.func106 (by kernel_rfl) (by kernel_rfl) h

/-- (*gneiss/refs.Heap).Next -/
def V_f107 (hV : Nat) (w : World) (K : Int → Bool → World → Prop) : Prop :=
 ∃ M1 : World → Prop,
 (∃ (a3 : Option Addr) (l3 c3 : Nat), World.cell? w ⟨hV, 5, none⟩ = some (.slice a3 l3 c3) ∧
 IfB (decide (((l3 : Int) : Int) = 0))
 (K 0 false w)
 (∃ (a4 : Option Addr) (l4 c4 : Nat), World.cell? w ⟨hV, 3, none⟩ = some (.slice a4 l4 c4) ∧
 PtrOK a4 fun (p5 : Addr) =>
 ((0 : Int) ≤ 0 ∧ 0 < (l4 : Int)) ∧
 ∃ (a6 : Option Addr) (l6 c6 : Nat), World.cell? w (Addr.add p5 (Int.toNat 0 * 1)) = some (.slice a6 l6 c6) ∧
 IfB (decide ((64 : Int) ≤ (l6 : Int)))
 (K 0 false w)
 (M1 w))) ∧
 ∀ (_ : Env) (w2 : World), M1 w2 →
 ∃ (a7 : Option Addr) (l7 c7 : Nat), World.cell? w2 ⟨hV, 5, none⟩ = some (.slice a7 l7 c7) ∧
 PtrOK a7 fun (p8 : Addr) =>
 ((0 : Int) ≤ 0 ∧ 0 < (l7 : Int)) ∧
 ∃ (n9 : Int), World.cell? w2 (Addr.add p8 (Int.toNat 0 * 1)) = some (.int .i64 n9) ∧
 ∃ (a10 : Option Addr) (l10 c10 : Nat), World.cell? w2 ⟨hV, 5, none⟩ = some (.slice a10 l10 c10) ∧
 ((0 : Int) ≤ 1 ∧ 1 ≤ (l10 : Int)) ∧
 May w2 ⟨hV, 5, none⟩ ∧ ∀ w11 : World, SetC w2 w11 ⟨hV, 5, none⟩ (.slice (Adv a10 c10 (Int.toNat 1) 1) (l10 - Int.toNat 1) (c10 - Int.toNat 1)) →
 ∀ w12 : World, Drew w11 w12 →
 (∃ (a13 : Option Addr) (l13 c13 : Nat), World.cell? w12 ⟨hV, 3, none⟩ = some (.slice a13 l13 c13) ∧
 (∃ (a14 : Option Addr) (l14 c14 : Nat), World.cell? w12 ⟨hV, 3, none⟩ = some (.slice a14 l14 c14) ∧
 PtrOK a14 fun (p15 : Addr) =>
 ((0 : Int) ≤ 0 ∧ 0 < (l14 : Int)) ∧
 (∃ (a16 : Option Addr) (l16 c16 : Nat), World.cell? w12 (Addr.add p15 (Int.toNat 0 * 1)) = some (.slice a16 l16 c16) ∧
 ∀ (b17 : Nat) (w18 : World), NewAt w12 w18 b17 #[.int .i64 n9] 3 →
 RunF Try.prog (Builtin.append_ #[42, 42] 42 #[.slice a16 l16 c16, .slice (some ⟨b17, 0, none⟩) 1 1]) w18 [.leaf .slice] fun (a19 : Option Addr) (l19 c19 : Nat) (w20 : World) =>
 PtrOK a13 fun (p21 : Addr) =>
 ((0 : Int) ≤ 0 ∧ 0 < (l13 : Int)) ∧
 May w20 (Addr.add p21 (Int.toNat 0 * 1)) ∧ ∀ w22 : World, SetC w20 w22 (Addr.add p21 (Int.toNat 0 * 1)) (.slice a19 l19 c19) →
 K n9 true w22) ∧
 (∀ (b23 : Nat) (w24 : World), NewAt w12 w24 b23 #[.int .i64 n9] 3 →
 ∃ (a25 : Option Addr) (l25 c25 : Nat), World.cell? w24 (Addr.add p15 (Int.toNat 0 * 1)) = some (.slice a25 l25 c25) ∧
 RunF Try.prog (Builtin.append_ #[42, 42] 42 #[.slice a25 l25 c25, .slice (some ⟨b23, 0, none⟩) 1 1]) w24 [.leaf .slice] fun (a26 : Option Addr) (l26 c26 : Nat) (w27 : World) =>
 PtrOK a13 fun (p28 : Addr) =>
 ((0 : Int) ≤ 0 ∧ 0 < (l13 : Int)) ∧
 May w27 (Addr.add p28 (Int.toNat 0 * 1)) ∧ ∀ w29 : World, SetC w27 w29 (Addr.add p28 (Int.toNat 0 * 1)) (.slice a26 l26 c26) →
 K n9 true w29)) ∧
 (∀ (b30 : Nat) (w31 : World), NewAt w12 w31 b30 #[.int .i64 n9] 3 →
 ∃ (a32 : Option Addr) (l32 c32 : Nat), World.cell? w31 ⟨hV, 3, none⟩ = some (.slice a32 l32 c32) ∧
 PtrOK a32 fun (p33 : Addr) =>
 ((0 : Int) ≤ 0 ∧ 0 < (l32 : Int)) ∧
 ∃ (a34 : Option Addr) (l34 c34 : Nat), World.cell? w31 (Addr.add p33 (Int.toNat 0 * 1)) = some (.slice a34 l34 c34) ∧
 RunF Try.prog (Builtin.append_ #[42, 42] 42 #[.slice a34 l34 c34, .slice (some ⟨b30, 0, none⟩) 1 1]) w31 [.leaf .slice] fun (a35 : Option Addr) (l35 c35 : Nat) (w36 : World) =>
 PtrOK a13 fun (p37 : Addr) =>
 ((0 : Int) ≤ 0 ∧ 0 < (l13 : Int)) ∧
 May w36 (Addr.add p37 (Int.toNat 0 * 1)) ∧ ∀ w38 : World, SetC w36 w38 (Addr.add p37 (Int.toNat 0 * 1)) (.slice a35 l35 c35) →
 K n9 true w38)) ∧
 (∃ (a39 : Option Addr) (l39 c39 : Nat), World.cell? w12 ⟨hV, 3, none⟩ = some (.slice a39 l39 c39) ∧
 PtrOK a39 fun (p40 : Addr) =>
 ((0 : Int) ≤ 0 ∧ 0 < (l39 : Int)) ∧
 (∃ (a41 : Option Addr) (l41 c41 : Nat), World.cell? w12 ⟨hV, 3, none⟩ = some (.slice a41 l41 c41) ∧
 (∃ (a42 : Option Addr) (l42 c42 : Nat), World.cell? w12 (Addr.add p40 (Int.toNat 0 * 1)) = some (.slice a42 l42 c42) ∧
 ∀ (b43 : Nat) (w44 : World), NewAt w12 w44 b43 #[.int .i64 n9] 3 →
 RunF Try.prog (Builtin.append_ #[42, 42] 42 #[.slice a42 l42 c42, .slice (some ⟨b43, 0, none⟩) 1 1]) w44 [.leaf .slice] fun (a45 : Option Addr) (l45 c45 : Nat) (w46 : World) =>
 PtrOK a41 fun (p47 : Addr) =>
 ((0 : Int) ≤ 0 ∧ 0 < (l41 : Int)) ∧
 May w46 (Addr.add p47 (Int.toNat 0 * 1)) ∧ ∀ w48 : World, SetC w46 w48 (Addr.add p47 (Int.toNat 0 * 1)) (.slice a45 l45 c45) →
 K n9 true w48) ∧
 (∀ (b49 : Nat) (w50 : World), NewAt w12 w50 b49 #[.int .i64 n9] 3 →
 ∃ (a51 : Option Addr) (l51 c51 : Nat), World.cell? w50 (Addr.add p40 (Int.toNat 0 * 1)) = some (.slice a51 l51 c51) ∧
 RunF Try.prog (Builtin.append_ #[42, 42] 42 #[.slice a51 l51 c51, .slice (some ⟨b49, 0, none⟩) 1 1]) w50 [.leaf .slice] fun (a52 : Option Addr) (l52 c52 : Nat) (w53 : World) =>
 PtrOK a41 fun (p54 : Addr) =>
 ((0 : Int) ≤ 0 ∧ 0 < (l41 : Int)) ∧
 May w53 (Addr.add p54 (Int.toNat 0 * 1)) ∧ ∀ w55 : World, SetC w53 w55 (Addr.add p54 (Int.toNat 0 * 1)) (.slice a52 l52 c52) →
 K n9 true w55)) ∧
 (∃ (a56 : Option Addr) (l56 c56 : Nat), World.cell? w12 (Addr.add p40 (Int.toNat 0 * 1)) = some (.slice a56 l56 c56) ∧
 (∃ (a57 : Option Addr) (l57 c57 : Nat), World.cell? w12 ⟨hV, 3, none⟩ = some (.slice a57 l57 c57) ∧
 ∀ (b58 : Nat) (w59 : World), NewAt w12 w59 b58 #[.int .i64 n9] 3 →
 RunF Try.prog (Builtin.append_ #[42, 42] 42 #[.slice a56 l56 c56, .slice (some ⟨b58, 0, none⟩) 1 1]) w59 [.leaf .slice] fun (a60 : Option Addr) (l60 c60 : Nat) (w61 : World) =>
 PtrOK a57 fun (p62 : Addr) =>
 ((0 : Int) ≤ 0 ∧ 0 < (l57 : Int)) ∧
 May w61 (Addr.add p62 (Int.toNat 0 * 1)) ∧ ∀ w63 : World, SetC w61 w63 (Addr.add p62 (Int.toNat 0 * 1)) (.slice a60 l60 c60) →
 K n9 true w63) ∧
 (∀ (b64 : Nat) (w65 : World), NewAt w12 w65 b64 #[.int .i64 n9] 3 →
 (∃ (a66 : Option Addr) (l66 c66 : Nat), World.cell? w65 ⟨hV, 3, none⟩ = some (.slice a66 l66 c66) ∧
 RunF Try.prog (Builtin.append_ #[42, 42] 42 #[.slice a56 l56 c56, .slice (some ⟨b64, 0, none⟩) 1 1]) w65 [.leaf .slice] fun (a67 : Option Addr) (l67 c67 : Nat) (w68 : World) =>
 PtrOK a66 fun (p69 : Addr) =>
 ((0 : Int) ≤ 0 ∧ 0 < (l66 : Int)) ∧
 May w68 (Addr.add p69 (Int.toNat 0 * 1)) ∧ ∀ w70 : World, SetC w68 w70 (Addr.add p69 (Int.toNat 0 * 1)) (.slice a67 l67 c67) →
 K n9 true w70) ∧
 (RunF Try.prog (Builtin.append_ #[42, 42] 42 #[.slice a56 l56 c56, .slice (some ⟨b64, 0, none⟩) 1 1]) w65 [.leaf .slice] fun (a71 : Option Addr) (l71 c71 : Nat) (w72 : World) =>
 ∃ (a73 : Option Addr) (l73 c73 : Nat), World.cell? w72 ⟨hV, 3, none⟩ = some (.slice a73 l73 c73) ∧
 PtrOK a73 fun (p74 : Addr) =>
 ((0 : Int) ≤ 0 ∧ 0 < (l73 : Int)) ∧
 May w72 (Addr.add p74 (Int.toNat 0 * 1)) ∧ ∀ w75 : World, SetC w72 w75 (Addr.add p74 (Int.toNat 0 * 1)) (.slice a71 l71 c71) →
 K n9 true w75))) ∧
 (∀ (b76 : Nat) (w77 : World), NewAt w12 w77 b76 #[.int .i64 n9] 3 →
 ∃ (a78 : Option Addr) (l78 c78 : Nat), World.cell? w77 (Addr.add p40 (Int.toNat 0 * 1)) = some (.slice a78 l78 c78) ∧
 (∃ (a79 : Option Addr) (l79 c79 : Nat), World.cell? w77 ⟨hV, 3, none⟩ = some (.slice a79 l79 c79) ∧
 RunF Try.prog (Builtin.append_ #[42, 42] 42 #[.slice a78 l78 c78, .slice (some ⟨b76, 0, none⟩) 1 1]) w77 [.leaf .slice] fun (a80 : Option Addr) (l80 c80 : Nat) (w81 : World) =>
 PtrOK a79 fun (p82 : Addr) =>
 ((0 : Int) ≤ 0 ∧ 0 < (l79 : Int)) ∧
 May w81 (Addr.add p82 (Int.toNat 0 * 1)) ∧ ∀ w83 : World, SetC w81 w83 (Addr.add p82 (Int.toNat 0 * 1)) (.slice a80 l80 c80) →
 K n9 true w83) ∧
 (RunF Try.prog (Builtin.append_ #[42, 42] 42 #[.slice a78 l78 c78, .slice (some ⟨b76, 0, none⟩) 1 1]) w77 [.leaf .slice] fun (a84 : Option Addr) (l84 c84 : Nat) (w85 : World) =>
 ∃ (a86 : Option Addr) (l86 c86 : Nat), World.cell? w85 ⟨hV, 3, none⟩ = some (.slice a86 l86 c86) ∧
 PtrOK a86 fun (p87 : Addr) =>
 ((0 : Int) ≤ 0 ∧ 0 < (l86 : Int)) ∧
 May w85 (Addr.add p87 (Int.toNat 0 * 1)) ∧ ∀ w88 : World, SetC w85 w88 (Addr.add p87 (Int.toNat 0 * 1)) (.slice a84 l84 c84) →
 K n9 true w88))) ∧
 (∀ (b89 : Nat) (w90 : World), NewAt w12 w90 b89 #[.int .i64 n9] 3 →
 ∃ (a91 : Option Addr) (l91 c91 : Nat), World.cell? w90 ⟨hV, 3, none⟩ = some (.slice a91 l91 c91) ∧
 PtrOK a91 fun (p92 : Addr) =>
 ((0 : Int) ≤ 0 ∧ 0 < (l91 : Int)) ∧
 ∃ (a93 : Option Addr) (l93 c93 : Nat), World.cell? w90 (Addr.add p92 (Int.toNat 0 * 1)) = some (.slice a93 l93 c93) ∧
 (∃ (a94 : Option Addr) (l94 c94 : Nat), World.cell? w90 ⟨hV, 3, none⟩ = some (.slice a94 l94 c94) ∧
 RunF Try.prog (Builtin.append_ #[42, 42] 42 #[.slice a93 l93 c93, .slice (some ⟨b89, 0, none⟩) 1 1]) w90 [.leaf .slice] fun (a95 : Option Addr) (l95 c95 : Nat) (w96 : World) =>
 PtrOK a94 fun (p97 : Addr) =>
 ((0 : Int) ≤ 0 ∧ 0 < (l94 : Int)) ∧
 May w96 (Addr.add p97 (Int.toNat 0 * 1)) ∧ ∀ w98 : World, SetC w96 w98 (Addr.add p97 (Int.toNat 0 * 1)) (.slice a95 l95 c95) →
 K n9 true w98) ∧
 (RunF Try.prog (Builtin.append_ #[42, 42] 42 #[.slice a93 l93 c93, .slice (some ⟨b89, 0, none⟩) 1 1]) w90 [.leaf .slice] fun (a99 : Option Addr) (l99 c99 : Nat) (w100 : World) =>
 ∃ (a101 : Option Addr) (l101 c101 : Nat), World.cell? w100 ⟨hV, 3, none⟩ = some (.slice a101 l101 c101) ∧
 PtrOK a101 fun (p102 : Addr) =>
 ((0 : Int) ≤ 0 ∧ 0 < (l101 : Int)) ∧
 May w100 (Addr.add p102 (Int.toNat 0 * 1)) ∧ ∀ w103 : World, SetC w100 w103 (Addr.add p102 (Int.toNat 0 * 1)) (.slice a99 l99 c99) →
 K n9 true w103))
theorem r_f107 (hV : Nat) (w : World) (K : Int → Bool → World → Prop) (h : V_f107 hV w K) : C107 (some ⟨hV, 0, none⟩) w K :=
  @calls_of_eq Try.prog 107 Try.f107 [.pointer (some ⟨hV, 0, none⟩)] w [.leaf (.int .i64), .leaf .bool] K _ (cfg true (fun _ => [])) (fun _ => none) (fun n => bif Nat.beq n 3 then some ⟨[], []⟩ else none) (fun _ => none) Try.func107 (by kernel_rfl) (by kernel_rfl) h

/-- (*gneiss/refs.Heap).Refs -/
def V_f108 (hV : Nat) (w : World) (K : Option Addr → Nat → Nat → World → Prop) : Prop :=
 ∃ (q1 : Option Addr), World.cell? w ⟨hV, 0, none⟩ = some (.pointer q1) ∧
 C95 q1 w fun a2 l2 c2 w3 =>
 K a2 l2 c2 w3
theorem r_f108 (hV : Nat) (w : World) (K : Option Addr → Nat → Nat → World → Prop) (h : V_f108 hV w K) : C108 (some ⟨hV, 0, none⟩) w K :=
  @calls_of_eq Try.prog 108 Try.f108 [.pointer (some ⟨hV, 0, none⟩)] w [.leaf .slice] K _ (cfg true (fun _ => [])) (fun _ => none) (fun _ => none) (fun _ => none) Try.func108 (by kernel_rfl) (by kernel_rfl) h

/-- (*gneiss/refs.Heap).Deref -/
def V_f109 (hV : Nat) (thread : Int) (weak : Int) (w : World) (K : Int → Int → World → Prop) : Prop :=
 C166 (some ⟨hV, 0, none⟩) thread w fun n1 w2 =>
 IfB (!decide ((n1 : Int) = 0))
 (K 0 n1 w2)
 (∃ (q3 : Option Addr), World.cell? w2 ⟨hV, 0, none⟩ = some (.pointer q3) ∧
 C94 q3 weak w2 fun n4 n5 n6 n7 w8 =>
 ∀ (b9 : Nat) (w10 : World), NewAt w8 w10 b9 #[.int .i64 0, .int .i64 0, .int .i64 0] 133 →
 MayL w10 ⟨b9, 0, none⟩ 3 ∧ ∀ w11 : World, SetL w10 w11 ⟨b9, 0, none⟩ [.int .i64 n4, .int .i64 n5, .int .i64 n6] →
 ∃ (n12 : Int), World.cell? w11 ⟨b9, 0, none⟩ = some (.int .i64 n12) ∧
 IfB (!decide ((n12 : Int) = 4))
 (K 0 1302 w11)
 (∃ (q13 : Option Addr), World.cell? w11 ⟨hV, 0, none⟩ = some (.pointer q13) ∧
 C84 q13 thread weak 0 w11 fun n14 n15 w16 =>
 K n14 0 w16))
theorem r_f109 (hV : Nat) (thread : Int) (weak : Int) (w : World) (K : Int → Int → World → Prop) (h : V_f109 hV thread weak w K) : C109 (some ⟨hV, 0, none⟩) thread weak w K :=
  @calls_of_eq Try.prog 109 Try.f109 [.pointer (some ⟨hV, 0, none⟩), .int .i64 thread, .int .i64 weak] w [.leaf (.int .i64), .leaf (.int .i64)] K _ (cfg true (fun _ => [])) (fun _ => none) (fun _ => none) (fun _ => none) Try.func109 (by kernel_rfl) (by kernel_rfl) h

/-- (*gneiss/refs.Heap).Push -/
def V_f110 (hV : Nat) (thread : Int) (ref : Int) (w : World) (K : Int → World → Prop) : Prop :=
 C166 (some ⟨hV, 0, none⟩) thread w fun n1 w2 =>
 IfB (!decide ((n1 : Int) = 0))
 (K n1 w2)
 (∃ (a3 : Option Addr) (l3 c3 : Nat), World.cell? w2 ⟨hV, 3, none⟩ = some (.slice a3 l3 c3) ∧
 PtrOK a3 fun (p4 : Addr) =>
 ((0 : Int) ≤ thread ∧ thread < (l3 : Int)) ∧
 ∃ (a5 : Option Addr) (l5 c5 : Nat), World.cell? w2 (Addr.add p4 (Int.toNat thread * 1)) = some (.slice a5 l5 c5) ∧
 IfB (decide ((64 : Int) ≤ (l5 : Int)))
 (K 1303 w2)
 (∀ w6 : World, Drew w2 w6 →
 (∃ (a7 : Option Addr) (l7 c7 : Nat), World.cell? w6 ⟨hV, 3, none⟩ = some (.slice a7 l7 c7) ∧
 (∃ (a8 : Option Addr) (l8 c8 : Nat), World.cell? w6 ⟨hV, 3, none⟩ = some (.slice a8 l8 c8) ∧
 PtrOK a8 fun (p9 : Addr) =>
 ((0 : Int) ≤ thread ∧ thread < (l8 : Int)) ∧
 (∃ (a10 : Option Addr) (l10 c10 : Nat), World.cell? w6 (Addr.add p9 (Int.toNat thread * 1)) = some (.slice a10 l10 c10) ∧
 ∀ (b11 : Nat) (w12 : World), NewAt w6 w12 b11 #[.int .i64 ref] 3 →
 RunF Try.prog (Builtin.append_ #[42, 42] 42 #[.slice a10 l10 c10, .slice (some ⟨b11, 0, none⟩) 1 1]) w12 [.leaf .slice] fun (a13 : Option Addr) (l13 c13 : Nat) (w14 : World) =>
 PtrOK a7 fun (p15 : Addr) =>
 ((0 : Int) ≤ thread ∧ thread < (l7 : Int)) ∧
 May w14 (Addr.add p15 (Int.toNat thread * 1)) ∧ ∀ w16 : World, SetC w14 w16 (Addr.add p15 (Int.toNat thread * 1)) (.slice a13 l13 c13) →
 K 0 w16) ∧
 (∀ (b17 : Nat) (w18 : World), NewAt w6 w18 b17 #[.int .i64 ref] 3 →
 ∃ (a19 : Option Addr) (l19 c19 : Nat), World.cell? w18 (Addr.add p9 (Int.toNat thread * 1)) = some (.slice a19 l19 c19) ∧
 RunF Try.prog (Builtin.append_ #[42, 42] 42 #[.slice a19 l19 c19, .slice (some ⟨b17, 0, none⟩) 1 1]) w18 [.leaf .slice] fun (a20 : Option Addr) (l20 c20 : Nat) (w21 : World) =>
 PtrOK a7 fun (p22 : Addr) =>
 ((0 : Int) ≤ thread ∧ thread < (l7 : Int)) ∧
 May w21 (Addr.add p22 (Int.toNat thread * 1)) ∧ ∀ w23 : World, SetC w21 w23 (Addr.add p22 (Int.toNat thread * 1)) (.slice a20 l20 c20) →
 K 0 w23)) ∧
 (∀ (b24 : Nat) (w25 : World), NewAt w6 w25 b24 #[.int .i64 ref] 3 →
 ∃ (a26 : Option Addr) (l26 c26 : Nat), World.cell? w25 ⟨hV, 3, none⟩ = some (.slice a26 l26 c26) ∧
 PtrOK a26 fun (p27 : Addr) =>
 ((0 : Int) ≤ thread ∧ thread < (l26 : Int)) ∧
 ∃ (a28 : Option Addr) (l28 c28 : Nat), World.cell? w25 (Addr.add p27 (Int.toNat thread * 1)) = some (.slice a28 l28 c28) ∧
 RunF Try.prog (Builtin.append_ #[42, 42] 42 #[.slice a28 l28 c28, .slice (some ⟨b24, 0, none⟩) 1 1]) w25 [.leaf .slice] fun (a29 : Option Addr) (l29 c29 : Nat) (w30 : World) =>
 PtrOK a7 fun (p31 : Addr) =>
 ((0 : Int) ≤ thread ∧ thread < (l7 : Int)) ∧
 May w30 (Addr.add p31 (Int.toNat thread * 1)) ∧ ∀ w32 : World, SetC w30 w32 (Addr.add p31 (Int.toNat thread * 1)) (.slice a29 l29 c29) →
 K 0 w32)) ∧
 (∃ (a33 : Option Addr) (l33 c33 : Nat), World.cell? w6 ⟨hV, 3, none⟩ = some (.slice a33 l33 c33) ∧
 PtrOK a33 fun (p34 : Addr) =>
 ((0 : Int) ≤ thread ∧ thread < (l33 : Int)) ∧
 (∃ (a35 : Option Addr) (l35 c35 : Nat), World.cell? w6 ⟨hV, 3, none⟩ = some (.slice a35 l35 c35) ∧
 (∃ (a36 : Option Addr) (l36 c36 : Nat), World.cell? w6 (Addr.add p34 (Int.toNat thread * 1)) = some (.slice a36 l36 c36) ∧
 ∀ (b37 : Nat) (w38 : World), NewAt w6 w38 b37 #[.int .i64 ref] 3 →
 RunF Try.prog (Builtin.append_ #[42, 42] 42 #[.slice a36 l36 c36, .slice (some ⟨b37, 0, none⟩) 1 1]) w38 [.leaf .slice] fun (a39 : Option Addr) (l39 c39 : Nat) (w40 : World) =>
 PtrOK a35 fun (p41 : Addr) =>
 ((0 : Int) ≤ thread ∧ thread < (l35 : Int)) ∧
 May w40 (Addr.add p41 (Int.toNat thread * 1)) ∧ ∀ w42 : World, SetC w40 w42 (Addr.add p41 (Int.toNat thread * 1)) (.slice a39 l39 c39) →
 K 0 w42) ∧
 (∀ (b43 : Nat) (w44 : World), NewAt w6 w44 b43 #[.int .i64 ref] 3 →
 ∃ (a45 : Option Addr) (l45 c45 : Nat), World.cell? w44 (Addr.add p34 (Int.toNat thread * 1)) = some (.slice a45 l45 c45) ∧
 RunF Try.prog (Builtin.append_ #[42, 42] 42 #[.slice a45 l45 c45, .slice (some ⟨b43, 0, none⟩) 1 1]) w44 [.leaf .slice] fun (a46 : Option Addr) (l46 c46 : Nat) (w47 : World) =>
 PtrOK a35 fun (p48 : Addr) =>
 ((0 : Int) ≤ thread ∧ thread < (l35 : Int)) ∧
 May w47 (Addr.add p48 (Int.toNat thread * 1)) ∧ ∀ w49 : World, SetC w47 w49 (Addr.add p48 (Int.toNat thread * 1)) (.slice a46 l46 c46) →
 K 0 w49)) ∧
 (∃ (a50 : Option Addr) (l50 c50 : Nat), World.cell? w6 (Addr.add p34 (Int.toNat thread * 1)) = some (.slice a50 l50 c50) ∧
 (∃ (a51 : Option Addr) (l51 c51 : Nat), World.cell? w6 ⟨hV, 3, none⟩ = some (.slice a51 l51 c51) ∧
 ∀ (b52 : Nat) (w53 : World), NewAt w6 w53 b52 #[.int .i64 ref] 3 →
 RunF Try.prog (Builtin.append_ #[42, 42] 42 #[.slice a50 l50 c50, .slice (some ⟨b52, 0, none⟩) 1 1]) w53 [.leaf .slice] fun (a54 : Option Addr) (l54 c54 : Nat) (w55 : World) =>
 PtrOK a51 fun (p56 : Addr) =>
 ((0 : Int) ≤ thread ∧ thread < (l51 : Int)) ∧
 May w55 (Addr.add p56 (Int.toNat thread * 1)) ∧ ∀ w57 : World, SetC w55 w57 (Addr.add p56 (Int.toNat thread * 1)) (.slice a54 l54 c54) →
 K 0 w57) ∧
 (∀ (b58 : Nat) (w59 : World), NewAt w6 w59 b58 #[.int .i64 ref] 3 →
 (∃ (a60 : Option Addr) (l60 c60 : Nat), World.cell? w59 ⟨hV, 3, none⟩ = some (.slice a60 l60 c60) ∧
 RunF Try.prog (Builtin.append_ #[42, 42] 42 #[.slice a50 l50 c50, .slice (some ⟨b58, 0, none⟩) 1 1]) w59 [.leaf .slice] fun (a61 : Option Addr) (l61 c61 : Nat) (w62 : World) =>
 PtrOK a60 fun (p63 : Addr) =>
 ((0 : Int) ≤ thread ∧ thread < (l60 : Int)) ∧
 May w62 (Addr.add p63 (Int.toNat thread * 1)) ∧ ∀ w64 : World, SetC w62 w64 (Addr.add p63 (Int.toNat thread * 1)) (.slice a61 l61 c61) →
 K 0 w64) ∧
 (RunF Try.prog (Builtin.append_ #[42, 42] 42 #[.slice a50 l50 c50, .slice (some ⟨b58, 0, none⟩) 1 1]) w59 [.leaf .slice] fun (a65 : Option Addr) (l65 c65 : Nat) (w66 : World) =>
 ∃ (a67 : Option Addr) (l67 c67 : Nat), World.cell? w66 ⟨hV, 3, none⟩ = some (.slice a67 l67 c67) ∧
 PtrOK a67 fun (p68 : Addr) =>
 ((0 : Int) ≤ thread ∧ thread < (l67 : Int)) ∧
 May w66 (Addr.add p68 (Int.toNat thread * 1)) ∧ ∀ w69 : World, SetC w66 w69 (Addr.add p68 (Int.toNat thread * 1)) (.slice a65 l65 c65) →
 K 0 w69))) ∧
 (∀ (b70 : Nat) (w71 : World), NewAt w6 w71 b70 #[.int .i64 ref] 3 →
 ∃ (a72 : Option Addr) (l72 c72 : Nat), World.cell? w71 (Addr.add p34 (Int.toNat thread * 1)) = some (.slice a72 l72 c72) ∧
 (∃ (a73 : Option Addr) (l73 c73 : Nat), World.cell? w71 ⟨hV, 3, none⟩ = some (.slice a73 l73 c73) ∧
 RunF Try.prog (Builtin.append_ #[42, 42] 42 #[.slice a72 l72 c72, .slice (some ⟨b70, 0, none⟩) 1 1]) w71 [.leaf .slice] fun (a74 : Option Addr) (l74 c74 : Nat) (w75 : World) =>
 PtrOK a73 fun (p76 : Addr) =>
 ((0 : Int) ≤ thread ∧ thread < (l73 : Int)) ∧
 May w75 (Addr.add p76 (Int.toNat thread * 1)) ∧ ∀ w77 : World, SetC w75 w77 (Addr.add p76 (Int.toNat thread * 1)) (.slice a74 l74 c74) →
 K 0 w77) ∧
 (RunF Try.prog (Builtin.append_ #[42, 42] 42 #[.slice a72 l72 c72, .slice (some ⟨b70, 0, none⟩) 1 1]) w71 [.leaf .slice] fun (a78 : Option Addr) (l78 c78 : Nat) (w79 : World) =>
 ∃ (a80 : Option Addr) (l80 c80 : Nat), World.cell? w79 ⟨hV, 3, none⟩ = some (.slice a80 l80 c80) ∧
 PtrOK a80 fun (p81 : Addr) =>
 ((0 : Int) ≤ thread ∧ thread < (l80 : Int)) ∧
 May w79 (Addr.add p81 (Int.toNat thread * 1)) ∧ ∀ w82 : World, SetC w79 w82 (Addr.add p81 (Int.toNat thread * 1)) (.slice a78 l78 c78) →
 K 0 w82))) ∧
 (∀ (b83 : Nat) (w84 : World), NewAt w6 w84 b83 #[.int .i64 ref] 3 →
 ∃ (a85 : Option Addr) (l85 c85 : Nat), World.cell? w84 ⟨hV, 3, none⟩ = some (.slice a85 l85 c85) ∧
 PtrOK a85 fun (p86 : Addr) =>
 ((0 : Int) ≤ thread ∧ thread < (l85 : Int)) ∧
 ∃ (a87 : Option Addr) (l87 c87 : Nat), World.cell? w84 (Addr.add p86 (Int.toNat thread * 1)) = some (.slice a87 l87 c87) ∧
 (∃ (a88 : Option Addr) (l88 c88 : Nat), World.cell? w84 ⟨hV, 3, none⟩ = some (.slice a88 l88 c88) ∧
 RunF Try.prog (Builtin.append_ #[42, 42] 42 #[.slice a87 l87 c87, .slice (some ⟨b83, 0, none⟩) 1 1]) w84 [.leaf .slice] fun (a89 : Option Addr) (l89 c89 : Nat) (w90 : World) =>
 PtrOK a88 fun (p91 : Addr) =>
 ((0 : Int) ≤ thread ∧ thread < (l88 : Int)) ∧
 May w90 (Addr.add p91 (Int.toNat thread * 1)) ∧ ∀ w92 : World, SetC w90 w92 (Addr.add p91 (Int.toNat thread * 1)) (.slice a89 l89 c89) →
 K 0 w92) ∧
 (RunF Try.prog (Builtin.append_ #[42, 42] 42 #[.slice a87 l87 c87, .slice (some ⟨b83, 0, none⟩) 1 1]) w84 [.leaf .slice] fun (a93 : Option Addr) (l93 c93 : Nat) (w94 : World) =>
 ∃ (a95 : Option Addr) (l95 c95 : Nat), World.cell? w94 ⟨hV, 3, none⟩ = some (.slice a95 l95 c95) ∧
 PtrOK a95 fun (p96 : Addr) =>
 ((0 : Int) ≤ thread ∧ thread < (l95 : Int)) ∧
 May w94 (Addr.add p96 (Int.toNat thread * 1)) ∧ ∀ w97 : World, SetC w94 w97 (Addr.add p96 (Int.toNat thread * 1)) (.slice a93 l93 c93) →
 K 0 w97))))
theorem r_f110 (hV : Nat) (thread : Int) (ref : Int) (w : World) (K : Int → World → Prop) (h : V_f110 hV thread ref w K) : C110 (some ⟨hV, 0, none⟩) thread ref w K :=
  @calls_of_eq Try.prog 110 Try.f110 [.pointer (some ⟨hV, 0, none⟩), .int .i64 thread, .int .i64 ref] w [.leaf (.int .i64)] K _ (cfg true (fun _ => [])) (fun _ => none) (fun _ => none) (fun _ => none) Try.func110 (by kernel_rfl) (by kernel_rfl) h

/-- (*gneiss/refs.Heap).Put -/
def V_f116 (hV : Nat) (thread : Int) (ref : Int) (i : Int) (v : Int) (w : World) (K : Int → World → Prop) : Prop :=
 C171 (some ⟨hV, 0, none⟩) thread ref i w fun n1 w2 =>
 IfB (!decide ((n1 : Int) = 0))
 (K n1 w2)
 (∃ (q3 : Option Addr), World.cell? w2 ⟨hV, 0, none⟩ = some (.pointer q3) ∧
 C83 q3 thread ref i v w2 fun n4 w5 =>
 K n4 w5)
theorem r_f116 (hV : Nat) (thread : Int) (ref : Int) (i : Int) (v : Int) (w : World) (K : Int → World → Prop) (h : V_f116 hV thread ref i v w K) : C116 (some ⟨hV, 0, none⟩) thread ref i v w K :=
  @calls_of_eq Try.prog 116 Try.f116 [.pointer (some ⟨hV, 0, none⟩), .int .i64 thread, .int .i64 ref, .int .i64 i, .int .i64 v] w [.leaf (.int .i64)] K _ (cfg true (fun _ => [])) (fun _ => none) (fun _ => none) (fun _ => none) Try.func116 (by kernel_rfl) (by kernel_rfl) h

/-- (*gneiss/refs.Heap).Load -/
def V_f117 (hV : Nat) (thread : Int) (ref : Int) (i : Int) (w : World) (K : Int → Int → World → Prop) : Prop :=
 C171 (some ⟨hV, 0, none⟩) thread ref i w fun n1 w2 =>
 IfB (!decide ((n1 : Int) = 0))
 (K 0 n1 w2)
 (∃ (q3 : Option Addr), World.cell? w2 ⟨hV, 0, none⟩ = some (.pointer q3) ∧
 C84 q3 thread ref i w2 fun n4 n5 w6 =>
 K n4 n5 w6)
theorem r_f117 (hV : Nat) (thread : Int) (ref : Int) (i : Int) (w : World) (K : Int → Int → World → Prop) (h : V_f117 hV thread ref i w K) : C117 (some ⟨hV, 0, none⟩) thread ref i w K :=
  @calls_of_eq Try.prog 117 Try.f117 [.pointer (some ⟨hV, 0, none⟩), .int .i64 thread, .int .i64 ref, .int .i64 i] w [.leaf (.int .i64), .leaf (.int .i64)] K _ (cfg true (fun _ => [])) (fun _ => none) (fun _ => none) (fun _ => none) Try.func117 (by kernel_rfl) (by kernel_rfl) h

/-- (*gneiss/refs.Heap).thread -/
def V_f166 (hV : Nat) (t : Int) (w : World) (K : Int → World → Prop) : Prop :=
 IfB (decide ((t : Int) < 0))
 (K 1302 w)
 (∃ (a1 : Option Addr) (l1 c1 : Nat), World.cell? w ⟨hV, 3, none⟩ = some (.slice a1 l1 c1) ∧
 IfB (decide (((l1 : Int) : Int) ≤ t))
 (K 1302 w)
 (K 0 w))
theorem r_f166 (hV : Nat) (t : Int) (w : World) (K : Int → World → Prop) (h : V_f166 hV t w K) : C166 (some ⟨hV, 0, none⟩) t w K :=
  @calls_of_eq Try.prog 166 Try.f166 [.pointer (some ⟨hV, 0, none⟩), .int .i64 t] w [.leaf (.int .i64)] K _ (cfg true (fun _ => [])) (fun _ => none) (fun _ => none) (fun _ => none) Try.func166 (by kernel_rfl) (by kernel_rfl) h

/-- (*gneiss/refs.Heap).made -/
def V_f167 (hV : Nat) (thread : Int) (kind : Int) (classV : Int) (n : Int) (w : World) (K : Int → Int → World → Prop) : Prop :=
 ∃ (a1 : Option Addr) (l1 c1 : Nat), World.cell? w ⟨hV, 3, none⟩ = some (.slice a1 l1 c1) ∧
 PtrOK a1 fun (p2 : Addr) =>
 ((0 : Int) ≤ thread ∧ thread < (l1 : Int)) ∧
 ∃ (a3 : Option Addr) (l3 c3 : Nat), World.cell? w (Addr.add p2 (Int.toNat thread * 1)) = some (.slice a3 l3 c3) ∧
 IfB (decide ((64 : Int) ≤ (l3 : Int)))
 (K 0 1303 w)
 (∀ w4 : World, Drew w w4 →
 ∃ (n5 : Int), World.cell? w4 ⟨hV, 2, none⟩ = some (.int .i64 n5) ∧
 Fit .i64 (n5 + n) ∧
 Fit .i64 ((n5 + n) + 16) ∧
 Fit .i64 (4 * ((n5 + n) + 16)) ∧
 ∃ (n6 : Int), World.cell? w4 ⟨hV, 1, none⟩ = some (.int .i64 n6) ∧
 IfB (decide ((n6 : Int) < (4 * ((n5 + n) + 16))))
 (K 0 1301 w4)
 (∃ (q7 : Option Addr), World.cell? w4 ⟨hV, 0, none⟩ = some (.pointer q7) ∧
 C81 q7 thread kind classV n w4 fun n8 n9 w10 =>
 ∃ (n11 : Int), World.cell? w10 ⟨hV, 2, none⟩ = some (.int .i64 n11) ∧
 Fit .i64 (n + 16) ∧
 Fit .i64 (n11 + (n + 16)) ∧
 May w10 ⟨hV, 2, none⟩ ∧ ∀ w12 : World, SetC w10 w12 ⟨hV, 2, none⟩ (.int .i64 (n11 + (n + 16))) →
 ∀ w13 : World, Drew w12 w13 →
 (∃ (a14 : Option Addr) (l14 c14 : Nat), World.cell? w13 ⟨hV, 3, none⟩ = some (.slice a14 l14 c14) ∧
 (∃ (a15 : Option Addr) (l15 c15 : Nat), World.cell? w13 ⟨hV, 3, none⟩ = some (.slice a15 l15 c15) ∧
 PtrOK a15 fun (p16 : Addr) =>
 ((0 : Int) ≤ thread ∧ thread < (l15 : Int)) ∧
 (∃ (a17 : Option Addr) (l17 c17 : Nat), World.cell? w13 (Addr.add p16 (Int.toNat thread * 1)) = some (.slice a17 l17 c17) ∧
 ∀ (b18 : Nat) (w19 : World), NewAt w13 w19 b18 #[.int .i64 n8] 3 →
 RunF Try.prog (Builtin.append_ #[42, 42] 42 #[.slice a17 l17 c17, .slice (some ⟨b18, 0, none⟩) 1 1]) w19 [.leaf .slice] fun (a20 : Option Addr) (l20 c20 : Nat) (w21 : World) =>
 PtrOK a14 fun (p22 : Addr) =>
 ((0 : Int) ≤ thread ∧ thread < (l14 : Int)) ∧
 May w21 (Addr.add p22 (Int.toNat thread * 1)) ∧ ∀ w23 : World, SetC w21 w23 (Addr.add p22 (Int.toNat thread * 1)) (.slice a20 l20 c20) →
 K n8 0 w23) ∧
 (∀ (b24 : Nat) (w25 : World), NewAt w13 w25 b24 #[.int .i64 n8] 3 →
 ∃ (a26 : Option Addr) (l26 c26 : Nat), World.cell? w25 (Addr.add p16 (Int.toNat thread * 1)) = some (.slice a26 l26 c26) ∧
 RunF Try.prog (Builtin.append_ #[42, 42] 42 #[.slice a26 l26 c26, .slice (some ⟨b24, 0, none⟩) 1 1]) w25 [.leaf .slice] fun (a27 : Option Addr) (l27 c27 : Nat) (w28 : World) =>
 PtrOK a14 fun (p29 : Addr) =>
 ((0 : Int) ≤ thread ∧ thread < (l14 : Int)) ∧
 May w28 (Addr.add p29 (Int.toNat thread * 1)) ∧ ∀ w30 : World, SetC w28 w30 (Addr.add p29 (Int.toNat thread * 1)) (.slice a27 l27 c27) →
 K n8 0 w30)) ∧
 (∀ (b31 : Nat) (w32 : World), NewAt w13 w32 b31 #[.int .i64 n8] 3 →
 ∃ (a33 : Option Addr) (l33 c33 : Nat), World.cell? w32 ⟨hV, 3, none⟩ = some (.slice a33 l33 c33) ∧
 PtrOK a33 fun (p34 : Addr) =>
 ((0 : Int) ≤ thread ∧ thread < (l33 : Int)) ∧
 ∃ (a35 : Option Addr) (l35 c35 : Nat), World.cell? w32 (Addr.add p34 (Int.toNat thread * 1)) = some (.slice a35 l35 c35) ∧
 RunF Try.prog (Builtin.append_ #[42, 42] 42 #[.slice a35 l35 c35, .slice (some ⟨b31, 0, none⟩) 1 1]) w32 [.leaf .slice] fun (a36 : Option Addr) (l36 c36 : Nat) (w37 : World) =>
 PtrOK a14 fun (p38 : Addr) =>
 ((0 : Int) ≤ thread ∧ thread < (l14 : Int)) ∧
 May w37 (Addr.add p38 (Int.toNat thread * 1)) ∧ ∀ w39 : World, SetC w37 w39 (Addr.add p38 (Int.toNat thread * 1)) (.slice a36 l36 c36) →
 K n8 0 w39)) ∧
 (∃ (a40 : Option Addr) (l40 c40 : Nat), World.cell? w13 ⟨hV, 3, none⟩ = some (.slice a40 l40 c40) ∧
 PtrOK a40 fun (p41 : Addr) =>
 ((0 : Int) ≤ thread ∧ thread < (l40 : Int)) ∧
 (∃ (a42 : Option Addr) (l42 c42 : Nat), World.cell? w13 ⟨hV, 3, none⟩ = some (.slice a42 l42 c42) ∧
 (∃ (a43 : Option Addr) (l43 c43 : Nat), World.cell? w13 (Addr.add p41 (Int.toNat thread * 1)) = some (.slice a43 l43 c43) ∧
 ∀ (b44 : Nat) (w45 : World), NewAt w13 w45 b44 #[.int .i64 n8] 3 →
 RunF Try.prog (Builtin.append_ #[42, 42] 42 #[.slice a43 l43 c43, .slice (some ⟨b44, 0, none⟩) 1 1]) w45 [.leaf .slice] fun (a46 : Option Addr) (l46 c46 : Nat) (w47 : World) =>
 PtrOK a42 fun (p48 : Addr) =>
 ((0 : Int) ≤ thread ∧ thread < (l42 : Int)) ∧
 May w47 (Addr.add p48 (Int.toNat thread * 1)) ∧ ∀ w49 : World, SetC w47 w49 (Addr.add p48 (Int.toNat thread * 1)) (.slice a46 l46 c46) →
 K n8 0 w49) ∧
 (∀ (b50 : Nat) (w51 : World), NewAt w13 w51 b50 #[.int .i64 n8] 3 →
 ∃ (a52 : Option Addr) (l52 c52 : Nat), World.cell? w51 (Addr.add p41 (Int.toNat thread * 1)) = some (.slice a52 l52 c52) ∧
 RunF Try.prog (Builtin.append_ #[42, 42] 42 #[.slice a52 l52 c52, .slice (some ⟨b50, 0, none⟩) 1 1]) w51 [.leaf .slice] fun (a53 : Option Addr) (l53 c53 : Nat) (w54 : World) =>
 PtrOK a42 fun (p55 : Addr) =>
 ((0 : Int) ≤ thread ∧ thread < (l42 : Int)) ∧
 May w54 (Addr.add p55 (Int.toNat thread * 1)) ∧ ∀ w56 : World, SetC w54 w56 (Addr.add p55 (Int.toNat thread * 1)) (.slice a53 l53 c53) →
 K n8 0 w56)) ∧
 (∃ (a57 : Option Addr) (l57 c57 : Nat), World.cell? w13 (Addr.add p41 (Int.toNat thread * 1)) = some (.slice a57 l57 c57) ∧
 (∃ (a58 : Option Addr) (l58 c58 : Nat), World.cell? w13 ⟨hV, 3, none⟩ = some (.slice a58 l58 c58) ∧
 ∀ (b59 : Nat) (w60 : World), NewAt w13 w60 b59 #[.int .i64 n8] 3 →
 RunF Try.prog (Builtin.append_ #[42, 42] 42 #[.slice a57 l57 c57, .slice (some ⟨b59, 0, none⟩) 1 1]) w60 [.leaf .slice] fun (a61 : Option Addr) (l61 c61 : Nat) (w62 : World) =>
 PtrOK a58 fun (p63 : Addr) =>
 ((0 : Int) ≤ thread ∧ thread < (l58 : Int)) ∧
 May w62 (Addr.add p63 (Int.toNat thread * 1)) ∧ ∀ w64 : World, SetC w62 w64 (Addr.add p63 (Int.toNat thread * 1)) (.slice a61 l61 c61) →
 K n8 0 w64) ∧
 (∀ (b65 : Nat) (w66 : World), NewAt w13 w66 b65 #[.int .i64 n8] 3 →
 (∃ (a67 : Option Addr) (l67 c67 : Nat), World.cell? w66 ⟨hV, 3, none⟩ = some (.slice a67 l67 c67) ∧
 RunF Try.prog (Builtin.append_ #[42, 42] 42 #[.slice a57 l57 c57, .slice (some ⟨b65, 0, none⟩) 1 1]) w66 [.leaf .slice] fun (a68 : Option Addr) (l68 c68 : Nat) (w69 : World) =>
 PtrOK a67 fun (p70 : Addr) =>
 ((0 : Int) ≤ thread ∧ thread < (l67 : Int)) ∧
 May w69 (Addr.add p70 (Int.toNat thread * 1)) ∧ ∀ w71 : World, SetC w69 w71 (Addr.add p70 (Int.toNat thread * 1)) (.slice a68 l68 c68) →
 K n8 0 w71) ∧
 (RunF Try.prog (Builtin.append_ #[42, 42] 42 #[.slice a57 l57 c57, .slice (some ⟨b65, 0, none⟩) 1 1]) w66 [.leaf .slice] fun (a72 : Option Addr) (l72 c72 : Nat) (w73 : World) =>
 ∃ (a74 : Option Addr) (l74 c74 : Nat), World.cell? w73 ⟨hV, 3, none⟩ = some (.slice a74 l74 c74) ∧
 PtrOK a74 fun (p75 : Addr) =>
 ((0 : Int) ≤ thread ∧ thread < (l74 : Int)) ∧
 May w73 (Addr.add p75 (Int.toNat thread * 1)) ∧ ∀ w76 : World, SetC w73 w76 (Addr.add p75 (Int.toNat thread * 1)) (.slice a72 l72 c72) →
 K n8 0 w76))) ∧
 (∀ (b77 : Nat) (w78 : World), NewAt w13 w78 b77 #[.int .i64 n8] 3 →
 ∃ (a79 : Option Addr) (l79 c79 : Nat), World.cell? w78 (Addr.add p41 (Int.toNat thread * 1)) = some (.slice a79 l79 c79) ∧
 (∃ (a80 : Option Addr) (l80 c80 : Nat), World.cell? w78 ⟨hV, 3, none⟩ = some (.slice a80 l80 c80) ∧
 RunF Try.prog (Builtin.append_ #[42, 42] 42 #[.slice a79 l79 c79, .slice (some ⟨b77, 0, none⟩) 1 1]) w78 [.leaf .slice] fun (a81 : Option Addr) (l81 c81 : Nat) (w82 : World) =>
 PtrOK a80 fun (p83 : Addr) =>
 ((0 : Int) ≤ thread ∧ thread < (l80 : Int)) ∧
 May w82 (Addr.add p83 (Int.toNat thread * 1)) ∧ ∀ w84 : World, SetC w82 w84 (Addr.add p83 (Int.toNat thread * 1)) (.slice a81 l81 c81) →
 K n8 0 w84) ∧
 (RunF Try.prog (Builtin.append_ #[42, 42] 42 #[.slice a79 l79 c79, .slice (some ⟨b77, 0, none⟩) 1 1]) w78 [.leaf .slice] fun (a85 : Option Addr) (l85 c85 : Nat) (w86 : World) =>
 ∃ (a87 : Option Addr) (l87 c87 : Nat), World.cell? w86 ⟨hV, 3, none⟩ = some (.slice a87 l87 c87) ∧
 PtrOK a87 fun (p88 : Addr) =>
 ((0 : Int) ≤ thread ∧ thread < (l87 : Int)) ∧
 May w86 (Addr.add p88 (Int.toNat thread * 1)) ∧ ∀ w89 : World, SetC w86 w89 (Addr.add p88 (Int.toNat thread * 1)) (.slice a85 l85 c85) →
 K n8 0 w89))) ∧
 (∀ (b90 : Nat) (w91 : World), NewAt w13 w91 b90 #[.int .i64 n8] 3 →
 ∃ (a92 : Option Addr) (l92 c92 : Nat), World.cell? w91 ⟨hV, 3, none⟩ = some (.slice a92 l92 c92) ∧
 PtrOK a92 fun (p93 : Addr) =>
 ((0 : Int) ≤ thread ∧ thread < (l92 : Int)) ∧
 ∃ (a94 : Option Addr) (l94 c94 : Nat), World.cell? w91 (Addr.add p93 (Int.toNat thread * 1)) = some (.slice a94 l94 c94) ∧
 (∃ (a95 : Option Addr) (l95 c95 : Nat), World.cell? w91 ⟨hV, 3, none⟩ = some (.slice a95 l95 c95) ∧
 RunF Try.prog (Builtin.append_ #[42, 42] 42 #[.slice a94 l94 c94, .slice (some ⟨b90, 0, none⟩) 1 1]) w91 [.leaf .slice] fun (a96 : Option Addr) (l96 c96 : Nat) (w97 : World) =>
 PtrOK a95 fun (p98 : Addr) =>
 ((0 : Int) ≤ thread ∧ thread < (l95 : Int)) ∧
 May w97 (Addr.add p98 (Int.toNat thread * 1)) ∧ ∀ w99 : World, SetC w97 w99 (Addr.add p98 (Int.toNat thread * 1)) (.slice a96 l96 c96) →
 K n8 0 w99) ∧
 (RunF Try.prog (Builtin.append_ #[42, 42] 42 #[.slice a94 l94 c94, .slice (some ⟨b90, 0, none⟩) 1 1]) w91 [.leaf .slice] fun (a100 : Option Addr) (l100 c100 : Nat) (w101 : World) =>
 ∃ (a102 : Option Addr) (l102 c102 : Nat), World.cell? w101 ⟨hV, 3, none⟩ = some (.slice a102 l102 c102) ∧
 PtrOK a102 fun (p103 : Addr) =>
 ((0 : Int) ≤ thread ∧ thread < (l102 : Int)) ∧
 May w101 (Addr.add p103 (Int.toNat thread * 1)) ∧ ∀ w104 : World, SetC w101 w104 (Addr.add p103 (Int.toNat thread * 1)) (.slice a100 l100 c100) →
 K n8 0 w104))))
theorem r_f167 (hV : Nat) (thread : Int) (kind : Int) (classV : Int) (n : Int) (w : World) (K : Int → Int → World → Prop) (h : V_f167 hV thread kind classV n w K) : C167 (some ⟨hV, 0, none⟩) thread kind classV n w K :=
  @calls_of_eq Try.prog 167 Try.f167 [.pointer (some ⟨hV, 0, none⟩), .int .i64 thread, .int .i64 kind, .int .i64 classV, .int .i64 n] w [.leaf (.int .i64), .leaf (.int .i64)] K _ (cfg true (fun _ => [])) (fun _ => none) (fun _ => none) (fun n => bif Nat.beq n 3 then some 14 else none) Try.func167 (by kernel_rfl) (by kernel_rfl) h

/-- (*gneiss/refs.Heap).reached -/
def V_f168 (hV : Nat) (w : World) (K : Option Nat → World → Prop) : Prop :=
 ∀ (b1 : Nat) (w2 : World), NewAt w w2 b1 #[.pointer (some ⟨hV, 0, none⟩)] 145 →
 ∀ (b3 : Nat) (w4 : World), NewMap w2 w4 b3 →
 ∀ (b5 : Nat) (w6 : World), NewAt w4 w6 b5 #[.map none] 162 →
 May w6 ⟨b5, 0, none⟩ ∧ ∀ w7 : World, SetC w6 w7 ⟨b5, 0, none⟩ (.map (some b3)) →
 ∀ (b8 : Nat) (w9 : World), NewAt w7 w9 b8 #[.slice none 0 0] 42 →
 ∃ (q10 : Option Addr), World.cell? w9 ⟨b1, 0, none⟩ = some (.pointer q10) ∧
 PtrOK q10 fun (p11 : Addr) =>
 ∃ (a12 : Option Addr) (l12 c12 : Nat), World.cell? w9 (Addr.add p11 3) = some (.slice a12 l12 c12) ∧
 ∃ (I13 : Int → World → Prop) (m14 : Int → World → Nat),
 I13 0 w9 ∧
 ∀ (_ : Env) (n15 : Int) (w16 : World), I13 n15 w16 →
 IfB (decide ((n15 : Int) < (l12 : Int)))
 (PtrOK a12 fun (p17 : Addr) =>
 ((0 : Int) ≤ n15 ∧ n15 < (l12 : Int)) ∧
 ∃ (a18 : Option Addr) (l18 c18 : Nat), World.cell? w16 (Addr.add p17 (Int.toNat n15 * 1)) = some (.slice a18 l18 c18) ∧
 C180 a18 l18 c18 (some ⟨b1, 0, none⟩) (some ⟨b5, 0, none⟩) (some ⟨b8, 0, none⟩) w16 fun w19 =>
 Fit .i64 (n15 + 1) ∧
 (I13 (n15 + 1) w19 ∧
 m14 (n15 + 1) w19 < m14 n15 w16))
 (∃ (q20 : Option Addr), World.cell? w16 ⟨b1, 0, none⟩ = some (.pointer q20) ∧
 PtrOK q20 fun (p21 : Addr) =>
 ∃ (a22 : Option Addr) (l22 c22 : Nat), World.cell? w16 (Addr.add (Addr.add p21 5) 0) = some (.slice a22 l22 c22) ∧
 C180 a22 l22 c22 (some ⟨b1, 0, none⟩) (some ⟨b5, 0, none⟩) (some ⟨b8, 0, none⟩) w16 fun w23 =>
 ∃ (I24 : World → Prop) (m25 : World → Nat),
 I24 w23 ∧
 ∀ (_ : Env) (w26 : World), I24 w26 →
 ∃ (a27 : Option Addr) (l27 c27 : Nat), World.cell? w26 ⟨b8, 0, none⟩ = some (.slice a27 l27 c27) ∧
 IfB (decide ((0 : Int) < (l27 : Int)))
 (∃ (a28 : Option Addr) (l28 c28 : Nat), World.cell? w26 ⟨b8, 0, none⟩ = some (.slice a28 l28 c28) ∧
 ∃ (a29 : Option Addr) (l29 c29 : Nat), World.cell? w26 ⟨b8, 0, none⟩ = some (.slice a29 l29 c29) ∧
 Fit .i64 ((l29 : Int) - 1) ∧
 PtrOK a28 fun (p30 : Addr) =>
 ((0 : Int) ≤ ((l29 : Int) - 1) ∧ ((l29 : Int) - 1) < (l28 : Int)) ∧
 ∃ (n31 : Int), World.cell? w26 (Addr.add p30 (Int.toNat ((l29 : Int) - 1) * 1)) = some (.int .i64 n31) ∧
 ∃ (a32 : Option Addr) (l32 c32 : Nat), World.cell? w26 ⟨b8, 0, none⟩ = some (.slice a32 l32 c32) ∧
 ∃ (a33 : Option Addr) (l33 c33 : Nat), World.cell? w26 ⟨b8, 0, none⟩ = some (.slice a33 l33 c33) ∧
 Fit .i64 ((l33 : Int) - 1) ∧
 ((0 : Int) ≤ ((l33 : Int) - 1) ∧ ((l33 : Int) - 1) ≤ (c32 : Int)) ∧
 May w26 ⟨b8, 0, none⟩ ∧ ∀ w34 : World, SetC w26 w34 ⟨b8, 0, none⟩ (.slice a32 (Int.toNat ((l33 : Int) - 1)) c32) →
 ∃ (q35 : Option Addr), World.cell? w34 ⟨b1, 0, none⟩ = some (.pointer q35) ∧
 PtrOK q35 fun (p36 : Addr) =>
 ∃ (q37 : Option Addr), World.cell? w34 (Addr.add p36 0) = some (.pointer q37) ∧
 C94 q37 n31 w34 fun n38 n39 n40 n41 w42 =>
 ∀ (b43 : Nat) (w44 : World), NewAt w42 w44 b43 #[.int .i64 0, .int .i64 0, .int .i64 0] 133 →
 MayL w44 ⟨b43, 0, none⟩ 3 ∧ ∀ w45 : World, SetL w44 w45 ⟨b43, 0, none⟩ [.int .i64 n38, .int .i64 n39, .int .i64 n40] →
 ∃ (I46 : Int → World → Prop) (m47 : Int → World → Nat),
 I46 0 w45 ∧
 ∀ (_ : Env) (n48 : Int) (w49 : World), I46 n48 w49 →
 ∃ (n50 : Int), World.cell? w49 ⟨b43, 0, none⟩ = some (.int .i64 n50) ∧
 IfB (decide ((n50 : Int) = 1))
 (∃ (n51 : Int), World.cell? w49 ⟨b43, 2, none⟩ = some (.int .i64 n51) ∧
 IfB (decide ((n48 : Int) < n51))
 (∃ (q52 : Option Addr), World.cell? w49 ⟨b1, 0, none⟩ = some (.pointer q52) ∧
 PtrOK q52 fun (p53 : Addr) =>
 ∃ (q54 : Option Addr), World.cell? w49 (Addr.add p53 0) = some (.pointer q54) ∧
 C84 q54 0 n31 n48 w49 fun n55 n56 w57 =>
 ∀ (b58 : Nat) (w59 : World), NewAt w57 w59 b58 #[.int .i64 n55] 3 →
 C180 (some ⟨b58, 0, none⟩) 1 1 (some ⟨b1, 0, none⟩) (some ⟨b5, 0, none⟩) (some ⟨b8, 0, none⟩) w59 fun w60 =>
 Fit .i64 (n48 + 1) ∧
 (I46 (n48 + 1) w60 ∧
 m47 (n48 + 1) w60 < m47 n48 w49))
 ((I24 w49 ∧
 m25 w49 < m25 w26)))
 (∃ (n61 : Int), World.cell? w49 ⟨b43, 0, none⟩ = some (.int .i64 n61) ∧
 IfB (decide ((n61 : Int) = 3))
 (∃ (n62 : Int), World.cell? w49 ⟨b43, 2, none⟩ = some (.int .i64 n62) ∧
 IfB (decide ((n48 : Int) < n62))
 (∃ (q63 : Option Addr), World.cell? w49 ⟨b1, 0, none⟩ = some (.pointer q63) ∧
 PtrOK q63 fun (p64 : Addr) =>
 ∃ (q65 : Option Addr), World.cell? w49 (Addr.add p64 0) = some (.pointer q65) ∧
 C84 q65 0 n31 n48 w49 fun n66 n67 w68 =>
 ∀ (b69 : Nat) (w70 : World), NewAt w68 w70 b69 #[.int .i64 n66] 3 →
 C180 (some ⟨b69, 0, none⟩) 1 1 (some ⟨b1, 0, none⟩) (some ⟨b5, 0, none⟩) (some ⟨b8, 0, none⟩) w70 fun w71 =>
 Fit .i64 (n48 + 1) ∧
 (I46 (n48 + 1) w71 ∧
 m47 (n48 + 1) w71 < m47 n48 w49))
 ((I24 w49 ∧
 m25 w49 < m25 w26)))
 ((I24 w49 ∧
 m25 w49 < m25 w26))))
 (∃ (m72 : Option Nat), World.cell? w26 ⟨b5, 0, none⟩ = some (.map m72) ∧
 K m72 w26))
theorem r_f168 (hV : Nat) (w : World) (K : Option Nat → World → Prop) (h : V_f168 hV w K) : C168 (some ⟨hV, 0, none⟩) w K :=
  @calls_of_eq Try.prog 168 Try.f168 [.pointer (some ⟨hV, 0, none⟩)] w [.leaf .map] K _ (cfg true (fun _ => [])) (fun n => bif Nat.beq n 0 then some ⟨[21], [.int .i64]⟩ else bif Nat.beq n 2 then some ⟨[], []⟩ else bif Nat.beq n 4 then some ⟨[11], [.int .i64]⟩ else none) (fun _ => none) (fun _ => none) Try.func168 (by kernel_rfl) (by kernel_rfl) h

/-- (*gneiss/refs.Heap).word -/
def V_f171 (hV : Nat) (thread : Int) (ref : Int) (i : Int) (w : World) (K : Int → World → Prop) : Prop :=
 C166 (some ⟨hV, 0, none⟩) thread w fun n1 w2 =>
 IfB (!decide ((n1 : Int) = 0))
 (K n1 w2)
 (∃ (q3 : Option Addr), World.cell? w2 ⟨hV, 0, none⟩ = some (.pointer q3) ∧
 C94 q3 ref w2 fun n4 n5 n6 n7 w8 =>
 ∀ (b9 : Nat) (w10 : World), NewAt w8 w10 b9 #[.int .i64 0, .int .i64 0, .int .i64 0] 133 →
 MayL w10 ⟨b9, 0, none⟩ 3 ∧ ∀ w11 : World, SetL w10 w11 ⟨b9, 0, none⟩ [.int .i64 n4, .int .i64 n5, .int .i64 n6] →
 IfB (!decide ((n7 : Int) = 0))
 (K 1302 w11)
 (∃ (n12 : Int), World.cell? w11 ⟨b9, 0, none⟩ = some (.int .i64 n12) ∧
 IfB (decide ((n12 : Int) = 4))
 (K 1304 w11)
 (IfB (decide ((i : Int) < 0))
 (K 1304 w11)
 (∃ (n13 : Int), World.cell? w11 ⟨b9, 2, none⟩ = some (.int .i64 n13) ∧
 IfB (decide ((n13 : Int) ≤ i))
 (K 1304 w11)
 (K 0 w11)))))
theorem r_f171 (hV : Nat) (thread : Int) (ref : Int) (i : Int) (w : World) (K : Int → World → Prop) (h : V_f171 hV thread ref i w K) : C171 (some ⟨hV, 0, none⟩) thread ref i w K :=
  @calls_of_eq Try.prog 171 Try.f171 [.pointer (some ⟨hV, 0, none⟩), .int .i64 thread, .int .i64 ref, .int .i64 i] w [.leaf (.int .i64)] K _ (cfg true (fun _ => [])) (fun _ => none) (fun _ => none) (fun _ => none) Try.func171 (by kernel_rfl) (by kernel_rfl) h

/-- (*gneiss/refs.Heap).reached$1 -/
def V_f180 (refsa : Option Addr) (refsl refsc : Nat) (cap0 : Nat) (cap1 : Nat) (cap2 : Nat) (w : World) (K : World → Prop) : Prop :=
 ∃ (I1 : Int → World → Prop) (m2 : Int → World → Nat),
 I1 0 w ∧
 ∀ (_ : Env) (n3 : Int) (w4 : World), I1 n3 w4 →
 IfB (decide ((n3 : Int) < (refsl : Int)))
 (PtrOK refsa fun (p5 : Addr) =>
 ((0 : Int) ≤ n3 ∧ n3 < (refsl : Int)) ∧
 ∃ (n6 : Int), World.cell? w4 (Addr.add p5 (Int.toNat n3 * 1)) = some (.int .i64 n6) ∧
 ∃ (q7 : Option Addr), World.cell? w4 ⟨cap0, 0, none⟩ = some (.pointer q7) ∧
 PtrOK q7 fun (p8 : Addr) =>
 ∃ (q9 : Option Addr), World.cell? w4 (Addr.add p8 0) = some (.pointer q9) ∧
 C94 q9 n6 w4 fun n10 n11 n12 n13 w14 =>
 ∀ (b15 : Nat) (w16 : World), NewAt w14 w16 b15 #[.int .i64 0, .int .i64 0, .int .i64 0] 133 →
 MayL w16 ⟨b15, 0, none⟩ 3 ∧ ∀ w17 : World, SetL w16 w17 ⟨b15, 0, none⟩ [.int .i64 n10, .int .i64 n11, .int .i64 n12] →
 IfB (decide ((n13 : Int) = 0))
 (∃ (m18 : Option Nat), World.cell? w17 ⟨cap1, 0, none⟩ = some (.map m18) ∧
 RunF Try.prog (Instr.lookup 162 (.map m18) (.int .i64 n6) false) w17 [.leaf .bool] fun (b19 : Bool) (w20 : World) =>
 IfB (!b19)
 (∃ (m21 : Option Nat), World.cell? w20 ⟨cap1, 0, none⟩ = some (.map m21) ∧
 ∃ w22 : World, Sem.run Try.prog (Instr.mapUpdate 162 (.map m21) (.int .i64 n6) (.bool true)) w20 = .ok () w22 ∧
 ∃ (a23 : Option Addr) (l23 c23 : Nat), World.cell? w22 ⟨cap2, 0, none⟩ = some (.slice a23 l23 c23) ∧
 ∀ (b24 : Nat) (w25 : World), NewAt w22 w25 b24 #[.int .i64 n6] 3 →
 RunF Try.prog (Builtin.append_ #[42, 42] 42 #[.slice a23 l23 c23, .slice (some ⟨b24, 0, none⟩) 1 1]) w25 [.leaf .slice] fun (a26 : Option Addr) (l26 c26 : Nat) (w27 : World) =>
 May w27 ⟨cap2, 0, none⟩ ∧ ∀ w28 : World, SetC w27 w28 ⟨cap2, 0, none⟩ (.slice a26 l26 c26) →
 Fit .i64 (n3 + 1) ∧
 (I1 (n3 + 1) w28 ∧
 m2 (n3 + 1) w28 < m2 n3 w4))
 (Fit .i64 (n3 + 1) ∧
 (I1 (n3 + 1) w20 ∧
 m2 (n3 + 1) w20 < m2 n3 w4)))
 (Fit .i64 (n3 + 1) ∧
 (I1 (n3 + 1) w17 ∧
 m2 (n3 + 1) w17 < m2 n3 w4)))
 (K w4)
theorem r_f180 (refsa : Option Addr) (refsl refsc : Nat) (cap0 : Nat) (cap1 : Nat) (cap2 : Nat) (w : World) (K : World → Prop) (h : V_f180 refsa refsl refsc cap0 cap1 cap2 w K) : C180 refsa refsl refsc (some ⟨cap0, 0, none⟩) (some ⟨cap1, 0, none⟩) (some ⟨cap2, 0, none⟩) w K :=
  @calls_of_eq Try.prog 180 Try.f180 [.slice refsa refsl refsc, .pointer (some ⟨cap0, 0, none⟩), .pointer (some ⟨cap1, 0, none⟩), .pointer (some ⟨cap2, 0, none⟩)] w [] K _ (cfg true (fun _ => [])) (fun n => bif Nat.beq n 0 then some ⟨[11], [.int .i64]⟩ else none) (fun _ => none) (fun _ => none) Try.func180 (by kernel_rfl) (by kernel_rfl) h

end Go.Proofs.Ytfpghcdjfiggiaa.V
