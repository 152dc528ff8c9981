/- Readings of the program's functions. No condition. -/
import Derived.Test.YtfpghcdjfiggiaaGCfg
namespace Go.Proofs.Ytfpghcdjfiggiaa.V
open Go
set_option maxRecDepth 100000
set_option linter.unusedVariables false
/-- gneiss/arena.New -/
def V_f40 (words : Int) (agents : Int) (w : World) (K : Option Addr → Int → World → Prop) : Prop :=
 IfB (decide ((words : Int) < 1))
 (K none 300 w)
 (IfB (decide ((65536 : Int) < words))
 (K none 300 w)
 (IfB (decide ((agents : Int) < 1))
 (K none 300 w)
 (IfB (decide ((12 : Int) < agents))
 (K none 300 w)
 (∀ w1 : World, Drew w w1 →
 (RunF Try.prog (Instr.makeSlice 42 (.int .i64 words) (.int .i64 words)) w1 [.leaf .slice] fun (a2 : Option Addr) (l2 c2 : Nat) (w3 : World) =>
 RunF Try.prog (Instr.makeSlice 42 (.int .i64 agents) (.int .i64 agents)) w3 [.leaf .slice] fun (a4 : Option Addr) (l4 c4 : Nat) (w5 : World) =>
 ∀ (b6 : Nat) (w7 : World), NewAt w5 w7 b6 #[.slice a2 l2 c2, .slice a4 l4 c4] 167 →
 K (some ⟨b6, 0, none⟩) 0 w7) ∧
 (RunF Try.prog (Instr.makeSlice 42 (.int .i64 agents) (.int .i64 agents)) w1 [.leaf .slice] fun (a8 : Option Addr) (l8 c8 : Nat) (w9 : World) =>
 RunF Try.prog (Instr.makeSlice 42 (.int .i64 words) (.int .i64 words)) w9 [.leaf .slice] fun (a10 : Option Addr) (l10 c10 : Nat) (w11 : World) =>
 ∀ (b12 : Nat) (w13 : World), NewAt w11 w13 b12 #[.slice a10 l10 c10, .slice a8 l8 c8] 167 →
 K (some ⟨b12, 0, none⟩) 0 w13)))))
theorem r_f40 (words : Int) (agents : Int) (w : World) (K : Option Addr → Int → World → Prop) (h : V_f40 words agents w K) : C40 words agents w K :=
  @calls_of_eq Try.prog 40 Try.f40 [.int .i64 words, .int .i64 agents] w [.leaf .ptr, .leaf (.int .i64)] K _ (cfg true (fun _ => [])) (fun _ => none) (fun _ => none) (fun _ => none) Try.func40 (by kernel_rfl) (by kernel_rfl) h

/-- (*gneiss/arena.Arena).Load -/
def V_f42 (a : Nat) (agent : Int) (atV : Int) (w : World) (K : Int → Int → World → Prop) : Prop :=
 C130 (some ⟨a, 0, none⟩) agent atV w fun n1 w2 =>
 IfB (!decide ((n1 : Int) = 0))
 (K 0 n1 w2)
 (∃ (a3 : Option Addr) (l3 c3 : Nat), World.cell? w2 ⟨a, 1, none⟩ = some (.slice a3 l3 c3) ∧
 PtrOK a3 fun (p4 : Addr) =>
 ((0 : Int) ≤ agent ∧ agent < (l3 : Int)) ∧
 ∃ (n5 : Int), World.cell? w2 (Addr.add p4 (Int.toNat agent * 1)) = some (.int .i64 n5) ∧
 PtrOK a3 fun (p6 : Addr) =>
 ((0 : Int) ≤ agent ∧ agent < (l3 : Int)) ∧
 May w2 (Addr.add p6 (Int.toNat agent * 1)) ∧ ∀ w7 : World, SetC w2 w7 (Addr.add p6 (Int.toNat agent * 1)) (.int .i64 (IntKind.wrap .i64 (n5 + 1))) →
 ∃ (a8 : Option Addr) (l8 c8 : Nat), World.cell? w7 ⟨a, 0, none⟩ = some (.slice a8 l8 c8) ∧
 PtrOK a8 fun (p9 : Addr) =>
 ((0 : Int) ≤ atV ∧ atV < (l8 : Int)) ∧
 ∃ (n10 : Int), World.cell? w7 (Addr.add p9 (Int.toNat atV * 1)) = some (.int .i64 n10) ∧
 K n10 0 w7)
theorem r_f42 (a : Nat) (agent : Int) (atV : Int) (w : World) (K : Int → Int → World → Prop) (h : V_f42 a agent atV w K) : C42 (some ⟨a, 0, none⟩) agent atV w K :=
  @calls_of_eq Try.prog 42 Try.f42 [.pointer (some ⟨a, 0, none⟩), .int .i64 agent, .int .i64 atV] w [.leaf (.int .i64), .leaf (.int .i64)] K _ (cfg false (fun _ => [])) (fun _ => none) (fun _ => none) (fun _ => none) Try.func42 (by kernel_rfl) (by kernel_rfl) h

/-- (*gneiss/arena.Arena).Store -/
def V_f43 (a : Nat) (agent : Int) (atV : Int) (v : Int) (w : World) (K : Int → World → Prop) : Prop :=
 C130 (some ⟨a, 0, none⟩) agent atV w fun n1 w2 =>
 IfB (decide ((n1 : Int) = 0))
 (∃ (a3 : Option Addr) (l3 c3 : Nat), World.cell? w2 ⟨a, 1, none⟩ = some (.slice a3 l3 c3) ∧
 PtrOK a3 fun (p4 : Addr) =>
 ((0 : Int) ≤ agent ∧ agent < (l3 : Int)) ∧
 ∃ (n5 : Int), World.cell? w2 (Addr.add p4 (Int.toNat agent * 1)) = some (.int .i64 n5) ∧
 PtrOK a3 fun (p6 : Addr) =>
 ((0 : Int) ≤ agent ∧ agent < (l3 : Int)) ∧
 May w2 (Addr.add p6 (Int.toNat agent * 1)) ∧ ∀ w7 : World, SetC w2 w7 (Addr.add p6 (Int.toNat agent * 1)) (.int .i64 (IntKind.wrap .i64 (n5 + 1))) →
 ∃ (a8 : Option Addr) (l8 c8 : Nat), World.cell? w7 ⟨a, 0, none⟩ = some (.slice a8 l8 c8) ∧
 PtrOK a8 fun (p9 : Addr) =>
 ((0 : Int) ≤ atV ∧ atV < (l8 : Int)) ∧
 May w7 (Addr.add p9 (Int.toNat atV * 1)) ∧ ∀ w10 : World, SetC w7 w10 (Addr.add p9 (Int.toNat atV * 1)) (.int .i64 v) →
 K n1 w10)
 (K n1 w2)
theorem r_f43 (a : Nat) (agent : Int) (atV : Int) (v : Int) (w : World) (K : Int → World → Prop) (h : V_f43 a agent atV v w K) : C43 (some ⟨a, 0, none⟩) agent atV v w K :=
  @calls_of_eq Try.prog 43 Try.f43 [.pointer (some ⟨a, 0, none⟩), .int .i64 agent, .int .i64 atV, .int .i64 v] w [.leaf (.int .i64)] K _ (cfg false (fun _ => [])) (fun _ => none) (fun _ => none) (fun _ => none) Try.func43 (by kernel_rfl) (by kernel_rfl) h

/-- (*gneiss/arena.Arena).Swap -/
def V_f44 (a : Nat) (agent : Int) (atV : Int) (old : Int) (v : Int) (w : World) (K : Bool → Int → World → Prop) : Prop :=
 C130 (some ⟨a, 0, none⟩) agent atV w fun n1 w2 =>
 IfB (!decide ((n1 : Int) = 0))
 (K false n1 w2)
 (∃ (a3 : Option Addr) (l3 c3 : Nat), World.cell? w2 ⟨a, 1, none⟩ = some (.slice a3 l3 c3) ∧
 PtrOK a3 fun (p4 : Addr) =>
 ((0 : Int) ≤ agent ∧ agent < (l3 : Int)) ∧
 ∃ (n5 : Int), World.cell? w2 (Addr.add p4 (Int.toNat agent * 1)) = some (.int .i64 n5) ∧
 PtrOK a3 fun (p6 : Addr) =>
 ((0 : Int) ≤ agent ∧ agent < (l3 : Int)) ∧
 May w2 (Addr.add p6 (Int.toNat agent * 1)) ∧ ∀ w7 : World, SetC w2 w7 (Addr.add p6 (Int.toNat agent * 1)) (.int .i64 (IntKind.wrap .i64 (n5 + 1))) →
 ∃ (a8 : Option Addr) (l8 c8 : Nat), World.cell? w7 ⟨a, 0, none⟩ = some (.slice a8 l8 c8) ∧
 PtrOK a8 fun (p9 : Addr) =>
 ((0 : Int) ≤ atV ∧ atV < (l8 : Int)) ∧
 ∃ (n10 : Int), World.cell? w7 (Addr.add p9 (Int.toNat atV * 1)) = some (.int .i64 n10) ∧
 IfB (!decide ((n10 : Int) = old))
 (K false 0 w7)
 (∃ (a11 : Option Addr) (l11 c11 : Nat), World.cell? w7 ⟨a, 0, none⟩ = some (.slice a11 l11 c11) ∧
 PtrOK a11 fun (p12 : Addr) =>
 ((0 : Int) ≤ atV ∧ atV < (l11 : Int)) ∧
 May w7 (Addr.add p12 (Int.toNat atV * 1)) ∧ ∀ w13 : World, SetC w7 w13 (Addr.add p12 (Int.toNat atV * 1)) (.int .i64 v) →
 K true 0 w13))
theorem r_f44 (a : Nat) (agent : Int) (atV : Int) (old : Int) (v : Int) (w : World) (K : Bool → Int → World → Prop) (h : V_f44 a agent atV old v w K) : C44 (some ⟨a, 0, none⟩) agent atV old v w K :=
  @calls_of_eq Try.prog 44 Try.f44 [.pointer (some ⟨a, 0, none⟩), .int .i64 agent, .int .i64 atV, .int .i64 old, .int .i64 v] w [.leaf .bool, .leaf (.int .i64)] K _ (cfg false (fun _ => [])) (fun _ => none) (fun _ => none) (fun _ => none) Try.func44 (by kernel_rfl) (by kernel_rfl) h

/-- (*gneiss/arena.Arena).Steps -/
def V_f128 (a : Nat) (agent : Int) (w : World) (K : Int → World → Prop) : Prop :=
 C135 (some ⟨a, 0, none⟩) agent w fun b1 w2 =>
 IfB (!b1)
 (K 0 w2)
 (∃ (a3 : Option Addr) (l3 c3 : Nat), World.cell? w2 ⟨a, 1, none⟩ = some (.slice a3 l3 c3) ∧
 PtrOK a3 fun (p4 : Addr) =>
 ((0 : Int) ≤ agent ∧ agent < (l3 : Int)) ∧
 ∃ (n5 : Int), World.cell? w2 (Addr.add p4 (Int.toNat agent * 1)) = some (.int .i64 n5) ∧
 K n5 w2)
theorem r_f128 (a : Nat) (agent : Int) (w : World) (K : Int → World → Prop) (h : V_f128 a agent w K) : C128 (some ⟨a, 0, none⟩) agent w K :=
  @calls_of_eq Try.prog 128 Try.f128 [.pointer (some ⟨a, 0, none⟩), .int .i64 agent] w [.leaf (.int .i64)] K _ (cfg true (fun _ => [])) (fun _ => none) (fun _ => none) (fun _ => none) Try.func128 (by kernel_rfl) (by kernel_rfl) h

/-- (*gneiss/arena.Arena).Words -/
def V_f129 (a : Nat) (w : World) (K : Int → World → Prop) : Prop :=
 ∃ (a1 : Option Addr) (l1 c1 : Nat), World.cell? w ⟨a, 0, none⟩ = some (.slice a1 l1 c1) ∧
 K (l1 : Int) w
theorem r_f129 (a : Nat) (w : World) (K : Int → World → Prop) (h : V_f129 a w K) : C129 (some ⟨a, 0, none⟩) w K :=
  @calls_of_eq Try.prog 129 Try.f129 [.pointer (some ⟨a, 0, none⟩)] w [.leaf (.int .i64)] K _ (cfg true (fun _ => [])) (fun _ => none) (fun _ => none) (fun _ => none) Try.func129 (by kernel_rfl) (by kernel_rfl) h

/-- (*gneiss/arena.Arena).may -/
def V_f130 (a : Nat) (agent : Int) (atV : Int) (w : World) (K : Int → World → Prop) : Prop :=
 C135 (some ⟨a, 0, none⟩) agent w fun b1 w2 =>
 IfB (!b1)
 (K 302 w2)
 (IfB (decide ((atV : Int) < 0))
 (K 301 w2)
 (∃ (a3 : Option Addr) (l3 c3 : Nat), World.cell? w2 ⟨a, 0, none⟩ = some (.slice a3 l3 c3) ∧
 IfB (decide (((l3 : Int) : Int) ≤ atV))
 (K 301 w2)
 (K 0 w2)))
theorem r_f130 (a : Nat) (agent : Int) (atV : Int) (w : World) (K : Int → World → Prop) (h : V_f130 a agent atV w K) : C130 (some ⟨a, 0, none⟩) agent atV w K :=
  @calls_of_eq Try.prog 130 Try.f130 [.pointer (some ⟨a, 0, none⟩), .int .i64 agent, .int .i64 atV] w [.leaf (.int .i64)] K _ (cfg true (fun _ => [])) (fun _ => none) (fun _ => none) (fun _ => none) Try.func130 (by kernel_rfl) (by kernel_rfl) h

/-- (*gneiss/arena.Arena).Holds -/
def V_f132 (a : Nat) (base : Int) (words : Int) (w : World) (K : Bool → World → Prop) : Prop :=
 IfB (decide ((0 : Int) ≤ base))
 (∃ (a1 : Option Addr) (l1 c1 : Nat), World.cell? w ⟨a, 0, none⟩ = some (.slice a1 l1 c1) ∧
 IfB (decide ((base : Int) ≤ (l1 : Int)))
 (∃ (a2 : Option Addr) (l2 c2 : Nat), World.cell? w ⟨a, 0, none⟩ = some (.slice a2 l2 c2) ∧
 Fit .i64 ((l2 : Int) - base) ∧
 K (decide ((words : Int) ≤ ((l2 : Int) - base))) w)
 (K false w))
 (K false w)
theorem r_f132 (a : Nat) (base : Int) (words : Int) (w : World) (K : Bool → World → Prop) (h : V_f132 a base words w K) : C132 (some ⟨a, 0, none⟩) base words w K :=
  @calls_of_eq Try.prog 132 Try.f132 [.pointer (some ⟨a, 0, none⟩), .int .i64 base, .int .i64 words] w [.leaf .bool] K _ (cfg true (fun _ => [])) (fun _ => none) (fun _ => none) (fun _ => none) Try.func132 (by kernel_rfl) (by kernel_rfl) h

/-- (*gneiss/arena.Arena).Agent -/
def V_f135 (a : Nat) (agent : Int) (w : World) (K : Bool → World → Prop) : Prop :=
 IfB (decide ((0 : Int) ≤ agent))
 (∃ (a1 : Option Addr) (l1 c1 : Nat), World.cell? w ⟨a, 1, none⟩ = some (.slice a1 l1 c1) ∧
 K (decide ((agent : Int) < (l1 : Int))) w)
 (K false w)
theorem r_f135 (a : Nat) (agent : Int) (w : World) (K : Bool → World → Prop) (h : V_f135 a agent w K) : C135 (some ⟨a, 0, none⟩) agent w K :=
  @calls_of_eq Try.prog 135 Try.f135 [.pointer (some ⟨a, 0, none⟩), .int .i64 agent] w [.leaf .bool] K _ (cfg true (fun _ => [])) (fun _ => none) (fun _ => none) (fun _ => none) Try.func135 (by kernel_rfl) (by kernel_rfl) h

/-- gneiss/gneisslaw3.awake -/
def V_f41 (w : World) (K : Bool → World → Prop) : Prop :=
 C40 4 2 w fun q1 n2 w3 =>
 C43 q1 1 3 7 w3 fun n4 w5 =>
 C42 q1 0 3 w5 fun n6 n7 w8 =>
 C44 q1 0 3 7 9 w8 fun b9 n10 w11 =>
 C42 q1 2 0 w11 fun n12 n13 w14 =>
 IfB (decide ((n2 : Int) = 0))
 (IfB (decide ((n4 : Int) = 0))
 (IfB (decide ((n6 : Int) = 7))
 (IfB (decide ((n7 : Int) = 0))
 (IfB b9
 (IfB (decide ((n10 : Int) = 0))
 (IfB (decide ((n13 : Int) = 302))
 (C128 q1 0 w14 fun n15 w16 =>
 IfB (decide ((n15 : Int) = 2))
 (C129 q1 w16 fun n17 w18 =>
 K (decide ((n17 : Int) = 4)) w18)
 (K false w16))
 (K false w14))
 (K false w14))
 (K false w14))
 (K false w14))
 (K false w14))
 (K false w14))
 (K false w14)
theorem r_f41 (w : World) (K : Bool → World → Prop) (h : V_f41 w K) : C41  w K :=
  @calls_of_eq Try.prog 41 Try.f41 [] w [.leaf .bool] K _ (cfg true (fun _ => [])) (fun _ => none) (fun _ => none) (fun _ => none) Try.func41 (by kernel_rfl) (by kernel_rfl) h

/-- gneiss/gneisslaw3.ArenaSteps -/
def V_f5 (words : Int) (agents : Int) (stepsa : Option Addr) (stepsl stepsc : Nat) (w : World) (K : Bool → World → Prop) : Prop :=
 C40 words agents w fun q1 n2 w3 =>
 IfB (decide ((words : Int) < 1))
 (IfB (decide ((n2 : Int) = 300))
 (C41  w3 fun b4 w5 =>
 K b4 w5)
 (K false w3))
 (IfB (decide ((65536 : Int) < words))
 (IfB (decide ((n2 : Int) = 300))
 (C41  w3 fun b6 w7 =>
 K b6 w7)
 (K false w3))
 (IfB (decide ((agents : Int) < 1))
 (IfB (decide ((n2 : Int) = 300))
 (C41  w3 fun b8 w9 =>
 K b8 w9)
 (K false w3))
 (IfB (decide ((12 : Int) < agents))
 (IfB (decide ((n2 : Int) = 300))
 (C41  w3 fun b10 w11 =>
 K b10 w11)
 (K false w3))
 (IfB (decide ((2000 : Int) < words))
 (C41  w3 fun b12 w13 =>
 K b12 w13)
 (∃ M14 : Option Addr → Nat → Nat → Option Addr → Nat → Nat → World → Prop,
 (∀ w18 : World, Drew w3 w18 →
 (RunF Try.prog (Instr.makeSlice 42 (.int .i64 words) (.int .i64 words)) w18 [.leaf .slice] fun (a19 : Option Addr) (l19 c19 : Nat) (w20 : World) =>
 RunF Try.prog (Instr.makeSlice 42 (.int .i64 agents) (.int .i64 agents)) w20 [.leaf .slice] fun (a21 : Option Addr) (l21 c21 : Nat) (w22 : World) =>
 M14 a19 l19 c19 a21 l21 c21 w22) ∧
 (RunF Try.prog (Instr.makeSlice 42 (.int .i64 agents) (.int .i64 agents)) w18 [.leaf .slice] fun (a23 : Option Addr) (l23 c23 : Nat) (w24 : World) =>
 RunF Try.prog (Instr.makeSlice 42 (.int .i64 words) (.int .i64 words)) w24 [.leaf .slice] fun (a25 : Option Addr) (l25 c25 : Nat) (w26 : World) =>
 M14 a25 l25 c25 a23 l23 c23 w26)) ∧
 ∀ (_ : Env) (a15 : Option Addr) (l15 c15 : Nat) (a16 : Option Addr) (l16 c16 : Nat) (w17 : World), M14 a15 l15 c15 a16 l16 c16 w17 →
 ∃ (I27 : Int → World → Prop) (m28 : Int → World → Nat),
 I27 0 w17 ∧
 ∀ (_ : Env) (n29 : Int) (w30 : World), I27 n29 w30 →
 IfB (decide ((n29 : Int) < (stepsl : Int)))
 (IfB (decide ((n29 : Int) < 300))
 (PtrOK stepsa fun (p31 : Addr) =>
 ((0 : Int) ≤ n29 ∧ n29 < (stepsl : Int)) ∧
 ∃ (n32 : Int), ∃ (n33 : Int), ∃ (n34 : Int), ∃ (n35 : Int), ∃ (n36 : Int), CellsAt w30 (Addr.add p31 (Int.toNat n29 * 5)) [.int .i64 n32, .int .i64 n33, .int .i64 n34, .int .i64 n35, .int .i64 n36] ∧
 ∀ (b37 : Nat) (w38 : World), NewAt w30 w38 b37 #[.int .i64 0, .int .i64 0, .int .i64 0, .int .i64 0, .int .i64 0] 44 →
 MayL w38 ⟨b37, 0, none⟩ 5 ∧ ∀ w39 : World, SetL w38 w39 ⟨b37, 0, none⟩ [.int .i64 n32, .int .i64 n33, .int .i64 n34, .int .i64 n35, .int .i64 n36] →
 ∃ M40 : Int → World → Prop,
 (∃ (n43 : Int), World.cell? w39 ⟨b37, 1, none⟩ = some (.int .i64 n43) ∧
 IfB (decide ((n43 : Int) < 0))
 (M40 302 w39)
 (∃ (n44 : Int), World.cell? w39 ⟨b37, 1, none⟩ = some (.int .i64 n44) ∧
 IfB (decide ((agents : Int) ≤ n44))
 (M40 302 w39)
 (∃ (n45 : Int), World.cell? w39 ⟨b37, 2, none⟩ = some (.int .i64 n45) ∧
 IfB (decide ((n45 : Int) < 0))
 (M40 301 w39)
 (∃ (n46 : Int), World.cell? w39 ⟨b37, 2, none⟩ = some (.int .i64 n46) ∧
 IfB (decide ((words : Int) ≤ n46))
 (M40 301 w39)
 (∃ (n47 : Int), World.cell? w39 ⟨b37, 1, none⟩ = some (.int .i64 n47) ∧
 PtrOK a16 fun (p48 : Addr) =>
 ((0 : Int) ≤ n47 ∧ n47 < (l16 : Int)) ∧
 ∃ (n49 : Int), World.cell? w39 (Addr.add p48 (Int.toNat n47 * 1)) = some (.int .i64 n49) ∧
 PtrOK a16 fun (p50 : Addr) =>
 ((0 : Int) ≤ n47 ∧ n47 < (l16 : Int)) ∧
 May w39 (Addr.add p50 (Int.toNat n47 * 1)) ∧ ∀ w51 : World, SetC w39 w51 (Addr.add p50 (Int.toNat n47 * 1)) (.int .i64 (IntKind.wrap .i64 (n49 + 1))) →
 M40 0 w51))))) ∧
 ∀ (_ : Env) (n41 : Int) (w42 : World), M40 n41 w42 →
 ∃ (n52 : Int), World.cell? w42 ⟨b37, 0, none⟩ = some (.int .i64 n52) ∧
 IfB (decide ((n52 : Int) = 0))
 (∃ (n53 : Int), World.cell? w42 ⟨b37, 1, none⟩ = some (.int .i64 n53) ∧
 ∃ (n54 : Int), World.cell? w42 ⟨b37, 2, none⟩ = some (.int .i64 n54) ∧
 C42 q1 n53 n54 w42 fun n55 n56 w57 =>
 IfB (!decide ((n56 : Int) = n41))
 (K false w57)
 (IfB (decide ((n41 : Int) = 0))
 (∃ (n58 : Int), World.cell? w57 ⟨b37, 2, none⟩ = some (.int .i64 n58) ∧
 PtrOK a15 fun (p59 : Addr) =>
 ((0 : Int) ≤ n58 ∧ n58 < (l15 : Int)) ∧
 ∃ (n60 : Int), World.cell? w57 (Addr.add p59 (Int.toNat n58 * 1)) = some (.int .i64 n60) ∧
 IfB (!decide ((n55 : Int) = n60))
 (K false w57)
 (IfB (!decide ((n41 : Int) = 0))
 (IfB (!decide ((n55 : Int) = 0))
 (K false w57)
 ((I27 (IntKind.wrap .i64 (n29 + 1)) w57 ∧
 m28 (IntKind.wrap .i64 (n29 + 1)) w57 < m28 n29 w30)))
 ((I27 (IntKind.wrap .i64 (n29 + 1)) w57 ∧
 m28 (IntKind.wrap .i64 (n29 + 1)) w57 < m28 n29 w30))))
 (IfB (!decide ((n41 : Int) = 0))
 (IfB (!decide ((n55 : Int) = 0))
 (K false w57)
 ((I27 (IntKind.wrap .i64 (n29 + 1)) w57 ∧
 m28 (IntKind.wrap .i64 (n29 + 1)) w57 < m28 n29 w30)))
 ((I27 (IntKind.wrap .i64 (n29 + 1)) w57 ∧
 m28 (IntKind.wrap .i64 (n29 + 1)) w57 < m28 n29 w30)))))
 (IfB (decide ((n52 : Int) = 1))
 (∃ (n61 : Int), World.cell? w42 ⟨b37, 1, none⟩ = some (.int .i64 n61) ∧
 ∃ (n62 : Int), World.cell? w42 ⟨b37, 2, none⟩ = some (.int .i64 n62) ∧
 ∃ (n63 : Int), World.cell? w42 ⟨b37, 4, none⟩ = some (.int .i64 n63) ∧
 C43 q1 n61 n62 n63 w42 fun n64 w65 =>
 IfB (decide ((n41 : Int) = 0))
 (∃ (n66 : Int), World.cell? w65 ⟨b37, 2, none⟩ = some (.int .i64 n66) ∧
 ∃ (n67 : Int), World.cell? w65 ⟨b37, 4, none⟩ = some (.int .i64 n67) ∧
 PtrOK a15 fun (p68 : Addr) =>
 ((0 : Int) ≤ n66 ∧ n66 < (l15 : Int)) ∧
 May w65 (Addr.add p68 (Int.toNat n66 * 1)) ∧ ∀ w69 : World, SetC w65 w69 (Addr.add p68 (Int.toNat n66 * 1)) (.int .i64 n67) →
 IfB (!decide ((n64 : Int) = n41))
 (K false w69)
 ((I27 (IntKind.wrap .i64 (n29 + 1)) w69 ∧
 m28 (IntKind.wrap .i64 (n29 + 1)) w69 < m28 n29 w30)))
 (IfB (!decide ((n64 : Int) = n41))
 (K false w65)
 ((I27 (IntKind.wrap .i64 (n29 + 1)) w65 ∧
 m28 (IntKind.wrap .i64 (n29 + 1)) w65 < m28 n29 w30))))
 (∃ (n70 : Int), World.cell? w42 ⟨b37, 1, none⟩ = some (.int .i64 n70) ∧
 ∃ (n71 : Int), World.cell? w42 ⟨b37, 2, none⟩ = some (.int .i64 n71) ∧
 ∃ (n72 : Int), World.cell? w42 ⟨b37, 3, none⟩ = some (.int .i64 n72) ∧
 ∃ (n73 : Int), World.cell? w42 ⟨b37, 4, none⟩ = some (.int .i64 n73) ∧
 C44 q1 n70 n71 n72 n73 w42 fun b74 n75 w76 =>
 ∃ M77 : Bool → World → Prop,
 (∀ w80 : World, Drew w76 w80 →
 IfB (decide ((n41 : Int) = 0))
 (∃ (n81 : Int), World.cell? w80 ⟨b37, 2, none⟩ = some (.int .i64 n81) ∧
 PtrOK a15 fun (p82 : Addr) =>
 ((0 : Int) ≤ n81 ∧ n81 < (l15 : Int)) ∧
 ∃ (n83 : Int), World.cell? w80 (Addr.add p82 (Int.toNat n81 * 1)) = some (.int .i64 n83) ∧
 ∃ (n84 : Int), World.cell? w80 ⟨b37, 3, none⟩ = some (.int .i64 n84) ∧
 M77 (decide ((n83 : Int) = n84)) w80)
 (M77 false w80)) ∧
 ∀ (_ : Env) (b78 : Bool) (w79 : World), M77 b78 w79 →
 ∃ M85 : World → Prop,
 (IfB b78
 (∃ (n87 : Int), World.cell? w79 ⟨b37, 2, none⟩ = some (.int .i64 n87) ∧
 ∃ (n88 : Int), World.cell? w79 ⟨b37, 4, none⟩ = some (.int .i64 n88) ∧
 PtrOK a15 fun (p89 : Addr) =>
 ((0 : Int) ≤ n87 ∧ n87 < (l15 : Int)) ∧
 May w79 (Addr.add p89 (Int.toNat n87 * 1)) ∧ ∀ w90 : World, SetC w79 w90 (Addr.add p89 (Int.toNat n87 * 1)) (.int .i64 n88) →
 M85 w90)
 (M85 w79)) ∧
 ∀ (_ : Env) (w86 : World), M85 w86 →
 IfB (!decide ((n75 : Int) = n41))
 (K false w86)
 (IfB (!(b74 == b78))
 (K false w86)
 ((I27 (IntKind.wrap .i64 (n29 + 1)) w86 ∧
 m28 (IntKind.wrap .i64 (n29 + 1)) w86 < m28 n29 w30))))))
 (IfB (decide ((n2 : Int) = 0))
 (C45 q1 a15 l15 c15 a16 l16 c16 w30 fun b91 w92 =>
 IfB b91
 (C41  w92 fun b93 w94 =>
 K b93 w94)
 (K false w92))
 (K false w30)))
 (IfB (decide ((n2 : Int) = 0))
 (C45 q1 a15 l15 c15 a16 l16 c16 w30 fun b95 w96 =>
 IfB b95
 (C41  w96 fun b97 w98 =>
 K b97 w98)
 (K false w96))
 (K false w30)))))))
theorem r_f5 (words : Int) (agents : Int) (stepsa : Option Addr) (stepsl stepsc : Nat) (w : World) (K : Bool → World → Prop) (h : V_f5 words agents stepsa stepsl stepsc w K) : C5 words agents stepsa stepsl stepsc w K :=
  @calls_of_eq Try.prog 5 Try.f5 [.int .i64 words, .int .i64 agents, .slice stepsa stepsl stepsc] w [.leaf .bool] K _ (cfg false (fun _ => [])) (fun n => bif Nat.beq n 0 then some ⟨[11], [.int .i64]⟩ else none) (fun n => bif Nat.beq n 7 then some ⟨[9, 10], [.slice, .slice]⟩ else bif Nat.beq n 17 then some ⟨[13], [.int .i64]⟩ else bif Nat.beq n 20 then some ⟨[19], [.bool]⟩ else bif Nat.beq n 22 then some ⟨[], []⟩ else none) (fun n => bif Nat.beq n 19 then some 13 else none) Try.func5 (by kernel_rfl) (by kernel_rfl) h

/-- gneiss/gneisslaw3.ArenaSwaps -/
def V_f6 (agents : Int) (rounds : Int) (w : World) (K : Bool → World → Prop) : Prop :=
 C41  w fun b1 w2 =>
 IfB (!b1)
 (K false w2)
 (Fit .i64 (1 + (bits .and .i64 agents 7)) ∧
 C40 1 (1 + (bits .and .i64 agents 7)) w2 fun q3 n4 w5 =>
 ∃ (I6 : Int → Int → World → Prop) (m7 : Int → Int → World → Nat),
 I6 0 0 w5 ∧
 ∀ (_ : Env) (n8 : Int) (n9 : Int) (w10 : World), I6 n8 n9 w10 →
 Fit .i64 (1 + (bits .and .i64 rounds 31)) ∧
 IfB (decide ((n9 : Int) < (1 + (bits .and .i64 rounds 31))))
 (((1 + (bits .and .i64 agents 7)) : Int) ≠ 0 ∧
 C42 q3 (Int.tmod n9 (1 + (bits .and .i64 agents 7))) 0 w10 fun n11 n12 w13 =>
 IfB (!decide ((n12 : Int) = 0))
 (K false w13)
 (IfB (!decide ((n11 : Int) = n8))
 (K false w13)
 (∃ (I14 : Int → World → Prop) (m15 : Int → World → Nat),
 I14 0 w13 ∧
 ∀ (_ : Env) (n16 : Int) (w17 : World), I14 n16 w17 →
 IfB (decide ((n16 : Int) < (1 + (bits .and .i64 agents 7))))
 (Fit .i64 (n11 + 1) ∧
 C44 q3 n16 0 n11 (n11 + 1) w17 fun b18 n19 w20 =>
 IfB (!decide ((n19 : Int) = 0))
 (K false w20)
 (IfB (!(b18 == (decide ((n16 : Int) = 0))))
 (K false w20)
 (Fit .i64 (n16 + 1) ∧
 (I14 (n16 + 1) w20 ∧
 m15 (n16 + 1) w20 < m15 n16 w17))))
 (Fit .i64 (n8 + 1) ∧
 Fit .i64 (n9 + 1) ∧
 (I6 (n8 + 1) (n9 + 1) w17 ∧
 m7 (n8 + 1) (n9 + 1) w17 < m7 n8 n9 w10)))))
 (C42 q3 0 0 w10 fun n21 n22 w23 =>
 IfB (decide ((n4 : Int) = 0))
 (IfB (decide ((n22 : Int) = 0))
 (K (decide ((n21 : Int) = n8)) w23)
 (K false w23))
 (K false w23)))
theorem r_f6 (agents : Int) (rounds : Int) (w : World) (K : Bool → World → Prop) (h : V_f6 agents rounds w K) : C6 agents rounds w K :=
  @calls_of_eq Try.prog 6 Try.f6 [.int .i64 agents, .int .i64 rounds] w [.leaf .bool] K _ (cfg true (fun _ => [])) (fun n => bif Nat.beq n 0 then some ⟨[8, 9], [.int .i64, .int .i64]⟩ else bif Nat.beq n 2 then some ⟨[12], [.int .i64]⟩ else none) (fun _ => none) (fun _ => none) Try.func6 (by kernel_rfl) (by kernel_rfl) h

/-- gneiss/gneisslaw3.holds -/
def V_f45 (a : Nat) (wsa : Option Addr) (wsl wsc : Nat) (countsa : Option Addr) (countsl countsc : Nat) (w : World) (K : Bool → World → Prop) : Prop :=
 ∃ (I1 : Int → World → Prop) (m2 : Int → World → Nat),
 I1 (-1) w ∧
 ∀ (_ : Env) (n3 : Int) (w4 : World), I1 n3 w4 →
 IfB (decide ((n3 : Int) ≤ (countsl : Int)))
 (IfB (decide ((0 : Int) ≤ n3))
 (IfB (decide ((n3 : Int) < (countsl : Int)))
 (PtrOK countsa fun (p5 : Addr) =>
 ((0 : Int) ≤ n3 ∧ n3 < (countsl : Int)) ∧
 ∃ (n6 : Int), World.cell? w4 (Addr.add p5 (Int.toNat n3 * 1)) = some (.int .i64 n6) ∧
 C128 (some ⟨a, 0, none⟩) n3 w4 fun n7 w8 =>
 IfB (!decide ((n7 : Int) = n6))
 (K false w8)
 (Fit .i64 (n3 + 1) ∧
 (I1 (n3 + 1) w8 ∧
 m2 (n3 + 1) w8 < m2 n3 w4)))
 (C128 (some ⟨a, 0, none⟩) n3 w4 fun n9 w10 =>
 IfB (!decide ((n9 : Int) = 0))
 (K false w10)
 (Fit .i64 (n3 + 1) ∧
 (I1 (n3 + 1) w10 ∧
 m2 (n3 + 1) w10 < m2 n3 w4))))
 (C128 (some ⟨a, 0, none⟩) n3 w4 fun n11 w12 =>
 IfB (!decide ((n11 : Int) = 0))
 (K false w12)
 (Fit .i64 (n3 + 1) ∧
 (I1 (n3 + 1) w12 ∧
 m2 (n3 + 1) w12 < m2 n3 w4))))
 (∃ (I13 : Int → World → Prop) (m14 : Int → World → Nat),
 I13 0 w4 ∧
 ∀ (_ : Env) (n15 : Int) (w16 : World), I13 n15 w16 →
 IfB (decide ((n15 : Int) < (wsl : Int)))
 (C42 (some ⟨a, 0, none⟩) 0 n15 w16 fun n17 n18 w19 =>
 IfB (!decide ((n18 : Int) = 0))
 (K false w19)
 (PtrOK wsa fun (p20 : Addr) =>
 ((0 : Int) ≤ n15 ∧ n15 < (wsl : Int)) ∧
 ∃ (n21 : Int), World.cell? w19 (Addr.add p20 (Int.toNat n15 * 1)) = some (.int .i64 n21) ∧
 IfB (!decide ((n17 : Int) = n21))
 (K false w19)
 (Fit .i64 (n15 + 1) ∧
 (I13 (n15 + 1) w19 ∧
 m14 (n15 + 1) w19 < m14 n15 w16))))
 (C129 (some ⟨a, 0, none⟩) w16 fun n22 w23 =>
 K (decide ((n22 : Int) = (wsl : Int))) w23))
theorem r_f45 (a : Nat) (wsa : Option Addr) (wsl wsc : Nat) (countsa : Option Addr) (countsl countsc : Nat) (w : World) (K : Bool → World → Prop) (h : V_f45 a wsa wsl wsc countsa countsl countsc w K) : C45 (some ⟨a, 0, none⟩) wsa wsl wsc countsa countsl countsc w K :=
  @calls_of_eq Try.prog 45 Try.f45 [.pointer (some ⟨a, 0, none⟩), .slice wsa wsl wsc, .slice countsa countsl countsc] w [.leaf .bool] K _ (cfg true (fun _ => [])) (fun n => bif Nat.beq n 0 then some ⟨[7], [.int .i64]⟩ else bif Nat.beq n 2 then some ⟨[9], [.int .i64]⟩ else none) (fun _ => none) (fun _ => none) Try.func45 (by kernel_rfl) (by kernel_rfl) h

end Go.Proofs.Ytfpghcdjfiggiaa.V
