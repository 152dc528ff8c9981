import Derived.Test.YtfpghcdjfiggiaaVCC
import Derived.Test.YtfpghcdjfiggiaaProg
namespace Go.Proofs.Ytfpghcdjfiggiaa.V
open Go
set_option maxRecDepth 100000
set_option linter.unusedVariables false
/-- gneiss/gneisslaw0.Num -/
def V_f33 (e : Int) (w : World) (K : Int → World → Prop) : Prop :=
  K e w

theorem e_f33 (e : Int) (w : World) (K : Int → World → Prop) : (V_f33 e w K) = vcF Try.prog (Cfg.mk true (fun _ => [])) (fun _ => none) (fun _ => none) (fun _ => none) Try.f33 [.int .i64 e] [.leaf (.int .i64)] K w := by kernel_rfl
theorem r_f33 (e : Int) (w : World) (K : Int → World → Prop) (h : V_f33 e w K) : Calls Try.prog 33 #[.int .i64 e] w (Ret [.leaf (.int .i64)] K) :=
  @calls_of_vcF Try.prog 33 Try.f33 [.int .i64 e] w [.leaf (.int .i64)] K (Cfg.mk true (fun _ => [])) (fun _ => none) (fun _ => none) (fun _ => none) Try.func33 (by kernel_rfl) ((e_f33 e w K).mp h)

/-- gneiss/arena.New -/
def V_f40 (words : Int) (agents : Int) (w : World) (K : Option Addr → Int → World → Prop) : Prop :=
  IfB (decide ((words : Int) < 1))
  (K none 300 w)
  (IfB (decide ((65536 : Int) < words))
    (K none 300 w)
    (IfB (decide ((agents : Int) < 1))
      (K none 300 w)
      (IfB (decide ((12 : Int) < agents))
        (K none 300 w)
        ((RunF Try.prog (Instr.makeSlice 42 (.int .i64 words) (.int .i64 words)) (World.drew w) [.leaf .slice] fun (a1 : Option Addr) (l1 c1 : Nat) (w2 : World) =>
            RunF Try.prog (Instr.makeSlice 42 (.int .i64 agents) (.int .i64 agents)) w2 [.leaf .slice] fun (a3 : Option Addr) (l3 c3 : Nat) (w4 : World) =>
            K (some ⟨(Array.size (World.heap w4)), 0, none⟩) 0 (World.alloc w4 (.cells #[.slice a1 l1 c1, .slice a3 l3 c3] 167))) ∧
          (RunF Try.prog (Instr.makeSlice 42 (.int .i64 agents) (.int .i64 agents)) (World.drew w) [.leaf .slice] fun (a5 : Option Addr) (l5 c5 : Nat) (w6 : World) =>
            RunF Try.prog (Instr.makeSlice 42 (.int .i64 words) (.int .i64 words)) w6 [.leaf .slice] fun (a7 : Option Addr) (l7 c7 : Nat) (w8 : World) =>
            K (some ⟨(Array.size (World.heap w8)), 0, none⟩) 0 (World.alloc w8 (.cells #[.slice a7 l7 c7, .slice a5 l5 c5] 167)))))))

theorem e_f40 (words : Int) (agents : Int) (w : World) (K : Option Addr → Int → World → Prop) : (V_f40 words agents w K) = vcF Try.prog (Cfg.mk true (fun _ => [])) (fun _ => none) (fun _ => none) (fun _ => none) Try.f40 [.int .i64 words, .int .i64 agents] [.leaf .ptr, .leaf (.int .i64)] K w := by kernel_rfl
theorem r_f40 (words : Int) (agents : Int) (w : World) (K : Option Addr → Int → World → Prop) (h : V_f40 words agents w K) : Calls Try.prog 40 #[.int .i64 words, .int .i64 agents] w (Ret [.leaf .ptr, .leaf (.int .i64)] K) :=
  @calls_of_vcF Try.prog 40 Try.f40 [.int .i64 words, .int .i64 agents] w [.leaf .ptr, .leaf (.int .i64)] K (Cfg.mk true (fun _ => [])) (fun _ => none) (fun _ => none) (fun _ => none) Try.func40 (by kernel_rfl) ((e_f40 words agents w K).mp h)

/-- (*gneiss/arena.Arena).Load -/
def V_f42 (a : Addr) (agent : Int) (atV : Int) (w : World) (K : Int → Int → World → Prop) : Prop :=
  Calls Try.prog 130 #[.pointer (some a), .int .i64 agent, .int .i64 atV] w (Ret [.leaf (.int .i64)] fun (n1 : Int) (w2 : World) =>
    IfB (!decide ((n1 : Int) = 0))
    (K 0 n1 w2)
    (∃ (a3 : Option Addr) (l3 c3 : Nat), World.cell? w2 (Addr.add a 1) = some (.slice a3 l3 c3) ∧
      PtrOK a3 fun (p4 : Addr) =>
      ((0 : Int) ≤ agent ∧ agent < (l3 : Int)) ∧
      ∃ (n5 : Int), World.cell? w2 (Addr.add p4 (Int.toNat agent * 1)) = some (.int .i64 n5) ∧
      PtrOK a3 fun (p6 : Addr) =>
      ((0 : Int) ≤ agent ∧ agent < (l3 : Int)) ∧
      May w2 (Addr.add p6 (Int.toNat agent * 1)) ∧
      ∃ (a7 : Option Addr) (l7 c7 : Nat), World.cell? (World.setCell w2 (Addr.add p6 (Int.toNat agent * 1)) (.int .i64 (IntKind.wrap .i64 (n5 + 1)))) (Addr.add a 0) = some (.slice a7 l7 c7) ∧
      PtrOK a7 fun (p8 : Addr) =>
      ((0 : Int) ≤ atV ∧ atV < (l7 : Int)) ∧
      ∃ (n9 : Int), World.cell? (World.setCell w2 (Addr.add p6 (Int.toNat agent * 1)) (.int .i64 (IntKind.wrap .i64 (n5 + 1)))) (Addr.add p8 (Int.toNat atV * 1)) = some (.int .i64 n9) ∧
      K n9 0 (World.setCell w2 (Addr.add p6 (Int.toNat agent * 1)) (.int .i64 (IntKind.wrap .i64 (n5 + 1))))))

theorem e_f42 (a : Addr) (agent : Int) (atV : Int) (w : World) (K : Int → Int → World → Prop) : (V_f42 a agent atV w K) = vcF Try.prog (Cfg.mk false (fun _ => [])) (fun _ => none) (fun _ => none) (fun _ => none) Try.f42 [.pointer (some a), .int .i64 agent, .int .i64 atV] [.leaf (.int .i64), .leaf (.int .i64)] K w := by kernel_rfl
theorem r_f42 (a : Addr) (agent : Int) (atV : Int) (w : World) (K : Int → Int → World → Prop) (h : V_f42 a agent atV w K) : Calls Try.prog 42 #[.pointer (some a), .int .i64 agent, .int .i64 atV] w (Ret [.leaf (.int .i64), .leaf (.int .i64)] K) :=
  @calls_of_vcF Try.prog 42 Try.f42 [.pointer (some a), .int .i64 agent, .int .i64 atV] w [.leaf (.int .i64), .leaf (.int .i64)] K (Cfg.mk false (fun _ => [])) (fun _ => none) (fun _ => none) (fun _ => none) Try.func42 (by kernel_rfl) ((e_f42 a agent atV w K).mp h)

/-- (*gneiss/arena.Arena).Store -/
def V_f43 (a : Addr) (agent : Int) (atV : Int) (v : Int) (w : World) (K : Int → World → Prop) : Prop :=
  Calls Try.prog 130 #[.pointer (some a), .int .i64 agent, .int .i64 atV] w (Ret [.leaf (.int .i64)] fun (n1 : Int) (w2 : World) =>
    IfB (decide ((n1 : Int) = 0))
    (∃ (a3 : Option Addr) (l3 c3 : Nat), World.cell? w2 (Addr.add a 1) = some (.slice a3 l3 c3) ∧
      PtrOK a3 fun (p4 : Addr) =>
      ((0 : Int) ≤ agent ∧ agent < (l3 : Int)) ∧
      ∃ (n5 : Int), World.cell? w2 (Addr.add p4 (Int.toNat agent * 1)) = some (.int .i64 n5) ∧
      PtrOK a3 fun (p6 : Addr) =>
      ((0 : Int) ≤ agent ∧ agent < (l3 : Int)) ∧
      May w2 (Addr.add p6 (Int.toNat agent * 1)) ∧
      ∃ (a7 : Option Addr) (l7 c7 : Nat), World.cell? (World.setCell w2 (Addr.add p6 (Int.toNat agent * 1)) (.int .i64 (IntKind.wrap .i64 (n5 + 1)))) (Addr.add a 0) = some (.slice a7 l7 c7) ∧
      PtrOK a7 fun (p8 : Addr) =>
      ((0 : Int) ≤ atV ∧ atV < (l7 : Int)) ∧
      May (World.setCell w2 (Addr.add p6 (Int.toNat agent * 1)) (.int .i64 (IntKind.wrap .i64 (n5 + 1)))) (Addr.add p8 (Int.toNat atV * 1)) ∧
      K n1 (World.setCell (World.setCell w2 (Addr.add p6 (Int.toNat agent * 1)) (.int .i64 (IntKind.wrap .i64 (n5 + 1)))) (Addr.add p8 (Int.toNat atV * 1)) (.int .i64 v)))
    (K n1 w2))

theorem e_f43 (a : Addr) (agent : Int) (atV : Int) (v : Int) (w : World) (K : Int → World → Prop) : (V_f43 a agent atV v w K) = vcF Try.prog (Cfg.mk false (fun _ => [])) (fun _ => none) (fun _ => none) (fun _ => none) Try.f43 [.pointer (some a), .int .i64 agent, .int .i64 atV, .int .i64 v] [.leaf (.int .i64)] K w := by kernel_rfl
theorem r_f43 (a : Addr) (agent : Int) (atV : Int) (v : Int) (w : World) (K : Int → World → Prop) (h : V_f43 a agent atV v w K) : Calls Try.prog 43 #[.pointer (some a), .int .i64 agent, .int .i64 atV, .int .i64 v] w (Ret [.leaf (.int .i64)] K) :=
  @calls_of_vcF Try.prog 43 Try.f43 [.pointer (some a), .int .i64 agent, .int .i64 atV, .int .i64 v] w [.leaf (.int .i64)] K (Cfg.mk false (fun _ => [])) (fun _ => none) (fun _ => none) (fun _ => none) Try.func43 (by kernel_rfl) ((e_f43 a agent atV v w K).mp h)

/-- (*gneiss/arena.Arena).Swap -/
def V_f44 (a : Addr) (agent : Int) (atV : Int) (old : Int) (v : Int) (w : World) (K : Bool → Int → World → Prop) : Prop :=
  Calls Try.prog 130 #[.pointer (some a), .int .i64 agent, .int .i64 atV] w (Ret [.leaf (.int .i64)] fun (n1 : Int) (w2 : World) =>
    IfB (!decide ((n1 : Int) = 0))
    (K false n1 w2)
    (∃ (a3 : Option Addr) (l3 c3 : Nat), World.cell? w2 (Addr.add a 1) = some (.slice a3 l3 c3) ∧
      PtrOK a3 fun (p4 : Addr) =>
      ((0 : Int) ≤ agent ∧ agent < (l3 : Int)) ∧
      ∃ (n5 : Int), World.cell? w2 (Addr.add p4 (Int.toNat agent * 1)) = some (.int .i64 n5) ∧
      PtrOK a3 fun (p6 : Addr) =>
      ((0 : Int) ≤ agent ∧ agent < (l3 : Int)) ∧
      May w2 (Addr.add p6 (Int.toNat agent * 1)) ∧
      ∃ (a7 : Option Addr) (l7 c7 : Nat), World.cell? (World.setCell w2 (Addr.add p6 (Int.toNat agent * 1)) (.int .i64 (IntKind.wrap .i64 (n5 + 1)))) (Addr.add a 0) = some (.slice a7 l7 c7) ∧
      PtrOK a7 fun (p8 : Addr) =>
      ((0 : Int) ≤ atV ∧ atV < (l7 : Int)) ∧
      ∃ (n9 : Int), World.cell? (World.setCell w2 (Addr.add p6 (Int.toNat agent * 1)) (.int .i64 (IntKind.wrap .i64 (n5 + 1)))) (Addr.add p8 (Int.toNat atV * 1)) = some (.int .i64 n9) ∧
      IfB (!decide ((n9 : Int) = old))
      (K false 0 (World.setCell w2 (Addr.add p6 (Int.toNat agent * 1)) (.int .i64 (IntKind.wrap .i64 (n5 + 1)))))
      (∃ (a10 : Option Addr) (l10 c10 : Nat), World.cell? (World.setCell w2 (Addr.add p6 (Int.toNat agent * 1)) (.int .i64 (IntKind.wrap .i64 (n5 + 1)))) (Addr.add a 0) = some (.slice a10 l10 c10) ∧
        PtrOK a10 fun (p11 : Addr) =>
        ((0 : Int) ≤ atV ∧ atV < (l10 : Int)) ∧
        May (World.setCell w2 (Addr.add p6 (Int.toNat agent * 1)) (.int .i64 (IntKind.wrap .i64 (n5 + 1)))) (Addr.add p11 (Int.toNat atV * 1)) ∧
        K true 0 (World.setCell (World.setCell w2 (Addr.add p6 (Int.toNat agent * 1)) (.int .i64 (IntKind.wrap .i64 (n5 + 1)))) (Addr.add p11 (Int.toNat atV * 1)) (.int .i64 v)))))

theorem e_f44 (a : Addr) (agent : Int) (atV : Int) (old : Int) (v : Int) (w : World) (K : Bool → Int → World → Prop) : (V_f44 a agent atV old v w K) = vcF Try.prog (Cfg.mk false (fun _ => [])) (fun _ => none) (fun _ => none) (fun _ => none) Try.f44 [.pointer (some a), .int .i64 agent, .int .i64 atV, .int .i64 old, .int .i64 v] [.leaf .bool, .leaf (.int .i64)] K w := by kernel_rfl
theorem r_f44 (a : Addr) (agent : Int) (atV : Int) (old : Int) (v : Int) (w : World) (K : Bool → Int → World → Prop) (h : V_f44 a agent atV old v w K) : Calls Try.prog 44 #[.pointer (some a), .int .i64 agent, .int .i64 atV, .int .i64 old, .int .i64 v] w (Ret [.leaf .bool, .leaf (.int .i64)] K) :=
  @calls_of_vcF Try.prog 44 Try.f44 [.pointer (some a), .int .i64 agent, .int .i64 atV, .int .i64 old, .int .i64 v] w [.leaf .bool, .leaf (.int .i64)] K (Cfg.mk false (fun _ => [])) (fun _ => none) (fun _ => none) (fun _ => none) Try.func44 (by kernel_rfl) ((e_f44 a agent atV old v w K).mp h)

/-- (*gneiss/arena.Arena).Steps -/
def V_f128 (a : Addr) (agent : Int) (w : World) (K : Int → World → Prop) : Prop :=
  Calls Try.prog 135 #[.pointer (some a), .int .i64 agent] w (Ret [.leaf .bool] fun (b1 : Bool) (w2 : World) =>
    IfB (!b1)
    (K 0 w2)
    (∃ (a3 : Option Addr) (l3 c3 : Nat), World.cell? w2 (Addr.add a 1) = some (.slice a3 l3 c3) ∧
      PtrOK a3 fun (p4 : Addr) =>
      ((0 : Int) ≤ agent ∧ agent < (l3 : Int)) ∧
      ∃ (n5 : Int), World.cell? w2 (Addr.add p4 (Int.toNat agent * 1)) = some (.int .i64 n5) ∧
      K n5 w2))

theorem e_f128 (a : Addr) (agent : Int) (w : World) (K : Int → World → Prop) : (V_f128 a agent w K) = vcF Try.prog (Cfg.mk true (fun _ => [])) (fun _ => none) (fun _ => none) (fun _ => none) Try.f128 [.pointer (some a), .int .i64 agent] [.leaf (.int .i64)] K w := by kernel_rfl
theorem r_f128 (a : Addr) (agent : Int) (w : World) (K : Int → World → Prop) (h : V_f128 a agent w K) : Calls Try.prog 128 #[.pointer (some a), .int .i64 agent] w (Ret [.leaf (.int .i64)] K) :=
  @calls_of_vcF Try.prog 128 Try.f128 [.pointer (some a), .int .i64 agent] w [.leaf (.int .i64)] K (Cfg.mk true (fun _ => [])) (fun _ => none) (fun _ => none) (fun _ => none) Try.func128 (by kernel_rfl) ((e_f128 a agent w K).mp h)

/-- (*gneiss/arena.Arena).Words -/
def V_f129 (a : Addr) (w : World) (K : Int → World → Prop) : Prop :=
  ∃ (a1 : Option Addr) (l1 c1 : Nat), World.cell? w (Addr.add a 0) = some (.slice a1 l1 c1) ∧
  K (l1 : Int) w

theorem e_f129 (a : Addr) (w : World) (K : Int → World → Prop) : (V_f129 a w K) = vcF Try.prog (Cfg.mk true (fun _ => [])) (fun _ => none) (fun _ => none) (fun _ => none) Try.f129 [.pointer (some a)] [.leaf (.int .i64)] K w := by kernel_rfl
theorem r_f129 (a : Addr) (w : World) (K : Int → World → Prop) (h : V_f129 a w K) : Calls Try.prog 129 #[.pointer (some a)] w (Ret [.leaf (.int .i64)] K) :=
  @calls_of_vcF Try.prog 129 Try.f129 [.pointer (some a)] w [.leaf (.int .i64)] K (Cfg.mk true (fun _ => [])) (fun _ => none) (fun _ => none) (fun _ => none) Try.func129 (by kernel_rfl) ((e_f129 a w K).mp h)

/-- (*gneiss/arena.Arena).may -/
def V_f130 (a : Addr) (agent : Int) (atV : Int) (w : World) (K : Int → World → Prop) : Prop :=
  Calls Try.prog 135 #[.pointer (some a), .int .i64 agent] w (Ret [.leaf .bool] fun (b1 : Bool) (w2 : World) =>
    IfB (!b1)
    (K 302 w2)
    (IfB (decide ((atV : Int) < 0))
      (K 301 w2)
      (∃ (a3 : Option Addr) (l3 c3 : Nat), World.cell? w2 (Addr.add a 0) = some (.slice a3 l3 c3) ∧
        IfB (decide (((l3 : Int) : Int) ≤ atV))
        (K 301 w2)
        (K 0 w2))))

theorem e_f130 (a : Addr) (agent : Int) (atV : Int) (w : World) (K : Int → World → Prop) : (V_f130 a agent atV w K) = vcF Try.prog (Cfg.mk true (fun _ => [])) (fun _ => none) (fun _ => none) (fun _ => none) Try.f130 [.pointer (some a), .int .i64 agent, .int .i64 atV] [.leaf (.int .i64)] K w := by kernel_rfl
theorem r_f130 (a : Addr) (agent : Int) (atV : Int) (w : World) (K : Int → World → Prop) (h : V_f130 a agent atV w K) : Calls Try.prog 130 #[.pointer (some a), .int .i64 agent, .int .i64 atV] w (Ret [.leaf (.int .i64)] K) :=
  @calls_of_vcF Try.prog 130 Try.f130 [.pointer (some a), .int .i64 agent, .int .i64 atV] w [.leaf (.int .i64)] K (Cfg.mk true (fun _ => [])) (fun _ => none) (fun _ => none) (fun _ => none) Try.func130 (by kernel_rfl) ((e_f130 a agent atV w K).mp h)

/-- (*gneiss/arena.Arena).Holds -/
def V_f132 (a : Addr) (base : Int) (words : Int) (w : World) (K : Bool → World → Prop) : Prop :=
  IfB (decide ((0 : Int) ≤ base))
  (∃ (a1 : Option Addr) (l1 c1 : Nat), World.cell? w (Addr.add a 0) = some (.slice a1 l1 c1) ∧
    IfB (decide ((base : Int) ≤ (l1 : Int)))
    (∃ (a2 : Option Addr) (l2 c2 : Nat), World.cell? w (Addr.add a 0) = some (.slice a2 l2 c2) ∧
      Fit .i64 ((l2 : Int) - base) ∧
      K (decide ((words : Int) ≤ ((l2 : Int) - base))) w)
    (K false w))
  (K false w)

theorem e_f132 (a : Addr) (base : Int) (words : Int) (w : World) (K : Bool → World → Prop) : (V_f132 a base words w K) = vcF Try.prog (Cfg.mk true (fun _ => [])) (fun _ => none) (fun _ => none) (fun _ => none) Try.f132 [.pointer (some a), .int .i64 base, .int .i64 words] [.leaf .bool] K w := by kernel_rfl
theorem r_f132 (a : Addr) (base : Int) (words : Int) (w : World) (K : Bool → World → Prop) (h : V_f132 a base words w K) : Calls Try.prog 132 #[.pointer (some a), .int .i64 base, .int .i64 words] w (Ret [.leaf .bool] K) :=
  @calls_of_vcF Try.prog 132 Try.f132 [.pointer (some a), .int .i64 base, .int .i64 words] w [.leaf .bool] K (Cfg.mk true (fun _ => [])) (fun _ => none) (fun _ => none) (fun _ => none) Try.func132 (by kernel_rfl) ((e_f132 a base words w K).mp h)

/-- (*gneiss/arena.Arena).Agent -/
def V_f135 (a : Addr) (agent : Int) (w : World) (K : Bool → World → Prop) : Prop :=
  IfB (decide ((0 : Int) ≤ agent))
  (∃ (a1 : Option Addr) (l1 c1 : Nat), World.cell? w (Addr.add a 1) = some (.slice a1 l1 c1) ∧
    K (decide ((agent : Int) < (l1 : Int))) w)
  (K false w)

theorem e_f135 (a : Addr) (agent : Int) (w : World) (K : Bool → World → Prop) : (V_f135 a agent w K) = vcF Try.prog (Cfg.mk true (fun _ => [])) (fun _ => none) (fun _ => none) (fun _ => none) Try.f135 [.pointer (some a), .int .i64 agent] [.leaf .bool] K w := by kernel_rfl
theorem r_f135 (a : Addr) (agent : Int) (w : World) (K : Bool → World → Prop) (h : V_f135 a agent w K) : Calls Try.prog 135 #[.pointer (some a), .int .i64 agent] w (Ret [.leaf .bool] K) :=
  @calls_of_vcF Try.prog 135 Try.f135 [.pointer (some a), .int .i64 agent] w [.leaf .bool] K (Cfg.mk true (fun _ => [])) (fun _ => none) (fun _ => none) (fun _ => none) Try.func135 (by kernel_rfl) ((e_f135 a agent w K).mp h)

/-- gneiss/gneisslaw3.awake -/
def V_f41 (w : World) (K : Bool → World → Prop) : Prop :=
  Calls Try.prog 40 #[.int .i64 4, .int .i64 2] w (Ret [.leaf .ptr, .leaf (.int .i64)] fun (q1 : Option Addr) (n2 : Int) (w3 : World) =>
    Calls Try.prog 43 #[.pointer q1, .int .i64 1, .int .i64 3, .int .i64 7] w3 (Ret [.leaf (.int .i64)] fun (n4 : Int) (w5 : World) =>
      Calls Try.prog 42 #[.pointer q1, .int .i64 0, .int .i64 3] w5 (Ret [.leaf (.int .i64), .leaf (.int .i64)] fun (n6 : Int) (n7 : Int) (w8 : World) =>
        Calls Try.prog 44 #[.pointer q1, .int .i64 0, .int .i64 3, .int .i64 7, .int .i64 9] w8 (Ret [.leaf .bool, .leaf (.int .i64)] fun (b9 : Bool) (n10 : Int) (w11 : World) =>
          Calls Try.prog 42 #[.pointer q1, .int .i64 2, .int .i64 0] w11 (Ret [.leaf (.int .i64), .leaf (.int .i64)] fun (n12 : Int) (n13 : Int) (w14 : World) =>
            Calls Try.prog 33 #[.int .i64 n2] w14 (Ret [.leaf (.int .i64)] fun (n15 : Int) (w16 : World) =>
              IfB (decide ((n15 : Int) = 0))
              (Calls Try.prog 33 #[.int .i64 n4] w16 (Ret [.leaf (.int .i64)] fun (n17 : Int) (w18 : World) =>
                  IfB (decide ((n17 : Int) = 0))
                  (IfB (decide ((n6 : Int) = 7))
                    (Calls Try.prog 33 #[.int .i64 n7] w18 (Ret [.leaf (.int .i64)] fun (n19 : Int) (w20 : World) =>
                        IfB (decide ((n19 : Int) = 0))
                        (IfB b9
                        (Calls Try.prog 33 #[.int .i64 n10] w20 (Ret [.leaf (.int .i64)] fun (n21 : Int) (w22 : World) =>
                        IfB (decide ((n21 : Int) = 0))
                        (Calls Try.prog 33 #[.int .i64 n13] w22 (Ret [.leaf (.int .i64)] fun (n23 : Int) (w24 : World) =>
                        IfB (decide ((n23 : Int) = 302))
                        (Calls Try.prog 128 #[.pointer q1, .int .i64 0] w24 (Ret [.leaf (.int .i64)] fun (n25 : Int) (w26 : World) =>
                        IfB (decide ((n25 : Int) = 2))
                        (Calls Try.prog 129 #[.pointer q1] w26 (Ret [.leaf (.int .i64)] fun (n27 : Int) (w28 : World) =>
                        K (decide ((n27 : Int) = 4)) w28))
                        (K false w26)))
                        (K false w24)))
                        (K false w22)))
                        (K false w20))
                        (K false w20)))
                    (K false w18))
                  (K false w18)))
              (K false w16)))))))

theorem e_f41 (w : World) (K : Bool → World → Prop) : (V_f41 w K) = vcF Try.prog (Cfg.mk true (fun _ => [])) (fun _ => none) (fun _ => none) (fun _ => none) Try.f41 [] [.leaf .bool] K w := by kernel_rfl
theorem r_f41 (w : World) (K : Bool → World → Prop) (h : V_f41 w K) : Calls Try.prog 41 #[] w (Ret [.leaf .bool] K) :=
  @calls_of_vcF Try.prog 41 Try.f41 [] w [.leaf .bool] K (Cfg.mk true (fun _ => [])) (fun _ => none) (fun _ => none) (fun _ => none) Try.func41 (by kernel_rfl) ((e_f41 w K).mp h)

/-- gneiss/gneisslaw3.ArenaSteps -/
def V_f5 (words : Int) (agents : Int) (stepsa : Option Addr) (stepsl stepsc : Nat) (w : World) (K : Bool → World → Prop) : Prop :=
  Calls Try.prog 40 #[.int .i64 words, .int .i64 agents] w (Ret [.leaf .ptr, .leaf (.int .i64)] fun (q1 : Option Addr) (n2 : Int) (w3 : World) =>
    IfB (decide ((words : Int) < 1))
    (Calls Try.prog 33 #[.int .i64 n2] w3 (Ret [.leaf (.int .i64)] fun (n4 : Int) (w5 : World) =>
        IfB (decide ((n4 : Int) = 300))
        (Calls Try.prog 41 #[] w5 (Ret [.leaf .bool] fun (b6 : Bool) (w7 : World) =>
            K b6 w7))
        (K false w5)))
    (IfB (decide ((65536 : Int) < words))
      (Calls Try.prog 33 #[.int .i64 n2] w3 (Ret [.leaf (.int .i64)] fun (n8 : Int) (w9 : World) =>
          IfB (decide ((n8 : Int) = 300))
          (Calls Try.prog 41 #[] w9 (Ret [.leaf .bool] fun (b10 : Bool) (w11 : World) =>
              K b10 w11))
          (K false w9)))
      (IfB (decide ((agents : Int) < 1))
        (Calls Try.prog 33 #[.int .i64 n2] w3 (Ret [.leaf (.int .i64)] fun (n12 : Int) (w13 : World) =>
            IfB (decide ((n12 : Int) = 300))
            (Calls Try.prog 41 #[] w13 (Ret [.leaf .bool] fun (b14 : Bool) (w15 : World) =>
                K b14 w15))
            (K false w13)))
        (IfB (decide ((12 : Int) < agents))
          (Calls Try.prog 33 #[.int .i64 n2] w3 (Ret [.leaf (.int .i64)] fun (n16 : Int) (w17 : World) =>
              IfB (decide ((n16 : Int) = 300))
              (Calls Try.prog 41 #[] w17 (Ret [.leaf .bool] fun (b18 : Bool) (w19 : World) =>
                  K b18 w19))
              (K false w17)))
          (IfB (decide ((2000 : Int) < words))
            (Calls Try.prog 41 #[] w3 (Ret [.leaf .bool] fun (b20 : Bool) (w21 : World) =>
                K b20 w21))
            ((RunF Try.prog (Instr.makeSlice 42 (.int .i64 words) (.int .i64 words)) (World.drew w3) [.leaf .slice] fun (a22 : Option Addr) (l22 c22 : Nat) (w23 : World) =>
                RunF Try.prog (Instr.makeSlice 42 (.int .i64 agents) (.int .i64 agents)) w23 [.leaf .slice] fun (a24 : Option Addr) (l24 c24 : Nat) (w25 : World) =>
                ∃ (I26 : Int → World → Prop) (m27 : Int → World → Nat),
                I26 0 w25 ∧
                ∀ (_ : Env) (n28 : Int) (w29 : World), I26 n28 w29 →
                IfB (decide ((n28 : Int) < (stepsl : Int)))
                (IfB (decide ((n28 : Int) < 300))
                  (PtrOK stepsa fun (p30 : Addr) =>
                    ((0 : Int) ≤ n28 ∧ n28 < (stepsl : Int)) ∧
                    ∃ (n31 : Int), World.cell? w29 (Addr.add (Addr.add p30 (Int.toNat n28 * 5)) 0) = some (.int .i64 n31) ∧
                    ∃ (n32 : Int), World.cell? w29 (Addr.add (Addr.add p30 (Int.toNat n28 * 5)) 1) = some (.int .i64 n32) ∧
                    ∃ (n33 : Int), World.cell? w29 (Addr.add (Addr.add p30 (Int.toNat n28 * 5)) 2) = some (.int .i64 n33) ∧
                    ∃ (n34 : Int), World.cell? w29 (Addr.add (Addr.add p30 (Int.toNat n28 * 5)) 3) = some (.int .i64 n34) ∧
                    ∃ (n35 : Int), World.cell? w29 (Addr.add (Addr.add p30 (Int.toNat n28 * 5)) 4) = some (.int .i64 n35) ∧
                    May (World.alloc w29 (.cells #[.int .i64 0, .int .i64 0, .int .i64 0, .int .i64 0, .int .i64 0] 44)) (Addr.add ⟨(Array.size (World.heap w29)), 0, none⟩ 0) ∧
                    May (World.setCell (World.alloc w29 (.cells #[.int .i64 0, .int .i64 0, .int .i64 0, .int .i64 0, .int .i64 0] 44)) (Addr.add ⟨(Array.size (World.heap w29)), 0, none⟩ 0) (.int .i64 n31)) (Addr.add ⟨(Array.size (World.heap w29)), 0, none⟩ 1) ∧
                    May (World.setCell (World.setCell (World.alloc w29 (.cells #[.int .i64 0, .int .i64 0, .int .i64 0, .int .i64 0, .int .i64 0] 44)) (Addr.add ⟨(Array.size (World.heap w29)), 0, none⟩ 0) (.int .i64 n31)) (Addr.add ⟨(Array.size (World.heap w29)), 0, none⟩ 1) (.int .i64 n32)) (Addr.add ⟨(Array.size (World.heap w29)), 0, none⟩ 2) ∧
                    May (World.setCell (World.setCell (World.setCell (World.alloc w29 (.cells #[.int .i64 0, .int .i64 0, .int .i64 0, .int .i64 0, .int .i64 0] 44)) (Addr.add ⟨(Array.size (World.heap w29)), 0, none⟩ 0) (.int .i64 n31)) (Addr.add ⟨(Array.size (World.heap w29)), 0, none⟩ 1) (.int .i64 n32)) (Addr.add ⟨(Array.size (World.heap w29)), 0, none⟩ 2) (.int .i64 n33)) (Addr.add ⟨(Array.size (World.heap w29)), 0, none⟩ 3) ∧
                    May (World.setCell (World.setCell (World.setCell (World.setCell (World.alloc w29 (.cells #[.int .i64 0, .int .i64 0, .int .i64 0, .int .i64 0, .int .i64 0] 44)) (Addr.add ⟨(Array.size (World.heap w29)), 0, none⟩ 0) (.int .i64 n31)) (Addr.add ⟨(Array.size (World.heap w29)), 0, none⟩ 1) (.int .i64 n32)) (Addr.add ⟨(Array.size (World.heap w29)), 0, none⟩ 2) (.int .i64 n33)) (Addr.add ⟨(Array.size (World.heap w29)), 0, none⟩ 3) (.int .i64 n34)) (Addr.add ⟨(Array.size (World.heap w29)), 0, none⟩ 4) ∧
                    ∃ (n36 : Int), World.cell? (World.setCell (World.setCell (World.setCell (World.setCell (World.setCell (World.alloc w29 (.cells #[.int .i64 0, .int .i64 0, .int .i64 0, .int .i64 0, .int .i64 0] 44)) (Addr.add ⟨(Array.size (World.heap w29)), 0, none⟩ 0) (.int .i64 n31)) (Addr.add ⟨(Array.size (World.heap w29)), 0, none⟩ 1) (.int .i64 n32)) (Addr.add ⟨(Array.size (World.heap w29)), 0, none⟩ 2) (.int .i64 n33)) (Addr.add ⟨(Array.size (World.heap w29)), 0, none⟩ 3) (.int .i64 n34)) (Addr.add ⟨(Array.size (World.heap w29)), 0, none⟩ 4) (.int .i64 n35)) (Addr.add ⟨(Array.size (World.heap w29)), 0, none⟩ 1) = some (.int .i64 n36) ∧
                    IfB (decide ((n36 : Int) < 0))
                    (∃ (n37 : Int), World.cell? (World.setCell (World.setCell (World.setCell (World.setCell (World.setCell (World.alloc w29 (.cells #[.int .i64 0, .int .i64 0, .int .i64 0, .int .i64 0, .int .i64 0] 44)) (Addr.add ⟨(Array.size (World.heap w29)), 0, none⟩ 0) (.int .i64 n31)) (Addr.add ⟨(Array.size (World.heap w29)), 0, none⟩ 1) (.int .i64 n32)) (Addr.add ⟨(Array.size (World.heap w29)), 0, none⟩ 2) (.int .i64 n33)) (Addr.add ⟨(Array.size (World.heap w29)), 0, none⟩ 3) (.int .i64 n34)) (Addr.add ⟨(Array.size (World.heap w29)), 0, none⟩ 4) (.int .i64 n35)) (Addr.add ⟨(Array.size (World.heap w29)), 0, none⟩ 0) = some (.int .i64 n37) ∧
                      IfB (decide ((n37 : Int) = 0))
                      (∃ (n38 : Int), World.cell? (World.setCell (World.setCell (World.setCell (World.setCell (World.setCell (World.alloc w29 (.cells #[.int .i64 0, .int .i64 0, .int .i64 0, .int .i64 0, .int .i64 0] 44)) (Addr.add ⟨(Array.size (World.heap w29)), 0, none⟩ 0) (.int .i64 n31)) (Addr.add ⟨(Array.size (World.heap w29)), 0, none⟩ 1) (.int .i64 n32)) (Addr.add ⟨(Array.size (World.heap w29)), 0, none⟩ 2) (.int .i64 n33)) (Addr.add ⟨(Array.size (World.heap w29)), 0, none⟩ 3) (.int .i64 n34)) (Addr.add ⟨(Array.size (World.heap w29)), 0, none⟩ 4) (.int .i64 n35)) (Addr.add ⟨(Array.size (World.heap w29)), 0, none⟩ 1) = some (.int .i64 n38) ∧
                        ∃ (n39 : Int), World.cell? (World.setCell (World.setCell (World.setCell (World.setCell (World.setCell (World.alloc w29 (.cells #[.int .i64 0, .int .i64 0, .int .i64 0, .int .i64 0, .int .i64 0] 44)) (Addr.add ⟨(Array.size (World.heap w29)), 0, none⟩ 0) (.int .i64 n31)) (Addr.add ⟨(Array.size (World.heap w29)), 0, none⟩ 1) (.int .i64 n32)) (Addr.add ⟨(Array.size (World.heap w29)), 0, none⟩ 2) (.int .i64 n33)) (Addr.add ⟨(Array.size (World.heap w29)), 0, none⟩ 3) (.int .i64 n34)) (Addr.add ⟨(Array.size (World.heap w29)), 0, none⟩ 4) (.int .i64 n35)) (Addr.add ⟨(Array.size (World.heap w29)), 0, none⟩ 2) = some (.int .i64 n39) ∧
                        Calls Try.prog 42 #[.pointer q1, .int .i64 n38, .int .i64 n39] (World.setCell (World.setCell (World.setCell (World.setCell (World.setCell (World.alloc w29 (.cells #[.int .i64 0, .int .i64 0, .int .i64 0, .int .i64 0, .int .i64 0] 44)) (Addr.add ⟨(Array.size (World.heap w29)), 0, none⟩ 0) (.int .i64 n31)) (Addr.add ⟨(Array.size (World.heap w29)), 0, none⟩ 1) (.int .i64 n32)) (Addr.add ⟨(Array.size (World.heap w29)), 0, none⟩ 2) (.int .i64 n33)) (Addr.add ⟨(Array.size (World.heap w29)), 0, none⟩ 3) (.int .i64 n34)) (Addr.add ⟨(Array.size (World.heap w29)), 0, none⟩ 4) (.int .i64 n35)) (Ret [.leaf (.int .i64), .leaf (.int .i64)] fun (n40 : Int) (n41 : Int) (w42 : World) =>
                        Calls Try.prog 33 #[.int .i64 n41] w42 (Ret [.leaf (.int .i64)] fun (n43 : Int) (w44 : World) =>
                        IfB (!decide ((n43 : Int) = 302))
                        (K false w44)
                        (IfB (decide ((302 : Int) = 0))
                        (∃ (n45 : Int), World.cell? w44 (Addr.add ⟨(Array.size (World.heap w29)), 0, none⟩ 2) = some (.int .i64 n45) ∧
                        PtrOK a22 fun (p46 : Addr) =>
                        ((0 : Int) ≤ n45 ∧ n45 < (l22 : Int)) ∧
                        ∃ (n47 : Int), World.cell? w44 (Addr.add p46 (Int.toNat n45 * 1)) = some (.int .i64 n47) ∧
                        IfB (!decide ((n40 : Int) = n47))
                        (K false w44)
                        (IfB (!decide ((302 : Int) = 0))
                        (IfB (!decide ((n40 : Int) = 0))
                        (K false w44)
                        ((I26 (IntKind.wrap .i64 (n28 + 1)) w44 ∧
                        m27 (IntKind.wrap .i64 (n28 + 1)) w44 < m27 n28 w29)))
                        ((I26 (IntKind.wrap .i64 (n28 + 1)) w44 ∧
                        m27 (IntKind.wrap .i64 (n28 + 1)) w44 < m27 n28 w29))))
                        (IfB (!decide ((302 : Int) = 0))
                        (IfB (!decide ((n40 : Int) = 0))
                        (K false w44)
                        ((I26 (IntKind.wrap .i64 (n28 + 1)) w44 ∧
                        m27 (IntKind.wrap .i64 (n28 + 1)) w44 < m27 n28 w29)))
                        ((I26 (IntKind.wrap .i64 (n28 + 1)) w44 ∧
                        m27 (IntKind.wrap .i64 (n28 + 1)) w44 < m27 n28 w29)))))))
                      (IfB (decide ((n37 : Int) = 1))
                        (∃ (n48 : Int), World.cell? (World.setCell (World.setCell (World.setCell (World.setCell (World.setCell (World.alloc w29 (.cells #[.int .i64 0, .int .i64 0, .int .i64 0, .int .i64 0, .int .i64 0] 44)) (Addr.add ⟨(Array.size (World.heap w29)), 0, none⟩ 0) (.int .i64 n31)) (Addr.add ⟨(Array.size (World.heap w29)), 0, none⟩ 1) (.int .i64 n32)) (Addr.add ⟨(Array.size (World.heap w29)), 0, none⟩ 2) (.int .i64 n33)) (Addr.add ⟨(Array.size (World.heap w29)), 0, none⟩ 3) (.int .i64 n34)) (Addr.add ⟨(Array.size (World.heap w29)), 0, none⟩ 4) (.int .i64 n35)) (Addr.add ⟨(Array.size (World.heap w29)), 0, none⟩ 1) = some (.int .i64 n48) ∧
                        ∃ (n49 : Int), World.cell? (World.setCell (World.setCell (World.setCell (World.setCell (World.setCell (World.alloc w29 (.cells #[.int .i64 0, .int .i64 0, .int .i64 0, .int .i64 0, .int .i64 0] 44)) (Addr.add ⟨(Array.size (World.heap w29)), 0, none⟩ 0) (.int .i64 n31)) (Addr.add ⟨(Array.size (World.heap w29)), 0, none⟩ 1) (.int .i64 n32)) (Addr.add ⟨(Array.size (World.heap w29)), 0, none⟩ 2) (.int .i64 n33)) (Addr.add ⟨(Array.size (World.heap w29)), 0, none⟩ 3) (.int .i64 n34)) (Addr.add ⟨(Array.size (World.heap w29)), 0, none⟩ 4) (.int .i64 n35)) (Addr.add ⟨(Array.size (World.heap w29)), 0, none⟩ 2) = some (.int .i64 n49) ∧
                        ∃ (n50 : Int), World.cell? (World.setCell (World.setCell (World.setCell (World.setCell (World.setCell (World.alloc w29 (.cells #[.int .i64 0, .int .i64 0, .int .i64 0, .int .i64 0, .int .i64 0] 44)) (Addr.add ⟨(Array.size (World.heap w29)), 0, none⟩ 0) (.int .i64 n31)) (Addr.add ⟨(Array.size (World.heap w29)), 0, none⟩ 1) (.int .i64 n32)) (Addr.add ⟨(Array.size (World.heap w29)), 0, none⟩ 2) (.int .i64 n33)) (Addr.add ⟨(Array.size (World.heap w29)), 0, none⟩ 3) (.int .i64 n34)) (Addr.add ⟨(Array.size (World.heap w29)), 0, none⟩ 4) (.int .i64 n35)) (Addr.add ⟨(Array.size (World.heap w29)), 0, none⟩ 4) = some (.int .i64 n50) ∧
                        Calls Try.prog 43 #[.pointer q1, .int .i64 n48, .int .i64 n49, .int .i64 n50] (World.setCell (World.setCell (World.setCell (World.setCell (World.setCell (World.alloc w29 (.cells #[.int .i64 0, .int .i64 0, .int .i64 0, .int .i64 0, .int .i64 0] 44)) (Addr.add ⟨(Array.size (World.heap w29)), 0, none⟩ 0) (.int .i64 n31)) (Addr.add ⟨(Array.size (World.heap w29)), 0, none⟩ 1) (.int .i64 n32)) (Addr.add ⟨(Array.size (World.heap w29)), 0, none⟩ 2) (.int .i64 n33)) (Addr.add ⟨(Array.size (World.heap w29)), 0, none⟩ 3) (.int .i64 n34)) (Addr.add ⟨(Array.size (World.heap w29)), 0, none⟩ 4) (.int .i64 n35)) (Ret [.leaf (.int .i64)] fun (n51 : Int) (w52 : World) =>
                        IfB (decide ((302 : Int) = 0))
                        (∃ (n53 : Int), World.cell? w52 (Addr.add ⟨(Array.size (World.heap w29)), 0, none⟩ 2) = some (.int .i64 n53) ∧
                        ∃ (n54 : Int), World.cell? w52 (Addr.add ⟨(Array.size (World.heap w29)), 0, none⟩ 4) = some (.int .i64 n54) ∧
                        PtrOK a22 fun (p55 : Addr) =>
                        ((0 : Int) ≤ n53 ∧ n53 < (l22 : Int)) ∧
                        May w52 (Addr.add p55 (Int.toNat n53 * 1)) ∧
                        Calls Try.prog 33 #[.int .i64 n51] (World.setCell w52 (Addr.add p55 (Int.toNat n53 * 1)) (.int .i64 n54)) (Ret [.leaf (.int .i64)] fun (n56 : Int) (w57 : World) =>
                        IfB (!decide ((n56 : Int) = 302))
                        (K false w57)
                        ((I26 (IntKind.wrap .i64 (n28 + 1)) w57 ∧
                        m27 (IntKind.wrap .i64 (n28 + 1)) w57 < m27 n28 w29))))
                        (Calls Try.prog 33 #[.int .i64 n51] w52 (Ret [.leaf (.int .i64)] fun (n58 : Int) (w59 : World) =>
                        IfB (!decide ((n58 : Int) = 302))
                        (K false w59)
                        ((I26 (IntKind.wrap .i64 (n28 + 1)) w59 ∧
                        m27 (IntKind.wrap .i64 (n28 + 1)) w59 < m27 n28 w29))))))
                        (∃ (n60 : Int), World.cell? (World.setCell (World.setCell (World.setCell (World.setCell (World.setCell (World.alloc w29 (.cells #[.int .i64 0, .int .i64 0, .int .i64 0, .int .i64 0, .int .i64 0] 44)) (Addr.add ⟨(Array.size (World.heap w29)), 0, none⟩ 0) (.int .i64 n31)) (Addr.add ⟨(Array.size (World.heap w29)), 0, none⟩ 1) (.int .i64 n32)) (Addr.add ⟨(Array.size (World.heap w29)), 0, none⟩ 2) (.int .i64 n33)) (Addr.add ⟨(Array.size (World.heap w29)), 0, none⟩ 3) (.int .i64 n34)) (Addr.add ⟨(Array.size (World.heap w29)), 0, none⟩ 4) (.int .i64 n35)) (Addr.add ⟨(Array.size (World.heap w29)), 0, none⟩ 1) = some (.int .i64 n60) ∧
                        ∃ (n61 : Int), World.cell? (World.setCell (World.setCell (World.setCell (World.setCell (World.setCell (World.alloc w29 (.cells #[.int .i64 0, .int .i64 0, .int .i64 0, .int .i64 0, .int .i64 0] 44)) (Addr.add ⟨(Array.size (World.heap w29)), 0, none⟩ 0) (.int .i64 n31)) (Addr.add ⟨(Array.size (World.heap w29)), 0, none⟩ 1) (.int .i64 n32)) (Addr.add ⟨(Array.size (World.heap w29)), 0, none⟩ 2) (.int .i64 n33)) (Addr.add ⟨(Array.size (World.heap w29)), 0, none⟩ 3) (.int .i64 n34)) (Addr.add ⟨(Array.size (World.heap w29)), 0, none⟩ 4) (.int .i64 n35)) (Addr.add ⟨(Array.size (World.heap w29)), 0, none⟩ 2) = some (.int .i64 n61) ∧
                        ∃ (n62 : Int), World.cell? (World.setCell (World.setCell (World.setCell (World.setCell (World.setCell (World.alloc w29 (.cells #[.int .i64 0, .int .i64 0, .int .i64 0, .int .i64 0, .int .i64 0] 44)) (Addr.add ⟨(Array.size (World.heap w29)), 0, none⟩ 0) (.int .i64 n31)) (Addr.add ⟨(Array.size (World.heap w29)), 0, none⟩ 1) (.int .i64 n32)) (Addr.add ⟨(Array.size (World.heap w29)), 0, none⟩ 2) (.int .i64 n33)) (Addr.add ⟨(Array.size (World.heap w29)), 0, none⟩ 3) (.int .i64 n34)) (Addr.add ⟨(Array.size (World.heap w29)), 0, none⟩ 4) (.int .i64 n35)) (Addr.add ⟨(Array.size (World.heap w29)), 0, none⟩ 3) = some (.int .i64 n62) ∧
                        ∃ (n63 : Int), World.cell? (World.setCell (World.setCell (World.setCell (World.setCell (World.setCell (World.alloc w29 (.cells #[.int .i64 0, .int .i64 0, .int .i64 0, .int .i64 0, .int .i64 0] 44)) (Addr.add ⟨(Array.size (World.heap w29)), 0, none⟩ 0) (.int .i64 n31)) (Addr.add ⟨(Array.size (World.heap w29)), 0, none⟩ 1) (.int .i64 n32)) (Addr.add ⟨(Array.size (World.heap w29)), 0, none⟩ 2) (.int .i64 n33)) (Addr.add ⟨(Array.size (World.heap w29)), 0, none⟩ 3) (.int .i64 n34)) (Addr.add ⟨(Array.size (World.heap w29)), 0, none⟩ 4) (.int .i64 n35)) (Addr.add ⟨(Array.size (World.heap w29)), 0, none⟩ 4) = some (.int .i64 n63) ∧
                        Calls Try.prog 44 #[.pointer q1, .int .i64 n60, .int .i64 n61, .int .i64 n62, .int .i64 n63] (World.setCell (World.setCell (World.setCell (World.setCell (World.setCell (World.alloc w29 (.cells #[.int .i64 0, .int .i64 0, .int .i64 0, .int .i64 0, .int .i64 0] 44)) (Addr.add ⟨(Array.size (World.heap w29)), 0, none⟩ 0) (.int .i64 n31)) (Addr.add ⟨(Array.size (World.heap w29)), 0, none⟩ 1) (.int .i64 n32)) (Addr.add ⟨(Array.size (World.heap w29)), 0, none⟩ 2) (.int .i64 n33)) (Addr.add ⟨(Array.size (World.heap w29)), 0, none⟩ 3) (.int .i64 n34)) (Addr.add ⟨(Array.size (World.heap w29)), 0, none⟩ 4) (.int .i64 n35)) (Ret [.leaf .bool, .leaf (.int .i64)] fun (b64 : Bool) (n65 : Int) (w66 : World) =>
                        IfB (decide ((302 : Int) = 0))
                        (∃ (n67 : Int), World.cell? (World.drew w66) (Addr.add ⟨(Array.size (World.heap w29)), 0, none⟩ 2) = some (.int .i64 n67) ∧
                        PtrOK a22 fun (p68 : Addr) =>
                        ((0 : Int) ≤ n67 ∧ n67 < (l22 : Int)) ∧
                        ∃ (n69 : Int), World.cell? (World.drew w66) (Addr.add p68 (Int.toNat n67 * 1)) = some (.int .i64 n69) ∧
                        ∃ (n70 : Int), World.cell? (World.drew w66) (Addr.add ⟨(Array.size (World.heap w29)), 0, none⟩ 3) = some (.int .i64 n70) ∧
                        IfB (decide ((n69 : Int) = n70))
                        (∃ (n71 : Int), World.cell? (World.drew w66) (Addr.add ⟨(Array.size (World.heap w29)), 0, none⟩ 2) = some (.int .i64 n71) ∧
                        ∃ (n72 : Int), World.cell? (World.drew w66) (Addr.add ⟨(Array.size (World.heap w29)), 0, none⟩ 4) = some (.int .i64 n72) ∧
                        PtrOK a22 fun (p73 : Addr) =>
                        ((0 : Int) ≤ n71 ∧ n71 < (l22 : Int)) ∧
                        May (World.drew w66) (Addr.add p73 (Int.toNat n71 * 1)) ∧
                        Calls Try.prog 33 #[.int .i64 n65] (World.setCell (World.drew w66) (Addr.add p73 (Int.toNat n71 * 1)) (.int .i64 n72)) (Ret [.leaf (.int .i64)] fun (n74 : Int) (w75 : World) =>
                        IfB (!decide ((n74 : Int) = 302))
                        (K false w75)
                        (IfB (!(b64 == (decide ((n69 : Int) = n70))))
                        (K false w75)
                        ((I26 (IntKind.wrap .i64 (n28 + 1)) w75 ∧
                        m27 (IntKind.wrap .i64 (n28 + 1)) w75 < m27 n28 w29)))))
                        (Calls Try.prog 33 #[.int .i64 n65] (World.drew w66) (Ret [.leaf (.int .i64)] fun (n76 : Int) (w77 : World) =>
                        IfB (!decide ((n76 : Int) = 302))
                        (K false w77)
                        (IfB (!(b64 == (decide ((n69 : Int) = n70))))
                        (K false w77)
                        ((I26 (IntKind.wrap .i64 (n28 + 1)) w77 ∧
                        m27 (IntKind.wrap .i64 (n28 + 1)) w77 < m27 n28 w29))))))
                        (Calls Try.prog 33 #[.int .i64 n65] (World.drew w66) (Ret [.leaf (.int .i64)] fun (n78 : Int) (w79 : World) =>
                        IfB (!decide ((n78 : Int) = 302))
                        (K false w79)
                        (IfB (!(b64 == false))
                        (K false w79)
                        ((I26 (IntKind.wrap .i64 (n28 + 1)) w79 ∧
                        m27 (IntKind.wrap .i64 (n28 + 1)) w79 < m27 n28 w29)))))))))
                    (∃ (n80 : Int), World.cell? (World.setCell (World.setCell (World.setCell (World.setCell (World.setCell (World.alloc w29 (.cells #[.int .i64 0, .int .i64 0, .int .i64 0, .int .i64 0, .int .i64 0] 44)) (Addr.add ⟨(Array.size (World.heap w29)), 0, none⟩ 0) (.int .i64 n31)) (Addr.add ⟨(Array.size (World.heap w29)), 0, none⟩ 1) (.int .i64 n32)) (Addr.add ⟨(Array.size (World.heap w29)), 0, none⟩ 2) (.int .i64 n33)) (Addr.add ⟨(Array.size (World.heap w29)), 0, none⟩ 3) (.int .i64 n34)) (Addr.add ⟨(Array.size (World.heap w29)), 0, none⟩ 4) (.int .i64 n35)) (Addr.add ⟨(Array.size (World.heap w29)), 0, none⟩ 1) = some (.int .i64 n80) ∧
                      IfB (decide ((agents : Int) ≤ n80))
                      (∃ (n81 : Int), World.cell? (World.setCell (World.setCell (World.setCell (World.setCell (World.setCell (World.alloc w29 (.cells #[.int .i64 0, .int .i64 0, .int .i64 0, .int .i64 0, .int .i64 0] 44)) (Addr.add ⟨(Array.size (World.heap w29)), 0, none⟩ 0) (.int .i64 n31)) (Addr.add ⟨(Array.size (World.heap w29)), 0, none⟩ 1) (.int .i64 n32)) (Addr.add ⟨(Array.size (World.heap w29)), 0, none⟩ 2) (.int .i64 n33)) (Addr.add ⟨(Array.size (World.heap w29)), 0, none⟩ 3) (.int .i64 n34)) (Addr.add ⟨(Array.size (World.heap w29)), 0, none⟩ 4) (.int .i64 n35)) (Addr.add ⟨(Array.size (World.heap w29)), 0, none⟩ 0) = some (.int .i64 n81) ∧
                        IfB (decide ((n81 : Int) = 0))
                        (∃ (n82 : Int), World.cell? (World.setCell (World.setCell (World.setCell (World.setCell (World.setCell (World.alloc w29 (.cells #[.int .i64 0, .int .i64 0, .int .i64 0, .int .i64 0, .int .i64 0] 44)) (Addr.add ⟨(Array.size (World.heap w29)), 0, none⟩ 0) (.int .i64 n31)) (Addr.add ⟨(Array.size (World.heap w29)), 0, none⟩ 1) (.int .i64 n32)) (Addr.add ⟨(Array.size (World.heap w29)), 0, none⟩ 2) (.int .i64 n33)) (Addr.add ⟨(Array.size (World.heap w29)), 0, none⟩ 3) (.int .i64 n34)) (Addr.add ⟨(Array.size (World.heap w29)), 0, none⟩ 4) (.int .i64 n35)) (Addr.add ⟨(Array.size (World.heap w29)), 0, none⟩ 1) = some (.int .i64 n82) ∧
                        ∃ (n83 : Int), World.cell? (World.setCell (World.setCell (World.setCell (World.setCell (World.setCell (World.alloc w29 (.cells #[.int .i64 0, .int .i64 0, .int .i64 0, .int .i64 0, .int .i64 0] 44)) (Addr.add ⟨(Array.size (World.heap w29)), 0, none⟩ 0) (.int .i64 n31)) (Addr.add ⟨(Array.size (World.heap w29)), 0, none⟩ 1) (.int .i64 n32)) (Addr.add ⟨(Array.size (World.heap w29)), 0, none⟩ 2) (.int .i64 n33)) (Addr.add ⟨(Array.size (World.heap w29)), 0, none⟩ 3) (.int .i64 n34)) (Addr.add ⟨(Array.size (World.heap w29)), 0, none⟩ 4) (.int .i64 n35)) (Addr.add ⟨(Array.size (World.heap w29)), 0, none⟩ 2) = some (.int .i64 n83) ∧
                        Calls Try.prog 42 #[.pointer q1, .int .i64 n82, .int .i64 n83] (World.setCell (World.setCell (World.setCell (World.setCell (World.setCell (World.alloc w29 (.cells #[.int .i64 0, .int .i64 0, .int .i64 0, .int .i64 0, .int .i64 0] 44)) (Addr.add ⟨(Array.size (World.heap w29)), 0, none⟩ 0) (.int .i64 n31)) (Addr.add ⟨(Array.size (World.heap w29)), 0, none⟩ 1) (.int .i64 n32)) (Addr.add ⟨(Array.size (World.heap w29)), 0, none⟩ 2) (.int .i64 n33)) (Addr.add ⟨(Array.size (World.heap w29)), 0, none⟩ 3) (.int .i64 n34)) (Addr.add ⟨(Array.size (World.heap w29)), 0, none⟩ 4) (.int .i64 n35)) (Ret [.leaf (.int .i64), .leaf (.int .i64)] fun (n84 : Int) (n85 : Int) (w86 : World) =>
                        Calls Try.prog 33 #[.int .i64 n85] w86 (Ret [.leaf (.int .i64)] fun (n87 : Int) (w88 : World) =>
                        IfB (!decide ((n87 : Int) = 302))
                        (K false w88)
                        (IfB (decide ((302 : Int) = 0))
                        (∃ (n89 : Int), World.cell? w88 (Addr.add ⟨(Array.size (World.heap w29)), 0, none⟩ 2) = some (.int .i64 n89) ∧
                        PtrOK a22 fun (p90 : Addr) =>
                        ((0 : Int) ≤ n89 ∧ n89 < (l22 : Int)) ∧
                        ∃ (n91 : Int), World.cell? w88 (Addr.add p90 (Int.toNat n89 * 1)) = some (.int .i64 n91) ∧
                        IfB (!decide ((n84 : Int) = n91))
                        (K false w88)
                        (IfB (!decide ((302 : Int) = 0))
                        (IfB (!decide ((n84 : Int) = 0))
                        (K false w88)
                        ((I26 (IntKind.wrap .i64 (n28 + 1)) w88 ∧
                        m27 (IntKind.wrap .i64 (n28 + 1)) w88 < m27 n28 w29)))
                        ((I26 (IntKind.wrap .i64 (n28 + 1)) w88 ∧
                        m27 (IntKind.wrap .i64 (n28 + 1)) w88 < m27 n28 w29))))
                        (IfB (!decide ((302 : Int) = 0))
                        (IfB (!decide ((n84 : Int) = 0))
                        (K false w88)
                        ((I26 (IntKind.wrap .i64 (n28 + 1)) w88 ∧
                        m27 (IntKind.wrap .i64 (n28 + 1)) w88 < m27 n28 w29)))
                        ((I26 (IntKind.wrap .i64 (n28 + 1)) w88 ∧
                        m27 (IntKind.wrap .i64 (n28 + 1)) w88 < m27 n28 w29)))))))
                        (IfB (decide ((n81 : Int) = 1))
                        (∃ (n92 : Int), World.cell? (World.setCell (World.setCell (World.setCell (World.setCell (World.setCell (World.alloc w29 (.cells #[.int .i64 0, .int .i64 0, .int .i64 0, .int .i64 0, .int .i64 0] 44)) (Addr.add ⟨(Array.size (World.heap w29)), 0, none⟩ 0) (.int .i64 n31)) (Addr.add ⟨(Array.size (World.heap w29)), 0, none⟩ 1) (.int .i64 n32)) (Addr.add ⟨(Array.size (World.heap w29)), 0, none⟩ 2) (.int .i64 n33)) (Addr.add ⟨(Array.size (World.heap w29)), 0, none⟩ 3) (.int .i64 n34)) (Addr.add ⟨(Array.size (World.heap w29)), 0, none⟩ 4) (.int .i64 n35)) (Addr.add ⟨(Array.size (World.heap w29)), 0, none⟩ 1) = some (.int .i64 n92) ∧
                        ∃ (n93 : Int), World.cell? (World.setCell (World.setCell (World.setCell (World.setCell (World.setCell (World.alloc w29 (.cells #[.int .i64 0, .int .i64 0, .int .i64 0, .int .i64 0, .int .i64 0] 44)) (Addr.add ⟨(Array.size (World.heap w29)), 0, none⟩ 0) (.int .i64 n31)) (Addr.add ⟨(Array.size (World.heap w29)), 0, none⟩ 1) (.int .i64 n32)) (Addr.add ⟨(Array.size (World.heap w29)), 0, none⟩ 2) (.int .i64 n33)) (Addr.add ⟨(Array.size (World.heap w29)), 0, none⟩ 3) (.int .i64 n34)) (Addr.add ⟨(Array.size (World.heap w29)), 0, none⟩ 4) (.int .i64 n35)) (Addr.add ⟨(Array.size (World.heap w29)), 0, none⟩ 2) = some (.int .i64 n93) ∧
                        ∃ (n94 : Int), World.cell? (World.setCell (World.setCell (World.setCell (World.setCell (World.setCell (World.alloc w29 (.cells #[.int .i64 0, .int .i64 0, .int .i64 0, .int .i64 0, .int .i64 0] 44)) (Addr.add ⟨(Array.size (World.heap w29)), 0, none⟩ 0) (.int .i64 n31)) (Addr.add ⟨(Array.size (World.heap w29)), 0, none⟩ 1) (.int .i64 n32)) (Addr.add ⟨(Array.size (World.heap w29)), 0, none⟩ 2) (.int .i64 n33)) (Addr.add ⟨(Array.size (World.heap w29)), 0, none⟩ 3) (.int .i64 n34)) (Addr.add ⟨(Array.size (World.heap w29)), 0, none⟩ 4) (.int .i64 n35)) (Addr.add ⟨(Array.size (World.heap w29)), 0, none⟩ 4) = some (.int .i64 n94) ∧
                        Calls Try.prog 43 #[.pointer q1, .int .i64 n92, .int .i64 n93, .int .i64 n94] (World.setCell (World.setCell (World.setCell (World.setCell (World.setCell (World.alloc w29 (.cells #[.int .i64 0, .int .i64 0, .int .i64 0, .int .i64 0, .int .i64 0] 44)) (Addr.add ⟨(Array.size (World.heap w29)), 0, none⟩ 0) (.int .i64 n31)) (Addr.add ⟨(Array.size (World.heap w29)), 0, none⟩ 1) (.int .i64 n32)) (Addr.add ⟨(Array.size (World.heap w29)), 0, none⟩ 2) (.int .i64 n33)) (Addr.add ⟨(Array.size (World.heap w29)), 0, none⟩ 3) (.int .i64 n34)) (Addr.add ⟨(Array.size (World.heap w29)), 0, none⟩ 4) (.int .i64 n35)) (Ret [.leaf (.int .i64)] fun (n95 : Int) (w96 : World) =>
                        IfB (decide ((302 : Int) = 0))
                        (∃ (n97 : Int), World.cell? w96 (Addr.add ⟨(Array.size (World.heap w29)), 0, none⟩ 2) = some (.int .i64 n97) ∧
                        ∃ (n98 : Int), World.cell? w96 (Addr.add ⟨(Array.size (World.heap w29)), 0, none⟩ 4) = some (.int .i64 n98) ∧
                        PtrOK a22 fun (p99 : Addr) =>
                        ((0 : Int) ≤ n97 ∧ n97 < (l22 : Int)) ∧
                        May w96 (Addr.add p99 (Int.toNat n97 * 1)) ∧
                        Calls Try.prog 33 #[.int .i64 n95] (World.setCell w96 (Addr.add p99 (Int.toNat n97 * 1)) (.int .i64 n98)) (Ret [.leaf (.int .i64)] fun (n100 : Int) (w101 : World) =>
                        IfB (!decide ((n100 : Int) = 302))
                        (K false w101)
                        ((I26 (IntKind.wrap .i64 (n28 + 1)) w101 ∧
                        m27 (IntKind.wrap .i64 (n28 + 1)) w101 < m27 n28 w29))))
                        (Calls Try.prog 33 #[.int .i64 n95] w96 (Ret [.leaf (.int .i64)] fun (n102 : Int) (w103 : World) =>
                        IfB (!decide ((n102 : Int) = 302))
                        (K false w103)
                        ((I26 (IntKind.wrap .i64 (n28 + 1)) w103 ∧
                        m27 (IntKind.wrap .i64 (n28 + 1)) w103 < m27 n28 w29))))))
                        (∃ (n104 : Int), World.cell? (World.setCell (World.setCell (World.setCell (World.setCell (World.setCell (World.alloc w29 (.cells #[.int .i64 0, .int .i64 0, .int .i64 0, .int .i64 0, .int .i64 0] 44)) (Addr.add ⟨(Array.size (World.heap w29)), 0, none⟩ 0) (.int .i64 n31)) (Addr.add ⟨(Array.size (World.heap w29)), 0, none⟩ 1) (.int .i64 n32)) (Addr.add ⟨(Array.size (World.heap w29)), 0, none⟩ 2) (.int .i64 n33)) (Addr.add ⟨(Array.size (World.heap w29)), 0, none⟩ 3) (.int .i64 n34)) (Addr.add ⟨(Array.size (World.heap w29)), 0, none⟩ 4) (.int .i64 n35)) (Addr.add ⟨(Array.size (World.heap w29)), 0, none⟩ 1) = some (.int .i64 n104) ∧
                        ∃ (n105 : Int), World.cell? (World.setCell (World.setCell (World.setCell (World.setCell (World.setCell (World.alloc w29 (.cells #[.int .i64 0, .int .i64 0, .int .i64 0, .int .i64 0, .int .i64 0] 44)) (Addr.add ⟨(Array.size (World.heap w29)), 0, none⟩ 0) (.int .i64 n31)) (Addr.add ⟨(Array.size (World.heap w29)), 0, none⟩ 1) (.int .i64 n32)) (Addr.add ⟨(Array.size (World.heap w29)), 0, none⟩ 2) (.int .i64 n33)) (Addr.add ⟨(Array.size (World.heap w29)), 0, none⟩ 3) (.int .i64 n34)) (Addr.add ⟨(Array.size (World.heap w29)), 0, none⟩ 4) (.int .i64 n35)) (Addr.add ⟨(Array.size (World.heap w29)), 0, none⟩ 2) = some (.int .i64 n105) ∧
                        ∃ (n106 : Int), World.cell? (World.setCell (World.setCell (World.setCell (World.setCell (World.setCell (World.alloc w29 (.cells #[.int .i64 0, .int .i64 0, .int .i64 0, .int .i64 0, .int .i64 0] 44)) (Addr.add ⟨(Array.size (World.heap w29)), 0, none⟩ 0) (.int .i64 n31)) (Addr.add ⟨(Array.size (World.heap w29)), 0, none⟩ 1) (.int .i64 n32)) (Addr.add ⟨(Array.size (World.heap w29)), 0, none⟩ 2) (.int .i64 n33)) (Addr.add ⟨(Array.size (World.heap w29)), 0, none⟩ 3) (.int .i64 n34)) (Addr.add ⟨(Array.size (World.heap w29)), 0, none⟩ 4) (.int .i64 n35)) (Addr.add ⟨(Array.size (World.heap w29)), 0, none⟩ 3) = some (.int .i64 n106) ∧
                        ∃ (n107 : Int), World.cell? (World.setCell (World.setCell (World.setCell (World.setCell (World.setCell (World.alloc w29 (.cells #[.int .i64 0, .int .i64 0, .int .i64 0, .int .i64 0, .int .i64 0] 44)) (Addr.add ⟨(Array.size (World.heap w29)), 0, none⟩ 0) (.int .i64 n31)) (Addr.add ⟨(Array.size (World.heap w29)), 0, none⟩ 1) (.int .i64 n32)) (Addr.add ⟨(Array.size (World.heap w29)), 0, none⟩ 2) (.int .i64 n33)) (Addr.add ⟨(Array.size (World.heap w29)), 0, none⟩ 3) (.int .i64 n34)) (Addr.add ⟨(Array.size (World.heap w29)), 0, none⟩ 4) (.int .i64 n35)) (Addr.add ⟨(Array.size (World.heap w29)), 0, none⟩ 4) = some (.int .i64 n107) ∧
                        Calls Try.prog 44 #[.pointer q1, .int .i64 n104, .int .i64 n105, .int .i64 n106, .int .i64 n107] (World.setCell (World.setCell (World.setCell (World.setCell (World.setCell (World.alloc w29 (.cells #[.int .i64 0, .int .i64 0, .int .i64 0, .int .i64 0, .int .i64 0] 44)) (Addr.add ⟨(Array.size (World.heap w29)), 0, none⟩ 0) (.int .i64 n31)) (Addr.add ⟨(Array.size (World.heap w29)), 0, none⟩ 1) (.int .i64 n32)) (Addr.add ⟨(Array.size (World.heap w29)), 0, none⟩ 2) (.int .i64 n33)) (Addr.add ⟨(Array.size (World.heap w29)), 0, none⟩ 3) (.int .i64 n34)) (Addr.add ⟨(Array.size (World.heap w29)), 0, none⟩ 4) (.int .i64 n35)) (Ret [.leaf .bool, .leaf (.int .i64)] fun (b108 : Bool) (n109 : Int) (w110 : World) =>
                        IfB (decide ((302 : Int) = 0))
                        (∃ (n111 : Int), World.cell? (World.drew w110) (Addr.add ⟨(Array.size (World.heap w29)), 0, none⟩ 2) = some (.int .i64 n111) ∧
                        PtrOK a22 fun (p112 : Addr) =>
                        ((0 : Int) ≤ n111 ∧ n111 < (l22 : Int)) ∧
                        ∃ (n113 : Int), World.cell? (World.drew w110) (Addr.add p112 (Int.toNat n111 * 1)) = some (.int .i64 n113) ∧
                        ∃ (n114 : Int), World.cell? (World.drew w110) (Addr.add ⟨(Array.size (World.heap w29)), 0, none⟩ 3) = some (.int .i64 n114) ∧
                        IfB (decide ((n113 : Int) = n114))
                        (∃ (n115 : Int), World.cell? (World.drew w110) (Addr.add ⟨(Array.size (World.heap w29)), 0, none⟩ 2) = some (.int .i64 n115) ∧
                        ∃ (n116 : Int), World.cell? (World.drew w110) (Addr.add ⟨(Array.size (World.heap w29)), 0, none⟩ 4) = some (.int .i64 n116) ∧
                        PtrOK a22 fun (p117 : Addr) =>
                        ((0 : Int) ≤ n115 ∧ n115 < (l22 : Int)) ∧
                        May (World.drew w110) (Addr.add p117 (Int.toNat n115 * 1)) ∧
                        Calls Try.prog 33 #[.int .i64 n109] (World.setCell (World.drew w110) (Addr.add p117 (Int.toNat n115 * 1)) (.int .i64 n116)) (Ret [.leaf (.int .i64)] fun (n118 : Int) (w119 : World) =>
                        IfB (!decide ((n118 : Int) = 302))
                        (K false w119)
                        (IfB (!(b108 == (decide ((n113 : Int) = n114))))
                        (K false w119)
                        ((I26 (IntKind.wrap .i64 (n28 + 1)) w119 ∧
                        m27 (IntKind.wrap .i64 (n28 + 1)) w119 < m27 n28 w29)))))
                        (Calls Try.prog 33 #[.int .i64 n109] (World.drew w110) (Ret [.leaf (.int .i64)] fun (n120 : Int) (w121 : World) =>
                        IfB (!decide ((n120 : Int) = 302))
                        (K false w121)
                        (IfB (!(b108 == (decide ((n113 : Int) = n114))))
                        (K false w121)
                        ((I26 (IntKind.wrap .i64 (n28 + 1)) w121 ∧
                        m27 (IntKind.wrap .i64 (n28 + 1)) w121 < m27 n28 w29))))))
                        (Calls Try.prog 33 #[.int .i64 n109] (World.drew w110) (Ret [.leaf (.int .i64)] fun (n122 : Int) (w123 : World) =>
                        IfB (!decide ((n122 : Int) = 302))
                        (K false w123)
                        (IfB (!(b108 == false))
                        (K false w123)
                        ((I26 (IntKind.wrap .i64 (n28 + 1)) w123 ∧
                        m27 (IntKind.wrap .i64 (n28 + 1)) w123 < m27 n28 w29)))))))))
                      (∃ (n124 : Int), World.cell? (World.setCell (World.setCell (World.setCell (World.setCell (World.setCell (World.alloc w29 (.cells #[.int .i64 0, .int .i64 0, .int .i64 0, .int .i64 0, .int .i64 0] 44)) (Addr.add ⟨(Array.size (World.heap w29)), 0, none⟩ 0) (.int .i64 n31)) (Addr.add ⟨(Array.size (World.heap w29)), 0, none⟩ 1) (.int .i64 n32)) (Addr.add ⟨(Array.size (World.heap w29)), 0, none⟩ 2) (.int .i64 n33)) (Addr.add ⟨(Array.size (World.heap w29)), 0, none⟩ 3) (.int .i64 n34)) (Addr.add ⟨(Array.size (World.heap w29)), 0, none⟩ 4) (.int .i64 n35)) (Addr.add ⟨(Array.size (World.heap w29)), 0, none⟩ 2) = some (.int .i64 n124) ∧
                        IfB (decide ((n124 : Int) < 0))
                        (∃ (n125 : Int), World.cell? (World.setCell (World.setCell (World.setCell (World.setCell (World.setCell (World.alloc w29 (.cells #[.int .i64 0, .int .i64 0, .int .i64 0, .int .i64 0, .int .i64 0] 44)) (Addr.add ⟨(Array.size (World.heap w29)), 0, none⟩ 0) (.int .i64 n31)) (Addr.add ⟨(Array.size (World.heap w29)), 0, none⟩ 1) (.int .i64 n32)) (Addr.add ⟨(Array.size (World.heap w29)), 0, none⟩ 2) (.int .i64 n33)) (Addr.add ⟨(Array.size (World.heap w29)), 0, none⟩ 3) (.int .i64 n34)) (Addr.add ⟨(Array.size (World.heap w29)), 0, none⟩ 4) (.int .i64 n35)) (Addr.add ⟨(Array.size (World.heap w29)), 0, none⟩ 0) = some (.int .i64 n125) ∧
                        IfB (decide ((n125 : Int) = 0))
                        (∃ (n126 : Int), World.cell? (World.setCell (World.setCell (World.setCell (World.setCell (World.setCell (World.alloc w29 (.cells #[.int .i64 0, .int .i64 0, .int .i64 0, .int .i64 0, .int .i64 0] 44)) (Addr.add ⟨(Array.size (World.heap w29)), 0, none⟩ 0) (.int .i64 n31)) (Addr.add ⟨(Array.size (World.heap w29)), 0, none⟩ 1) (.int .i64 n32)) (Addr.add ⟨(Array.size (World.heap w29)), 0, none⟩ 2) (.int .i64 n33)) (Addr.add ⟨(Array.size (World.heap w29)), 0, none⟩ 3) (.int .i64 n34)) (Addr.add ⟨(Array.size (World.heap w29)), 0, none⟩ 4) (.int .i64 n35)) (Addr.add ⟨(Array.size (World.heap w29)), 0, none⟩ 1) = some (.int .i64 n126) ∧
                        ∃ (n127 : Int), World.cell? (World.setCell (World.setCell (World.setCell (World.setCell (World.setCell (World.alloc w29 (.cells #[.int .i64 0, .int .i64 0, .int .i64 0, .int .i64 0, .int .i64 0] 44)) (Addr.add ⟨(Array.size (World.heap w29)), 0, none⟩ 0) (.int .i64 n31)) (Addr.add ⟨(Array.size (World.heap w29)), 0, none⟩ 1) (.int .i64 n32)) (Addr.add ⟨(Array.size (World.heap w29)), 0, none⟩ 2) (.int .i64 n33)) (Addr.add ⟨(Array.size (World.heap w29)), 0, none⟩ 3) (.int .i64 n34)) (Addr.add ⟨(Array.size (World.heap w29)), 0, none⟩ 4) (.int .i64 n35)) (Addr.add ⟨(Array.size (World.heap w29)), 0, none⟩ 2) = some (.int .i64 n127) ∧
                        Calls Try.prog 42 #[.pointer q1, .int .i64 n126, .int .i64 n127] (World.setCell (World.setCell (World.setCell (World.setCell (World.setCell (World.alloc w29 (.cells #[.int .i64 0, .int .i64 0, .int .i64 0, .int .i64 0, .int .i64 0] 44)) (Addr.add ⟨(Array.size (World.heap w29)), 0, none⟩ 0) (.int .i64 n31)) (Addr.add ⟨(Array.size (World.heap w29)), 0, none⟩ 1) (.int .i64 n32)) (Addr.add ⟨(Array.size (World.heap w29)), 0, none⟩ 2) (.int .i64 n33)) (Addr.add ⟨(Array.size (World.heap w29)), 0, none⟩ 3) (.int .i64 n34)) (Addr.add ⟨(Array.size (World.heap w29)), 0, none⟩ 4) (.int .i64 n35)) (Ret [.leaf (.int .i64), .leaf (.int .i64)] fun (n128 : Int) (n129 : Int) (w130 : World) =>
                        Calls Try.prog 33 #[.int .i64 n129] w130 (Ret [.leaf (.int .i64)] fun (n131 : Int) (w132 : World) =>
                        IfB (!decide ((n131 : Int) = 301))
                        (K false w132)
                        (IfB (decide ((301 : Int) = 0))
                        (∃ (n133 : Int), World.cell? w132 (Addr.add ⟨(Array.size (World.heap w29)), 0, none⟩ 2) = some (.int .i64 n133) ∧
                        PtrOK a22 fun (p134 : Addr) =>
                        ((0 : Int) ≤ n133 ∧ n133 < (l22 : Int)) ∧
                        ∃ (n135 : Int), World.cell? w132 (Addr.add p134 (Int.toNat n133 * 1)) = some (.int .i64 n135) ∧
                        IfB (!decide ((n128 : Int) = n135))
                        (K false w132)
                        (IfB (!decide ((301 : Int) = 0))
                        (IfB (!decide ((n128 : Int) = 0))
                        (K false w132)
                        ((I26 (IntKind.wrap .i64 (n28 + 1)) w132 ∧
                        m27 (IntKind.wrap .i64 (n28 + 1)) w132 < m27 n28 w29)))
                        ((I26 (IntKind.wrap .i64 (n28 + 1)) w132 ∧
                        m27 (IntKind.wrap .i64 (n28 + 1)) w132 < m27 n28 w29))))
                        (IfB (!decide ((301 : Int) = 0))
                        (IfB (!decide ((n128 : Int) = 0))
                        (K false w132)
                        ((I26 (IntKind.wrap .i64 (n28 + 1)) w132 ∧
                        m27 (IntKind.wrap .i64 (n28 + 1)) w132 < m27 n28 w29)))
                        ((I26 (IntKind.wrap .i64 (n28 + 1)) w132 ∧
                        m27 (IntKind.wrap .i64 (n28 + 1)) w132 < m27 n28 w29)))))))
                        (IfB (decide ((n125 : Int) = 1))
                        (∃ (n136 : Int), World.cell? (World.setCell (World.setCell (World.setCell (World.setCell (World.setCell (World.alloc w29 (.cells #[.int .i64 0, .int .i64 0, .int .i64 0, .int .i64 0, .int .i64 0] 44)) (Addr.add ⟨(Array.size (World.heap w29)), 0, none⟩ 0) (.int .i64 n31)) (Addr.add ⟨(Array.size (World.heap w29)), 0, none⟩ 1) (.int .i64 n32)) (Addr.add ⟨(Array.size (World.heap w29)), 0, none⟩ 2) (.int .i64 n33)) (Addr.add ⟨(Array.size (World.heap w29)), 0, none⟩ 3) (.int .i64 n34)) (Addr.add ⟨(Array.size (World.heap w29)), 0, none⟩ 4) (.int .i64 n35)) (Addr.add ⟨(Array.size (World.heap w29)), 0, none⟩ 1) = some (.int .i64 n136) ∧
                        ∃ (n137 : Int), World.cell? (World.setCell (World.setCell (World.setCell (World.setCell (World.setCell (World.alloc w29 (.cells #[.int .i64 0, .int .i64 0, .int .i64 0, .int .i64 0, .int .i64 0] 44)) (Addr.add ⟨(Array.size (World.heap w29)), 0, none⟩ 0) (.int .i64 n31)) (Addr.add ⟨(Array.size (World.heap w29)), 0, none⟩ 1) (.int .i64 n32)) (Addr.add ⟨(Array.size (World.heap w29)), 0, none⟩ 2) (.int .i64 n33)) (Addr.add ⟨(Array.size (World.heap w29)), 0, none⟩ 3) (.int .i64 n34)) (Addr.add ⟨(Array.size (World.heap w29)), 0, none⟩ 4) (.int .i64 n35)) (Addr.add ⟨(Array.size (World.heap w29)), 0, none⟩ 2) = some (.int .i64 n137) ∧
                        ∃ (n138 : Int), World.cell? (World.setCell (World.setCell (World.setCell (World.setCell (World.setCell (World.alloc w29 (.cells #[.int .i64 0, .int .i64 0, .int .i64 0, .int .i64 0, .int .i64 0] 44)) (Addr.add ⟨(Array.size (World.heap w29)), 0, none⟩ 0) (.int .i64 n31)) (Addr.add ⟨(Array.size (World.heap w29)), 0, none⟩ 1) (.int .i64 n32)) (Addr.add ⟨(Array.size (World.heap w29)), 0, none⟩ 2) (.int .i64 n33)) (Addr.add ⟨(Array.size (World.heap w29)), 0, none⟩ 3) (.int .i64 n34)) (Addr.add ⟨(Array.size (World.heap w29)), 0, none⟩ 4) (.int .i64 n35)) (Addr.add ⟨(Array.size (World.heap w29)), 0, none⟩ 4) = some (.int .i64 n138) ∧
                        Calls Try.prog 43 #[.pointer q1, .int .i64 n136, .int .i64 n137, .int .i64 n138] (World.setCell (World.setCell (World.setCell (World.setCell (World.setCell (World.alloc w29 (.cells #[.int .i64 0, .int .i64 0, .int .i64 0, .int .i64 0, .int .i64 0] 44)) (Addr.add ⟨(Array.size (World.heap w29)), 0, none⟩ 0) (.int .i64 n31)) (Addr.add ⟨(Array.size (World.heap w29)), 0, none⟩ 1) (.int .i64 n32)) (Addr.add ⟨(Array.size (World.heap w29)), 0, none⟩ 2) (.int .i64 n33)) (Addr.add ⟨(Array.size (World.heap w29)), 0, none⟩ 3) (.int .i64 n34)) (Addr.add ⟨(Array.size (World.heap w29)), 0, none⟩ 4) (.int .i64 n35)) (Ret [.leaf (.int .i64)] fun (n139 : Int) (w140 : World) =>
                        IfB (decide ((301 : Int) = 0))
                        (∃ (n141 : Int), World.cell? w140 (Addr.add ⟨(Array.size (World.heap w29)), 0, none⟩ 2) = some (.int .i64 n141) ∧
                        ∃ (n142 : Int), World.cell? w140 (Addr.add ⟨(Array.size (World.heap w29)), 0, none⟩ 4) = some (.int .i64 n142) ∧
                        PtrOK a22 fun (p143 : Addr) =>
                        ((0 : Int) ≤ n141 ∧ n141 < (l22 : Int)) ∧
                        May w140 (Addr.add p143 (Int.toNat n141 * 1)) ∧
                        Calls Try.prog 33 #[.int .i64 n139] (World.setCell w140 (Addr.add p143 (Int.toNat n141 * 1)) (.int .i64 n142)) (Ret [.leaf (.int .i64)] fun (n144 : Int) (w145 : World) =>
                        IfB (!decide ((n144 : Int) = 301))
                        (K false w145)
                        ((I26 (IntKind.wrap .i64 (n28 + 1)) w145 ∧
                        m27 (IntKind.wrap .i64 (n28 + 1)) w145 < m27 n28 w29))))
                        (Calls Try.prog 33 #[.int .i64 n139] w140 (Ret [.leaf (.int .i64)] fun (n146 : Int) (w147 : World) =>
                        IfB (!decide ((n146 : Int) = 301))
                        (K false w147)
                        ((I26 (IntKind.wrap .i64 (n28 + 1)) w147 ∧
                        m27 (IntKind.wrap .i64 (n28 + 1)) w147 < m27 n28 w29))))))
                        (∃ (n148 : Int), World.cell? (World.setCell (World.setCell (World.setCell (World.setCell (World.setCell (World.alloc w29 (.cells #[.int .i64 0, .int .i64 0, .int .i64 0, .int .i64 0, .int .i64 0] 44)) (Addr.add ⟨(Array.size (World.heap w29)), 0, none⟩ 0) (.int .i64 n31)) (Addr.add ⟨(Array.size (World.heap w29)), 0, none⟩ 1) (.int .i64 n32)) (Addr.add ⟨(Array.size (World.heap w29)), 0, none⟩ 2) (.int .i64 n33)) (Addr.add ⟨(Array.size (World.heap w29)), 0, none⟩ 3) (.int .i64 n34)) (Addr.add ⟨(Array.size (World.heap w29)), 0, none⟩ 4) (.int .i64 n35)) (Addr.add ⟨(Array.size (World.heap w29)), 0, none⟩ 1) = some (.int .i64 n148) ∧
                        ∃ (n149 : Int), World.cell? (World.setCell (World.setCell (World.setCell (World.setCell (World.setCell (World.alloc w29 (.cells #[.int .i64 0, .int .i64 0, .int .i64 0, .int .i64 0, .int .i64 0] 44)) (Addr.add ⟨(Array.size (World.heap w29)), 0, none⟩ 0) (.int .i64 n31)) (Addr.add ⟨(Array.size (World.heap w29)), 0, none⟩ 1) (.int .i64 n32)) (Addr.add ⟨(Array.size (World.heap w29)), 0, none⟩ 2) (.int .i64 n33)) (Addr.add ⟨(Array.size (World.heap w29)), 0, none⟩ 3) (.int .i64 n34)) (Addr.add ⟨(Array.size (World.heap w29)), 0, none⟩ 4) (.int .i64 n35)) (Addr.add ⟨(Array.size (World.heap w29)), 0, none⟩ 2) = some (.int .i64 n149) ∧
                        ∃ (n150 : Int), World.cell? (World.setCell (World.setCell (World.setCell (World.setCell (World.setCell (World.alloc w29 (.cells #[.int .i64 0, .int .i64 0, .int .i64 0, .int .i64 0, .int .i64 0] 44)) (Addr.add ⟨(Array.size (World.heap w29)), 0, none⟩ 0) (.int .i64 n31)) (Addr.add ⟨(Array.size (World.heap w29)), 0, none⟩ 1) (.int .i64 n32)) (Addr.add ⟨(Array.size (World.heap w29)), 0, none⟩ 2) (.int .i64 n33)) (Addr.add ⟨(Array.size (World.heap w29)), 0, none⟩ 3) (.int .i64 n34)) (Addr.add ⟨(Array.size (World.heap w29)), 0, none⟩ 4) (.int .i64 n35)) (Addr.add ⟨(Array.size (World.heap w29)), 0, none⟩ 3) = some (.int .i64 n150) ∧
                        ∃ (n151 : Int), World.cell? (World.setCell (World.setCell (World.setCell (World.setCell (World.setCell (World.alloc w29 (.cells #[.int .i64 0, .int .i64 0, .int .i64 0, .int .i64 0, .int .i64 0] 44)) (Addr.add ⟨(Array.size (World.heap w29)), 0, none⟩ 0) (.int .i64 n31)) (Addr.add ⟨(Array.size (World.heap w29)), 0, none⟩ 1) (.int .i64 n32)) (Addr.add ⟨(Array.size (World.heap w29)), 0, none⟩ 2) (.int .i64 n33)) (Addr.add ⟨(Array.size (World.heap w29)), 0, none⟩ 3) (.int .i64 n34)) (Addr.add ⟨(Array.size (World.heap w29)), 0, none⟩ 4) (.int .i64 n35)) (Addr.add ⟨(Array.size (World.heap w29)), 0, none⟩ 4) = some (.int .i64 n151) ∧
                        Calls Try.prog 44 #[.pointer q1, .int .i64 n148, .int .i64 n149, .int .i64 n150, .int .i64 n151] (World.setCell (World.setCell (World.setCell (World.setCell (World.setCell (World.alloc w29 (.cells #[.int .i64 0, .int .i64 0, .int .i64 0, .int .i64 0, .int .i64 0] 44)) (Addr.add ⟨(Array.size (World.heap w29)), 0, none⟩ 0) (.int .i64 n31)) (Addr.add ⟨(Array.size (World.heap w29)), 0, none⟩ 1) (.int .i64 n32)) (Addr.add ⟨(Array.size (World.heap w29)), 0, none⟩ 2) (.int .i64 n33)) (Addr.add ⟨(Array.size (World.heap w29)), 0, none⟩ 3) (.int .i64 n34)) (Addr.add ⟨(Array.size (World.heap w29)), 0, none⟩ 4) (.int .i64 n35)) (Ret [.leaf .bool, .leaf (.int .i64)] fun (b152 : Bool) (n153 : Int) (w154 : World) =>
                        IfB (decide ((301 : Int) = 0))
                        (∃ (n155 : Int), World.cell? (World.drew w154) (Addr.add ⟨(Array.size (World.heap w29)), 0, none⟩ 2) = some (.int .i64 n155) ∧
                        PtrOK a22 fun (p156 : Addr) =>
                        ((0 : Int) ≤ n155 ∧ n155 < (l22 : Int)) ∧
                        ∃ (n157 : Int), World.cell? (World.drew w154) (Addr.add p156 (Int.toNat n155 * 1)) = some (.int .i64 n157) ∧
                        ∃ (n158 : Int), World.cell? (World.drew w154) (Addr.add ⟨(Array.size (World.heap w29)), 0, none⟩ 3) = some (.int .i64 n158) ∧
                        IfB (decide ((n157 : Int) = n158))
                        (∃ (n159 : Int), World.cell? (World.drew w154) (Addr.add ⟨(Array.size (World.heap w29)), 0, none⟩ 2) = some (.int .i64 n159) ∧
                        ∃ (n160 : Int), World.cell? (World.drew w154) (Addr.add ⟨(Array.size (World.heap w29)), 0, none⟩ 4) = some (.int .i64 n160) ∧
                        PtrOK a22 fun (p161 : Addr) =>
                        ((0 : Int) ≤ n159 ∧ n159 < (l22 : Int)) ∧
                        May (World.drew w154) (Addr.add p161 (Int.toNat n159 * 1)) ∧
                        Calls Try.prog 33 #[.int .i64 n153] (World.setCell (World.drew w154) (Addr.add p161 (Int.toNat n159 * 1)) (.int .i64 n160)) (Ret [.leaf (.int .i64)] fun (n162 : Int) (w163 : World) =>
                        IfB (!decide ((n162 : Int) = 301))
                        (K false w163)
                        (IfB (!(b152 == (decide ((n157 : Int) = n158))))
                        (K false w163)
                        ((I26 (IntKind.wrap .i64 (n28 + 1)) w163 ∧
                        m27 (IntKind.wrap .i64 (n28 + 1)) w163 < m27 n28 w29)))))
                        (Calls Try.prog 33 #[.int .i64 n153] (World.drew w154) (Ret [.leaf (.int .i64)] fun (n164 : Int) (w165 : World) =>
                        IfB (!decide ((n164 : Int) = 301))
                        (K false w165)
                        (IfB (!(b152 == (decide ((n157 : Int) = n158))))
                        (K false w165)
                        ((I26 (IntKind.wrap .i64 (n28 + 1)) w165 ∧
                        m27 (IntKind.wrap .i64 (n28 + 1)) w165 < m27 n28 w29))))))
                        (Calls Try.prog 33 #[.int .i64 n153] (World.drew w154) (Ret [.leaf (.int .i64)] fun (n166 : Int) (w167 : World) =>
                        IfB (!decide ((n166 : Int) = 301))
                        (K false w167)
                        (IfB (!(b152 == false))
                        (K false w167)
                        ((I26 (IntKind.wrap .i64 (n28 + 1)) w167 ∧
                        m27 (IntKind.wrap .i64 (n28 + 1)) w167 < m27 n28 w29)))))))))
                        (∃ (n168 : Int), World.cell? (World.setCell (World.setCell (World.setCell (World.setCell (World.setCell (World.alloc w29 (.cells #[.int .i64 0, .int .i64 0, .int .i64 0, .int .i64 0, .int .i64 0] 44)) (Addr.add ⟨(Array.size (World.heap w29)), 0, none⟩ 0) (.int .i64 n31)) (Addr.add ⟨(Array.size (World.heap w29)), 0, none⟩ 1) (.int .i64 n32)) (Addr.add ⟨(Array.size (World.heap w29)), 0, none⟩ 2) (.int .i64 n33)) (Addr.add ⟨(Array.size (World.heap w29)), 0, none⟩ 3) (.int .i64 n34)) (Addr.add ⟨(Array.size (World.heap w29)), 0, none⟩ 4) (.int .i64 n35)) (Addr.add ⟨(Array.size (World.heap w29)), 0, none⟩ 2) = some (.int .i64 n168) ∧
                        IfB (decide ((words : Int) ≤ n168))
                        (∃ (n169 : Int), World.cell? (World.setCell (World.setCell (World.setCell (World.setCell (World.setCell (World.alloc w29 (.cells #[.int .i64 0, .int .i64 0, .int .i64 0, .int .i64 0, .int .i64 0] 44)) (Addr.add ⟨(Array.size (World.heap w29)), 0, none⟩ 0) (.int .i64 n31)) (Addr.add ⟨(Array.size (World.heap w29)), 0, none⟩ 1) (.int .i64 n32)) (Addr.add ⟨(Array.size (World.heap w29)), 0, none⟩ 2) (.int .i64 n33)) (Addr.add ⟨(Array.size (World.heap w29)), 0, none⟩ 3) (.int .i64 n34)) (Addr.add ⟨(Array.size (World.heap w29)), 0, none⟩ 4) (.int .i64 n35)) (Addr.add ⟨(Array.size (World.heap w29)), 0, none⟩ 0) = some (.int .i64 n169) ∧
                        IfB (decide ((n169 : Int) = 0))
                        (∃ (n170 : Int), World.cell? (World.setCell (World.setCell (World.setCell (World.setCell (World.setCell (World.alloc w29 (.cells #[.int .i64 0, .int .i64 0, .int .i64 0, .int .i64 0, .int .i64 0] 44)) (Addr.add ⟨(Array.size (World.heap w29)), 0, none⟩ 0) (.int .i64 n31)) (Addr.add ⟨(Array.size (World.heap w29)), 0, none⟩ 1) (.int .i64 n32)) (Addr.add ⟨(Array.size (World.heap w29)), 0, none⟩ 2) (.int .i64 n33)) (Addr.add ⟨(Array.size (World.heap w29)), 0, none⟩ 3) (.int .i64 n34)) (Addr.add ⟨(Array.size (World.heap w29)), 0, none⟩ 4) (.int .i64 n35)) (Addr.add ⟨(Array.size (World.heap w29)), 0, none⟩ 1) = some (.int .i64 n170) ∧
                        ∃ (n171 : Int), World.cell? (World.setCell (World.setCell (World.setCell (World.setCell (World.setCell (World.alloc w29 (.cells #[.int .i64 0, .int .i64 0, .int .i64 0, .int .i64 0, .int .i64 0] 44)) (Addr.add ⟨(Array.size (World.heap w29)), 0, none⟩ 0) (.int .i64 n31)) (Addr.add ⟨(Array.size (World.heap w29)), 0, none⟩ 1) (.int .i64 n32)) (Addr.add ⟨(Array.size (World.heap w29)), 0, none⟩ 2) (.int .i64 n33)) (Addr.add ⟨(Array.size (World.heap w29)), 0, none⟩ 3) (.int .i64 n34)) (Addr.add ⟨(Array.size (World.heap w29)), 0, none⟩ 4) (.int .i64 n35)) (Addr.add ⟨(Array.size (World.heap w29)), 0, none⟩ 2) = some (.int .i64 n171) ∧
                        Calls Try.prog 42 #[.pointer q1, .int .i64 n170, .int .i64 n171] (World.setCell (World.setCell (World.setCell (World.setCell (World.setCell (World.alloc w29 (.cells #[.int .i64 0, .int .i64 0, .int .i64 0, .int .i64 0, .int .i64 0] 44)) (Addr.add ⟨(Array.size (World.heap w29)), 0, none⟩ 0) (.int .i64 n31)) (Addr.add ⟨(Array.size (World.heap w29)), 0, none⟩ 1) (.int .i64 n32)) (Addr.add ⟨(Array.size (World.heap w29)), 0, none⟩ 2) (.int .i64 n33)) (Addr.add ⟨(Array.size (World.heap w29)), 0, none⟩ 3) (.int .i64 n34)) (Addr.add ⟨(Array.size (World.heap w29)), 0, none⟩ 4) (.int .i64 n35)) (Ret [.leaf (.int .i64), .leaf (.int .i64)] fun (n172 : Int) (n173 : Int) (w174 : World) =>
                        Calls Try.prog 33 #[.int .i64 n173] w174 (Ret [.leaf (.int .i64)] fun (n175 : Int) (w176 : World) =>
                        IfB (!decide ((n175 : Int) = 301))
                        (K false w176)
                        (IfB (decide ((301 : Int) = 0))
                        (∃ (n177 : Int), World.cell? w176 (Addr.add ⟨(Array.size (World.heap w29)), 0, none⟩ 2) = some (.int .i64 n177) ∧
                        PtrOK a22 fun (p178 : Addr) =>
                        ((0 : Int) ≤ n177 ∧ n177 < (l22 : Int)) ∧
                        ∃ (n179 : Int), World.cell? w176 (Addr.add p178 (Int.toNat n177 * 1)) = some (.int .i64 n179) ∧
                        IfB (!decide ((n172 : Int) = n179))
                        (K false w176)
                        (IfB (!decide ((301 : Int) = 0))
                        (IfB (!decide ((n172 : Int) = 0))
                        (K false w176)
                        ((I26 (IntKind.wrap .i64 (n28 + 1)) w176 ∧
                        m27 (IntKind.wrap .i64 (n28 + 1)) w176 < m27 n28 w29)))
                        ((I26 (IntKind.wrap .i64 (n28 + 1)) w176 ∧
                        m27 (IntKind.wrap .i64 (n28 + 1)) w176 < m27 n28 w29))))
                        (IfB (!decide ((301 : Int) = 0))
                        (IfB (!decide ((n172 : Int) = 0))
                        (K false w176)
                        ((I26 (IntKind.wrap .i64 (n28 + 1)) w176 ∧
                        m27 (IntKind.wrap .i64 (n28 + 1)) w176 < m27 n28 w29)))
                        ((I26 (IntKind.wrap .i64 (n28 + 1)) w176 ∧
                        m27 (IntKind.wrap .i64 (n28 + 1)) w176 < m27 n28 w29)))))))
                        (IfB (decide ((n169 : Int) = 1))
                        (∃ (n180 : Int), World.cell? (World.setCell (World.setCell (World.setCell (World.setCell (World.setCell (World.alloc w29 (.cells #[.int .i64 0, .int .i64 0, .int .i64 0, .int .i64 0, .int .i64 0] 44)) (Addr.add ⟨(Array.size (World.heap w29)), 0, none⟩ 0) (.int .i64 n31)) (Addr.add ⟨(Array.size (World.heap w29)), 0, none⟩ 1) (.int .i64 n32)) (Addr.add ⟨(Array.size (World.heap w29)), 0, none⟩ 2) (.int .i64 n33)) (Addr.add ⟨(Array.size (World.heap w29)), 0, none⟩ 3) (.int .i64 n34)) (Addr.add ⟨(Array.size (World.heap w29)), 0, none⟩ 4) (.int .i64 n35)) (Addr.add ⟨(Array.size (World.heap w29)), 0, none⟩ 1) = some (.int .i64 n180) ∧
                        ∃ (n181 : Int), World.cell? (World.setCell (World.setCell (World.setCell (World.setCell (World.setCell (World.alloc w29 (.cells #[.int .i64 0, .int .i64 0, .int .i64 0, .int .i64 0, .int .i64 0] 44)) (Addr.add ⟨(Array.size (World.heap w29)), 0, none⟩ 0) (.int .i64 n31)) (Addr.add ⟨(Array.size (World.heap w29)), 0, none⟩ 1) (.int .i64 n32)) (Addr.add ⟨(Array.size (World.heap w29)), 0, none⟩ 2) (.int .i64 n33)) (Addr.add ⟨(Array.size (World.heap w29)), 0, none⟩ 3) (.int .i64 n34)) (Addr.add ⟨(Array.size (World.heap w29)), 0, none⟩ 4) (.int .i64 n35)) (Addr.add ⟨(Array.size (World.heap w29)), 0, none⟩ 2) = some (.int .i64 n181) ∧
                        ∃ (n182 : Int), World.cell? (World.setCell (World.setCell (World.setCell (World.setCell (World.setCell (World.alloc w29 (.cells #[.int .i64 0, .int .i64 0, .int .i64 0, .int .i64 0, .int .i64 0] 44)) (Addr.add ⟨(Array.size (World.heap w29)), 0, none⟩ 0) (.int .i64 n31)) (Addr.add ⟨(Array.size (World.heap w29)), 0, none⟩ 1) (.int .i64 n32)) (Addr.add ⟨(Array.size (World.heap w29)), 0, none⟩ 2) (.int .i64 n33)) (Addr.add ⟨(Array.size (World.heap w29)), 0, none⟩ 3) (.int .i64 n34)) (Addr.add ⟨(Array.size (World.heap w29)), 0, none⟩ 4) (.int .i64 n35)) (Addr.add ⟨(Array.size (World.heap w29)), 0, none⟩ 4) = some (.int .i64 n182) ∧
                        Calls Try.prog 43 #[.pointer q1, .int .i64 n180, .int .i64 n181, .int .i64 n182] (World.setCell (World.setCell (World.setCell (World.setCell (World.setCell (World.alloc w29 (.cells #[.int .i64 0, .int .i64 0, .int .i64 0, .int .i64 0, .int .i64 0] 44)) (Addr.add ⟨(Array.size (World.heap w29)), 0, none⟩ 0) (.int .i64 n31)) (Addr.add ⟨(Array.size (World.heap w29)), 0, none⟩ 1) (.int .i64 n32)) (Addr.add ⟨(Array.size (World.heap w29)), 0, none⟩ 2) (.int .i64 n33)) (Addr.add ⟨(Array.size (World.heap w29)), 0, none⟩ 3) (.int .i64 n34)) (Addr.add ⟨(Array.size (World.heap w29)), 0, none⟩ 4) (.int .i64 n35)) (Ret [.leaf (.int .i64)] fun (n183 : Int) (w184 : World) =>
                        IfB (decide ((301 : Int) = 0))
                        (∃ (n185 : Int), World.cell? w184 (Addr.add ⟨(Array.size (World.heap w29)), 0, none⟩ 2) = some (.int .i64 n185) ∧
                        ∃ (n186 : Int), World.cell? w184 (Addr.add ⟨(Array.size (World.heap w29)), 0, none⟩ 4) = some (.int .i64 n186) ∧
                        PtrOK a22 fun (p187 : Addr) =>
                        ((0 : Int) ≤ n185 ∧ n185 < (l22 : Int)) ∧
                        May w184 (Addr.add p187 (Int.toNat n185 * 1)) ∧
                        Calls Try.prog 33 #[.int .i64 n183] (World.setCell w184 (Addr.add p187 (Int.toNat n185 * 1)) (.int .i64 n186)) (Ret [.leaf (.int .i64)] fun (n188 : Int) (w189 : World) =>
                        IfB (!decide ((n188 : Int) = 301))
                        (K false w189)
                        ((I26 (IntKind.wrap .i64 (n28 + 1)) w189 ∧
                        m27 (IntKind.wrap .i64 (n28 + 1)) w189 < m27 n28 w29))))
                        (Calls Try.prog 33 #[.int .i64 n183] w184 (Ret [.leaf (.int .i64)] fun (n190 : Int) (w191 : World) =>
                        IfB (!decide ((n190 : Int) = 301))
                        (K false w191)
                        ((I26 (IntKind.wrap .i64 (n28 + 1)) w191 ∧
                        m27 (IntKind.wrap .i64 (n28 + 1)) w191 < m27 n28 w29))))))
                        (∃ (n192 : Int), World.cell? (World.setCell (World.setCell (World.setCell (World.setCell (World.setCell (World.alloc w29 (.cells #[.int .i64 0, .int .i64 0, .int .i64 0, .int .i64 0, .int .i64 0] 44)) (Addr.add ⟨(Array.size (World.heap w29)), 0, none⟩ 0) (.int .i64 n31)) (Addr.add ⟨(Array.size (World.heap w29)), 0, none⟩ 1) (.int .i64 n32)) (Addr.add ⟨(Array.size (World.heap w29)), 0, none⟩ 2) (.int .i64 n33)) (Addr.add ⟨(Array.size (World.heap w29)), 0, none⟩ 3) (.int .i64 n34)) (Addr.add ⟨(Array.size (World.heap w29)), 0, none⟩ 4) (.int .i64 n35)) (Addr.add ⟨(Array.size (World.heap w29)), 0, none⟩ 1) = some (.int .i64 n192) ∧
                        ∃ (n193 : Int), World.cell? (World.setCell (World.setCell (World.setCell (World.setCell (World.setCell (World.alloc w29 (.cells #[.int .i64 0, .int .i64 0, .int .i64 0, .int .i64 0, .int .i64 0] 44)) (Addr.add ⟨(Array.size (World.heap w29)), 0, none⟩ 0) (.int .i64 n31)) (Addr.add ⟨(Array.size (World.heap w29)), 0, none⟩ 1) (.int .i64 n32)) (Addr.add ⟨(Array.size (World.heap w29)), 0, none⟩ 2) (.int .i64 n33)) (Addr.add ⟨(Array.size (World.heap w29)), 0, none⟩ 3) (.int .i64 n34)) (Addr.add ⟨(Array.size (World.heap w29)), 0, none⟩ 4) (.int .i64 n35)) (Addr.add ⟨(Array.size (World.heap w29)), 0, none⟩ 2) = some (.int .i64 n193) ∧
                        ∃ (n194 : Int), World.cell? (World.setCell (World.setCell (World.setCell (World.setCell (World.setCell (World.alloc w29 (.cells #[.int .i64 0, .int .i64 0, .int .i64 0, .int .i64 0, .int .i64 0] 44)) (Addr.add ⟨(Array.size (World.heap w29)), 0, none⟩ 0) (.int .i64 n31)) (Addr.add ⟨(Array.size (World.heap w29)), 0, none⟩ 1) (.int .i64 n32)) (Addr.add ⟨(Array.size (World.heap w29)), 0, none⟩ 2) (.int .i64 n33)) (Addr.add ⟨(Array.size (World.heap w29)), 0, none⟩ 3) (.int .i64 n34)) (Addr.add ⟨(Array.size (World.heap w29)), 0, none⟩ 4) (.int .i64 n35)) (Addr.add ⟨(Array.size (World.heap w29)), 0, none⟩ 3) = some (.int .i64 n194) ∧
                        ∃ (n195 : Int), World.cell? (World.setCell (World.setCell (World.setCell (World.setCell (World.setCell (World.alloc w29 (.cells #[.int .i64 0, .int .i64 0, .int .i64 0, .int .i64 0, .int .i64 0] 44)) (Addr.add ⟨(Array.size (World.heap w29)), 0, none⟩ 0) (.int .i64 n31)) (Addr.add ⟨(Array.size (World.heap w29)), 0, none⟩ 1) (.int .i64 n32)) (Addr.add ⟨(Array.size (World.heap w29)), 0, none⟩ 2) (.int .i64 n33)) (Addr.add ⟨(Array.size (World.heap w29)), 0, none⟩ 3) (.int .i64 n34)) (Addr.add ⟨(Array.size (World.heap w29)), 0, none⟩ 4) (.int .i64 n35)) (Addr.add ⟨(Array.size (World.heap w29)), 0, none⟩ 4) = some (.int .i64 n195) ∧
                        Calls Try.prog 44 #[.pointer q1, .int .i64 n192, .int .i64 n193, .int .i64 n194, .int .i64 n195] (World.setCell (World.setCell (World.setCell (World.setCell (World.setCell (World.alloc w29 (.cells #[.int .i64 0, .int .i64 0, .int .i64 0, .int .i64 0, .int .i64 0] 44)) (Addr.add ⟨(Array.size (World.heap w29)), 0, none⟩ 0) (.int .i64 n31)) (Addr.add ⟨(Array.size (World.heap w29)), 0, none⟩ 1) (.int .i64 n32)) (Addr.add ⟨(Array.size (World.heap w29)), 0, none⟩ 2) (.int .i64 n33)) (Addr.add ⟨(Array.size (World.heap w29)), 0, none⟩ 3) (.int .i64 n34)) (Addr.add ⟨(Array.size (World.heap w29)), 0, none⟩ 4) (.int .i64 n35)) (Ret [.leaf .bool, .leaf (.int .i64)] fun (b196 : Bool) (n197 : Int) (w198 : World) =>
                        IfB (decide ((301 : Int) = 0))
                        (∃ (n199 : Int), World.cell? (World.drew w198) (Addr.add ⟨(Array.size (World.heap w29)), 0, none⟩ 2) = some (.int .i64 n199) ∧
                        PtrOK a22 fun (p200 : Addr) =>
                        ((0 : Int) ≤ n199 ∧ n199 < (l22 : Int)) ∧
                        ∃ (n201 : Int), World.cell? (World.drew w198) (Addr.add p200 (Int.toNat n199 * 1)) = some (.int .i64 n201) ∧
                        ∃ (n202 : Int), World.cell? (World.drew w198) (Addr.add ⟨(Array.size (World.heap w29)), 0, none⟩ 3) = some (.int .i64 n202) ∧
                        IfB (decide ((n201 : Int) = n202))
                        (∃ (n203 : Int), World.cell? (World.drew w198) (Addr.add ⟨(Array.size (World.heap w29)), 0, none⟩ 2) = some (.int .i64 n203) ∧
                        ∃ (n204 : Int), World.cell? (World.drew w198) (Addr.add ⟨(Array.size (World.heap w29)), 0, none⟩ 4) = some (.int .i64 n204) ∧
                        PtrOK a22 fun (p205 : Addr) =>
                        ((0 : Int) ≤ n203 ∧ n203 < (l22 : Int)) ∧
                        May (World.drew w198) (Addr.add p205 (Int.toNat n203 * 1)) ∧
                        Calls Try.prog 33 #[.int .i64 n197] (World.setCell (World.drew w198) (Addr.add p205 (Int.toNat n203 * 1)) (.int .i64 n204)) (Ret [.leaf (.int .i64)] fun (n206 : Int) (w207 : World) =>
                        IfB (!decide ((n206 : Int) = 301))
                        (K false w207)
                        (IfB (!(b196 == (decide ((n201 : Int) = n202))))
                        (K false w207)
                        ((I26 (IntKind.wrap .i64 (n28 + 1)) w207 ∧
                        m27 (IntKind.wrap .i64 (n28 + 1)) w207 < m27 n28 w29)))))
                        (Calls Try.prog 33 #[.int .i64 n197] (World.drew w198) (Ret [.leaf (.int .i64)] fun (n208 : Int) (w209 : World) =>
                        IfB (!decide ((n208 : Int) = 301))
                        (K false w209)
                        (IfB (!(b196 == (decide ((n201 : Int) = n202))))
                        (K false w209)
                        ((I26 (IntKind.wrap .i64 (n28 + 1)) w209 ∧
                        m27 (IntKind.wrap .i64 (n28 + 1)) w209 < m27 n28 w29))))))
                        (Calls Try.prog 33 #[.int .i64 n197] (World.drew w198) (Ret [.leaf (.int .i64)] fun (n210 : Int) (w211 : World) =>
                        IfB (!decide ((n210 : Int) = 301))
                        (K false w211)
                        (IfB (!(b196 == false))
                        (K false w211)
                        ((I26 (IntKind.wrap .i64 (n28 + 1)) w211 ∧
                        m27 (IntKind.wrap .i64 (n28 + 1)) w211 < m27 n28 w29)))))))))
                        (∃ (n212 : Int), World.cell? (World.setCell (World.setCell (World.setCell (World.setCell (World.setCell (World.alloc w29 (.cells #[.int .i64 0, .int .i64 0, .int .i64 0, .int .i64 0, .int .i64 0] 44)) (Addr.add ⟨(Array.size (World.heap w29)), 0, none⟩ 0) (.int .i64 n31)) (Addr.add ⟨(Array.size (World.heap w29)), 0, none⟩ 1) (.int .i64 n32)) (Addr.add ⟨(Array.size (World.heap w29)), 0, none⟩ 2) (.int .i64 n33)) (Addr.add ⟨(Array.size (World.heap w29)), 0, none⟩ 3) (.int .i64 n34)) (Addr.add ⟨(Array.size (World.heap w29)), 0, none⟩ 4) (.int .i64 n35)) (Addr.add ⟨(Array.size (World.heap w29)), 0, none⟩ 1) = some (.int .i64 n212) ∧
                        PtrOK a24 fun (p213 : Addr) =>
                        ((0 : Int) ≤ n212 ∧ n212 < (l24 : Int)) ∧
                        ∃ (n214 : Int), World.cell? (World.setCell (World.setCell (World.setCell (World.setCell (World.setCell (World.alloc w29 (.cells #[.int .i64 0, .int .i64 0, .int .i64 0, .int .i64 0, .int .i64 0] 44)) (Addr.add ⟨(Array.size (World.heap w29)), 0, none⟩ 0) (.int .i64 n31)) (Addr.add ⟨(Array.size (World.heap w29)), 0, none⟩ 1) (.int .i64 n32)) (Addr.add ⟨(Array.size (World.heap w29)), 0, none⟩ 2) (.int .i64 n33)) (Addr.add ⟨(Array.size (World.heap w29)), 0, none⟩ 3) (.int .i64 n34)) (Addr.add ⟨(Array.size (World.heap w29)), 0, none⟩ 4) (.int .i64 n35)) (Addr.add p213 (Int.toNat n212 * 1)) = some (.int .i64 n214) ∧
                        PtrOK a24 fun (p215 : Addr) =>
                        ((0 : Int) ≤ n212 ∧ n212 < (l24 : Int)) ∧
                        May (World.setCell (World.setCell (World.setCell (World.setCell (World.setCell (World.alloc w29 (.cells #[.int .i64 0, .int .i64 0, .int .i64 0, .int .i64 0, .int .i64 0] 44)) (Addr.add ⟨(Array.size (World.heap w29)), 0, none⟩ 0) (.int .i64 n31)) (Addr.add ⟨(Array.size (World.heap w29)), 0, none⟩ 1) (.int .i64 n32)) (Addr.add ⟨(Array.size (World.heap w29)), 0, none⟩ 2) (.int .i64 n33)) (Addr.add ⟨(Array.size (World.heap w29)), 0, none⟩ 3) (.int .i64 n34)) (Addr.add ⟨(Array.size (World.heap w29)), 0, none⟩ 4) (.int .i64 n35)) (Addr.add p215 (Int.toNat n212 * 1)) ∧
                        ∃ (n216 : Int), World.cell? (World.setCell (World.setCell (World.setCell (World.setCell (World.setCell (World.setCell (World.alloc w29 (.cells #[.int .i64 0, .int .i64 0, .int .i64 0, .int .i64 0, .int .i64 0] 44)) (Addr.add ⟨(Array.size (World.heap w29)), 0, none⟩ 0) (.int .i64 n31)) (Addr.add ⟨(Array.size (World.heap w29)), 0, none⟩ 1) (.int .i64 n32)) (Addr.add ⟨(Array.size (World.heap w29)), 0, none⟩ 2) (.int .i64 n33)) (Addr.add ⟨(Array.size (World.heap w29)), 0, none⟩ 3) (.int .i64 n34)) (Addr.add ⟨(Array.size (World.heap w29)), 0, none⟩ 4) (.int .i64 n35)) (Addr.add p215 (Int.toNat n212 * 1)) (.int .i64 (IntKind.wrap .i64 (n214 + 1)))) (Addr.add ⟨(Array.size (World.heap w29)), 0, none⟩ 0) = some (.int .i64 n216) ∧
                        IfB (decide ((n216 : Int) = 0))
                        (∃ (n217 : Int), World.cell? (World.setCell (World.setCell (World.setCell (World.setCell (World.setCell (World.setCell (World.alloc w29 (.cells #[.int .i64 0, .int .i64 0, .int .i64 0, .int .i64 0, .int .i64 0] 44)) (Addr.add ⟨(Array.size (World.heap w29)), 0, none⟩ 0) (.int .i64 n31)) (Addr.add ⟨(Array.size (World.heap w29)), 0, none⟩ 1) (.int .i64 n32)) (Addr.add ⟨(Array.size (World.heap w29)), 0, none⟩ 2) (.int .i64 n33)) (Addr.add ⟨(Array.size (World.heap w29)), 0, none⟩ 3) (.int .i64 n34)) (Addr.add ⟨(Array.size (World.heap w29)), 0, none⟩ 4) (.int .i64 n35)) (Addr.add p215 (Int.toNat n212 * 1)) (.int .i64 (IntKind.wrap .i64 (n214 + 1)))) (Addr.add ⟨(Array.size (World.heap w29)), 0, none⟩ 1) = some (.int .i64 n217) ∧
                        ∃ (n218 : Int), World.cell? (World.setCell (World.setCell (World.setCell (World.setCell (World.setCell (World.setCell (World.alloc w29 (.cells #[.int .i64 0, .int .i64 0, .int .i64 0, .int .i64 0, .int .i64 0] 44)) (Addr.add ⟨(Array.size (World.heap w29)), 0, none⟩ 0) (.int .i64 n31)) (Addr.add ⟨(Array.size (World.heap w29)), 0, none⟩ 1) (.int .i64 n32)) (Addr.add ⟨(Array.size (World.heap w29)), 0, none⟩ 2) (.int .i64 n33)) (Addr.add ⟨(Array.size (World.heap w29)), 0, none⟩ 3) (.int .i64 n34)) (Addr.add ⟨(Array.size (World.heap w29)), 0, none⟩ 4) (.int .i64 n35)) (Addr.add p215 (Int.toNat n212 * 1)) (.int .i64 (IntKind.wrap .i64 (n214 + 1)))) (Addr.add ⟨(Array.size (World.heap w29)), 0, none⟩ 2) = some (.int .i64 n218) ∧
                        Calls Try.prog 42 #[.pointer q1, .int .i64 n217, .int .i64 n218] (World.setCell (World.setCell (World.setCell (World.setCell (World.setCell (World.setCell (World.alloc w29 (.cells #[.int .i64 0, .int .i64 0, .int .i64 0, .int .i64 0, .int .i64 0] 44)) (Addr.add ⟨(Array.size (World.heap w29)), 0, none⟩ 0) (.int .i64 n31)) (Addr.add ⟨(Array.size (World.heap w29)), 0, none⟩ 1) (.int .i64 n32)) (Addr.add ⟨(Array.size (World.heap w29)), 0, none⟩ 2) (.int .i64 n33)) (Addr.add ⟨(Array.size (World.heap w29)), 0, none⟩ 3) (.int .i64 n34)) (Addr.add ⟨(Array.size (World.heap w29)), 0, none⟩ 4) (.int .i64 n35)) (Addr.add p215 (Int.toNat n212 * 1)) (.int .i64 (IntKind.wrap .i64 (n214 + 1)))) (Ret [.leaf (.int .i64), .leaf (.int .i64)] fun (n219 : Int) (n220 : Int) (w221 : World) =>
                        Calls Try.prog 33 #[.int .i64 n220] w221 (Ret [.leaf (.int .i64)] fun (n222 : Int) (w223 : World) =>
                        IfB (!decide ((n222 : Int) = 0))
                        (K false w223)
                        (IfB (decide ((0 : Int) = 0))
                        (∃ (n224 : Int), World.cell? w223 (Addr.add ⟨(Array.size (World.heap w29)), 0, none⟩ 2) = some (.int .i64 n224) ∧
                        PtrOK a22 fun (p225 : Addr) =>
                        ((0 : Int) ≤ n224 ∧ n224 < (l22 : Int)) ∧
                        ∃ (n226 : Int), World.cell? w223 (Addr.add p225 (Int.toNat n224 * 1)) = some (.int .i64 n226) ∧
                        IfB (!decide ((n219 : Int) = n226))
                        (K false w223)
                        (IfB (!decide ((0 : Int) = 0))
                        (IfB (!decide ((n219 : Int) = 0))
                        (K false w223)
                        ((I26 (IntKind.wrap .i64 (n28 + 1)) w223 ∧
                        m27 (IntKind.wrap .i64 (n28 + 1)) w223 < m27 n28 w29)))
                        ((I26 (IntKind.wrap .i64 (n28 + 1)) w223 ∧
                        m27 (IntKind.wrap .i64 (n28 + 1)) w223 < m27 n28 w29))))
                        (IfB (!decide ((0 : Int) = 0))
                        (IfB (!decide ((n219 : Int) = 0))
                        (K false w223)
                        ((I26 (IntKind.wrap .i64 (n28 + 1)) w223 ∧
                        m27 (IntKind.wrap .i64 (n28 + 1)) w223 < m27 n28 w29)))
                        ((I26 (IntKind.wrap .i64 (n28 + 1)) w223 ∧
                        m27 (IntKind.wrap .i64 (n28 + 1)) w223 < m27 n28 w29)))))))
                        (IfB (decide ((n216 : Int) = 1))
                        (∃ (n227 : Int), World.cell? (World.setCell (World.setCell (World.setCell (World.setCell (World.setCell (World.setCell (World.alloc w29 (.cells #[.int .i64 0, .int .i64 0, .int .i64 0, .int .i64 0, .int .i64 0] 44)) (Addr.add ⟨(Array.size (World.heap w29)), 0, none⟩ 0) (.int .i64 n31)) (Addr.add ⟨(Array.size (World.heap w29)), 0, none⟩ 1) (.int .i64 n32)) (Addr.add ⟨(Array.size (World.heap w29)), 0, none⟩ 2) (.int .i64 n33)) (Addr.add ⟨(Array.size (World.heap w29)), 0, none⟩ 3) (.int .i64 n34)) (Addr.add ⟨(Array.size (World.heap w29)), 0, none⟩ 4) (.int .i64 n35)) (Addr.add p215 (Int.toNat n212 * 1)) (.int .i64 (IntKind.wrap .i64 (n214 + 1)))) (Addr.add ⟨(Array.size (World.heap w29)), 0, none⟩ 1) = some (.int .i64 n227) ∧
                        ∃ (n228 : Int), World.cell? (World.setCell (World.setCell (World.setCell (World.setCell (World.setCell (World.setCell (World.alloc w29 (.cells #[.int .i64 0, .int .i64 0, .int .i64 0, .int .i64 0, .int .i64 0] 44)) (Addr.add ⟨(Array.size (World.heap w29)), 0, none⟩ 0) (.int .i64 n31)) (Addr.add ⟨(Array.size (World.heap w29)), 0, none⟩ 1) (.int .i64 n32)) (Addr.add ⟨(Array.size (World.heap w29)), 0, none⟩ 2) (.int .i64 n33)) (Addr.add ⟨(Array.size (World.heap w29)), 0, none⟩ 3) (.int .i64 n34)) (Addr.add ⟨(Array.size (World.heap w29)), 0, none⟩ 4) (.int .i64 n35)) (Addr.add p215 (Int.toNat n212 * 1)) (.int .i64 (IntKind.wrap .i64 (n214 + 1)))) (Addr.add ⟨(Array.size (World.heap w29)), 0, none⟩ 2) = some (.int .i64 n228) ∧
                        ∃ (n229 : Int), World.cell? (World.setCell (World.setCell (World.setCell (World.setCell (World.setCell (World.setCell (World.alloc w29 (.cells #[.int .i64 0, .int .i64 0, .int .i64 0, .int .i64 0, .int .i64 0] 44)) (Addr.add ⟨(Array.size (World.heap w29)), 0, none⟩ 0) (.int .i64 n31)) (Addr.add ⟨(Array.size (World.heap w29)), 0, none⟩ 1) (.int .i64 n32)) (Addr.add ⟨(Array.size (World.heap w29)), 0, none⟩ 2) (.int .i64 n33)) (Addr.add ⟨(Array.size (World.heap w29)), 0, none⟩ 3) (.int .i64 n34)) (Addr.add ⟨(Array.size (World.heap w29)), 0, none⟩ 4) (.int .i64 n35)) (Addr.add p215 (Int.toNat n212 * 1)) (.int .i64 (IntKind.wrap .i64 (n214 + 1)))) (Addr.add ⟨(Array.size (World.heap w29)), 0, none⟩ 4) = some (.int .i64 n229) ∧
                        Calls Try.prog 43 #[.pointer q1, .int .i64 n227, .int .i64 n228, .int .i64 n229] (World.setCell (World.setCell (World.setCell (World.setCell (World.setCell (World.setCell (World.alloc w29 (.cells #[.int .i64 0, .int .i64 0, .int .i64 0, .int .i64 0, .int .i64 0] 44)) (Addr.add ⟨(Array.size (World.heap w29)), 0, none⟩ 0) (.int .i64 n31)) (Addr.add ⟨(Array.size (World.heap w29)), 0, none⟩ 1) (.int .i64 n32)) (Addr.add ⟨(Array.size (World.heap w29)), 0, none⟩ 2) (.int .i64 n33)) (Addr.add ⟨(Array.size (World.heap w29)), 0, none⟩ 3) (.int .i64 n34)) (Addr.add ⟨(Array.size (World.heap w29)), 0, none⟩ 4) (.int .i64 n35)) (Addr.add p215 (Int.toNat n212 * 1)) (.int .i64 (IntKind.wrap .i64 (n214 + 1)))) (Ret [.leaf (.int .i64)] fun (n230 : Int) (w231 : World) =>
                        IfB (decide ((0 : Int) = 0))
                        (∃ (n232 : Int), World.cell? w231 (Addr.add ⟨(Array.size (World.heap w29)), 0, none⟩ 2) = some (.int .i64 n232) ∧
                        ∃ (n233 : Int), World.cell? w231 (Addr.add ⟨(Array.size (World.heap w29)), 0, none⟩ 4) = some (.int .i64 n233) ∧
                        PtrOK a22 fun (p234 : Addr) =>
                        ((0 : Int) ≤ n232 ∧ n232 < (l22 : Int)) ∧
                        May w231 (Addr.add p234 (Int.toNat n232 * 1)) ∧
                        Calls Try.prog 33 #[.int .i64 n230] (World.setCell w231 (Addr.add p234 (Int.toNat n232 * 1)) (.int .i64 n233)) (Ret [.leaf (.int .i64)] fun (n235 : Int) (w236 : World) =>
                        IfB (!decide ((n235 : Int) = 0))
                        (K false w236)
                        ((I26 (IntKind.wrap .i64 (n28 + 1)) w236 ∧
                        m27 (IntKind.wrap .i64 (n28 + 1)) w236 < m27 n28 w29))))
                        (Calls Try.prog 33 #[.int .i64 n230] w231 (Ret [.leaf (.int .i64)] fun (n237 : Int) (w238 : World) =>
                        IfB (!decide ((n237 : Int) = 0))
                        (K false w238)
                        ((I26 (IntKind.wrap .i64 (n28 + 1)) w238 ∧
                        m27 (IntKind.wrap .i64 (n28 + 1)) w238 < m27 n28 w29))))))
                        (∃ (n239 : Int), World.cell? (World.setCell (World.setCell (World.setCell (World.setCell (World.setCell (World.setCell (World.alloc w29 (.cells #[.int .i64 0, .int .i64 0, .int .i64 0, .int .i64 0, .int .i64 0] 44)) (Addr.add ⟨(Array.size (World.heap w29)), 0, none⟩ 0) (.int .i64 n31)) (Addr.add ⟨(Array.size (World.heap w29)), 0, none⟩ 1) (.int .i64 n32)) (Addr.add ⟨(Array.size (World.heap w29)), 0, none⟩ 2) (.int .i64 n33)) (Addr.add ⟨(Array.size (World.heap w29)), 0, none⟩ 3) (.int .i64 n34)) (Addr.add ⟨(Array.size (World.heap w29)), 0, none⟩ 4) (.int .i64 n35)) (Addr.add p215 (Int.toNat n212 * 1)) (.int .i64 (IntKind.wrap .i64 (n214 + 1)))) (Addr.add ⟨(Array.size (World.heap w29)), 0, none⟩ 1) = some (.int .i64 n239) ∧
                        ∃ (n240 : Int), World.cell? (World.setCell (World.setCell (World.setCell (World.setCell (World.setCell (World.setCell (World.alloc w29 (.cells #[.int .i64 0, .int .i64 0, .int .i64 0, .int .i64 0, .int .i64 0] 44)) (Addr.add ⟨(Array.size (World.heap w29)), 0, none⟩ 0) (.int .i64 n31)) (Addr.add ⟨(Array.size (World.heap w29)), 0, none⟩ 1) (.int .i64 n32)) (Addr.add ⟨(Array.size (World.heap w29)), 0, none⟩ 2) (.int .i64 n33)) (Addr.add ⟨(Array.size (World.heap w29)), 0, none⟩ 3) (.int .i64 n34)) (Addr.add ⟨(Array.size (World.heap w29)), 0, none⟩ 4) (.int .i64 n35)) (Addr.add p215 (Int.toNat n212 * 1)) (.int .i64 (IntKind.wrap .i64 (n214 + 1)))) (Addr.add ⟨(Array.size (World.heap w29)), 0, none⟩ 2) = some (.int .i64 n240) ∧
                        ∃ (n241 : Int), World.cell? (World.setCell (World.setCell (World.setCell (World.setCell (World.setCell (World.setCell (World.alloc w29 (.cells #[.int .i64 0, .int .i64 0, .int .i64 0, .int .i64 0, .int .i64 0] 44)) (Addr.add ⟨(Array.size (World.heap w29)), 0, none⟩ 0) (.int .i64 n31)) (Addr.add ⟨(Array.size (World.heap w29)), 0, none⟩ 1) (.int .i64 n32)) (Addr.add ⟨(Array.size (World.heap w29)), 0, none⟩ 2) (.int .i64 n33)) (Addr.add ⟨(Array.size (World.heap w29)), 0, none⟩ 3) (.int .i64 n34)) (Addr.add ⟨(Array.size (World.heap w29)), 0, none⟩ 4) (.int .i64 n35)) (Addr.add p215 (Int.toNat n212 * 1)) (.int .i64 (IntKind.wrap .i64 (n214 + 1)))) (Addr.add ⟨(Array.size (World.heap w29)), 0, none⟩ 3) = some (.int .i64 n241) ∧
                        ∃ (n242 : Int), World.cell? (World.setCell (World.setCell (World.setCell (World.setCell (World.setCell (World.setCell (World.alloc w29 (.cells #[.int .i64 0, .int .i64 0, .int .i64 0, .int .i64 0, .int .i64 0] 44)) (Addr.add ⟨(Array.size (World.heap w29)), 0, none⟩ 0) (.int .i64 n31)) (Addr.add ⟨(Array.size (World.heap w29)), 0, none⟩ 1) (.int .i64 n32)) (Addr.add ⟨(Array.size (World.heap w29)), 0, none⟩ 2) (.int .i64 n33)) (Addr.add ⟨(Array.size (World.heap w29)), 0, none⟩ 3) (.int .i64 n34)) (Addr.add ⟨(Array.size (World.heap w29)), 0, none⟩ 4) (.int .i64 n35)) (Addr.add p215 (Int.toNat n212 * 1)) (.int .i64 (IntKind.wrap .i64 (n214 + 1)))) (Addr.add ⟨(Array.size (World.heap w29)), 0, none⟩ 4) = some (.int .i64 n242) ∧
                        Calls Try.prog 44 #[.pointer q1, .int .i64 n239, .int .i64 n240, .int .i64 n241, .int .i64 n242] (World.setCell (World.setCell (World.setCell (World.setCell (World.setCell (World.setCell (World.alloc w29 (.cells #[.int .i64 0, .int .i64 0, .int .i64 0, .int .i64 0, .int .i64 0] 44)) (Addr.add ⟨(Array.size (World.heap w29)), 0, none⟩ 0) (.int .i64 n31)) (Addr.add ⟨(Array.size (World.heap w29)), 0, none⟩ 1) (.int .i64 n32)) (Addr.add ⟨(Array.size (World.heap w29)), 0, none⟩ 2) (.int .i64 n33)) (Addr.add ⟨(Array.size (World.heap w29)), 0, none⟩ 3) (.int .i64 n34)) (Addr.add ⟨(Array.size (World.heap w29)), 0, none⟩ 4) (.int .i64 n35)) (Addr.add p215 (Int.toNat n212 * 1)) (.int .i64 (IntKind.wrap .i64 (n214 + 1)))) (Ret [.leaf .bool, .leaf (.int .i64)] fun (b243 : Bool) (n244 : Int) (w245 : World) =>
                        IfB (decide ((0 : Int) = 0))
                        (∃ (n246 : Int), World.cell? (World.drew w245) (Addr.add ⟨(Array.size (World.heap w29)), 0, none⟩ 2) = some (.int .i64 n246) ∧
                        PtrOK a22 fun (p247 : Addr) =>
                        ((0 : Int) ≤ n246 ∧ n246 < (l22 : Int)) ∧
                        ∃ (n248 : Int), World.cell? (World.drew w245) (Addr.add p247 (Int.toNat n246 * 1)) = some (.int .i64 n248) ∧
                        ∃ (n249 : Int), World.cell? (World.drew w245) (Addr.add ⟨(Array.size (World.heap w29)), 0, none⟩ 3) = some (.int .i64 n249) ∧
                        IfB (decide ((n248 : Int) = n249))
                        (∃ (n250 : Int), World.cell? (World.drew w245) (Addr.add ⟨(Array.size (World.heap w29)), 0, none⟩ 2) = some (.int .i64 n250) ∧
                        ∃ (n251 : Int), World.cell? (World.drew w245) (Addr.add ⟨(Array.size (World.heap w29)), 0, none⟩ 4) = some (.int .i64 n251) ∧
                        PtrOK a22 fun (p252 : Addr) =>
                        ((0 : Int) ≤ n250 ∧ n250 < (l22 : Int)) ∧
                        May (World.drew w245) (Addr.add p252 (Int.toNat n250 * 1)) ∧
                        Calls Try.prog 33 #[.int .i64 n244] (World.setCell (World.drew w245) (Addr.add p252 (Int.toNat n250 * 1)) (.int .i64 n251)) (Ret [.leaf (.int .i64)] fun (n253 : Int) (w254 : World) =>
                        IfB (!decide ((n253 : Int) = 0))
                        (K false w254)
                        (IfB (!(b243 == (decide ((n248 : Int) = n249))))
                        (K false w254)
                        ((I26 (IntKind.wrap .i64 (n28 + 1)) w254 ∧
                        m27 (IntKind.wrap .i64 (n28 + 1)) w254 < m27 n28 w29)))))
                        (Calls Try.prog 33 #[.int .i64 n244] (World.drew w245) (Ret [.leaf (.int .i64)] fun (n255 : Int) (w256 : World) =>
                        IfB (!decide ((n255 : Int) = 0))
                        (K false w256)
                        (IfB (!(b243 == (decide ((n248 : Int) = n249))))
                        (K false w256)
                        ((I26 (IntKind.wrap .i64 (n28 + 1)) w256 ∧
                        m27 (IntKind.wrap .i64 (n28 + 1)) w256 < m27 n28 w29))))))
                        (Calls Try.prog 33 #[.int .i64 n244] (World.drew w245) (Ret [.leaf (.int .i64)] fun (n257 : Int) (w258 : World) =>
                        IfB (!decide ((n257 : Int) = 0))
                        (K false w258)
                        (IfB (!(b243 == false))
                        (K false w258)
                        ((I26 (IntKind.wrap .i64 (n28 + 1)) w258 ∧
                        m27 (IntKind.wrap .i64 (n28 + 1)) w258 < m27 n28 w29)))))))))))))
                  (Calls Try.prog 33 #[.int .i64 n2] w29 (Ret [.leaf (.int .i64)] fun (n259 : Int) (w260 : World) =>
                      IfB (decide ((n259 : Int) = 0))
                      (Calls Try.prog 45 #[.pointer q1, .slice a22 l22 c22, .slice a24 l24 c24] w260 (Ret [.leaf .bool] fun (b261 : Bool) (w262 : World) =>
                        IfB b261
                        (Calls Try.prog 41 #[] w262 (Ret [.leaf .bool] fun (b263 : Bool) (w264 : World) =>
                        K b263 w264))
                        (K false w262)))
                      (K false w260))))
                (Calls Try.prog 33 #[.int .i64 n2] w29 (Ret [.leaf (.int .i64)] fun (n265 : Int) (w266 : World) =>
                    IfB (decide ((n265 : Int) = 0))
                    (Calls Try.prog 45 #[.pointer q1, .slice a22 l22 c22, .slice a24 l24 c24] w266 (Ret [.leaf .bool] fun (b267 : Bool) (w268 : World) =>
                        IfB b267
                        (Calls Try.prog 41 #[] w268 (Ret [.leaf .bool] fun (b269 : Bool) (w270 : World) =>
                        K b269 w270))
                        (K false w268)))
                    (K false w266)))) ∧
              (RunF Try.prog (Instr.makeSlice 42 (.int .i64 agents) (.int .i64 agents)) (World.drew w3) [.leaf .slice] fun (a271 : Option Addr) (l271 c271 : Nat) (w272 : World) =>
                RunF Try.prog (Instr.makeSlice 42 (.int .i64 words) (.int .i64 words)) w272 [.leaf .slice] fun (a273 : Option Addr) (l273 c273 : Nat) (w274 : World) =>
                ∃ (I275 : Int → World → Prop) (m276 : Int → World → Nat),
                I275 0 w274 ∧
                ∀ (_ : Env) (n277 : Int) (w278 : World), I275 n277 w278 →
                IfB (decide ((n277 : Int) < (stepsl : Int)))
                (IfB (decide ((n277 : Int) < 300))
                  (PtrOK stepsa fun (p279 : Addr) =>
                    ((0 : Int) ≤ n277 ∧ n277 < (stepsl : Int)) ∧
                    ∃ (n280 : Int), World.cell? w278 (Addr.add (Addr.add p279 (Int.toNat n277 * 5)) 0) = some (.int .i64 n280) ∧
                    ∃ (n281 : Int), World.cell? w278 (Addr.add (Addr.add p279 (Int.toNat n277 * 5)) 1) = some (.int .i64 n281) ∧
                    ∃ (n282 : Int), World.cell? w278 (Addr.add (Addr.add p279 (Int.toNat n277 * 5)) 2) = some (.int .i64 n282) ∧
                    ∃ (n283 : Int), World.cell? w278 (Addr.add (Addr.add p279 (Int.toNat n277 * 5)) 3) = some (.int .i64 n283) ∧
                    ∃ (n284 : Int), World.cell? w278 (Addr.add (Addr.add p279 (Int.toNat n277 * 5)) 4) = some (.int .i64 n284) ∧
                    May (World.alloc w278 (.cells #[.int .i64 0, .int .i64 0, .int .i64 0, .int .i64 0, .int .i64 0] 44)) (Addr.add ⟨(Array.size (World.heap w278)), 0, none⟩ 0) ∧
                    May (World.setCell (World.alloc w278 (.cells #[.int .i64 0, .int .i64 0, .int .i64 0, .int .i64 0, .int .i64 0] 44)) (Addr.add ⟨(Array.size (World.heap w278)), 0, none⟩ 0) (.int .i64 n280)) (Addr.add ⟨(Array.size (World.heap w278)), 0, none⟩ 1) ∧
                    May (World.setCell (World.setCell (World.alloc w278 (.cells #[.int .i64 0, .int .i64 0, .int .i64 0, .int .i64 0, .int .i64 0] 44)) (Addr.add ⟨(Array.size (World.heap w278)), 0, none⟩ 0) (.int .i64 n280)) (Addr.add ⟨(Array.size (World.heap w278)), 0, none⟩ 1) (.int .i64 n281)) (Addr.add ⟨(Array.size (World.heap w278)), 0, none⟩ 2) ∧
                    May (World.setCell (World.setCell (World.setCell (World.alloc w278 (.cells #[.int .i64 0, .int .i64 0, .int .i64 0, .int .i64 0, .int .i64 0] 44)) (Addr.add ⟨(Array.size (World.heap w278)), 0, none⟩ 0) (.int .i64 n280)) (Addr.add ⟨(Array.size (World.heap w278)), 0, none⟩ 1) (.int .i64 n281)) (Addr.add ⟨(Array.size (World.heap w278)), 0, none⟩ 2) (.int .i64 n282)) (Addr.add ⟨(Array.size (World.heap w278)), 0, none⟩ 3) ∧
                    May (World.setCell (World.setCell (World.setCell (World.setCell (World.alloc w278 (.cells #[.int .i64 0, .int .i64 0, .int .i64 0, .int .i64 0, .int .i64 0] 44)) (Addr.add ⟨(Array.size (World.heap w278)), 0, none⟩ 0) (.int .i64 n280)) (Addr.add ⟨(Array.size (World.heap w278)), 0, none⟩ 1) (.int .i64 n281)) (Addr.add ⟨(Array.size (World.heap w278)), 0, none⟩ 2) (.int .i64 n282)) (Addr.add ⟨(Array.size (World.heap w278)), 0, none⟩ 3) (.int .i64 n283)) (Addr.add ⟨(Array.size (World.heap w278)), 0, none⟩ 4) ∧
                    ∃ (n285 : Int), World.cell? (World.setCell (World.setCell (World.setCell (World.setCell (World.setCell (World.alloc w278 (.cells #[.int .i64 0, .int .i64 0, .int .i64 0, .int .i64 0, .int .i64 0] 44)) (Addr.add ⟨(Array.size (World.heap w278)), 0, none⟩ 0) (.int .i64 n280)) (Addr.add ⟨(Array.size (World.heap w278)), 0, none⟩ 1) (.int .i64 n281)) (Addr.add ⟨(Array.size (World.heap w278)), 0, none⟩ 2) (.int .i64 n282)) (Addr.add ⟨(Array.size (World.heap w278)), 0, none⟩ 3) (.int .i64 n283)) (Addr.add ⟨(Array.size (World.heap w278)), 0, none⟩ 4) (.int .i64 n284)) (Addr.add ⟨(Array.size (World.heap w278)), 0, none⟩ 1) = some (.int .i64 n285) ∧
                    IfB (decide ((n285 : Int) < 0))
                    (∃ (n286 : Int), World.cell? (World.setCell (World.setCell (World.setCell (World.setCell (World.setCell (World.alloc w278 (.cells #[.int .i64 0, .int .i64 0, .int .i64 0, .int .i64 0, .int .i64 0] 44)) (Addr.add ⟨(Array.size (World.heap w278)), 0, none⟩ 0) (.int .i64 n280)) (Addr.add ⟨(Array.size (World.heap w278)), 0, none⟩ 1) (.int .i64 n281)) (Addr.add ⟨(Array.size (World.heap w278)), 0, none⟩ 2) (.int .i64 n282)) (Addr.add ⟨(Array.size (World.heap w278)), 0, none⟩ 3) (.int .i64 n283)) (Addr.add ⟨(Array.size (World.heap w278)), 0, none⟩ 4) (.int .i64 n284)) (Addr.add ⟨(Array.size (World.heap w278)), 0, none⟩ 0) = some (.int .i64 n286) ∧
                      IfB (decide ((n286 : Int) = 0))
                      (∃ (n287 : Int), World.cell? (World.setCell (World.setCell (World.setCell (World.setCell (World.setCell (World.alloc w278 (.cells #[.int .i64 0, .int .i64 0, .int .i64 0, .int .i64 0, .int .i64 0] 44)) (Addr.add ⟨(Array.size (World.heap w278)), 0, none⟩ 0) (.int .i64 n280)) (Addr.add ⟨(Array.size (World.heap w278)), 0, none⟩ 1) (.int .i64 n281)) (Addr.add ⟨(Array.size (World.heap w278)), 0, none⟩ 2) (.int .i64 n282)) (Addr.add ⟨(Array.size (World.heap w278)), 0, none⟩ 3) (.int .i64 n283)) (Addr.add ⟨(Array.size (World.heap w278)), 0, none⟩ 4) (.int .i64 n284)) (Addr.add ⟨(Array.size (World.heap w278)), 0, none⟩ 1) = some (.int .i64 n287) ∧
                        ∃ (n288 : Int), World.cell? (World.setCell (World.setCell (World.setCell (World.setCell (World.setCell (World.alloc w278 (.cells #[.int .i64 0, .int .i64 0, .int .i64 0, .int .i64 0, .int .i64 0] 44)) (Addr.add ⟨(Array.size (World.heap w278)), 0, none⟩ 0) (.int .i64 n280)) (Addr.add ⟨(Array.size (World.heap w278)), 0, none⟩ 1) (.int .i64 n281)) (Addr.add ⟨(Array.size (World.heap w278)), 0, none⟩ 2) (.int .i64 n282)) (Addr.add ⟨(Array.size (World.heap w278)), 0, none⟩ 3) (.int .i64 n283)) (Addr.add ⟨(Array.size (World.heap w278)), 0, none⟩ 4) (.int .i64 n284)) (Addr.add ⟨(Array.size (World.heap w278)), 0, none⟩ 2) = some (.int .i64 n288) ∧
                        Calls Try.prog 42 #[.pointer q1, .int .i64 n287, .int .i64 n288] (World.setCell (World.setCell (World.setCell (World.setCell (World.setCell (World.alloc w278 (.cells #[.int .i64 0, .int .i64 0, .int .i64 0, .int .i64 0, .int .i64 0] 44)) (Addr.add ⟨(Array.size (World.heap w278)), 0, none⟩ 0) (.int .i64 n280)) (Addr.add ⟨(Array.size (World.heap w278)), 0, none⟩ 1) (.int .i64 n281)) (Addr.add ⟨(Array.size (World.heap w278)), 0, none⟩ 2) (.int .i64 n282)) (Addr.add ⟨(Array.size (World.heap w278)), 0, none⟩ 3) (.int .i64 n283)) (Addr.add ⟨(Array.size (World.heap w278)), 0, none⟩ 4) (.int .i64 n284)) (Ret [.leaf (.int .i64), .leaf (.int .i64)] fun (n289 : Int) (n290 : Int) (w291 : World) =>
                        Calls Try.prog 33 #[.int .i64 n290] w291 (Ret [.leaf (.int .i64)] fun (n292 : Int) (w293 : World) =>
                        IfB (!decide ((n292 : Int) = 302))
                        (K false w293)
                        (IfB (decide ((302 : Int) = 0))
                        (∃ (n294 : Int), World.cell? w293 (Addr.add ⟨(Array.size (World.heap w278)), 0, none⟩ 2) = some (.int .i64 n294) ∧
                        PtrOK a273 fun (p295 : Addr) =>
                        ((0 : Int) ≤ n294 ∧ n294 < (l273 : Int)) ∧
                        ∃ (n296 : Int), World.cell? w293 (Addr.add p295 (Int.toNat n294 * 1)) = some (.int .i64 n296) ∧
                        IfB (!decide ((n289 : Int) = n296))
                        (K false w293)
                        (IfB (!decide ((302 : Int) = 0))
                        (IfB (!decide ((n289 : Int) = 0))
                        (K false w293)
                        ((I275 (IntKind.wrap .i64 (n277 + 1)) w293 ∧
                        m276 (IntKind.wrap .i64 (n277 + 1)) w293 < m276 n277 w278)))
                        ((I275 (IntKind.wrap .i64 (n277 + 1)) w293 ∧
                        m276 (IntKind.wrap .i64 (n277 + 1)) w293 < m276 n277 w278))))
                        (IfB (!decide ((302 : Int) = 0))
                        (IfB (!decide ((n289 : Int) = 0))
                        (K false w293)
                        ((I275 (IntKind.wrap .i64 (n277 + 1)) w293 ∧
                        m276 (IntKind.wrap .i64 (n277 + 1)) w293 < m276 n277 w278)))
                        ((I275 (IntKind.wrap .i64 (n277 + 1)) w293 ∧
                        m276 (IntKind.wrap .i64 (n277 + 1)) w293 < m276 n277 w278)))))))
                      (IfB (decide ((n286 : Int) = 1))
                        (∃ (n297 : Int), World.cell? (World.setCell (World.setCell (World.setCell (World.setCell (World.setCell (World.alloc w278 (.cells #[.int .i64 0, .int .i64 0, .int .i64 0, .int .i64 0, .int .i64 0] 44)) (Addr.add ⟨(Array.size (World.heap w278)), 0, none⟩ 0) (.int .i64 n280)) (Addr.add ⟨(Array.size (World.heap w278)), 0, none⟩ 1) (.int .i64 n281)) (Addr.add ⟨(Array.size (World.heap w278)), 0, none⟩ 2) (.int .i64 n282)) (Addr.add ⟨(Array.size (World.heap w278)), 0, none⟩ 3) (.int .i64 n283)) (Addr.add ⟨(Array.size (World.heap w278)), 0, none⟩ 4) (.int .i64 n284)) (Addr.add ⟨(Array.size (World.heap w278)), 0, none⟩ 1) = some (.int .i64 n297) ∧
                        ∃ (n298 : Int), World.cell? (World.setCell (World.setCell (World.setCell (World.setCell (World.setCell (World.alloc w278 (.cells #[.int .i64 0, .int .i64 0, .int .i64 0, .int .i64 0, .int .i64 0] 44)) (Addr.add ⟨(Array.size (World.heap w278)), 0, none⟩ 0) (.int .i64 n280)) (Addr.add ⟨(Array.size (World.heap w278)), 0, none⟩ 1) (.int .i64 n281)) (Addr.add ⟨(Array.size (World.heap w278)), 0, none⟩ 2) (.int .i64 n282)) (Addr.add ⟨(Array.size (World.heap w278)), 0, none⟩ 3) (.int .i64 n283)) (Addr.add ⟨(Array.size (World.heap w278)), 0, none⟩ 4) (.int .i64 n284)) (Addr.add ⟨(Array.size (World.heap w278)), 0, none⟩ 2) = some (.int .i64 n298) ∧
                        ∃ (n299 : Int), World.cell? (World.setCell (World.setCell (World.setCell (World.setCell (World.setCell (World.alloc w278 (.cells #[.int .i64 0, .int .i64 0, .int .i64 0, .int .i64 0, .int .i64 0] 44)) (Addr.add ⟨(Array.size (World.heap w278)), 0, none⟩ 0) (.int .i64 n280)) (Addr.add ⟨(Array.size (World.heap w278)), 0, none⟩ 1) (.int .i64 n281)) (Addr.add ⟨(Array.size (World.heap w278)), 0, none⟩ 2) (.int .i64 n282)) (Addr.add ⟨(Array.size (World.heap w278)), 0, none⟩ 3) (.int .i64 n283)) (Addr.add ⟨(Array.size (World.heap w278)), 0, none⟩ 4) (.int .i64 n284)) (Addr.add ⟨(Array.size (World.heap w278)), 0, none⟩ 4) = some (.int .i64 n299) ∧
                        Calls Try.prog 43 #[.pointer q1, .int .i64 n297, .int .i64 n298, .int .i64 n299] (World.setCell (World.setCell (World.setCell (World.setCell (World.setCell (World.alloc w278 (.cells #[.int .i64 0, .int .i64 0, .int .i64 0, .int .i64 0, .int .i64 0] 44)) (Addr.add ⟨(Array.size (World.heap w278)), 0, none⟩ 0) (.int .i64 n280)) (Addr.add ⟨(Array.size (World.heap w278)), 0, none⟩ 1) (.int .i64 n281)) (Addr.add ⟨(Array.size (World.heap w278)), 0, none⟩ 2) (.int .i64 n282)) (Addr.add ⟨(Array.size (World.heap w278)), 0, none⟩ 3) (.int .i64 n283)) (Addr.add ⟨(Array.size (World.heap w278)), 0, none⟩ 4) (.int .i64 n284)) (Ret [.leaf (.int .i64)] fun (n300 : Int) (w301 : World) =>
                        IfB (decide ((302 : Int) = 0))
                        (∃ (n302 : Int), World.cell? w301 (Addr.add ⟨(Array.size (World.heap w278)), 0, none⟩ 2) = some (.int .i64 n302) ∧
                        ∃ (n303 : Int), World.cell? w301 (Addr.add ⟨(Array.size (World.heap w278)), 0, none⟩ 4) = some (.int .i64 n303) ∧
                        PtrOK a273 fun (p304 : Addr) =>
                        ((0 : Int) ≤ n302 ∧ n302 < (l273 : Int)) ∧
                        May w301 (Addr.add p304 (Int.toNat n302 * 1)) ∧
                        Calls Try.prog 33 #[.int .i64 n300] (World.setCell w301 (Addr.add p304 (Int.toNat n302 * 1)) (.int .i64 n303)) (Ret [.leaf (.int .i64)] fun (n305 : Int) (w306 : World) =>
                        IfB (!decide ((n305 : Int) = 302))
                        (K false w306)
                        ((I275 (IntKind.wrap .i64 (n277 + 1)) w306 ∧
                        m276 (IntKind.wrap .i64 (n277 + 1)) w306 < m276 n277 w278))))
                        (Calls Try.prog 33 #[.int .i64 n300] w301 (Ret [.leaf (.int .i64)] fun (n307 : Int) (w308 : World) =>
                        IfB (!decide ((n307 : Int) = 302))
                        (K false w308)
                        ((I275 (IntKind.wrap .i64 (n277 + 1)) w308 ∧
                        m276 (IntKind.wrap .i64 (n277 + 1)) w308 < m276 n277 w278))))))
                        (∃ (n309 : Int), World.cell? (World.setCell (World.setCell (World.setCell (World.setCell (World.setCell (World.alloc w278 (.cells #[.int .i64 0, .int .i64 0, .int .i64 0, .int .i64 0, .int .i64 0] 44)) (Addr.add ⟨(Array.size (World.heap w278)), 0, none⟩ 0) (.int .i64 n280)) (Addr.add ⟨(Array.size (World.heap w278)), 0, none⟩ 1) (.int .i64 n281)) (Addr.add ⟨(Array.size (World.heap w278)), 0, none⟩ 2) (.int .i64 n282)) (Addr.add ⟨(Array.size (World.heap w278)), 0, none⟩ 3) (.int .i64 n283)) (Addr.add ⟨(Array.size (World.heap w278)), 0, none⟩ 4) (.int .i64 n284)) (Addr.add ⟨(Array.size (World.heap w278)), 0, none⟩ 1) = some (.int .i64 n309) ∧
                        ∃ (n310 : Int), World.cell? (World.setCell (World.setCell (World.setCell (World.setCell (World.setCell (World.alloc w278 (.cells #[.int .i64 0, .int .i64 0, .int .i64 0, .int .i64 0, .int .i64 0] 44)) (Addr.add ⟨(Array.size (World.heap w278)), 0, none⟩ 0) (.int .i64 n280)) (Addr.add ⟨(Array.size (World.heap w278)), 0, none⟩ 1) (.int .i64 n281)) (Addr.add ⟨(Array.size (World.heap w278)), 0, none⟩ 2) (.int .i64 n282)) (Addr.add ⟨(Array.size (World.heap w278)), 0, none⟩ 3) (.int .i64 n283)) (Addr.add ⟨(Array.size (World.heap w278)), 0, none⟩ 4) (.int .i64 n284)) (Addr.add ⟨(Array.size (World.heap w278)), 0, none⟩ 2) = some (.int .i64 n310) ∧
                        ∃ (n311 : Int), World.cell? (World.setCell (World.setCell (World.setCell (World.setCell (World.setCell (World.alloc w278 (.cells #[.int .i64 0, .int .i64 0, .int .i64 0, .int .i64 0, .int .i64 0] 44)) (Addr.add ⟨(Array.size (World.heap w278)), 0, none⟩ 0) (.int .i64 n280)) (Addr.add ⟨(Array.size (World.heap w278)), 0, none⟩ 1) (.int .i64 n281)) (Addr.add ⟨(Array.size (World.heap w278)), 0, none⟩ 2) (.int .i64 n282)) (Addr.add ⟨(Array.size (World.heap w278)), 0, none⟩ 3) (.int .i64 n283)) (Addr.add ⟨(Array.size (World.heap w278)), 0, none⟩ 4) (.int .i64 n284)) (Addr.add ⟨(Array.size (World.heap w278)), 0, none⟩ 3) = some (.int .i64 n311) ∧
                        ∃ (n312 : Int), World.cell? (World.setCell (World.setCell (World.setCell (World.setCell (World.setCell (World.alloc w278 (.cells #[.int .i64 0, .int .i64 0, .int .i64 0, .int .i64 0, .int .i64 0] 44)) (Addr.add ⟨(Array.size (World.heap w278)), 0, none⟩ 0) (.int .i64 n280)) (Addr.add ⟨(Array.size (World.heap w278)), 0, none⟩ 1) (.int .i64 n281)) (Addr.add ⟨(Array.size (World.heap w278)), 0, none⟩ 2) (.int .i64 n282)) (Addr.add ⟨(Array.size (World.heap w278)), 0, none⟩ 3) (.int .i64 n283)) (Addr.add ⟨(Array.size (World.heap w278)), 0, none⟩ 4) (.int .i64 n284)) (Addr.add ⟨(Array.size (World.heap w278)), 0, none⟩ 4) = some (.int .i64 n312) ∧
                        Calls Try.prog 44 #[.pointer q1, .int .i64 n309, .int .i64 n310, .int .i64 n311, .int .i64 n312] (World.setCell (World.setCell (World.setCell (World.setCell (World.setCell (World.alloc w278 (.cells #[.int .i64 0, .int .i64 0, .int .i64 0, .int .i64 0, .int .i64 0] 44)) (Addr.add ⟨(Array.size (World.heap w278)), 0, none⟩ 0) (.int .i64 n280)) (Addr.add ⟨(Array.size (World.heap w278)), 0, none⟩ 1) (.int .i64 n281)) (Addr.add ⟨(Array.size (World.heap w278)), 0, none⟩ 2) (.int .i64 n282)) (Addr.add ⟨(Array.size (World.heap w278)), 0, none⟩ 3) (.int .i64 n283)) (Addr.add ⟨(Array.size (World.heap w278)), 0, none⟩ 4) (.int .i64 n284)) (Ret [.leaf .bool, .leaf (.int .i64)] fun (b313 : Bool) (n314 : Int) (w315 : World) =>
                        IfB (decide ((302 : Int) = 0))
                        (∃ (n316 : Int), World.cell? (World.drew w315) (Addr.add ⟨(Array.size (World.heap w278)), 0, none⟩ 2) = some (.int .i64 n316) ∧
                        PtrOK a273 fun (p317 : Addr) =>
                        ((0 : Int) ≤ n316 ∧ n316 < (l273 : Int)) ∧
                        ∃ (n318 : Int), World.cell? (World.drew w315) (Addr.add p317 (Int.toNat n316 * 1)) = some (.int .i64 n318) ∧
                        ∃ (n319 : Int), World.cell? (World.drew w315) (Addr.add ⟨(Array.size (World.heap w278)), 0, none⟩ 3) = some (.int .i64 n319) ∧
                        IfB (decide ((n318 : Int) = n319))
                        (∃ (n320 : Int), World.cell? (World.drew w315) (Addr.add ⟨(Array.size (World.heap w278)), 0, none⟩ 2) = some (.int .i64 n320) ∧
                        ∃ (n321 : Int), World.cell? (World.drew w315) (Addr.add ⟨(Array.size (World.heap w278)), 0, none⟩ 4) = some (.int .i64 n321) ∧
                        PtrOK a273 fun (p322 : Addr) =>
                        ((0 : Int) ≤ n320 ∧ n320 < (l273 : Int)) ∧
                        May (World.drew w315) (Addr.add p322 (Int.toNat n320 * 1)) ∧
                        Calls Try.prog 33 #[.int .i64 n314] (World.setCell (World.drew w315) (Addr.add p322 (Int.toNat n320 * 1)) (.int .i64 n321)) (Ret [.leaf (.int .i64)] fun (n323 : Int) (w324 : World) =>
                        IfB (!decide ((n323 : Int) = 302))
                        (K false w324)
                        (IfB (!(b313 == (decide ((n318 : Int) = n319))))
                        (K false w324)
                        ((I275 (IntKind.wrap .i64 (n277 + 1)) w324 ∧
                        m276 (IntKind.wrap .i64 (n277 + 1)) w324 < m276 n277 w278)))))
                        (Calls Try.prog 33 #[.int .i64 n314] (World.drew w315) (Ret [.leaf (.int .i64)] fun (n325 : Int) (w326 : World) =>
                        IfB (!decide ((n325 : Int) = 302))
                        (K false w326)
                        (IfB (!(b313 == (decide ((n318 : Int) = n319))))
                        (K false w326)
                        ((I275 (IntKind.wrap .i64 (n277 + 1)) w326 ∧
                        m276 (IntKind.wrap .i64 (n277 + 1)) w326 < m276 n277 w278))))))
                        (Calls Try.prog 33 #[.int .i64 n314] (World.drew w315) (Ret [.leaf (.int .i64)] fun (n327 : Int) (w328 : World) =>
                        IfB (!decide ((n327 : Int) = 302))
                        (K false w328)
                        (IfB (!(b313 == false))
                        (K false w328)
                        ((I275 (IntKind.wrap .i64 (n277 + 1)) w328 ∧
                        m276 (IntKind.wrap .i64 (n277 + 1)) w328 < m276 n277 w278)))))))))
                    (∃ (n329 : Int), World.cell? (World.setCell (World.setCell (World.setCell (World.setCell (World.setCell (World.alloc w278 (.cells #[.int .i64 0, .int .i64 0, .int .i64 0, .int .i64 0, .int .i64 0] 44)) (Addr.add ⟨(Array.size (World.heap w278)), 0, none⟩ 0) (.int .i64 n280)) (Addr.add ⟨(Array.size (World.heap w278)), 0, none⟩ 1) (.int .i64 n281)) (Addr.add ⟨(Array.size (World.heap w278)), 0, none⟩ 2) (.int .i64 n282)) (Addr.add ⟨(Array.size (World.heap w278)), 0, none⟩ 3) (.int .i64 n283)) (Addr.add ⟨(Array.size (World.heap w278)), 0, none⟩ 4) (.int .i64 n284)) (Addr.add ⟨(Array.size (World.heap w278)), 0, none⟩ 1) = some (.int .i64 n329) ∧
                      IfB (decide ((agents : Int) ≤ n329))
                      (∃ (n330 : Int), World.cell? (World.setCell (World.setCell (World.setCell (World.setCell (World.setCell (World.alloc w278 (.cells #[.int .i64 0, .int .i64 0, .int .i64 0, .int .i64 0, .int .i64 0] 44)) (Addr.add ⟨(Array.size (World.heap w278)), 0, none⟩ 0) (.int .i64 n280)) (Addr.add ⟨(Array.size (World.heap w278)), 0, none⟩ 1) (.int .i64 n281)) (Addr.add ⟨(Array.size (World.heap w278)), 0, none⟩ 2) (.int .i64 n282)) (Addr.add ⟨(Array.size (World.heap w278)), 0, none⟩ 3) (.int .i64 n283)) (Addr.add ⟨(Array.size (World.heap w278)), 0, none⟩ 4) (.int .i64 n284)) (Addr.add ⟨(Array.size (World.heap w278)), 0, none⟩ 0) = some (.int .i64 n330) ∧
                        IfB (decide ((n330 : Int) = 0))
                        (∃ (n331 : Int), World.cell? (World.setCell (World.setCell (World.setCell (World.setCell (World.setCell (World.alloc w278 (.cells #[.int .i64 0, .int .i64 0, .int .i64 0, .int .i64 0, .int .i64 0] 44)) (Addr.add ⟨(Array.size (World.heap w278)), 0, none⟩ 0) (.int .i64 n280)) (Addr.add ⟨(Array.size (World.heap w278)), 0, none⟩ 1) (.int .i64 n281)) (Addr.add ⟨(Array.size (World.heap w278)), 0, none⟩ 2) (.int .i64 n282)) (Addr.add ⟨(Array.size (World.heap w278)), 0, none⟩ 3) (.int .i64 n283)) (Addr.add ⟨(Array.size (World.heap w278)), 0, none⟩ 4) (.int .i64 n284)) (Addr.add ⟨(Array.size (World.heap w278)), 0, none⟩ 1) = some (.int .i64 n331) ∧
                        ∃ (n332 : Int), World.cell? (World.setCell (World.setCell (World.setCell (World.setCell (World.setCell (World.alloc w278 (.cells #[.int .i64 0, .int .i64 0, .int .i64 0, .int .i64 0, .int .i64 0] 44)) (Addr.add ⟨(Array.size (World.heap w278)), 0, none⟩ 0) (.int .i64 n280)) (Addr.add ⟨(Array.size (World.heap w278)), 0, none⟩ 1) (.int .i64 n281)) (Addr.add ⟨(Array.size (World.heap w278)), 0, none⟩ 2) (.int .i64 n282)) (Addr.add ⟨(Array.size (World.heap w278)), 0, none⟩ 3) (.int .i64 n283)) (Addr.add ⟨(Array.size (World.heap w278)), 0, none⟩ 4) (.int .i64 n284)) (Addr.add ⟨(Array.size (World.heap w278)), 0, none⟩ 2) = some (.int .i64 n332) ∧
                        Calls Try.prog 42 #[.pointer q1, .int .i64 n331, .int .i64 n332] (World.setCell (World.setCell (World.setCell (World.setCell (World.setCell (World.alloc w278 (.cells #[.int .i64 0, .int .i64 0, .int .i64 0, .int .i64 0, .int .i64 0] 44)) (Addr.add ⟨(Array.size (World.heap w278)), 0, none⟩ 0) (.int .i64 n280)) (Addr.add ⟨(Array.size (World.heap w278)), 0, none⟩ 1) (.int .i64 n281)) (Addr.add ⟨(Array.size (World.heap w278)), 0, none⟩ 2) (.int .i64 n282)) (Addr.add ⟨(Array.size (World.heap w278)), 0, none⟩ 3) (.int .i64 n283)) (Addr.add ⟨(Array.size (World.heap w278)), 0, none⟩ 4) (.int .i64 n284)) (Ret [.leaf (.int .i64), .leaf (.int .i64)] fun (n333 : Int) (n334 : Int) (w335 : World) =>
                        Calls Try.prog 33 #[.int .i64 n334] w335 (Ret [.leaf (.int .i64)] fun (n336 : Int) (w337 : World) =>
                        IfB (!decide ((n336 : Int) = 302))
                        (K false w337)
                        (IfB (decide ((302 : Int) = 0))
                        (∃ (n338 : Int), World.cell? w337 (Addr.add ⟨(Array.size (World.heap w278)), 0, none⟩ 2) = some (.int .i64 n338) ∧
                        PtrOK a273 fun (p339 : Addr) =>
                        ((0 : Int) ≤ n338 ∧ n338 < (l273 : Int)) ∧
                        ∃ (n340 : Int), World.cell? w337 (Addr.add p339 (Int.toNat n338 * 1)) = some (.int .i64 n340) ∧
                        IfB (!decide ((n333 : Int) = n340))
                        (K false w337)
                        (IfB (!decide ((302 : Int) = 0))
                        (IfB (!decide ((n333 : Int) = 0))
                        (K false w337)
                        ((I275 (IntKind.wrap .i64 (n277 + 1)) w337 ∧
                        m276 (IntKind.wrap .i64 (n277 + 1)) w337 < m276 n277 w278)))
                        ((I275 (IntKind.wrap .i64 (n277 + 1)) w337 ∧
                        m276 (IntKind.wrap .i64 (n277 + 1)) w337 < m276 n277 w278))))
                        (IfB (!decide ((302 : Int) = 0))
                        (IfB (!decide ((n333 : Int) = 0))
                        (K false w337)
                        ((I275 (IntKind.wrap .i64 (n277 + 1)) w337 ∧
                        m276 (IntKind.wrap .i64 (n277 + 1)) w337 < m276 n277 w278)))
                        ((I275 (IntKind.wrap .i64 (n277 + 1)) w337 ∧
                        m276 (IntKind.wrap .i64 (n277 + 1)) w337 < m276 n277 w278)))))))
                        (IfB (decide ((n330 : Int) = 1))
                        (∃ (n341 : Int), World.cell? (World.setCell (World.setCell (World.setCell (World.setCell (World.setCell (World.alloc w278 (.cells #[.int .i64 0, .int .i64 0, .int .i64 0, .int .i64 0, .int .i64 0] 44)) (Addr.add ⟨(Array.size (World.heap w278)), 0, none⟩ 0) (.int .i64 n280)) (Addr.add ⟨(Array.size (World.heap w278)), 0, none⟩ 1) (.int .i64 n281)) (Addr.add ⟨(Array.size (World.heap w278)), 0, none⟩ 2) (.int .i64 n282)) (Addr.add ⟨(Array.size (World.heap w278)), 0, none⟩ 3) (.int .i64 n283)) (Addr.add ⟨(Array.size (World.heap w278)), 0, none⟩ 4) (.int .i64 n284)) (Addr.add ⟨(Array.size (World.heap w278)), 0, none⟩ 1) = some (.int .i64 n341) ∧
                        ∃ (n342 : Int), World.cell? (World.setCell (World.setCell (World.setCell (World.setCell (World.setCell (World.alloc w278 (.cells #[.int .i64 0, .int .i64 0, .int .i64 0, .int .i64 0, .int .i64 0] 44)) (Addr.add ⟨(Array.size (World.heap w278)), 0, none⟩ 0) (.int .i64 n280)) (Addr.add ⟨(Array.size (World.heap w278)), 0, none⟩ 1) (.int .i64 n281)) (Addr.add ⟨(Array.size (World.heap w278)), 0, none⟩ 2) (.int .i64 n282)) (Addr.add ⟨(Array.size (World.heap w278)), 0, none⟩ 3) (.int .i64 n283)) (Addr.add ⟨(Array.size (World.heap w278)), 0, none⟩ 4) (.int .i64 n284)) (Addr.add ⟨(Array.size (World.heap w278)), 0, none⟩ 2) = some (.int .i64 n342) ∧
                        ∃ (n343 : Int), World.cell? (World.setCell (World.setCell (World.setCell (World.setCell (World.setCell (World.alloc w278 (.cells #[.int .i64 0, .int .i64 0, .int .i64 0, .int .i64 0, .int .i64 0] 44)) (Addr.add ⟨(Array.size (World.heap w278)), 0, none⟩ 0) (.int .i64 n280)) (Addr.add ⟨(Array.size (World.heap w278)), 0, none⟩ 1) (.int .i64 n281)) (Addr.add ⟨(Array.size (World.heap w278)), 0, none⟩ 2) (.int .i64 n282)) (Addr.add ⟨(Array.size (World.heap w278)), 0, none⟩ 3) (.int .i64 n283)) (Addr.add ⟨(Array.size (World.heap w278)), 0, none⟩ 4) (.int .i64 n284)) (Addr.add ⟨(Array.size (World.heap w278)), 0, none⟩ 4) = some (.int .i64 n343) ∧
                        Calls Try.prog 43 #[.pointer q1, .int .i64 n341, .int .i64 n342, .int .i64 n343] (World.setCell (World.setCell (World.setCell (World.setCell (World.setCell (World.alloc w278 (.cells #[.int .i64 0, .int .i64 0, .int .i64 0, .int .i64 0, .int .i64 0] 44)) (Addr.add ⟨(Array.size (World.heap w278)), 0, none⟩ 0) (.int .i64 n280)) (Addr.add ⟨(Array.size (World.heap w278)), 0, none⟩ 1) (.int .i64 n281)) (Addr.add ⟨(Array.size (World.heap w278)), 0, none⟩ 2) (.int .i64 n282)) (Addr.add ⟨(Array.size (World.heap w278)), 0, none⟩ 3) (.int .i64 n283)) (Addr.add ⟨(Array.size (World.heap w278)), 0, none⟩ 4) (.int .i64 n284)) (Ret [.leaf (.int .i64)] fun (n344 : Int) (w345 : World) =>
                        IfB (decide ((302 : Int) = 0))
                        (∃ (n346 : Int), World.cell? w345 (Addr.add ⟨(Array.size (World.heap w278)), 0, none⟩ 2) = some (.int .i64 n346) ∧
                        ∃ (n347 : Int), World.cell? w345 (Addr.add ⟨(Array.size (World.heap w278)), 0, none⟩ 4) = some (.int .i64 n347) ∧
                        PtrOK a273 fun (p348 : Addr) =>
                        ((0 : Int) ≤ n346 ∧ n346 < (l273 : Int)) ∧
                        May w345 (Addr.add p348 (Int.toNat n346 * 1)) ∧
                        Calls Try.prog 33 #[.int .i64 n344] (World.setCell w345 (Addr.add p348 (Int.toNat n346 * 1)) (.int .i64 n347)) (Ret [.leaf (.int .i64)] fun (n349 : Int) (w350 : World) =>
                        IfB (!decide ((n349 : Int) = 302))
                        (K false w350)
                        ((I275 (IntKind.wrap .i64 (n277 + 1)) w350 ∧
                        m276 (IntKind.wrap .i64 (n277 + 1)) w350 < m276 n277 w278))))
                        (Calls Try.prog 33 #[.int .i64 n344] w345 (Ret [.leaf (.int .i64)] fun (n351 : Int) (w352 : World) =>
                        IfB (!decide ((n351 : Int) = 302))
                        (K false w352)
                        ((I275 (IntKind.wrap .i64 (n277 + 1)) w352 ∧
                        m276 (IntKind.wrap .i64 (n277 + 1)) w352 < m276 n277 w278))))))
                        (∃ (n353 : Int), World.cell? (World.setCell (World.setCell (World.setCell (World.setCell (World.setCell (World.alloc w278 (.cells #[.int .i64 0, .int .i64 0, .int .i64 0, .int .i64 0, .int .i64 0] 44)) (Addr.add ⟨(Array.size (World.heap w278)), 0, none⟩ 0) (.int .i64 n280)) (Addr.add ⟨(Array.size (World.heap w278)), 0, none⟩ 1) (.int .i64 n281)) (Addr.add ⟨(Array.size (World.heap w278)), 0, none⟩ 2) (.int .i64 n282)) (Addr.add ⟨(Array.size (World.heap w278)), 0, none⟩ 3) (.int .i64 n283)) (Addr.add ⟨(Array.size (World.heap w278)), 0, none⟩ 4) (.int .i64 n284)) (Addr.add ⟨(Array.size (World.heap w278)), 0, none⟩ 1) = some (.int .i64 n353) ∧
                        ∃ (n354 : Int), World.cell? (World.setCell (World.setCell (World.setCell (World.setCell (World.setCell (World.alloc w278 (.cells #[.int .i64 0, .int .i64 0, .int .i64 0, .int .i64 0, .int .i64 0] 44)) (Addr.add ⟨(Array.size (World.heap w278)), 0, none⟩ 0) (.int .i64 n280)) (Addr.add ⟨(Array.size (World.heap w278)), 0, none⟩ 1) (.int .i64 n281)) (Addr.add ⟨(Array.size (World.heap w278)), 0, none⟩ 2) (.int .i64 n282)) (Addr.add ⟨(Array.size (World.heap w278)), 0, none⟩ 3) (.int .i64 n283)) (Addr.add ⟨(Array.size (World.heap w278)), 0, none⟩ 4) (.int .i64 n284)) (Addr.add ⟨(Array.size (World.heap w278)), 0, none⟩ 2) = some (.int .i64 n354) ∧
                        ∃ (n355 : Int), World.cell? (World.setCell (World.setCell (World.setCell (World.setCell (World.setCell (World.alloc w278 (.cells #[.int .i64 0, .int .i64 0, .int .i64 0, .int .i64 0, .int .i64 0] 44)) (Addr.add ⟨(Array.size (World.heap w278)), 0, none⟩ 0) (.int .i64 n280)) (Addr.add ⟨(Array.size (World.heap w278)), 0, none⟩ 1) (.int .i64 n281)) (Addr.add ⟨(Array.size (World.heap w278)), 0, none⟩ 2) (.int .i64 n282)) (Addr.add ⟨(Array.size (World.heap w278)), 0, none⟩ 3) (.int .i64 n283)) (Addr.add ⟨(Array.size (World.heap w278)), 0, none⟩ 4) (.int .i64 n284)) (Addr.add ⟨(Array.size (World.heap w278)), 0, none⟩ 3) = some (.int .i64 n355) ∧
                        ∃ (n356 : Int), World.cell? (World.setCell (World.setCell (World.setCell (World.setCell (World.setCell (World.alloc w278 (.cells #[.int .i64 0, .int .i64 0, .int .i64 0, .int .i64 0, .int .i64 0] 44)) (Addr.add ⟨(Array.size (World.heap w278)), 0, none⟩ 0) (.int .i64 n280)) (Addr.add ⟨(Array.size (World.heap w278)), 0, none⟩ 1) (.int .i64 n281)) (Addr.add ⟨(Array.size (World.heap w278)), 0, none⟩ 2) (.int .i64 n282)) (Addr.add ⟨(Array.size (World.heap w278)), 0, none⟩ 3) (.int .i64 n283)) (Addr.add ⟨(Array.size (World.heap w278)), 0, none⟩ 4) (.int .i64 n284)) (Addr.add ⟨(Array.size (World.heap w278)), 0, none⟩ 4) = some (.int .i64 n356) ∧
                        Calls Try.prog 44 #[.pointer q1, .int .i64 n353, .int .i64 n354, .int .i64 n355, .int .i64 n356] (World.setCell (World.setCell (World.setCell (World.setCell (World.setCell (World.alloc w278 (.cells #[.int .i64 0, .int .i64 0, .int .i64 0, .int .i64 0, .int .i64 0] 44)) (Addr.add ⟨(Array.size (World.heap w278)), 0, none⟩ 0) (.int .i64 n280)) (Addr.add ⟨(Array.size (World.heap w278)), 0, none⟩ 1) (.int .i64 n281)) (Addr.add ⟨(Array.size (World.heap w278)), 0, none⟩ 2) (.int .i64 n282)) (Addr.add ⟨(Array.size (World.heap w278)), 0, none⟩ 3) (.int .i64 n283)) (Addr.add ⟨(Array.size (World.heap w278)), 0, none⟩ 4) (.int .i64 n284)) (Ret [.leaf .bool, .leaf (.int .i64)] fun (b357 : Bool) (n358 : Int) (w359 : World) =>
                        IfB (decide ((302 : Int) = 0))
                        (∃ (n360 : Int), World.cell? (World.drew w359) (Addr.add ⟨(Array.size (World.heap w278)), 0, none⟩ 2) = some (.int .i64 n360) ∧
                        PtrOK a273 fun (p361 : Addr) =>
                        ((0 : Int) ≤ n360 ∧ n360 < (l273 : Int)) ∧
                        ∃ (n362 : Int), World.cell? (World.drew w359) (Addr.add p361 (Int.toNat n360 * 1)) = some (.int .i64 n362) ∧
                        ∃ (n363 : Int), World.cell? (World.drew w359) (Addr.add ⟨(Array.size (World.heap w278)), 0, none⟩ 3) = some (.int .i64 n363) ∧
                        IfB (decide ((n362 : Int) = n363))
                        (∃ (n364 : Int), World.cell? (World.drew w359) (Addr.add ⟨(Array.size (World.heap w278)), 0, none⟩ 2) = some (.int .i64 n364) ∧
                        ∃ (n365 : Int), World.cell? (World.drew w359) (Addr.add ⟨(Array.size (World.heap w278)), 0, none⟩ 4) = some (.int .i64 n365) ∧
                        PtrOK a273 fun (p366 : Addr) =>
                        ((0 : Int) ≤ n364 ∧ n364 < (l273 : Int)) ∧
                        May (World.drew w359) (Addr.add p366 (Int.toNat n364 * 1)) ∧
                        Calls Try.prog 33 #[.int .i64 n358] (World.setCell (World.drew w359) (Addr.add p366 (Int.toNat n364 * 1)) (.int .i64 n365)) (Ret [.leaf (.int .i64)] fun (n367 : Int) (w368 : World) =>
                        IfB (!decide ((n367 : Int) = 302))
                        (K false w368)
                        (IfB (!(b357 == (decide ((n362 : Int) = n363))))
                        (K false w368)
                        ((I275 (IntKind.wrap .i64 (n277 + 1)) w368 ∧
                        m276 (IntKind.wrap .i64 (n277 + 1)) w368 < m276 n277 w278)))))
                        (Calls Try.prog 33 #[.int .i64 n358] (World.drew w359) (Ret [.leaf (.int .i64)] fun (n369 : Int) (w370 : World) =>
                        IfB (!decide ((n369 : Int) = 302))
                        (K false w370)
                        (IfB (!(b357 == (decide ((n362 : Int) = n363))))
                        (K false w370)
                        ((I275 (IntKind.wrap .i64 (n277 + 1)) w370 ∧
                        m276 (IntKind.wrap .i64 (n277 + 1)) w370 < m276 n277 w278))))))
                        (Calls Try.prog 33 #[.int .i64 n358] (World.drew w359) (Ret [.leaf (.int .i64)] fun (n371 : Int) (w372 : World) =>
                        IfB (!decide ((n371 : Int) = 302))
                        (K false w372)
                        (IfB (!(b357 == false))
                        (K false w372)
                        ((I275 (IntKind.wrap .i64 (n277 + 1)) w372 ∧
                        m276 (IntKind.wrap .i64 (n277 + 1)) w372 < m276 n277 w278)))))))))
                      (∃ (n373 : Int), World.cell? (World.setCell (World.setCell (World.setCell (World.setCell (World.setCell (World.alloc w278 (.cells #[.int .i64 0, .int .i64 0, .int .i64 0, .int .i64 0, .int .i64 0] 44)) (Addr.add ⟨(Array.size (World.heap w278)), 0, none⟩ 0) (.int .i64 n280)) (Addr.add ⟨(Array.size (World.heap w278)), 0, none⟩ 1) (.int .i64 n281)) (Addr.add ⟨(Array.size (World.heap w278)), 0, none⟩ 2) (.int .i64 n282)) (Addr.add ⟨(Array.size (World.heap w278)), 0, none⟩ 3) (.int .i64 n283)) (Addr.add ⟨(Array.size (World.heap w278)), 0, none⟩ 4) (.int .i64 n284)) (Addr.add ⟨(Array.size (World.heap w278)), 0, none⟩ 2) = some (.int .i64 n373) ∧
                        IfB (decide ((n373 : Int) < 0))
                        (∃ (n374 : Int), World.cell? (World.setCell (World.setCell (World.setCell (World.setCell (World.setCell (World.alloc w278 (.cells #[.int .i64 0, .int .i64 0, .int .i64 0, .int .i64 0, .int .i64 0] 44)) (Addr.add ⟨(Array.size (World.heap w278)), 0, none⟩ 0) (.int .i64 n280)) (Addr.add ⟨(Array.size (World.heap w278)), 0, none⟩ 1) (.int .i64 n281)) (Addr.add ⟨(Array.size (World.heap w278)), 0, none⟩ 2) (.int .i64 n282)) (Addr.add ⟨(Array.size (World.heap w278)), 0, none⟩ 3) (.int .i64 n283)) (Addr.add ⟨(Array.size (World.heap w278)), 0, none⟩ 4) (.int .i64 n284)) (Addr.add ⟨(Array.size (World.heap w278)), 0, none⟩ 0) = some (.int .i64 n374) ∧
                        IfB (decide ((n374 : Int) = 0))
                        (∃ (n375 : Int), World.cell? (World.setCell (World.setCell (World.setCell (World.setCell (World.setCell (World.alloc w278 (.cells #[.int .i64 0, .int .i64 0, .int .i64 0, .int .i64 0, .int .i64 0] 44)) (Addr.add ⟨(Array.size (World.heap w278)), 0, none⟩ 0) (.int .i64 n280)) (Addr.add ⟨(Array.size (World.heap w278)), 0, none⟩ 1) (.int .i64 n281)) (Addr.add ⟨(Array.size (World.heap w278)), 0, none⟩ 2) (.int .i64 n282)) (Addr.add ⟨(Array.size (World.heap w278)), 0, none⟩ 3) (.int .i64 n283)) (Addr.add ⟨(Array.size (World.heap w278)), 0, none⟩ 4) (.int .i64 n284)) (Addr.add ⟨(Array.size (World.heap w278)), 0, none⟩ 1) = some (.int .i64 n375) ∧
                        ∃ (n376 : Int), World.cell? (World.setCell (World.setCell (World.setCell (World.setCell (World.setCell (World.alloc w278 (.cells #[.int .i64 0, .int .i64 0, .int .i64 0, .int .i64 0, .int .i64 0] 44)) (Addr.add ⟨(Array.size (World.heap w278)), 0, none⟩ 0) (.int .i64 n280)) (Addr.add ⟨(Array.size (World.heap w278)), 0, none⟩ 1) (.int .i64 n281)) (Addr.add ⟨(Array.size (World.heap w278)), 0, none⟩ 2) (.int .i64 n282)) (Addr.add ⟨(Array.size (World.heap w278)), 0, none⟩ 3) (.int .i64 n283)) (Addr.add ⟨(Array.size (World.heap w278)), 0, none⟩ 4) (.int .i64 n284)) (Addr.add ⟨(Array.size (World.heap w278)), 0, none⟩ 2) = some (.int .i64 n376) ∧
                        Calls Try.prog 42 #[.pointer q1, .int .i64 n375, .int .i64 n376] (World.setCell (World.setCell (World.setCell (World.setCell (World.setCell (World.alloc w278 (.cells #[.int .i64 0, .int .i64 0, .int .i64 0, .int .i64 0, .int .i64 0] 44)) (Addr.add ⟨(Array.size (World.heap w278)), 0, none⟩ 0) (.int .i64 n280)) (Addr.add ⟨(Array.size (World.heap w278)), 0, none⟩ 1) (.int .i64 n281)) (Addr.add ⟨(Array.size (World.heap w278)), 0, none⟩ 2) (.int .i64 n282)) (Addr.add ⟨(Array.size (World.heap w278)), 0, none⟩ 3) (.int .i64 n283)) (Addr.add ⟨(Array.size (World.heap w278)), 0, none⟩ 4) (.int .i64 n284)) (Ret [.leaf (.int .i64), .leaf (.int .i64)] fun (n377 : Int) (n378 : Int) (w379 : World) =>
                        Calls Try.prog 33 #[.int .i64 n378] w379 (Ret [.leaf (.int .i64)] fun (n380 : Int) (w381 : World) =>
                        IfB (!decide ((n380 : Int) = 301))
                        (K false w381)
                        (IfB (decide ((301 : Int) = 0))
                        (∃ (n382 : Int), World.cell? w381 (Addr.add ⟨(Array.size (World.heap w278)), 0, none⟩ 2) = some (.int .i64 n382) ∧
                        PtrOK a273 fun (p383 : Addr) =>
                        ((0 : Int) ≤ n382 ∧ n382 < (l273 : Int)) ∧
                        ∃ (n384 : Int), World.cell? w381 (Addr.add p383 (Int.toNat n382 * 1)) = some (.int .i64 n384) ∧
                        IfB (!decide ((n377 : Int) = n384))
                        (K false w381)
                        (IfB (!decide ((301 : Int) = 0))
                        (IfB (!decide ((n377 : Int) = 0))
                        (K false w381)
                        ((I275 (IntKind.wrap .i64 (n277 + 1)) w381 ∧
                        m276 (IntKind.wrap .i64 (n277 + 1)) w381 < m276 n277 w278)))
                        ((I275 (IntKind.wrap .i64 (n277 + 1)) w381 ∧
                        m276 (IntKind.wrap .i64 (n277 + 1)) w381 < m276 n277 w278))))
                        (IfB (!decide ((301 : Int) = 0))
                        (IfB (!decide ((n377 : Int) = 0))
                        (K false w381)
                        ((I275 (IntKind.wrap .i64 (n277 + 1)) w381 ∧
                        m276 (IntKind.wrap .i64 (n277 + 1)) w381 < m276 n277 w278)))
                        ((I275 (IntKind.wrap .i64 (n277 + 1)) w381 ∧
                        m276 (IntKind.wrap .i64 (n277 + 1)) w381 < m276 n277 w278)))))))
                        (IfB (decide ((n374 : Int) = 1))
                        (∃ (n385 : Int), World.cell? (World.setCell (World.setCell (World.setCell (World.setCell (World.setCell (World.alloc w278 (.cells #[.int .i64 0, .int .i64 0, .int .i64 0, .int .i64 0, .int .i64 0] 44)) (Addr.add ⟨(Array.size (World.heap w278)), 0, none⟩ 0) (.int .i64 n280)) (Addr.add ⟨(Array.size (World.heap w278)), 0, none⟩ 1) (.int .i64 n281)) (Addr.add ⟨(Array.size (World.heap w278)), 0, none⟩ 2) (.int .i64 n282)) (Addr.add ⟨(Array.size (World.heap w278)), 0, none⟩ 3) (.int .i64 n283)) (Addr.add ⟨(Array.size (World.heap w278)), 0, none⟩ 4) (.int .i64 n284)) (Addr.add ⟨(Array.size (World.heap w278)), 0, none⟩ 1) = some (.int .i64 n385) ∧
                        ∃ (n386 : Int), World.cell? (World.setCell (World.setCell (World.setCell (World.setCell (World.setCell (World.alloc w278 (.cells #[.int .i64 0, .int .i64 0, .int .i64 0, .int .i64 0, .int .i64 0] 44)) (Addr.add ⟨(Array.size (World.heap w278)), 0, none⟩ 0) (.int .i64 n280)) (Addr.add ⟨(Array.size (World.heap w278)), 0, none⟩ 1) (.int .i64 n281)) (Addr.add ⟨(Array.size (World.heap w278)), 0, none⟩ 2) (.int .i64 n282)) (Addr.add ⟨(Array.size (World.heap w278)), 0, none⟩ 3) (.int .i64 n283)) (Addr.add ⟨(Array.size (World.heap w278)), 0, none⟩ 4) (.int .i64 n284)) (Addr.add ⟨(Array.size (World.heap w278)), 0, none⟩ 2) = some (.int .i64 n386) ∧
                        ∃ (n387 : Int), World.cell? (World.setCell (World.setCell (World.setCell (World.setCell (World.setCell (World.alloc w278 (.cells #[.int .i64 0, .int .i64 0, .int .i64 0, .int .i64 0, .int .i64 0] 44)) (Addr.add ⟨(Array.size (World.heap w278)), 0, none⟩ 0) (.int .i64 n280)) (Addr.add ⟨(Array.size (World.heap w278)), 0, none⟩ 1) (.int .i64 n281)) (Addr.add ⟨(Array.size (World.heap w278)), 0, none⟩ 2) (.int .i64 n282)) (Addr.add ⟨(Array.size (World.heap w278)), 0, none⟩ 3) (.int .i64 n283)) (Addr.add ⟨(Array.size (World.heap w278)), 0, none⟩ 4) (.int .i64 n284)) (Addr.add ⟨(Array.size (World.heap w278)), 0, none⟩ 4) = some (.int .i64 n387) ∧
                        Calls Try.prog 43 #[.pointer q1, .int .i64 n385, .int .i64 n386, .int .i64 n387] (World.setCell (World.setCell (World.setCell (World.setCell (World.setCell (World.alloc w278 (.cells #[.int .i64 0, .int .i64 0, .int .i64 0, .int .i64 0, .int .i64 0] 44)) (Addr.add ⟨(Array.size (World.heap w278)), 0, none⟩ 0) (.int .i64 n280)) (Addr.add ⟨(Array.size (World.heap w278)), 0, none⟩ 1) (.int .i64 n281)) (Addr.add ⟨(Array.size (World.heap w278)), 0, none⟩ 2) (.int .i64 n282)) (Addr.add ⟨(Array.size (World.heap w278)), 0, none⟩ 3) (.int .i64 n283)) (Addr.add ⟨(Array.size (World.heap w278)), 0, none⟩ 4) (.int .i64 n284)) (Ret [.leaf (.int .i64)] fun (n388 : Int) (w389 : World) =>
                        IfB (decide ((301 : Int) = 0))
                        (∃ (n390 : Int), World.cell? w389 (Addr.add ⟨(Array.size (World.heap w278)), 0, none⟩ 2) = some (.int .i64 n390) ∧
                        ∃ (n391 : Int), World.cell? w389 (Addr.add ⟨(Array.size (World.heap w278)), 0, none⟩ 4) = some (.int .i64 n391) ∧
                        PtrOK a273 fun (p392 : Addr) =>
                        ((0 : Int) ≤ n390 ∧ n390 < (l273 : Int)) ∧
                        May w389 (Addr.add p392 (Int.toNat n390 * 1)) ∧
                        Calls Try.prog 33 #[.int .i64 n388] (World.setCell w389 (Addr.add p392 (Int.toNat n390 * 1)) (.int .i64 n391)) (Ret [.leaf (.int .i64)] fun (n393 : Int) (w394 : World) =>
                        IfB (!decide ((n393 : Int) = 301))
                        (K false w394)
                        ((I275 (IntKind.wrap .i64 (n277 + 1)) w394 ∧
                        m276 (IntKind.wrap .i64 (n277 + 1)) w394 < m276 n277 w278))))
                        (Calls Try.prog 33 #[.int .i64 n388] w389 (Ret [.leaf (.int .i64)] fun (n395 : Int) (w396 : World) =>
                        IfB (!decide ((n395 : Int) = 301))
                        (K false w396)
                        ((I275 (IntKind.wrap .i64 (n277 + 1)) w396 ∧
                        m276 (IntKind.wrap .i64 (n277 + 1)) w396 < m276 n277 w278))))))
                        (∃ (n397 : Int), World.cell? (World.setCell (World.setCell (World.setCell (World.setCell (World.setCell (World.alloc w278 (.cells #[.int .i64 0, .int .i64 0, .int .i64 0, .int .i64 0, .int .i64 0] 44)) (Addr.add ⟨(Array.size (World.heap w278)), 0, none⟩ 0) (.int .i64 n280)) (Addr.add ⟨(Array.size (World.heap w278)), 0, none⟩ 1) (.int .i64 n281)) (Addr.add ⟨(Array.size (World.heap w278)), 0, none⟩ 2) (.int .i64 n282)) (Addr.add ⟨(Array.size (World.heap w278)), 0, none⟩ 3) (.int .i64 n283)) (Addr.add ⟨(Array.size (World.heap w278)), 0, none⟩ 4) (.int .i64 n284)) (Addr.add ⟨(Array.size (World.heap w278)), 0, none⟩ 1) = some (.int .i64 n397) ∧
                        ∃ (n398 : Int), World.cell? (World.setCell (World.setCell (World.setCell (World.setCell (World.setCell (World.alloc w278 (.cells #[.int .i64 0, .int .i64 0, .int .i64 0, .int .i64 0, .int .i64 0] 44)) (Addr.add ⟨(Array.size (World.heap w278)), 0, none⟩ 0) (.int .i64 n280)) (Addr.add ⟨(Array.size (World.heap w278)), 0, none⟩ 1) (.int .i64 n281)) (Addr.add ⟨(Array.size (World.heap w278)), 0, none⟩ 2) (.int .i64 n282)) (Addr.add ⟨(Array.size (World.heap w278)), 0, none⟩ 3) (.int .i64 n283)) (Addr.add ⟨(Array.size (World.heap w278)), 0, none⟩ 4) (.int .i64 n284)) (Addr.add ⟨(Array.size (World.heap w278)), 0, none⟩ 2) = some (.int .i64 n398) ∧
                        ∃ (n399 : Int), World.cell? (World.setCell (World.setCell (World.setCell (World.setCell (World.setCell (World.alloc w278 (.cells #[.int .i64 0, .int .i64 0, .int .i64 0, .int .i64 0, .int .i64 0] 44)) (Addr.add ⟨(Array.size (World.heap w278)), 0, none⟩ 0) (.int .i64 n280)) (Addr.add ⟨(Array.size (World.heap w278)), 0, none⟩ 1) (.int .i64 n281)) (Addr.add ⟨(Array.size (World.heap w278)), 0, none⟩ 2) (.int .i64 n282)) (Addr.add ⟨(Array.size (World.heap w278)), 0, none⟩ 3) (.int .i64 n283)) (Addr.add ⟨(Array.size (World.heap w278)), 0, none⟩ 4) (.int .i64 n284)) (Addr.add ⟨(Array.size (World.heap w278)), 0, none⟩ 3) = some (.int .i64 n399) ∧
                        ∃ (n400 : Int), World.cell? (World.setCell (World.setCell (World.setCell (World.setCell (World.setCell (World.alloc w278 (.cells #[.int .i64 0, .int .i64 0, .int .i64 0, .int .i64 0, .int .i64 0] 44)) (Addr.add ⟨(Array.size (World.heap w278)), 0, none⟩ 0) (.int .i64 n280)) (Addr.add ⟨(Array.size (World.heap w278)), 0, none⟩ 1) (.int .i64 n281)) (Addr.add ⟨(Array.size (World.heap w278)), 0, none⟩ 2) (.int .i64 n282)) (Addr.add ⟨(Array.size (World.heap w278)), 0, none⟩ 3) (.int .i64 n283)) (Addr.add ⟨(Array.size (World.heap w278)), 0, none⟩ 4) (.int .i64 n284)) (Addr.add ⟨(Array.size (World.heap w278)), 0, none⟩ 4) = some (.int .i64 n400) ∧
                        Calls Try.prog 44 #[.pointer q1, .int .i64 n397, .int .i64 n398, .int .i64 n399, .int .i64 n400] (World.setCell (World.setCell (World.setCell (World.setCell (World.setCell (World.alloc w278 (.cells #[.int .i64 0, .int .i64 0, .int .i64 0, .int .i64 0, .int .i64 0] 44)) (Addr.add ⟨(Array.size (World.heap w278)), 0, none⟩ 0) (.int .i64 n280)) (Addr.add ⟨(Array.size (World.heap w278)), 0, none⟩ 1) (.int .i64 n281)) (Addr.add ⟨(Array.size (World.heap w278)), 0, none⟩ 2) (.int .i64 n282)) (Addr.add ⟨(Array.size (World.heap w278)), 0, none⟩ 3) (.int .i64 n283)) (Addr.add ⟨(Array.size (World.heap w278)), 0, none⟩ 4) (.int .i64 n284)) (Ret [.leaf .bool, .leaf (.int .i64)] fun (b401 : Bool) (n402 : Int) (w403 : World) =>
                        IfB (decide ((301 : Int) = 0))
                        (∃ (n404 : Int), World.cell? (World.drew w403) (Addr.add ⟨(Array.size (World.heap w278)), 0, none⟩ 2) = some (.int .i64 n404) ∧
                        PtrOK a273 fun (p405 : Addr) =>
                        ((0 : Int) ≤ n404 ∧ n404 < (l273 : Int)) ∧
                        ∃ (n406 : Int), World.cell? (World.drew w403) (Addr.add p405 (Int.toNat n404 * 1)) = some (.int .i64 n406) ∧
                        ∃ (n407 : Int), World.cell? (World.drew w403) (Addr.add ⟨(Array.size (World.heap w278)), 0, none⟩ 3) = some (.int .i64 n407) ∧
                        IfB (decide ((n406 : Int) = n407))
                        (∃ (n408 : Int), World.cell? (World.drew w403) (Addr.add ⟨(Array.size (World.heap w278)), 0, none⟩ 2) = some (.int .i64 n408) ∧
                        ∃ (n409 : Int), World.cell? (World.drew w403) (Addr.add ⟨(Array.size (World.heap w278)), 0, none⟩ 4) = some (.int .i64 n409) ∧
                        PtrOK a273 fun (p410 : Addr) =>
                        ((0 : Int) ≤ n408 ∧ n408 < (l273 : Int)) ∧
                        May (World.drew w403) (Addr.add p410 (Int.toNat n408 * 1)) ∧
                        Calls Try.prog 33 #[.int .i64 n402] (World.setCell (World.drew w403) (Addr.add p410 (Int.toNat n408 * 1)) (.int .i64 n409)) (Ret [.leaf (.int .i64)] fun (n411 : Int) (w412 : World) =>
                        IfB (!decide ((n411 : Int) = 301))
                        (K false w412)
                        (IfB (!(b401 == (decide ((n406 : Int) = n407))))
                        (K false w412)
                        ((I275 (IntKind.wrap .i64 (n277 + 1)) w412 ∧
                        m276 (IntKind.wrap .i64 (n277 + 1)) w412 < m276 n277 w278)))))
                        (Calls Try.prog 33 #[.int .i64 n402] (World.drew w403) (Ret [.leaf (.int .i64)] fun (n413 : Int) (w414 : World) =>
                        IfB (!decide ((n413 : Int) = 301))
                        (K false w414)
                        (IfB (!(b401 == (decide ((n406 : Int) = n407))))
                        (K false w414)
                        ((I275 (IntKind.wrap .i64 (n277 + 1)) w414 ∧
                        m276 (IntKind.wrap .i64 (n277 + 1)) w414 < m276 n277 w278))))))
                        (Calls Try.prog 33 #[.int .i64 n402] (World.drew w403) (Ret [.leaf (.int .i64)] fun (n415 : Int) (w416 : World) =>
                        IfB (!decide ((n415 : Int) = 301))
                        (K false w416)
                        (IfB (!(b401 == false))
                        (K false w416)
                        ((I275 (IntKind.wrap .i64 (n277 + 1)) w416 ∧
                        m276 (IntKind.wrap .i64 (n277 + 1)) w416 < m276 n277 w278)))))))))
                        (∃ (n417 : Int), World.cell? (World.setCell (World.setCell (World.setCell (World.setCell (World.setCell (World.alloc w278 (.cells #[.int .i64 0, .int .i64 0, .int .i64 0, .int .i64 0, .int .i64 0] 44)) (Addr.add ⟨(Array.size (World.heap w278)), 0, none⟩ 0) (.int .i64 n280)) (Addr.add ⟨(Array.size (World.heap w278)), 0, none⟩ 1) (.int .i64 n281)) (Addr.add ⟨(Array.size (World.heap w278)), 0, none⟩ 2) (.int .i64 n282)) (Addr.add ⟨(Array.size (World.heap w278)), 0, none⟩ 3) (.int .i64 n283)) (Addr.add ⟨(Array.size (World.heap w278)), 0, none⟩ 4) (.int .i64 n284)) (Addr.add ⟨(Array.size (World.heap w278)), 0, none⟩ 2) = some (.int .i64 n417) ∧
                        IfB (decide ((words : Int) ≤ n417))
                        (∃ (n418 : Int), World.cell? (World.setCell (World.setCell (World.setCell (World.setCell (World.setCell (World.alloc w278 (.cells #[.int .i64 0, .int .i64 0, .int .i64 0, .int .i64 0, .int .i64 0] 44)) (Addr.add ⟨(Array.size (World.heap w278)), 0, none⟩ 0) (.int .i64 n280)) (Addr.add ⟨(Array.size (World.heap w278)), 0, none⟩ 1) (.int .i64 n281)) (Addr.add ⟨(Array.size (World.heap w278)), 0, none⟩ 2) (.int .i64 n282)) (Addr.add ⟨(Array.size (World.heap w278)), 0, none⟩ 3) (.int .i64 n283)) (Addr.add ⟨(Array.size (World.heap w278)), 0, none⟩ 4) (.int .i64 n284)) (Addr.add ⟨(Array.size (World.heap w278)), 0, none⟩ 0) = some (.int .i64 n418) ∧
                        IfB (decide ((n418 : Int) = 0))
                        (∃ (n419 : Int), World.cell? (World.setCell (World.setCell (World.setCell (World.setCell (World.setCell (World.alloc w278 (.cells #[.int .i64 0, .int .i64 0, .int .i64 0, .int .i64 0, .int .i64 0] 44)) (Addr.add ⟨(Array.size (World.heap w278)), 0, none⟩ 0) (.int .i64 n280)) (Addr.add ⟨(Array.size (World.heap w278)), 0, none⟩ 1) (.int .i64 n281)) (Addr.add ⟨(Array.size (World.heap w278)), 0, none⟩ 2) (.int .i64 n282)) (Addr.add ⟨(Array.size (World.heap w278)), 0, none⟩ 3) (.int .i64 n283)) (Addr.add ⟨(Array.size (World.heap w278)), 0, none⟩ 4) (.int .i64 n284)) (Addr.add ⟨(Array.size (World.heap w278)), 0, none⟩ 1) = some (.int .i64 n419) ∧
                        ∃ (n420 : Int), World.cell? (World.setCell (World.setCell (World.setCell (World.setCell (World.setCell (World.alloc w278 (.cells #[.int .i64 0, .int .i64 0, .int .i64 0, .int .i64 0, .int .i64 0] 44)) (Addr.add ⟨(Array.size (World.heap w278)), 0, none⟩ 0) (.int .i64 n280)) (Addr.add ⟨(Array.size (World.heap w278)), 0, none⟩ 1) (.int .i64 n281)) (Addr.add ⟨(Array.size (World.heap w278)), 0, none⟩ 2) (.int .i64 n282)) (Addr.add ⟨(Array.size (World.heap w278)), 0, none⟩ 3) (.int .i64 n283)) (Addr.add ⟨(Array.size (World.heap w278)), 0, none⟩ 4) (.int .i64 n284)) (Addr.add ⟨(Array.size (World.heap w278)), 0, none⟩ 2) = some (.int .i64 n420) ∧
                        Calls Try.prog 42 #[.pointer q1, .int .i64 n419, .int .i64 n420] (World.setCell (World.setCell (World.setCell (World.setCell (World.setCell (World.alloc w278 (.cells #[.int .i64 0, .int .i64 0, .int .i64 0, .int .i64 0, .int .i64 0] 44)) (Addr.add ⟨(Array.size (World.heap w278)), 0, none⟩ 0) (.int .i64 n280)) (Addr.add ⟨(Array.size (World.heap w278)), 0, none⟩ 1) (.int .i64 n281)) (Addr.add ⟨(Array.size (World.heap w278)), 0, none⟩ 2) (.int .i64 n282)) (Addr.add ⟨(Array.size (World.heap w278)), 0, none⟩ 3) (.int .i64 n283)) (Addr.add ⟨(Array.size (World.heap w278)), 0, none⟩ 4) (.int .i64 n284)) (Ret [.leaf (.int .i64), .leaf (.int .i64)] fun (n421 : Int) (n422 : Int) (w423 : World) =>
                        Calls Try.prog 33 #[.int .i64 n422] w423 (Ret [.leaf (.int .i64)] fun (n424 : Int) (w425 : World) =>
                        IfB (!decide ((n424 : Int) = 301))
                        (K false w425)
                        (IfB (decide ((301 : Int) = 0))
                        (∃ (n426 : Int), World.cell? w425 (Addr.add ⟨(Array.size (World.heap w278)), 0, none⟩ 2) = some (.int .i64 n426) ∧
                        PtrOK a273 fun (p427 : Addr) =>
                        ((0 : Int) ≤ n426 ∧ n426 < (l273 : Int)) ∧
                        ∃ (n428 : Int), World.cell? w425 (Addr.add p427 (Int.toNat n426 * 1)) = some (.int .i64 n428) ∧
                        IfB (!decide ((n421 : Int) = n428))
                        (K false w425)
                        (IfB (!decide ((301 : Int) = 0))
                        (IfB (!decide ((n421 : Int) = 0))
                        (K false w425)
                        ((I275 (IntKind.wrap .i64 (n277 + 1)) w425 ∧
                        m276 (IntKind.wrap .i64 (n277 + 1)) w425 < m276 n277 w278)))
                        ((I275 (IntKind.wrap .i64 (n277 + 1)) w425 ∧
                        m276 (IntKind.wrap .i64 (n277 + 1)) w425 < m276 n277 w278))))
                        (IfB (!decide ((301 : Int) = 0))
                        (IfB (!decide ((n421 : Int) = 0))
                        (K false w425)
                        ((I275 (IntKind.wrap .i64 (n277 + 1)) w425 ∧
                        m276 (IntKind.wrap .i64 (n277 + 1)) w425 < m276 n277 w278)))
                        ((I275 (IntKind.wrap .i64 (n277 + 1)) w425 ∧
                        m276 (IntKind.wrap .i64 (n277 + 1)) w425 < m276 n277 w278)))))))
                        (IfB (decide ((n418 : Int) = 1))
                        (∃ (n429 : Int), World.cell? (World.setCell (World.setCell (World.setCell (World.setCell (World.setCell (World.alloc w278 (.cells #[.int .i64 0, .int .i64 0, .int .i64 0, .int .i64 0, .int .i64 0] 44)) (Addr.add ⟨(Array.size (World.heap w278)), 0, none⟩ 0) (.int .i64 n280)) (Addr.add ⟨(Array.size (World.heap w278)), 0, none⟩ 1) (.int .i64 n281)) (Addr.add ⟨(Array.size (World.heap w278)), 0, none⟩ 2) (.int .i64 n282)) (Addr.add ⟨(Array.size (World.heap w278)), 0, none⟩ 3) (.int .i64 n283)) (Addr.add ⟨(Array.size (World.heap w278)), 0, none⟩ 4) (.int .i64 n284)) (Addr.add ⟨(Array.size (World.heap w278)), 0, none⟩ 1) = some (.int .i64 n429) ∧
                        ∃ (n430 : Int), World.cell? (World.setCell (World.setCell (World.setCell (World.setCell (World.setCell (World.alloc w278 (.cells #[.int .i64 0, .int .i64 0, .int .i64 0, .int .i64 0, .int .i64 0] 44)) (Addr.add ⟨(Array.size (World.heap w278)), 0, none⟩ 0) (.int .i64 n280)) (Addr.add ⟨(Array.size (World.heap w278)), 0, none⟩ 1) (.int .i64 n281)) (Addr.add ⟨(Array.size (World.heap w278)), 0, none⟩ 2) (.int .i64 n282)) (Addr.add ⟨(Array.size (World.heap w278)), 0, none⟩ 3) (.int .i64 n283)) (Addr.add ⟨(Array.size (World.heap w278)), 0, none⟩ 4) (.int .i64 n284)) (Addr.add ⟨(Array.size (World.heap w278)), 0, none⟩ 2) = some (.int .i64 n430) ∧
                        ∃ (n431 : Int), World.cell? (World.setCell (World.setCell (World.setCell (World.setCell (World.setCell (World.alloc w278 (.cells #[.int .i64 0, .int .i64 0, .int .i64 0, .int .i64 0, .int .i64 0] 44)) (Addr.add ⟨(Array.size (World.heap w278)), 0, none⟩ 0) (.int .i64 n280)) (Addr.add ⟨(Array.size (World.heap w278)), 0, none⟩ 1) (.int .i64 n281)) (Addr.add ⟨(Array.size (World.heap w278)), 0, none⟩ 2) (.int .i64 n282)) (Addr.add ⟨(Array.size (World.heap w278)), 0, none⟩ 3) (.int .i64 n283)) (Addr.add ⟨(Array.size (World.heap w278)), 0, none⟩ 4) (.int .i64 n284)) (Addr.add ⟨(Array.size (World.heap w278)), 0, none⟩ 4) = some (.int .i64 n431) ∧
                        Calls Try.prog 43 #[.pointer q1, .int .i64 n429, .int .i64 n430, .int .i64 n431] (World.setCell (World.setCell (World.setCell (World.setCell (World.setCell (World.alloc w278 (.cells #[.int .i64 0, .int .i64 0, .int .i64 0, .int .i64 0, .int .i64 0] 44)) (Addr.add ⟨(Array.size (World.heap w278)), 0, none⟩ 0) (.int .i64 n280)) (Addr.add ⟨(Array.size (World.heap w278)), 0, none⟩ 1) (.int .i64 n281)) (Addr.add ⟨(Array.size (World.heap w278)), 0, none⟩ 2) (.int .i64 n282)) (Addr.add ⟨(Array.size (World.heap w278)), 0, none⟩ 3) (.int .i64 n283)) (Addr.add ⟨(Array.size (World.heap w278)), 0, none⟩ 4) (.int .i64 n284)) (Ret [.leaf (.int .i64)] fun (n432 : Int) (w433 : World) =>
                        IfB (decide ((301 : Int) = 0))
                        (∃ (n434 : Int), World.cell? w433 (Addr.add ⟨(Array.size (World.heap w278)), 0, none⟩ 2) = some (.int .i64 n434) ∧
                        ∃ (n435 : Int), World.cell? w433 (Addr.add ⟨(Array.size (World.heap w278)), 0, none⟩ 4) = some (.int .i64 n435) ∧
                        PtrOK a273 fun (p436 : Addr) =>
                        ((0 : Int) ≤ n434 ∧ n434 < (l273 : Int)) ∧
                        May w433 (Addr.add p436 (Int.toNat n434 * 1)) ∧
                        Calls Try.prog 33 #[.int .i64 n432] (World.setCell w433 (Addr.add p436 (Int.toNat n434 * 1)) (.int .i64 n435)) (Ret [.leaf (.int .i64)] fun (n437 : Int) (w438 : World) =>
                        IfB (!decide ((n437 : Int) = 301))
                        (K false w438)
                        ((I275 (IntKind.wrap .i64 (n277 + 1)) w438 ∧
                        m276 (IntKind.wrap .i64 (n277 + 1)) w438 < m276 n277 w278))))
                        (Calls Try.prog 33 #[.int .i64 n432] w433 (Ret [.leaf (.int .i64)] fun (n439 : Int) (w440 : World) =>
                        IfB (!decide ((n439 : Int) = 301))
                        (K false w440)
                        ((I275 (IntKind.wrap .i64 (n277 + 1)) w440 ∧
                        m276 (IntKind.wrap .i64 (n277 + 1)) w440 < m276 n277 w278))))))
                        (∃ (n441 : Int), World.cell? (World.setCell (World.setCell (World.setCell (World.setCell (World.setCell (World.alloc w278 (.cells #[.int .i64 0, .int .i64 0, .int .i64 0, .int .i64 0, .int .i64 0] 44)) (Addr.add ⟨(Array.size (World.heap w278)), 0, none⟩ 0) (.int .i64 n280)) (Addr.add ⟨(Array.size (World.heap w278)), 0, none⟩ 1) (.int .i64 n281)) (Addr.add ⟨(Array.size (World.heap w278)), 0, none⟩ 2) (.int .i64 n282)) (Addr.add ⟨(Array.size (World.heap w278)), 0, none⟩ 3) (.int .i64 n283)) (Addr.add ⟨(Array.size (World.heap w278)), 0, none⟩ 4) (.int .i64 n284)) (Addr.add ⟨(Array.size (World.heap w278)), 0, none⟩ 1) = some (.int .i64 n441) ∧
                        ∃ (n442 : Int), World.cell? (World.setCell (World.setCell (World.setCell (World.setCell (World.setCell (World.alloc w278 (.cells #[.int .i64 0, .int .i64 0, .int .i64 0, .int .i64 0, .int .i64 0] 44)) (Addr.add ⟨(Array.size (World.heap w278)), 0, none⟩ 0) (.int .i64 n280)) (Addr.add ⟨(Array.size (World.heap w278)), 0, none⟩ 1) (.int .i64 n281)) (Addr.add ⟨(Array.size (World.heap w278)), 0, none⟩ 2) (.int .i64 n282)) (Addr.add ⟨(Array.size (World.heap w278)), 0, none⟩ 3) (.int .i64 n283)) (Addr.add ⟨(Array.size (World.heap w278)), 0, none⟩ 4) (.int .i64 n284)) (Addr.add ⟨(Array.size (World.heap w278)), 0, none⟩ 2) = some (.int .i64 n442) ∧
                        ∃ (n443 : Int), World.cell? (World.setCell (World.setCell (World.setCell (World.setCell (World.setCell (World.alloc w278 (.cells #[.int .i64 0, .int .i64 0, .int .i64 0, .int .i64 0, .int .i64 0] 44)) (Addr.add ⟨(Array.size (World.heap w278)), 0, none⟩ 0) (.int .i64 n280)) (Addr.add ⟨(Array.size (World.heap w278)), 0, none⟩ 1) (.int .i64 n281)) (Addr.add ⟨(Array.size (World.heap w278)), 0, none⟩ 2) (.int .i64 n282)) (Addr.add ⟨(Array.size (World.heap w278)), 0, none⟩ 3) (.int .i64 n283)) (Addr.add ⟨(Array.size (World.heap w278)), 0, none⟩ 4) (.int .i64 n284)) (Addr.add ⟨(Array.size (World.heap w278)), 0, none⟩ 3) = some (.int .i64 n443) ∧
                        ∃ (n444 : Int), World.cell? (World.setCell (World.setCell (World.setCell (World.setCell (World.setCell (World.alloc w278 (.cells #[.int .i64 0, .int .i64 0, .int .i64 0, .int .i64 0, .int .i64 0] 44)) (Addr.add ⟨(Array.size (World.heap w278)), 0, none⟩ 0) (.int .i64 n280)) (Addr.add ⟨(Array.size (World.heap w278)), 0, none⟩ 1) (.int .i64 n281)) (Addr.add ⟨(Array.size (World.heap w278)), 0, none⟩ 2) (.int .i64 n282)) (Addr.add ⟨(Array.size (World.heap w278)), 0, none⟩ 3) (.int .i64 n283)) (Addr.add ⟨(Array.size (World.heap w278)), 0, none⟩ 4) (.int .i64 n284)) (Addr.add ⟨(Array.size (World.heap w278)), 0, none⟩ 4) = some (.int .i64 n444) ∧
                        Calls Try.prog 44 #[.pointer q1, .int .i64 n441, .int .i64 n442, .int .i64 n443, .int .i64 n444] (World.setCell (World.setCell (World.setCell (World.setCell (World.setCell (World.alloc w278 (.cells #[.int .i64 0, .int .i64 0, .int .i64 0, .int .i64 0, .int .i64 0] 44)) (Addr.add ⟨(Array.size (World.heap w278)), 0, none⟩ 0) (.int .i64 n280)) (Addr.add ⟨(Array.size (World.heap w278)), 0, none⟩ 1) (.int .i64 n281)) (Addr.add ⟨(Array.size (World.heap w278)), 0, none⟩ 2) (.int .i64 n282)) (Addr.add ⟨(Array.size (World.heap w278)), 0, none⟩ 3) (.int .i64 n283)) (Addr.add ⟨(Array.size (World.heap w278)), 0, none⟩ 4) (.int .i64 n284)) (Ret [.leaf .bool, .leaf (.int .i64)] fun (b445 : Bool) (n446 : Int) (w447 : World) =>
                        IfB (decide ((301 : Int) = 0))
                        (∃ (n448 : Int), World.cell? (World.drew w447) (Addr.add ⟨(Array.size (World.heap w278)), 0, none⟩ 2) = some (.int .i64 n448) ∧
                        PtrOK a273 fun (p449 : Addr) =>
                        ((0 : Int) ≤ n448 ∧ n448 < (l273 : Int)) ∧
                        ∃ (n450 : Int), World.cell? (World.drew w447) (Addr.add p449 (Int.toNat n448 * 1)) = some (.int .i64 n450) ∧
                        ∃ (n451 : Int), World.cell? (World.drew w447) (Addr.add ⟨(Array.size (World.heap w278)), 0, none⟩ 3) = some (.int .i64 n451) ∧
                        IfB (decide ((n450 : Int) = n451))
                        (∃ (n452 : Int), World.cell? (World.drew w447) (Addr.add ⟨(Array.size (World.heap w278)), 0, none⟩ 2) = some (.int .i64 n452) ∧
                        ∃ (n453 : Int), World.cell? (World.drew w447) (Addr.add ⟨(Array.size (World.heap w278)), 0, none⟩ 4) = some (.int .i64 n453) ∧
                        PtrOK a273 fun (p454 : Addr) =>
                        ((0 : Int) ≤ n452 ∧ n452 < (l273 : Int)) ∧
                        May (World.drew w447) (Addr.add p454 (Int.toNat n452 * 1)) ∧
                        Calls Try.prog 33 #[.int .i64 n446] (World.setCell (World.drew w447) (Addr.add p454 (Int.toNat n452 * 1)) (.int .i64 n453)) (Ret [.leaf (.int .i64)] fun (n455 : Int) (w456 : World) =>
                        IfB (!decide ((n455 : Int) = 301))
                        (K false w456)
                        (IfB (!(b445 == (decide ((n450 : Int) = n451))))
                        (K false w456)
                        ((I275 (IntKind.wrap .i64 (n277 + 1)) w456 ∧
                        m276 (IntKind.wrap .i64 (n277 + 1)) w456 < m276 n277 w278)))))
                        (Calls Try.prog 33 #[.int .i64 n446] (World.drew w447) (Ret [.leaf (.int .i64)] fun (n457 : Int) (w458 : World) =>
                        IfB (!decide ((n457 : Int) = 301))
                        (K false w458)
                        (IfB (!(b445 == (decide ((n450 : Int) = n451))))
                        (K false w458)
                        ((I275 (IntKind.wrap .i64 (n277 + 1)) w458 ∧
                        m276 (IntKind.wrap .i64 (n277 + 1)) w458 < m276 n277 w278))))))
                        (Calls Try.prog 33 #[.int .i64 n446] (World.drew w447) (Ret [.leaf (.int .i64)] fun (n459 : Int) (w460 : World) =>
                        IfB (!decide ((n459 : Int) = 301))
                        (K false w460)
                        (IfB (!(b445 == false))
                        (K false w460)
                        ((I275 (IntKind.wrap .i64 (n277 + 1)) w460 ∧
                        m276 (IntKind.wrap .i64 (n277 + 1)) w460 < m276 n277 w278)))))))))
                        (∃ (n461 : Int), World.cell? (World.setCell (World.setCell (World.setCell (World.setCell (World.setCell (World.alloc w278 (.cells #[.int .i64 0, .int .i64 0, .int .i64 0, .int .i64 0, .int .i64 0] 44)) (Addr.add ⟨(Array.size (World.heap w278)), 0, none⟩ 0) (.int .i64 n280)) (Addr.add ⟨(Array.size (World.heap w278)), 0, none⟩ 1) (.int .i64 n281)) (Addr.add ⟨(Array.size (World.heap w278)), 0, none⟩ 2) (.int .i64 n282)) (Addr.add ⟨(Array.size (World.heap w278)), 0, none⟩ 3) (.int .i64 n283)) (Addr.add ⟨(Array.size (World.heap w278)), 0, none⟩ 4) (.int .i64 n284)) (Addr.add ⟨(Array.size (World.heap w278)), 0, none⟩ 1) = some (.int .i64 n461) ∧
                        PtrOK a271 fun (p462 : Addr) =>
                        ((0 : Int) ≤ n461 ∧ n461 < (l271 : Int)) ∧
                        ∃ (n463 : Int), World.cell? (World.setCell (World.setCell (World.setCell (World.setCell (World.setCell (World.alloc w278 (.cells #[.int .i64 0, .int .i64 0, .int .i64 0, .int .i64 0, .int .i64 0] 44)) (Addr.add ⟨(Array.size (World.heap w278)), 0, none⟩ 0) (.int .i64 n280)) (Addr.add ⟨(Array.size (World.heap w278)), 0, none⟩ 1) (.int .i64 n281)) (Addr.add ⟨(Array.size (World.heap w278)), 0, none⟩ 2) (.int .i64 n282)) (Addr.add ⟨(Array.size (World.heap w278)), 0, none⟩ 3) (.int .i64 n283)) (Addr.add ⟨(Array.size (World.heap w278)), 0, none⟩ 4) (.int .i64 n284)) (Addr.add p462 (Int.toNat n461 * 1)) = some (.int .i64 n463) ∧
                        PtrOK a271 fun (p464 : Addr) =>
                        ((0 : Int) ≤ n461 ∧ n461 < (l271 : Int)) ∧
                        May (World.setCell (World.setCell (World.setCell (World.setCell (World.setCell (World.alloc w278 (.cells #[.int .i64 0, .int .i64 0, .int .i64 0, .int .i64 0, .int .i64 0] 44)) (Addr.add ⟨(Array.size (World.heap w278)), 0, none⟩ 0) (.int .i64 n280)) (Addr.add ⟨(Array.size (World.heap w278)), 0, none⟩ 1) (.int .i64 n281)) (Addr.add ⟨(Array.size (World.heap w278)), 0, none⟩ 2) (.int .i64 n282)) (Addr.add ⟨(Array.size (World.heap w278)), 0, none⟩ 3) (.int .i64 n283)) (Addr.add ⟨(Array.size (World.heap w278)), 0, none⟩ 4) (.int .i64 n284)) (Addr.add p464 (Int.toNat n461 * 1)) ∧
                        ∃ (n465 : Int), World.cell? (World.setCell (World.setCell (World.setCell (World.setCell (World.setCell (World.setCell (World.alloc w278 (.cells #[.int .i64 0, .int .i64 0, .int .i64 0, .int .i64 0, .int .i64 0] 44)) (Addr.add ⟨(Array.size (World.heap w278)), 0, none⟩ 0) (.int .i64 n280)) (Addr.add ⟨(Array.size (World.heap w278)), 0, none⟩ 1) (.int .i64 n281)) (Addr.add ⟨(Array.size (World.heap w278)), 0, none⟩ 2) (.int .i64 n282)) (Addr.add ⟨(Array.size (World.heap w278)), 0, none⟩ 3) (.int .i64 n283)) (Addr.add ⟨(Array.size (World.heap w278)), 0, none⟩ 4) (.int .i64 n284)) (Addr.add p464 (Int.toNat n461 * 1)) (.int .i64 (IntKind.wrap .i64 (n463 + 1)))) (Addr.add ⟨(Array.size (World.heap w278)), 0, none⟩ 0) = some (.int .i64 n465) ∧
                        IfB (decide ((n465 : Int) = 0))
                        (∃ (n466 : Int), World.cell? (World.setCell (World.setCell (World.setCell (World.setCell (World.setCell (World.setCell (World.alloc w278 (.cells #[.int .i64 0, .int .i64 0, .int .i64 0, .int .i64 0, .int .i64 0] 44)) (Addr.add ⟨(Array.size (World.heap w278)), 0, none⟩ 0) (.int .i64 n280)) (Addr.add ⟨(Array.size (World.heap w278)), 0, none⟩ 1) (.int .i64 n281)) (Addr.add ⟨(Array.size (World.heap w278)), 0, none⟩ 2) (.int .i64 n282)) (Addr.add ⟨(Array.size (World.heap w278)), 0, none⟩ 3) (.int .i64 n283)) (Addr.add ⟨(Array.size (World.heap w278)), 0, none⟩ 4) (.int .i64 n284)) (Addr.add p464 (Int.toNat n461 * 1)) (.int .i64 (IntKind.wrap .i64 (n463 + 1)))) (Addr.add ⟨(Array.size (World.heap w278)), 0, none⟩ 1) = some (.int .i64 n466) ∧
                        ∃ (n467 : Int), World.cell? (World.setCell (World.setCell (World.setCell (World.setCell (World.setCell (World.setCell (World.alloc w278 (.cells #[.int .i64 0, .int .i64 0, .int .i64 0, .int .i64 0, .int .i64 0] 44)) (Addr.add ⟨(Array.size (World.heap w278)), 0, none⟩ 0) (.int .i64 n280)) (Addr.add ⟨(Array.size (World.heap w278)), 0, none⟩ 1) (.int .i64 n281)) (Addr.add ⟨(Array.size (World.heap w278)), 0, none⟩ 2) (.int .i64 n282)) (Addr.add ⟨(Array.size (World.heap w278)), 0, none⟩ 3) (.int .i64 n283)) (Addr.add ⟨(Array.size (World.heap w278)), 0, none⟩ 4) (.int .i64 n284)) (Addr.add p464 (Int.toNat n461 * 1)) (.int .i64 (IntKind.wrap .i64 (n463 + 1)))) (Addr.add ⟨(Array.size (World.heap w278)), 0, none⟩ 2) = some (.int .i64 n467) ∧
                        Calls Try.prog 42 #[.pointer q1, .int .i64 n466, .int .i64 n467] (World.setCell (World.setCell (World.setCell (World.setCell (World.setCell (World.setCell (World.alloc w278 (.cells #[.int .i64 0, .int .i64 0, .int .i64 0, .int .i64 0, .int .i64 0] 44)) (Addr.add ⟨(Array.size (World.heap w278)), 0, none⟩ 0) (.int .i64 n280)) (Addr.add ⟨(Array.size (World.heap w278)), 0, none⟩ 1) (.int .i64 n281)) (Addr.add ⟨(Array.size (World.heap w278)), 0, none⟩ 2) (.int .i64 n282)) (Addr.add ⟨(Array.size (World.heap w278)), 0, none⟩ 3) (.int .i64 n283)) (Addr.add ⟨(Array.size (World.heap w278)), 0, none⟩ 4) (.int .i64 n284)) (Addr.add p464 (Int.toNat n461 * 1)) (.int .i64 (IntKind.wrap .i64 (n463 + 1)))) (Ret [.leaf (.int .i64), .leaf (.int .i64)] fun (n468 : Int) (n469 : Int) (w470 : World) =>
                        Calls Try.prog 33 #[.int .i64 n469] w470 (Ret [.leaf (.int .i64)] fun (n471 : Int) (w472 : World) =>
                        IfB (!decide ((n471 : Int) = 0))
                        (K false w472)
                        (IfB (decide ((0 : Int) = 0))
                        (∃ (n473 : Int), World.cell? w472 (Addr.add ⟨(Array.size (World.heap w278)), 0, none⟩ 2) = some (.int .i64 n473) ∧
                        PtrOK a273 fun (p474 : Addr) =>
                        ((0 : Int) ≤ n473 ∧ n473 < (l273 : Int)) ∧
                        ∃ (n475 : Int), World.cell? w472 (Addr.add p474 (Int.toNat n473 * 1)) = some (.int .i64 n475) ∧
                        IfB (!decide ((n468 : Int) = n475))
                        (K false w472)
                        (IfB (!decide ((0 : Int) = 0))
                        (IfB (!decide ((n468 : Int) = 0))
                        (K false w472)
                        ((I275 (IntKind.wrap .i64 (n277 + 1)) w472 ∧
                        m276 (IntKind.wrap .i64 (n277 + 1)) w472 < m276 n277 w278)))
                        ((I275 (IntKind.wrap .i64 (n277 + 1)) w472 ∧
                        m276 (IntKind.wrap .i64 (n277 + 1)) w472 < m276 n277 w278))))
                        (IfB (!decide ((0 : Int) = 0))
                        (IfB (!decide ((n468 : Int) = 0))
                        (K false w472)
                        ((I275 (IntKind.wrap .i64 (n277 + 1)) w472 ∧
                        m276 (IntKind.wrap .i64 (n277 + 1)) w472 < m276 n277 w278)))
                        ((I275 (IntKind.wrap .i64 (n277 + 1)) w472 ∧
                        m276 (IntKind.wrap .i64 (n277 + 1)) w472 < m276 n277 w278)))))))
                        (IfB (decide ((n465 : Int) = 1))
                        (∃ (n476 : Int), World.cell? (World.setCell (World.setCell (World.setCell (World.setCell (World.setCell (World.setCell (World.alloc w278 (.cells #[.int .i64 0, .int .i64 0, .int .i64 0, .int .i64 0, .int .i64 0] 44)) (Addr.add ⟨(Array.size (World.heap w278)), 0, none⟩ 0) (.int .i64 n280)) (Addr.add ⟨(Array.size (World.heap w278)), 0, none⟩ 1) (.int .i64 n281)) (Addr.add ⟨(Array.size (World.heap w278)), 0, none⟩ 2) (.int .i64 n282)) (Addr.add ⟨(Array.size (World.heap w278)), 0, none⟩ 3) (.int .i64 n283)) (Addr.add ⟨(Array.size (World.heap w278)), 0, none⟩ 4) (.int .i64 n284)) (Addr.add p464 (Int.toNat n461 * 1)) (.int .i64 (IntKind.wrap .i64 (n463 + 1)))) (Addr.add ⟨(Array.size (World.heap w278)), 0, none⟩ 1) = some (.int .i64 n476) ∧
                        ∃ (n477 : Int), World.cell? (World.setCell (World.setCell (World.setCell (World.setCell (World.setCell (World.setCell (World.alloc w278 (.cells #[.int .i64 0, .int .i64 0, .int .i64 0, .int .i64 0, .int .i64 0] 44)) (Addr.add ⟨(Array.size (World.heap w278)), 0, none⟩ 0) (.int .i64 n280)) (Addr.add ⟨(Array.size (World.heap w278)), 0, none⟩ 1) (.int .i64 n281)) (Addr.add ⟨(Array.size (World.heap w278)), 0, none⟩ 2) (.int .i64 n282)) (Addr.add ⟨(Array.size (World.heap w278)), 0, none⟩ 3) (.int .i64 n283)) (Addr.add ⟨(Array.size (World.heap w278)), 0, none⟩ 4) (.int .i64 n284)) (Addr.add p464 (Int.toNat n461 * 1)) (.int .i64 (IntKind.wrap .i64 (n463 + 1)))) (Addr.add ⟨(Array.size (World.heap w278)), 0, none⟩ 2) = some (.int .i64 n477) ∧
                        ∃ (n478 : Int), World.cell? (World.setCell (World.setCell (World.setCell (World.setCell (World.setCell (World.setCell (World.alloc w278 (.cells #[.int .i64 0, .int .i64 0, .int .i64 0, .int .i64 0, .int .i64 0] 44)) (Addr.add ⟨(Array.size (World.heap w278)), 0, none⟩ 0) (.int .i64 n280)) (Addr.add ⟨(Array.size (World.heap w278)), 0, none⟩ 1) (.int .i64 n281)) (Addr.add ⟨(Array.size (World.heap w278)), 0, none⟩ 2) (.int .i64 n282)) (Addr.add ⟨(Array.size (World.heap w278)), 0, none⟩ 3) (.int .i64 n283)) (Addr.add ⟨(Array.size (World.heap w278)), 0, none⟩ 4) (.int .i64 n284)) (Addr.add p464 (Int.toNat n461 * 1)) (.int .i64 (IntKind.wrap .i64 (n463 + 1)))) (Addr.add ⟨(Array.size (World.heap w278)), 0, none⟩ 4) = some (.int .i64 n478) ∧
                        Calls Try.prog 43 #[.pointer q1, .int .i64 n476, .int .i64 n477, .int .i64 n478] (World.setCell (World.setCell (World.setCell (World.setCell (World.setCell (World.setCell (World.alloc w278 (.cells #[.int .i64 0, .int .i64 0, .int .i64 0, .int .i64 0, .int .i64 0] 44)) (Addr.add ⟨(Array.size (World.heap w278)), 0, none⟩ 0) (.int .i64 n280)) (Addr.add ⟨(Array.size (World.heap w278)), 0, none⟩ 1) (.int .i64 n281)) (Addr.add ⟨(Array.size (World.heap w278)), 0, none⟩ 2) (.int .i64 n282)) (Addr.add ⟨(Array.size (World.heap w278)), 0, none⟩ 3) (.int .i64 n283)) (Addr.add ⟨(Array.size (World.heap w278)), 0, none⟩ 4) (.int .i64 n284)) (Addr.add p464 (Int.toNat n461 * 1)) (.int .i64 (IntKind.wrap .i64 (n463 + 1)))) (Ret [.leaf (.int .i64)] fun (n479 : Int) (w480 : World) =>
                        IfB (decide ((0 : Int) = 0))
                        (∃ (n481 : Int), World.cell? w480 (Addr.add ⟨(Array.size (World.heap w278)), 0, none⟩ 2) = some (.int .i64 n481) ∧
                        ∃ (n482 : Int), World.cell? w480 (Addr.add ⟨(Array.size (World.heap w278)), 0, none⟩ 4) = some (.int .i64 n482) ∧
                        PtrOK a273 fun (p483 : Addr) =>
                        ((0 : Int) ≤ n481 ∧ n481 < (l273 : Int)) ∧
                        May w480 (Addr.add p483 (Int.toNat n481 * 1)) ∧
                        Calls Try.prog 33 #[.int .i64 n479] (World.setCell w480 (Addr.add p483 (Int.toNat n481 * 1)) (.int .i64 n482)) (Ret [.leaf (.int .i64)] fun (n484 : Int) (w485 : World) =>
                        IfB (!decide ((n484 : Int) = 0))
                        (K false w485)
                        ((I275 (IntKind.wrap .i64 (n277 + 1)) w485 ∧
                        m276 (IntKind.wrap .i64 (n277 + 1)) w485 < m276 n277 w278))))
                        (Calls Try.prog 33 #[.int .i64 n479] w480 (Ret [.leaf (.int .i64)] fun (n486 : Int) (w487 : World) =>
                        IfB (!decide ((n486 : Int) = 0))
                        (K false w487)
                        ((I275 (IntKind.wrap .i64 (n277 + 1)) w487 ∧
                        m276 (IntKind.wrap .i64 (n277 + 1)) w487 < m276 n277 w278))))))
                        (∃ (n488 : Int), World.cell? (World.setCell (World.setCell (World.setCell (World.setCell (World.setCell (World.setCell (World.alloc w278 (.cells #[.int .i64 0, .int .i64 0, .int .i64 0, .int .i64 0, .int .i64 0] 44)) (Addr.add ⟨(Array.size (World.heap w278)), 0, none⟩ 0) (.int .i64 n280)) (Addr.add ⟨(Array.size (World.heap w278)), 0, none⟩ 1) (.int .i64 n281)) (Addr.add ⟨(Array.size (World.heap w278)), 0, none⟩ 2) (.int .i64 n282)) (Addr.add ⟨(Array.size (World.heap w278)), 0, none⟩ 3) (.int .i64 n283)) (Addr.add ⟨(Array.size (World.heap w278)), 0, none⟩ 4) (.int .i64 n284)) (Addr.add p464 (Int.toNat n461 * 1)) (.int .i64 (IntKind.wrap .i64 (n463 + 1)))) (Addr.add ⟨(Array.size (World.heap w278)), 0, none⟩ 1) = some (.int .i64 n488) ∧
                        ∃ (n489 : Int), World.cell? (World.setCell (World.setCell (World.setCell (World.setCell (World.setCell (World.setCell (World.alloc w278 (.cells #[.int .i64 0, .int .i64 0, .int .i64 0, .int .i64 0, .int .i64 0] 44)) (Addr.add ⟨(Array.size (World.heap w278)), 0, none⟩ 0) (.int .i64 n280)) (Addr.add ⟨(Array.size (World.heap w278)), 0, none⟩ 1) (.int .i64 n281)) (Addr.add ⟨(Array.size (World.heap w278)), 0, none⟩ 2) (.int .i64 n282)) (Addr.add ⟨(Array.size (World.heap w278)), 0, none⟩ 3) (.int .i64 n283)) (Addr.add ⟨(Array.size (World.heap w278)), 0, none⟩ 4) (.int .i64 n284)) (Addr.add p464 (Int.toNat n461 * 1)) (.int .i64 (IntKind.wrap .i64 (n463 + 1)))) (Addr.add ⟨(Array.size (World.heap w278)), 0, none⟩ 2) = some (.int .i64 n489) ∧
                        ∃ (n490 : Int), World.cell? (World.setCell (World.setCell (World.setCell (World.setCell (World.setCell (World.setCell (World.alloc w278 (.cells #[.int .i64 0, .int .i64 0, .int .i64 0, .int .i64 0, .int .i64 0] 44)) (Addr.add ⟨(Array.size (World.heap w278)), 0, none⟩ 0) (.int .i64 n280)) (Addr.add ⟨(Array.size (World.heap w278)), 0, none⟩ 1) (.int .i64 n281)) (Addr.add ⟨(Array.size (World.heap w278)), 0, none⟩ 2) (.int .i64 n282)) (Addr.add ⟨(Array.size (World.heap w278)), 0, none⟩ 3) (.int .i64 n283)) (Addr.add ⟨(Array.size (World.heap w278)), 0, none⟩ 4) (.int .i64 n284)) (Addr.add p464 (Int.toNat n461 * 1)) (.int .i64 (IntKind.wrap .i64 (n463 + 1)))) (Addr.add ⟨(Array.size (World.heap w278)), 0, none⟩ 3) = some (.int .i64 n490) ∧
                        ∃ (n491 : Int), World.cell? (World.setCell (World.setCell (World.setCell (World.setCell (World.setCell (World.setCell (World.alloc w278 (.cells #[.int .i64 0, .int .i64 0, .int .i64 0, .int .i64 0, .int .i64 0] 44)) (Addr.add ⟨(Array.size (World.heap w278)), 0, none⟩ 0) (.int .i64 n280)) (Addr.add ⟨(Array.size (World.heap w278)), 0, none⟩ 1) (.int .i64 n281)) (Addr.add ⟨(Array.size (World.heap w278)), 0, none⟩ 2) (.int .i64 n282)) (Addr.add ⟨(Array.size (World.heap w278)), 0, none⟩ 3) (.int .i64 n283)) (Addr.add ⟨(Array.size (World.heap w278)), 0, none⟩ 4) (.int .i64 n284)) (Addr.add p464 (Int.toNat n461 * 1)) (.int .i64 (IntKind.wrap .i64 (n463 + 1)))) (Addr.add ⟨(Array.size (World.heap w278)), 0, none⟩ 4) = some (.int .i64 n491) ∧
                        Calls Try.prog 44 #[.pointer q1, .int .i64 n488, .int .i64 n489, .int .i64 n490, .int .i64 n491] (World.setCell (World.setCell (World.setCell (World.setCell (World.setCell (World.setCell (World.alloc w278 (.cells #[.int .i64 0, .int .i64 0, .int .i64 0, .int .i64 0, .int .i64 0] 44)) (Addr.add ⟨(Array.size (World.heap w278)), 0, none⟩ 0) (.int .i64 n280)) (Addr.add ⟨(Array.size (World.heap w278)), 0, none⟩ 1) (.int .i64 n281)) (Addr.add ⟨(Array.size (World.heap w278)), 0, none⟩ 2) (.int .i64 n282)) (Addr.add ⟨(Array.size (World.heap w278)), 0, none⟩ 3) (.int .i64 n283)) (Addr.add ⟨(Array.size (World.heap w278)), 0, none⟩ 4) (.int .i64 n284)) (Addr.add p464 (Int.toNat n461 * 1)) (.int .i64 (IntKind.wrap .i64 (n463 + 1)))) (Ret [.leaf .bool, .leaf (.int .i64)] fun (b492 : Bool) (n493 : Int) (w494 : World) =>
                        IfB (decide ((0 : Int) = 0))
                        (∃ (n495 : Int), World.cell? (World.drew w494) (Addr.add ⟨(Array.size (World.heap w278)), 0, none⟩ 2) = some (.int .i64 n495) ∧
                        PtrOK a273 fun (p496 : Addr) =>
                        ((0 : Int) ≤ n495 ∧ n495 < (l273 : Int)) ∧
                        ∃ (n497 : Int), World.cell? (World.drew w494) (Addr.add p496 (Int.toNat n495 * 1)) = some (.int .i64 n497) ∧
                        ∃ (n498 : Int), World.cell? (World.drew w494) (Addr.add ⟨(Array.size (World.heap w278)), 0, none⟩ 3) = some (.int .i64 n498) ∧
                        IfB (decide ((n497 : Int) = n498))
                        (∃ (n499 : Int), World.cell? (World.drew w494) (Addr.add ⟨(Array.size (World.heap w278)), 0, none⟩ 2) = some (.int .i64 n499) ∧
                        ∃ (n500 : Int), World.cell? (World.drew w494) (Addr.add ⟨(Array.size (World.heap w278)), 0, none⟩ 4) = some (.int .i64 n500) ∧
                        PtrOK a273 fun (p501 : Addr) =>
                        ((0 : Int) ≤ n499 ∧ n499 < (l273 : Int)) ∧
                        May (World.drew w494) (Addr.add p501 (Int.toNat n499 * 1)) ∧
                        Calls Try.prog 33 #[.int .i64 n493] (World.setCell (World.drew w494) (Addr.add p501 (Int.toNat n499 * 1)) (.int .i64 n500)) (Ret [.leaf (.int .i64)] fun (n502 : Int) (w503 : World) =>
                        IfB (!decide ((n502 : Int) = 0))
                        (K false w503)
                        (IfB (!(b492 == (decide ((n497 : Int) = n498))))
                        (K false w503)
                        ((I275 (IntKind.wrap .i64 (n277 + 1)) w503 ∧
                        m276 (IntKind.wrap .i64 (n277 + 1)) w503 < m276 n277 w278)))))
                        (Calls Try.prog 33 #[.int .i64 n493] (World.drew w494) (Ret [.leaf (.int .i64)] fun (n504 : Int) (w505 : World) =>
                        IfB (!decide ((n504 : Int) = 0))
                        (K false w505)
                        (IfB (!(b492 == (decide ((n497 : Int) = n498))))
                        (K false w505)
                        ((I275 (IntKind.wrap .i64 (n277 + 1)) w505 ∧
                        m276 (IntKind.wrap .i64 (n277 + 1)) w505 < m276 n277 w278))))))
                        (Calls Try.prog 33 #[.int .i64 n493] (World.drew w494) (Ret [.leaf (.int .i64)] fun (n506 : Int) (w507 : World) =>
                        IfB (!decide ((n506 : Int) = 0))
                        (K false w507)
                        (IfB (!(b492 == false))
                        (K false w507)
                        ((I275 (IntKind.wrap .i64 (n277 + 1)) w507 ∧
                        m276 (IntKind.wrap .i64 (n277 + 1)) w507 < m276 n277 w278)))))))))))))
                  (Calls Try.prog 33 #[.int .i64 n2] w278 (Ret [.leaf (.int .i64)] fun (n508 : Int) (w509 : World) =>
                      IfB (decide ((n508 : Int) = 0))
                      (Calls Try.prog 45 #[.pointer q1, .slice a273 l273 c273, .slice a271 l271 c271] w509 (Ret [.leaf .bool] fun (b510 : Bool) (w511 : World) =>
                        IfB b510
                        (Calls Try.prog 41 #[] w511 (Ret [.leaf .bool] fun (b512 : Bool) (w513 : World) =>
                        K b512 w513))
                        (K false w511)))
                      (K false w509))))
                (Calls Try.prog 33 #[.int .i64 n2] w278 (Ret [.leaf (.int .i64)] fun (n514 : Int) (w515 : World) =>
                    IfB (decide ((n514 : Int) = 0))
                    (Calls Try.prog 45 #[.pointer q1, .slice a273 l273 c273, .slice a271 l271 c271] w515 (Ret [.leaf .bool] fun (b516 : Bool) (w517 : World) =>
                        IfB b516
                        (Calls Try.prog 41 #[] w517 (Ret [.leaf .bool] fun (b518 : Bool) (w519 : World) =>
                        K b518 w519))
                        (K false w517)))
                    (K false w515))))))))))

theorem e_f5 (words : Int) (agents : Int) (stepsa : Option Addr) (stepsl stepsc : Nat) (w : World) (K : Bool → World → Prop) : (V_f5 words agents stepsa stepsl stepsc w K) = vcF Try.prog (Cfg.mk false (fun _ => [])) (fun n => bif Nat.beq n 0 then some ⟨[11], [.int .i64]⟩ else none) (fun _ => none) (fun n => bif Nat.beq n 19 then some 13 else none) Try.f5 [.int .i64 words, .int .i64 agents, .slice stepsa stepsl stepsc] [.leaf .bool] K w := by kernel_rfl
theorem r_f5 (words : Int) (agents : Int) (stepsa : Option Addr) (stepsl stepsc : Nat) (w : World) (K : Bool → World → Prop) (h : V_f5 words agents stepsa stepsl stepsc w K) : Calls Try.prog 5 #[.int .i64 words, .int .i64 agents, .slice stepsa stepsl stepsc] w (Ret [.leaf .bool] K) :=
  @calls_of_vcF Try.prog 5 Try.f5 [.int .i64 words, .int .i64 agents, .slice stepsa stepsl stepsc] w [.leaf .bool] K (Cfg.mk false (fun _ => [])) (fun n => bif Nat.beq n 0 then some ⟨[11], [.int .i64]⟩ else none) (fun _ => none) (fun n => bif Nat.beq n 19 then some 13 else none) Try.func5 (by kernel_rfl) ((e_f5 words agents stepsa stepsl stepsc w K).mp h)

/-- gneiss/gneisslaw3.ArenaSwaps -/
def V_f6 (agents : Int) (rounds : Int) (w : World) (K : Bool → World → Prop) : Prop :=
  Calls Try.prog 41 #[] w (Ret [.leaf .bool] fun (b1 : Bool) (w2 : World) =>
    IfB (!b1)
    (K false w2)
    (Fit .i64 (1 + (bits .and .i64 agents 7)) ∧
      Calls Try.prog 40 #[.int .i64 1, .int .i64 (1 + (bits .and .i64 agents 7))] w2 (Ret [.leaf .ptr, .leaf (.int .i64)] fun (q3 : Option Addr) (n4 : Int) (w5 : World) =>
        ∃ (I6 : Int → Int → World → Prop) (m7 : Int → Int → World → Nat),
        I6 0 0 w5 ∧
        ∀ (_ : Env) (n8 : Int) (n9 : Int) (w10 : World), I6 n8 n9 w10 →
        Fit .i64 (1 + (bits .and .i64 rounds 31)) ∧
        IfB (decide ((n9 : Int) < (1 + (bits .and .i64 rounds 31))))
        (((1 + (bits .and .i64 agents 7)) : Int) ≠ 0 ∧
          Calls Try.prog 42 #[.pointer q3, .int .i64 (Int.tmod n9 (1 + (bits .and .i64 agents 7))), .int .i64 0] w10 (Ret [.leaf (.int .i64), .leaf (.int .i64)] fun (n11 : Int) (n12 : Int) (w13 : World) =>
            Calls Try.prog 33 #[.int .i64 n12] w13 (Ret [.leaf (.int .i64)] fun (n14 : Int) (w15 : World) =>
              IfB (!decide ((n14 : Int) = 0))
              (K false w15)
              (IfB (!decide ((n11 : Int) = n8))
                (K false w15)
                (∃ (I16 : Int → World → Prop) (m17 : Int → World → Nat),
                  I16 0 w15 ∧
                  ∀ (_ : Env) (n18 : Int) (w19 : World), I16 n18 w19 →
                  IfB (decide ((n18 : Int) < (1 + (bits .and .i64 agents 7))))
                  (Fit .i64 (n11 + 1) ∧
                    Calls Try.prog 44 #[.pointer q3, .int .i64 n18, .int .i64 0, .int .i64 n11, .int .i64 (n11 + 1)] w19 (Ret [.leaf .bool, .leaf (.int .i64)] fun (b20 : Bool) (n21 : Int) (w22 : World) =>
                      Calls Try.prog 33 #[.int .i64 n21] w22 (Ret [.leaf (.int .i64)] fun (n23 : Int) (w24 : World) =>
                        IfB (!decide ((n23 : Int) = 0))
                        (K false w24)
                        (IfB (!(b20 == (decide ((n18 : Int) = 0))))
                        (K false w24)
                        (Fit .i64 (n18 + 1) ∧
                        (I16 (n18 + 1) w24 ∧
                        m17 (n18 + 1) w24 < m17 n18 w19))))))
                  (Fit .i64 (n8 + 1) ∧
                    Fit .i64 (n9 + 1) ∧
                    (I6 (n8 + 1) (n9 + 1) w19 ∧
                      m7 (n8 + 1) (n9 + 1) w19 < m7 n8 n9 w10)))))))
        (Calls Try.prog 42 #[.pointer q3, .int .i64 0, .int .i64 0] w10 (Ret [.leaf (.int .i64), .leaf (.int .i64)] fun (n25 : Int) (n26 : Int) (w27 : World) =>
            Calls Try.prog 33 #[.int .i64 n4] w27 (Ret [.leaf (.int .i64)] fun (n28 : Int) (w29 : World) =>
              IfB (decide ((n28 : Int) = 0))
              (Calls Try.prog 33 #[.int .i64 n26] w29 (Ret [.leaf (.int .i64)] fun (n30 : Int) (w31 : World) =>
                  IfB (decide ((n30 : Int) = 0))
                  (K (decide ((n25 : Int) = n8)) w31)
                  (K false w31)))
              (K false w29)))))))

theorem e_f6 (agents : Int) (rounds : Int) (w : World) (K : Bool → World → Prop) : (V_f6 agents rounds w K) = vcF Try.prog (Cfg.mk true (fun _ => [])) (fun n => bif Nat.beq n 0 then some ⟨[8, 9], [.int .i64, .int .i64]⟩ else bif Nat.beq n 2 then some ⟨[12], [.int .i64]⟩ else none) (fun _ => none) (fun _ => none) Try.f6 [.int .i64 agents, .int .i64 rounds] [.leaf .bool] K w := by kernel_rfl
theorem r_f6 (agents : Int) (rounds : Int) (w : World) (K : Bool → World → Prop) (h : V_f6 agents rounds w K) : Calls Try.prog 6 #[.int .i64 agents, .int .i64 rounds] w (Ret [.leaf .bool] K) :=
  @calls_of_vcF Try.prog 6 Try.f6 [.int .i64 agents, .int .i64 rounds] w [.leaf .bool] K (Cfg.mk true (fun _ => [])) (fun n => bif Nat.beq n 0 then some ⟨[8, 9], [.int .i64, .int .i64]⟩ else bif Nat.beq n 2 then some ⟨[12], [.int .i64]⟩ else none) (fun _ => none) (fun _ => none) Try.func6 (by kernel_rfl) ((e_f6 agents rounds w K).mp h)

/-- gneiss/gneisslaw3.holds -/
def V_f45 (a : Addr) (wsa : Option Addr) (wsl wsc : Nat) (countsa : Option Addr) (countsl countsc : Nat) (w : World) (K : Bool → World → Prop) : Prop :=
  ∃ (I1 : Int → World → Prop) (m2 : Int → World → Nat),
  I1 (-1) w ∧
  ∀ (_ : Env) (n3 : Int) (w4 : World), I1 n3 w4 →
  IfB (decide ((n3 : Int) ≤ (countsl : Int)))
  (IfB (decide ((0 : Int) ≤ n3))
    (IfB (decide ((n3 : Int) < (countsl : Int)))
      (PtrOK countsa fun (p5 : Addr) =>
        ((0 : Int) ≤ n3 ∧ n3 < (countsl : Int)) ∧
        ∃ (n6 : Int), World.cell? w4 (Addr.add p5 (Int.toNat n3 * 1)) = some (.int .i64 n6) ∧
        Calls Try.prog 128 #[.pointer (some a), .int .i64 n3] w4 (Ret [.leaf (.int .i64)] fun (n7 : Int) (w8 : World) =>
          IfB (!decide ((n7 : Int) = n6))
          (K false w8)
          (Fit .i64 (n3 + 1) ∧
            (I1 (n3 + 1) w8 ∧
              m2 (n3 + 1) w8 < m2 n3 w4))))
      (Calls Try.prog 128 #[.pointer (some a), .int .i64 n3] w4 (Ret [.leaf (.int .i64)] fun (n9 : Int) (w10 : World) =>
          IfB (!decide ((n9 : Int) = 0))
          (K false w10)
          (Fit .i64 (n3 + 1) ∧
            (I1 (n3 + 1) w10 ∧
              m2 (n3 + 1) w10 < m2 n3 w4)))))
    (Calls Try.prog 128 #[.pointer (some a), .int .i64 n3] w4 (Ret [.leaf (.int .i64)] fun (n11 : Int) (w12 : World) =>
        IfB (!decide ((n11 : Int) = 0))
        (K false w12)
        (Fit .i64 (n3 + 1) ∧
          (I1 (n3 + 1) w12 ∧
            m2 (n3 + 1) w12 < m2 n3 w4)))))
  (∃ (I13 : Int → World → Prop) (m14 : Int → World → Nat),
    I13 0 w4 ∧
    ∀ (_ : Env) (n15 : Int) (w16 : World), I13 n15 w16 →
    IfB (decide ((n15 : Int) < (wsl : Int)))
    (Calls Try.prog 42 #[.pointer (some a), .int .i64 0, .int .i64 n15] w16 (Ret [.leaf (.int .i64), .leaf (.int .i64)] fun (n17 : Int) (n18 : Int) (w19 : World) =>
        Calls Try.prog 33 #[.int .i64 n18] w19 (Ret [.leaf (.int .i64)] fun (n20 : Int) (w21 : World) =>
          IfB (!decide ((n20 : Int) = 0))
          (K false w21)
          (PtrOK wsa fun (p22 : Addr) =>
            ((0 : Int) ≤ n15 ∧ n15 < (wsl : Int)) ∧
            ∃ (n23 : Int), World.cell? w21 (Addr.add p22 (Int.toNat n15 * 1)) = some (.int .i64 n23) ∧
            IfB (!decide ((n17 : Int) = n23))
            (K false w21)
            (Fit .i64 (n15 + 1) ∧
              (I13 (n15 + 1) w21 ∧
                m14 (n15 + 1) w21 < m14 n15 w16))))))
    (Calls Try.prog 129 #[.pointer (some a)] w16 (Ret [.leaf (.int .i64)] fun (n24 : Int) (w25 : World) =>
        K (decide ((n24 : Int) = (wsl : Int))) w25)))

theorem e_f45 (a : Addr) (wsa : Option Addr) (wsl wsc : Nat) (countsa : Option Addr) (countsl countsc : Nat) (w : World) (K : Bool → World → Prop) : (V_f45 a wsa wsl wsc countsa countsl countsc w K) = vcF Try.prog (Cfg.mk true (fun _ => [])) (fun n => bif Nat.beq n 0 then some ⟨[7], [.int .i64]⟩ else bif Nat.beq n 2 then some ⟨[9], [.int .i64]⟩ else none) (fun _ => none) (fun _ => none) Try.f45 [.pointer (some a), .slice wsa wsl wsc, .slice countsa countsl countsc] [.leaf .bool] K w := by kernel_rfl
theorem r_f45 (a : Addr) (wsa : Option Addr) (wsl wsc : Nat) (countsa : Option Addr) (countsl countsc : Nat) (w : World) (K : Bool → World → Prop) (h : V_f45 a wsa wsl wsc countsa countsl countsc w K) : Calls Try.prog 45 #[.pointer (some a), .slice wsa wsl wsc, .slice countsa countsl countsc] w (Ret [.leaf .bool] K) :=
  @calls_of_vcF Try.prog 45 Try.f45 [.pointer (some a), .slice wsa wsl wsc, .slice countsa countsl countsc] w [.leaf .bool] K (Cfg.mk true (fun _ => [])) (fun n => bif Nat.beq n 0 then some ⟨[7], [.int .i64]⟩ else bif Nat.beq n 2 then some ⟨[9], [.int .i64]⟩ else none) (fun _ => none) (fun _ => none) Try.func45 (by kernel_rfl) ((e_f45 a wsa wsl wsc countsa countsl countsc w K).mp h)

end Go.Proofs.Ytfpghcdjfiggiaa.V
