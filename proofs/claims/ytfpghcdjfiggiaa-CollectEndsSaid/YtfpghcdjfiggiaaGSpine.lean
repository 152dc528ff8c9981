/- Readings of the program's functions. No condition. -/
import Derived.Test.YtfpghcdjfiggiaaGCfg
namespace Go.Proofs.Ytfpghcdjfiggiaa.V
open Go
set_option maxRecDepth 100000
set_option linter.unusedVariables false
/-- gneiss/spine.New -/
def V_f146 (a : Nat) (base : Int) (words : Int) (w : World) (K : Option Addr → Int → World → Prop) : Prop :=
 IfB (decide ((words : Int) < 32))
 (K none 700 w)
 (C132 (some ⟨a, 0, none⟩) base words w fun b1 w2 =>
 IfB (!b1)
 (K none 700 w2)
 ((2 : Int) ≠ 0 ∧
 Fit .i64 (Int.tdiv words 2) ∧
 ∀ (b3 : Nat) (w4 : World), NewMap w2 w4 b3 →
 ∀ (b5 : Nat) (w6 : World), NewAt w4 w6 b5 #[.pointer (some ⟨a, 0, none⟩), .int .i64 base, .int .i64 (Int.tdiv words 2), .bool false, .int .i64 0, .map (some b3), .int .i64 0, .int .i64 0, .int .i64 0, .slice none 0 0, .bool false] 187 →
 K (some ⟨b5, 0, none⟩) 0 w6))
theorem r_f146 (a : Nat) (base : Int) (words : Int) (w : World) (K : Option Addr → Int → World → Prop) (h : V_f146 a base words w K) : C146 (some ⟨a, 0, none⟩) base words w K :=
  @calls_of_eq Try.prog 146 Try.f146 [.pointer (some ⟨a, 0, none⟩), .int .i64 base, .int .i64 words] w [.leaf .ptr, .leaf (.int .i64)] K _ (cfg true (fun _ => [])) (fun _ => none) (fun _ => none) (fun _ => none) Try.func146 (by kernel_rfl) (by kernel_rfl) h

/-- (*gneiss/spine.Space).begin -/
def V_f147 (s : Nat) (other : Bool) (w : World) (K : Int → World → Prop) : Prop :=
 IfB other
 (∀ w1 : World, Drew w w1 →
 ∃ (n2 : Int), World.cell? w1 ⟨s, 1, none⟩ = some (.int .i64 n2) ∧
 ∃ (n3 : Int), World.cell? w1 ⟨s, 2, none⟩ = some (.int .i64 n3) ∧
 Fit .i64 (n2 + n3) ∧
 K (n2 + n3) w1)
 (∃ (n4 : Int), World.cell? w ⟨s, 1, none⟩ = some (.int .i64 n4) ∧
 K n4 w)
theorem r_f147 (s : Nat) (other : Bool) (w : World) (K : Int → World → Prop) (h : V_f147 s other w K) : C147 (some ⟨s, 0, none⟩) other w K :=
  @calls_of_eq Try.prog 147 Try.f147 [.pointer (some ⟨s, 0, none⟩), .bool other] w [.leaf (.int .i64)] K _ (cfg true (fun _ => [])) (fun _ => none) (fun _ => none) (fun n => bif Nat.beq n 2 then some 10 else none) Try.func147 (by kernel_rfl) (by kernel_rfl) h

/-- (*gneiss/spine.Space).find -/
def V_f148 (s : Nat) (agent : Int) (id : Int) (i : Int) (w : World) (K : Option Addr → Int → World → Prop) : Prop :=
 ∃ (m1 : Option Nat), World.cell? w ⟨s, 5, none⟩ = some (.map m1) ∧
 RunF Try.prog (Instr.lookup 185 (.map m1) (.int .i64 id) true) w [.leaf .ptr, .leaf .bool] fun (q2 : Option Addr) (b3 : Bool) (w4 : World) =>
 ∃ (q5 : Option Addr), World.cell? w4 ⟨s, 0, none⟩ = some (.pointer q5) ∧
 C135 q5 agent w4 fun b6 w7 =>
 IfB (!b6)
 (K none 704 w7)
 (IfB (!b3)
 (K none 704 w7)
 (IfB (decide ((i : Int) < 0))
 (K none 703 w7)
 (PtrOK q2 fun (p8 : Addr) =>
 ∃ (n9 : Int), World.cell? w7 (Addr.add p8 0) = some (.int .i64 n9) ∧
 IfB (decide ((n9 : Int) ≤ i))
 (K none 703 w7)
 (K q2 0 w7))))
theorem r_f148 (s : Nat) (agent : Int) (id : Int) (i : Int) (w : World) (K : Option Addr → Int → World → Prop) (h : V_f148 s agent id i w K) : C148 (some ⟨s, 0, none⟩) agent id i w K :=
  @calls_of_eq Try.prog 148 Try.f148 [.pointer (some ⟨s, 0, none⟩), .int .i64 agent, .int .i64 id, .int .i64 i] w [.leaf .ptr, .leaf (.int .i64)] K _ (cfg true (fun _ => [])) (fun _ => none) (fun _ => none) (fun _ => none) Try.func148 (by kernel_rfl) (by kernel_rfl) h

/-- (*gneiss/spine.Space).Make -/
def V_f69 (s : Nat) (agent : Int) (n : Int) (w : World) (K : Int → Int → World → Prop) : Prop :=
 ∃ (q1 : Option Addr), World.cell? w ⟨s, 0, none⟩ = some (.pointer q1) ∧
 C135 q1 agent w fun b2 w3 =>
 IfB (!b2)
 (K 0 704 w3)
 (IfB (decide ((n : Int) < 0))
 (K 0 700 w3)
 (IfB (decide ((1000 : Int) < n))
 (K 0 700 w3)
 (Fit .i64 (n + 4) ∧
 C76 (some ⟨s, 0, none⟩) w3 fun n4 w5 =>
 IfB (decide ((n4 : Int) < (n + 4)))
 (K 0 702 w5)
 (∃ (n6 : Int), World.cell? w5 ⟨s, 6, none⟩ = some (.int .i64 n6) ∧
 Fit .i64 (n6 + 1) ∧
 May w5 ⟨s, 6, none⟩ ∧ ∀ w7 : World, SetC w5 w7 ⟨s, 6, none⟩ (.int .i64 (n6 + 1)) →
 ∃ M8 : Option Addr → World → Prop,
 (∀ w11 : World, Drew w7 w11 →
 ∃ (b12 : Bool), World.cell? w11 ⟨s, 3, none⟩ = some (.bool b12) ∧
 ∃ (b13 : Bool), World.cell? w11 ⟨s, 10, none⟩ = some (.bool b13) ∧
 (C147 (some ⟨s, 0, none⟩) (!(b12 == b13)) w11 fun n14 w15 =>
 ∃ (n16 : Int), World.cell? w15 ⟨s, 4, none⟩ = some (.int .i64 n16) ∧
 Fit .i64 (n14 + n16) ∧
 ∃ (b17 : Bool), World.cell? w15 ⟨s, 10, none⟩ = some (.bool b17) ∧
 ∀ (b18 : Nat) (w19 : World), NewAt w15 w19 b18 #[.int .i64 n, .int .i64 (n14 + n16), .int .i64 0, .int .i64 0, .bool b17] 191 →
 M8 (some ⟨b18, 0, none⟩) w19) ∧
 (∃ (n20 : Int), World.cell? w11 ⟨s, 4, none⟩ = some (.int .i64 n20) ∧
 (C147 (some ⟨s, 0, none⟩) (!(b12 == b13)) w11 fun n21 w22 =>
 Fit .i64 (n21 + n20) ∧
 ∃ (b23 : Bool), World.cell? w22 ⟨s, 10, none⟩ = some (.bool b23) ∧
 ∀ (b24 : Nat) (w25 : World), NewAt w22 w25 b24 #[.int .i64 n, .int .i64 (n21 + n20), .int .i64 0, .int .i64 0, .bool b23] 191 →
 M8 (some ⟨b24, 0, none⟩) w25) ∧
 (∃ (b26 : Bool), World.cell? w11 ⟨s, 10, none⟩ = some (.bool b26) ∧
 C147 (some ⟨s, 0, none⟩) (!(b12 == b13)) w11 fun n27 w28 =>
 Fit .i64 (n27 + n20) ∧
 ∀ (b29 : Nat) (w30 : World), NewAt w28 w30 b29 #[.int .i64 n, .int .i64 (n27 + n20), .int .i64 0, .int .i64 0, .bool b26] 191 →
 M8 (some ⟨b29, 0, none⟩) w30)) ∧
 (∃ (b31 : Bool), World.cell? w11 ⟨s, 10, none⟩ = some (.bool b31) ∧
 (C147 (some ⟨s, 0, none⟩) (!(b12 == b13)) w11 fun n32 w33 =>
 ∃ (n34 : Int), World.cell? w33 ⟨s, 4, none⟩ = some (.int .i64 n34) ∧
 Fit .i64 (n32 + n34) ∧
 ∀ (b35 : Nat) (w36 : World), NewAt w33 w36 b35 #[.int .i64 n, .int .i64 (n32 + n34), .int .i64 0, .int .i64 0, .bool b31] 191 →
 M8 (some ⟨b35, 0, none⟩) w36) ∧
 (∃ (n37 : Int), World.cell? w11 ⟨s, 4, none⟩ = some (.int .i64 n37) ∧
 C147 (some ⟨s, 0, none⟩) (!(b12 == b13)) w11 fun n38 w39 =>
 Fit .i64 (n38 + n37) ∧
 ∀ (b40 : Nat) (w41 : World), NewAt w39 w41 b40 #[.int .i64 n, .int .i64 (n38 + n37), .int .i64 0, .int .i64 0, .bool b31] 191 →
 M8 (some ⟨b40, 0, none⟩) w41))) ∧
 ∀ (_ : Env) (q9 : Option Addr) (w10 : World), M8 q9 w10 →
 ∃ (n42 : Int), World.cell? w10 ⟨s, 4, none⟩ = some (.int .i64 n42) ∧
 Fit .i64 (n + 4) ∧
 Fit .i64 (n42 + (n + 4)) ∧
 May w10 ⟨s, 4, none⟩ ∧ ∀ w43 : World, SetC w10 w43 ⟨s, 4, none⟩ (.int .i64 (n42 + (n + 4))) →
 ∃ (I44 : Int → World → Prop) (m45 : Int → World → Nat),
 I44 0 w43 ∧
 ∀ (_ : Env) (n46 : Int) (w47 : World), I44 n46 w47 →
 IfB (decide ((n46 : Int) < n))
 (∀ w48 : World, Drew w47 w48 →
 ∃ (q49 : Option Addr), World.cell? w48 ⟨s, 0, none⟩ = some (.pointer q49) ∧
 PtrOK q9 fun (p50 : Addr) =>
 ∃ (n51 : Int), World.cell? w48 (Addr.add p50 1) = some (.int .i64 n51) ∧
 Fit .i64 (n51 + 4) ∧
 Fit .i64 ((n51 + 4) + n46) ∧
 C43 q49 agent ((n51 + 4) + n46) 0 w48 fun n52 w53 =>
 Fit .i64 (n46 + 1) ∧
 (I44 (n46 + 1) w53 ∧
 m45 (n46 + 1) w53 < m45 n46 w47))
 (∀ w54 : World, Drew w47 w54 →
 ∃ (m55 : Option Nat), World.cell? w54 ⟨s, 5, none⟩ = some (.map m55) ∧
 ∃ (n56 : Int), World.cell? w54 ⟨s, 6, none⟩ = some (.int .i64 n56) ∧
 ∃ w57 : World, Sem.run Try.prog (Instr.mapUpdate 185 (.map m55) (.int .i64 n56) (.pointer q9)) w54 = .ok () w57 ∧
 ∃ (n58 : Int), World.cell? w57 ⟨s, 6, none⟩ = some (.int .i64 n58) ∧
 K n58 0 w57)))))
theorem r_f69 (s : Nat) (agent : Int) (n : Int) (w : World) (K : Int → Int → World → Prop) (h : V_f69 s agent n w K) : C69 (some ⟨s, 0, none⟩) agent n w K :=
  @calls_of_eq Try.prog 69 Try.f69 [.pointer (some ⟨s, 0, none⟩), .int .i64 agent, .int .i64 n] w [.leaf (.int .i64), .leaf (.int .i64)] K _ (cfg true (fun _ => [])) (fun n => bif Nat.beq n 1 then some ⟨[74], [.int .i64]⟩ else none) (fun n => bif Nat.beq n 11 then some ⟨[8], [.ptr]⟩ else none) (fun n => bif Nat.beq n 15 then some 12 else bif Nat.beq n 17 then some 9 else none) Try.func69 (by kernel_rfl) (by kernel_rfl) h

/-- (*gneiss/spine.Space).Set -/
def V_f70 (s : Nat) (agent : Int) (id : Int) (i : Int) (v : Int) (w : World) (K : Int → World → Prop) : Prop :=
 C148 (some ⟨s, 0, none⟩) agent id i w fun q1 n2 w3 =>
 IfB (!decide ((n2 : Int) = 0))
 (K n2 w3)
 (∃ M4 : World → Prop,
 (∃ (b6 : Bool), World.cell? w3 ⟨s, 10, none⟩ = some (.bool b6) ∧
 IfB b6
 (PtrOK q1 fun (p7 : Addr) =>
 ∃ (b8 : Bool), World.cell? w3 (Addr.add p7 4) = some (.bool b8) ∧
 IfB (!b8)
 (PtrOK q1 fun (p9 : Addr) =>
 ∃ (n10 : Int), World.cell? w3 (Addr.add p9 3) = some (.int .i64 n10) ∧
 IfB (decide ((i : Int) < n10))
 (∀ w11 : World, Drew w3 w11 →
 ∃ (q12 : Option Addr), World.cell? w11 ⟨s, 0, none⟩ = some (.pointer q12) ∧
 PtrOK q1 fun (p13 : Addr) =>
 ∃ (n14 : Int), World.cell? w11 (Addr.add p13 2) = some (.int .i64 n14) ∧
 Fit .i64 (n14 + 4) ∧
 Fit .i64 ((n14 + 4) + i) ∧
 C43 q12 agent ((n14 + 4) + i) v w11 fun n15 w16 =>
 M4 w16)
 (M4 w3))
 (M4 w3))
 (M4 w3)) ∧
 ∀ (_ : Env) (w5 : World), M4 w5 →
 ∀ w17 : World, Drew w5 w17 →
 ∃ (q18 : Option Addr), World.cell? w17 ⟨s, 0, none⟩ = some (.pointer q18) ∧
 PtrOK q1 fun (p19 : Addr) =>
 ∃ (n20 : Int), World.cell? w17 (Addr.add p19 1) = some (.int .i64 n20) ∧
 Fit .i64 (n20 + 4) ∧
 Fit .i64 ((n20 + 4) + i) ∧
 C43 q18 agent ((n20 + 4) + i) v w17 fun n21 w22 =>
 K n21 w22)
theorem r_f70 (s : Nat) (agent : Int) (id : Int) (i : Int) (v : Int) (w : World) (K : Int → World → Prop) (h : V_f70 s agent id i v w K) : C70 (some ⟨s, 0, none⟩) agent id i v w K :=
  @calls_of_eq Try.prog 70 Try.f70 [.pointer (some ⟨s, 0, none⟩), .int .i64 agent, .int .i64 id, .int .i64 i, .int .i64 v] w [.leaf (.int .i64)] K _ (cfg true (fun _ => [])) (fun _ => none) (fun n => bif Nat.beq n 6 then some ⟨[], []⟩ else none) (fun n => bif Nat.beq n 5 then some 13 else bif Nat.beq n 6 then some 13 else none) Try.func70 (by kernel_rfl) (by kernel_rfl) h

/-- (*gneiss/spine.Space).Drop -/
def V_f71 (s : Nat) (id : Int) (w : World) (K : Int → World → Prop) : Prop :=
 ∃ (m1 : Option Nat), World.cell? w ⟨s, 5, none⟩ = some (.map m1) ∧
 RunF Try.prog (Instr.lookup 185 (.map m1) (.int .i64 id) true) w [.leaf .ptr, .leaf .bool] fun (q2 : Option Addr) (b3 : Bool) (w4 : World) =>
 IfB (!b3)
 (K 704 w4)
 (∃ (m5 : Option Nat), World.cell? w4 ⟨s, 5, none⟩ = some (.map m5) ∧
 RunF Try.prog (Builtin.delete_ #[185, 3] 0 #[.map m5, .int .i64 id]) w4 [] fun (w6 : World) =>
 ∀ w7 : World, Drew w6 w7 →
 ∃ (n8 : Int), World.cell? w7 ⟨s, 7, none⟩ = some (.int .i64 n8) ∧
 PtrOK q2 fun (p9 : Addr) =>
 ∃ (n10 : Int), World.cell? w7 (Addr.add p9 0) = some (.int .i64 n10) ∧
 Fit .i64 (n10 + 4) ∧
 Fit .i64 (n8 + (n10 + 4)) ∧
 May w7 ⟨s, 7, none⟩ ∧ ∀ w11 : World, SetC w7 w11 ⟨s, 7, none⟩ (.int .i64 (n8 + (n10 + 4))) →
 ∃ (b12 : Bool), World.cell? w11 ⟨s, 10, none⟩ = some (.bool b12) ∧
 IfB b12
 (∀ w13 : World, Drew w11 w13 →
 ∃ (n14 : Int), World.cell? w13 ⟨s, 8, none⟩ = some (.int .i64 n14) ∧
 PtrOK q2 fun (p15 : Addr) =>
 ∃ (n16 : Int), World.cell? w13 (Addr.add p15 0) = some (.int .i64 n16) ∧
 Fit .i64 (n16 + 4) ∧
 Fit .i64 (n14 + (n16 + 4)) ∧
 May w13 ⟨s, 8, none⟩ ∧ ∀ w17 : World, SetC w13 w17 ⟨s, 8, none⟩ (.int .i64 (n14 + (n16 + 4))) →
 K 0 w17)
 (K 0 w11))
theorem r_f71 (s : Nat) (id : Int) (w : World) (K : Int → World → Prop) (h : V_f71 s id w K) : C71 (some ⟨s, 0, none⟩) id w K :=
  @calls_of_eq Try.prog 71 Try.f71 [.pointer (some ⟨s, 0, none⟩), .int .i64 id] w [.leaf (.int .i64)] K _ (cfg true (fun _ => [])) (fun _ => none) (fun _ => none) (fun n => bif Nat.beq n 7 then some 12 else bif Nat.beq n 9 then some 12 else none) Try.func71 (by kernel_rfl) (by kernel_rfl) h

/-- (*gneiss/spine.Space).Begin -/
def V_f72 (s : Nat) (w : World) (K : Int → World → Prop) : Prop :=
 ∃ (b1 : Bool), World.cell? w ⟨s, 10, none⟩ = some (.bool b1) ∧
 IfB b1
 (K 701 w)
 (May w ⟨s, 10, none⟩ ∧ ∀ w2 : World, SetC w w2 ⟨s, 10, none⟩ (.bool true) →
 May w2 ⟨s, 4, none⟩ ∧ ∀ w3 : World, SetC w2 w3 ⟨s, 4, none⟩ (.int .i64 0) →
 May w3 ⟨s, 8, none⟩ ∧ ∀ w4 : World, SetC w3 w4 ⟨s, 8, none⟩ (.int .i64 0) →
 May w4 ⟨s, 9, none⟩ ∧ ∀ w5 : World, SetC w4 w5 ⟨s, 9, none⟩ (.slice none 0 0) →
 ∃ M6 : World → Prop,
 (∃ (I8 : Int → World → Prop) (m9 : Int → World → Nat),
 I8 1 w5 ∧
 ∀ (_ : Env) (n10 : Int) (w11 : World), I8 n10 w11 →
 ∃ M12 : World → Prop,
 (∀ w14 : World, Drew w11 w14 →
 ∃ (n15 : Int), World.cell? w14 ⟨s, 6, none⟩ = some (.int .i64 n15) ∧
 IfB (decide ((n10 : Int) ≤ n15))
 (∃ (m16 : Option Nat), World.cell? w14 ⟨s, 5, none⟩ = some (.map m16) ∧
 (∃ (a17 : Option Addr) (l17 c17 : Nat), World.cell? w14 ⟨s, 9, none⟩ = some (.slice a17 l17 c17) ∧
 RunF Try.prog (Builtin.len_ #[185] 3 #[.map m16]) w14 [.leaf (.int .i64)] fun (n18 : Int) (w19 : World) =>
 IfB (decide (((l17 : Int) : Int) < n18))
 (M12 w19)
 (M6 w19)) ∧
 (RunF Try.prog (Builtin.len_ #[185] 3 #[.map m16]) w14 [.leaf (.int .i64)] fun (n20 : Int) (w21 : World) =>
 ∃ (a22 : Option Addr) (l22 c22 : Nat), World.cell? w21 ⟨s, 9, none⟩ = some (.slice a22 l22 c22) ∧
 IfB (decide (((l22 : Int) : Int) < n20))
 (M12 w21)
 (M6 w21)))
 ((M6 w14) ∧
 (M6 w14))) ∧
 ∀ (_ : Env) (w13 : World), M12 w13 →
 ∃ (m23 : Option Nat), World.cell? w13 ⟨s, 5, none⟩ = some (.map m23) ∧
 RunF Try.prog (Instr.lookup 185 (.map m23) (.int .i64 n10) true) w13 [.leaf .ptr, .leaf .bool] fun (q24 : Option Addr) (b25 : Bool) (w26 : World) =>
 IfB b25
 (PtrOK q24 fun (p27 : Addr) =>
 May w26 (Addr.add p27 4) ∧ ∀ w28 : World, SetC w26 w28 (Addr.add p27 4) (.bool false) →
 ∃ (a29 : Option Addr) (l29 c29 : Nat), World.cell? w28 ⟨s, 9, none⟩ = some (.slice a29 l29 c29) ∧
 ∀ (b30 : Nat) (w31 : World), NewAt w28 w31 b30 #[.int .i64 n10] 3 →
 RunF Try.prog (Builtin.append_ #[42, 42] 42 #[.slice a29 l29 c29, .slice (some ⟨b30, 0, none⟩) 1 1]) w31 [.leaf .slice] fun (a32 : Option Addr) (l32 c32 : Nat) (w33 : World) =>
 May w33 ⟨s, 9, none⟩ ∧ ∀ w34 : World, SetC w33 w34 ⟨s, 9, none⟩ (.slice a32 l32 c32) →
 Fit .i64 (n10 + 1) ∧
 (I8 (n10 + 1) w34 ∧
 m9 (n10 + 1) w34 < m9 n10 w11))
 (Fit .i64 (n10 + 1) ∧
 (I8 (n10 + 1) w26 ∧
 m9 (n10 + 1) w26 < m9 n10 w11))) ∧
 ∀ (_ : Env) (w7 : World), M6 w7 →
 ∃ (a35 : Option Addr) (l35 c35 : Nat), World.cell? w7 ⟨s, 9, none⟩ = some (.slice a35 l35 c35) ∧
 ∃ (I36 : Int → World → Prop) (m37 : Int → World → Nat),
 I36 0 w7 ∧
 ∀ (_ : Env) (n38 : Int) (w39 : World), I36 n38 w39 →
 IfB (decide ((n38 : Int) < (l35 : Int)))
 (PtrOK a35 fun (p40 : Addr) =>
 ((0 : Int) ≤ n38 ∧ n38 < (l35 : Int)) ∧
 ∃ (n41 : Int), World.cell? w39 (Addr.add p40 (Int.toNat n38 * 1)) = some (.int .i64 n41) ∧
 ∃ (m42 : Option Nat), World.cell? w39 ⟨s, 5, none⟩ = some (.map m42) ∧
 RunF Try.prog (Instr.lookup 185 (.map m42) (.int .i64 n41) false) w39 [.leaf .ptr] fun (q43 : Option Addr) (w44 : World) =>
 ∃ M45 : World → Prop,
 (∀ w47 : World, Drew w44 w47 →
 ∃ (b48 : Bool), World.cell? w47 ⟨s, 3, none⟩ = some (.bool b48) ∧
 (C147 (some ⟨s, 0, none⟩) (!b48) w47 fun n49 w50 =>
 ∃ (n51 : Int), World.cell? w50 ⟨s, 4, none⟩ = some (.int .i64 n51) ∧
 Fit .i64 (n49 + n51) ∧
 PtrOK q43 fun (p52 : Addr) =>
 May w50 (Addr.add p52 2) ∧ ∀ w53 : World, SetC w50 w53 (Addr.add p52 2) (.int .i64 (n49 + n51)) →
 PtrOK q43 fun (p54 : Addr) =>
 May w53 (Addr.add p54 3) ∧ ∀ w55 : World, SetC w53 w55 (Addr.add p54 3) (.int .i64 0) →
 M45 w55) ∧
 (∃ (n56 : Int), World.cell? w47 ⟨s, 4, none⟩ = some (.int .i64 n56) ∧
 C147 (some ⟨s, 0, none⟩) (!b48) w47 fun n57 w58 =>
 Fit .i64 (n57 + n56) ∧
 PtrOK q43 fun (p59 : Addr) =>
 May w58 (Addr.add p59 2) ∧ ∀ w60 : World, SetC w58 w60 (Addr.add p59 2) (.int .i64 (n57 + n56)) →
 PtrOK q43 fun (p61 : Addr) =>
 May w60 (Addr.add p61 3) ∧ ∀ w62 : World, SetC w60 w62 (Addr.add p61 3) (.int .i64 0) →
 M45 w62)) ∧
 ∀ (_ : Env) (w46 : World), M45 w46 →
 ∀ w63 : World, Drew w46 w63 →
 ∃ (n64 : Int), World.cell? w63 ⟨s, 4, none⟩ = some (.int .i64 n64) ∧
 PtrOK q43 fun (p65 : Addr) =>
 ∃ (n66 : Int), World.cell? w63 (Addr.add p65 0) = some (.int .i64 n66) ∧
 Fit .i64 (n66 + 4) ∧
 Fit .i64 (n64 + (n66 + 4)) ∧
 May w63 ⟨s, 4, none⟩ ∧ ∀ w67 : World, SetC w63 w67 ⟨s, 4, none⟩ (.int .i64 (n64 + (n66 + 4))) →
 Fit .i64 (n38 + 1) ∧
 (I36 (n38 + 1) w67 ∧
 m37 (n38 + 1) w67 < m37 n38 w39))
 (K 0 w39))
theorem r_f72 (s : Nat) (w : World) (K : Int → World → Prop) (h : V_f72 s w K) : C72 (some ⟨s, 0, none⟩) w K :=
  @calls_of_eq Try.prog 72 Try.f72 [.pointer (some ⟨s, 0, none⟩)] w [.leaf (.int .i64)] K _ (cfg true (fun _ => [])) (fun n => bif Nat.beq n 1 then some ⟨[3], [.int .i64]⟩ else bif Nat.beq n 3 then some ⟨[78], [.int .i64]⟩ else none) (fun n => bif Nat.beq n 9 then some ⟨[], []⟩ else bif Nat.beq n 13 then some ⟨[], []⟩ else bif Nat.beq n 18 then some ⟨[], []⟩ else none) (fun n => bif Nat.beq n 18 then some 12 else none) Try.func72 (by kernel_rfl) (by kernel_rfl) h

/-- (*gneiss/spine.Space).Step -/
def V_f73 (s : Nat) (agent : Int) (w : World) (K : Bool → Int → World → Prop) : Prop :=
 ∃ (q1 : Option Addr), World.cell? w ⟨s, 0, none⟩ = some (.pointer q1) ∧
 C135 q1 agent w fun b2 w3 =>
 IfB (!b2)
 (K false 704 w3)
 (∃ (b4 : Bool), World.cell? w3 ⟨s, 10, none⟩ = some (.bool b4) ∧
 IfB (!b4)
 (K false 0 w3)
 (∃ (a5 : Option Addr) (l5 c5 : Nat), World.cell? w3 ⟨s, 9, none⟩ = some (.slice a5 l5 c5) ∧
 IfB (decide (((l5 : Int) : Int) = 0))
 (∃ M6 : World → Prop,
 (∀ w8 : World, Drew w3 w8 →
 ∃ (b9 : Bool), World.cell? w8 ⟨s, 3, none⟩ = some (.bool b9) ∧
 ∃ (n10 : Int), World.cell? w8 ⟨s, 8, none⟩ = some (.int .i64 n10) ∧
 May w8 ⟨s, 10, none⟩ ∧ ∀ w11 : World, SetC w8 w11 ⟨s, 10, none⟩ (.bool false) →
 May w11 ⟨s, 3, none⟩ ∧ ∀ w12 : World, SetC w11 w12 ⟨s, 3, none⟩ (.bool (!b9)) →
 May w12 ⟨s, 7, none⟩ ∧ ∀ w13 : World, SetC w12 w13 ⟨s, 7, none⟩ (.int .i64 n10) →
 M6 w13) ∧
 ∀ (_ : Env) (w7 : World), M6 w7 →
 May w7 ⟨s, 8, none⟩ ∧ ∀ w14 : World, SetC w7 w14 ⟨s, 8, none⟩ (.int .i64 0) →
 K false 0 w14)
 (∃ M15 : Option Addr → Bool → World → Prop,
 (∀ w19 : World, Drew w3 w19 →
 ∃ (m20 : Option Nat), World.cell? w19 ⟨s, 5, none⟩ = some (.map m20) ∧
 ∃ (a21 : Option Addr) (l21 c21 : Nat), World.cell? w19 ⟨s, 9, none⟩ = some (.slice a21 l21 c21) ∧
 PtrOK a21 fun (p22 : Addr) =>
 ((0 : Int) ≤ 0 ∧ 0 < (l21 : Int)) ∧
 ∃ (n23 : Int), World.cell? w19 (Addr.add p22 (Int.toNat 0 * 1)) = some (.int .i64 n23) ∧
 RunF Try.prog (Instr.lookup 185 (.map m20) (.int .i64 n23) true) w19 [.leaf .ptr, .leaf .bool] fun (q24 : Option Addr) (b25 : Bool) (w26 : World) =>
 M15 q24 b25 w26) ∧
 ∀ (_ : Env) (q16 : Option Addr) (b17 : Bool) (w18 : World), M15 q16 b17 w18 →
 IfB (!b17)
 (∃ (a27 : Option Addr) (l27 c27 : Nat), World.cell? w18 ⟨s, 9, none⟩ = some (.slice a27 l27 c27) ∧
 ((0 : Int) ≤ 1 ∧ 1 ≤ (l27 : Int)) ∧
 May w18 ⟨s, 9, none⟩ ∧ ∀ w28 : World, SetC w18 w28 ⟨s, 9, none⟩ (.slice (Adv a27 c27 (Int.toNat 1) 1) (l27 - Int.toNat 1) (c27 - Int.toNat 1)) →
 K true 0 w28)
 (∀ w29 : World, Drew w18 w29 →
 PtrOK q16 fun (p30 : Addr) =>
 ∃ (n31 : Int), World.cell? w29 (Addr.add p30 3) = some (.int .i64 n31) ∧
 PtrOK q16 fun (p32 : Addr) =>
 ∃ (n33 : Int), World.cell? w29 (Addr.add p32 0) = some (.int .i64 n33) ∧
 IfB (decide ((n31 : Int) < n33))
 (∃ M34 : Int → World → Prop,
 (∀ w37 : World, Drew w29 w37 →
 ∃ (q38 : Option Addr), World.cell? w37 ⟨s, 0, none⟩ = some (.pointer q38) ∧
 PtrOK q16 fun (p39 : Addr) =>
 ∃ (n40 : Int), World.cell? w37 (Addr.add p39 1) = some (.int .i64 n40) ∧
 Fit .i64 (n40 + 4) ∧
 PtrOK q16 fun (p41 : Addr) =>
 ∃ (n42 : Int), World.cell? w37 (Addr.add p41 3) = some (.int .i64 n42) ∧
 Fit .i64 ((n40 + 4) + n42) ∧
 C42 q38 agent ((n40 + 4) + n42) w37 fun n43 n44 w45 =>
 M34 n43 w45) ∧
 ∀ (_ : Env) (n35 : Int) (w36 : World), M34 n35 w36 →
 ∀ w46 : World, Drew w36 w46 →
 ∃ (q47 : Option Addr), World.cell? w46 ⟨s, 0, none⟩ = some (.pointer q47) ∧
 PtrOK q16 fun (p48 : Addr) =>
 ∃ (n49 : Int), World.cell? w46 (Addr.add p48 2) = some (.int .i64 n49) ∧
 Fit .i64 (n49 + 4) ∧
 PtrOK q16 fun (p50 : Addr) =>
 ∃ (n51 : Int), World.cell? w46 (Addr.add p50 3) = some (.int .i64 n51) ∧
 Fit .i64 ((n49 + 4) + n51) ∧
 C43 q47 agent ((n49 + 4) + n51) n35 w46 fun n52 w53 =>
 PtrOK q16 fun (p54 : Addr) =>
 ∃ (n55 : Int), World.cell? w53 (Addr.add p54 3) = some (.int .i64 n55) ∧
 Fit .i64 (n55 + 1) ∧
 PtrOK q16 fun (p56 : Addr) =>
 May w53 (Addr.add p56 3) ∧ ∀ w57 : World, SetC w53 w57 (Addr.add p56 3) (.int .i64 (n55 + 1)) →
 K true 0 w57)
 (PtrOK q16 fun (p58 : Addr) =>
 ∃ (n59 : Int), World.cell? w29 (Addr.add p58 2) = some (.int .i64 n59) ∧
 PtrOK q16 fun (p60 : Addr) =>
 May w29 (Addr.add p60 1) ∧ ∀ w61 : World, SetC w29 w61 (Addr.add p60 1) (.int .i64 n59) →
 PtrOK q16 fun (p62 : Addr) =>
 May w61 (Addr.add p62 4) ∧ ∀ w63 : World, SetC w61 w63 (Addr.add p62 4) (.bool true) →
 ∃ (a64 : Option Addr) (l64 c64 : Nat), World.cell? w63 ⟨s, 9, none⟩ = some (.slice a64 l64 c64) ∧
 ((0 : Int) ≤ 1 ∧ 1 ≤ (l64 : Int)) ∧
 May w63 ⟨s, 9, none⟩ ∧ ∀ w65 : World, SetC w63 w65 ⟨s, 9, none⟩ (.slice (Adv a64 c64 (Int.toNat 1) 1) (l64 - Int.toNat 1) (c64 - Int.toNat 1)) →
 K true 0 w65)))))
theorem r_f73 (s : Nat) (agent : Int) (w : World) (K : Bool → Int → World → Prop) (h : V_f73 s agent w K) : C73 (some ⟨s, 0, none⟩) agent w K :=
  @calls_of_eq Try.prog 73 Try.f73 [.pointer (some ⟨s, 0, none⟩), .int .i64 agent] w [.leaf .bool, .leaf (.int .i64)] K _ (cfg true (fun _ => [])) (fun _ => none) (fun n => bif Nat.beq n 9 then some ⟨[], []⟩ else bif Nat.beq n 14 then some ⟨[6, 7], [.ptr, .bool]⟩ else bif Nat.beq n 18 then some ⟨[8], [.int .i64]⟩ else none) (fun n => bif Nat.beq n 16 then some 10 else bif Nat.beq n 18 then some 16 else none) Try.func73 (by kernel_rfl) (by kernel_rfl) h

/-- (*gneiss/spine.Space).Len -/
def V_f74 (s : Nat) (id : Int) (w : World) (K : Int → Int → World → Prop) : Prop :=
 ∃ (m1 : Option Nat), World.cell? w ⟨s, 5, none⟩ = some (.map m1) ∧
 RunF Try.prog (Instr.lookup 185 (.map m1) (.int .i64 id) true) w [.leaf .ptr, .leaf .bool] fun (q2 : Option Addr) (b3 : Bool) (w4 : World) =>
 IfB (!b3)
 (K 0 704 w4)
 (PtrOK q2 fun (p5 : Addr) =>
 ∃ (n6 : Int), World.cell? w4 (Addr.add p5 0) = some (.int .i64 n6) ∧
 K n6 0 w4)
theorem r_f74 (s : Nat) (id : Int) (w : World) (K : Int → Int → World → Prop) (h : V_f74 s id w K) : C74 (some ⟨s, 0, none⟩) id w K :=
  @calls_of_eq Try.prog 74 Try.f74 [.pointer (some ⟨s, 0, none⟩), .int .i64 id] w [.leaf (.int .i64), .leaf (.int .i64)] K _ (cfg true (fun _ => [])) (fun _ => none) (fun _ => none) (fun _ => none) Try.func74 (by kernel_rfl) (by kernel_rfl) h

/-- (*gneiss/spine.Space).Get -/
def V_f75 (s : Nat) (agent : Int) (id : Int) (i : Int) (w : World) (K : Int → Int → World → Prop) : Prop :=
 C148 (some ⟨s, 0, none⟩) agent id i w fun q1 n2 w3 =>
 IfB (!decide ((n2 : Int) = 0))
 (K 0 n2 w3)
 (∀ w4 : World, Drew w3 w4 →
 ∃ (q5 : Option Addr), World.cell? w4 ⟨s, 0, none⟩ = some (.pointer q5) ∧
 PtrOK q1 fun (p6 : Addr) =>
 ∃ (n7 : Int), World.cell? w4 (Addr.add p6 1) = some (.int .i64 n7) ∧
 Fit .i64 (n7 + 4) ∧
 Fit .i64 ((n7 + 4) + i) ∧
 C42 q5 agent ((n7 + 4) + i) w4 fun n8 n9 w10 =>
 K n8 n9 w10)
theorem r_f75 (s : Nat) (agent : Int) (id : Int) (i : Int) (w : World) (K : Int → Int → World → Prop) (h : V_f75 s agent id i w K) : C75 (some ⟨s, 0, none⟩) agent id i w K :=
  @calls_of_eq Try.prog 75 Try.f75 [.pointer (some ⟨s, 0, none⟩), .int .i64 agent, .int .i64 id, .int .i64 i] w [.leaf (.int .i64), .leaf (.int .i64)] K _ (cfg true (fun _ => [])) (fun _ => none) (fun _ => none) (fun _ => none) Try.func75 (by kernel_rfl) (by kernel_rfl) h

/-- (*gneiss/spine.Space).Room -/
def V_f76 (s : Nat) (w : World) (K : Int → World → Prop) : Prop :=
 ∀ w1 : World, Drew w w1 →
 ∃ (n2 : Int), World.cell? w1 ⟨s, 2, none⟩ = some (.int .i64 n2) ∧
 ∃ (n3 : Int), World.cell? w1 ⟨s, 7, none⟩ = some (.int .i64 n3) ∧
 Fit .i64 (n2 - n3) ∧
 ∃ (m4 : Option Nat), World.cell? w1 ⟨s, 5, none⟩ = some (.map m4) ∧
 RunF Try.prog (Instr.range 185 (.map m4)) w1 [.leaf .any] fun (v5 : Value) (w6 : World) =>
 ∃ (I7 : Int → World → Prop) (m8 : Int → World → Nat),
 I7 (n2 - n3) w6 ∧
 ∀ (_ : Env) (n9 : Int) (w10 : World), I7 n9 w10 →
 ∃ (b11 : Bool) (vs12 : List Value) (w13 : World), Sem.run Try.prog (Instr.next (v5) false 0) w10 = .ok (.tuple (List.toArray (.bool b11 :: vs12))) w13 ∧
 IfB b11
 (RunF Try.prog (Instr.entry (v5)) w13 [.leaf (.int .i64), .leaf .ptr] fun (n14 : Int) (q15 : Option Addr) (w16 : World) =>
 PtrOK q15 fun (p17 : Addr) =>
 ∃ (n18 : Int), World.cell? w16 (Addr.add p17 0) = some (.int .i64 n18) ∧
 Fit .i64 (n18 + 4) ∧
 Fit .i64 (n9 - (n18 + 4)) ∧
 (I7 (n9 - (n18 + 4)) w16 ∧
 m8 (n9 - (n18 + 4)) w16 < m8 n9 w10))
 (K n9 w13)
theorem r_f76 (s : Nat) (w : World) (K : Int → World → Prop) (h : V_f76 s w K) : C76 (some ⟨s, 0, none⟩) w K :=
  @calls_of_eq Try.prog 76 Try.f76 [.pointer (some ⟨s, 0, none⟩)] w [.leaf (.int .i64)] K _ (cfg true (fun n => bif Nat.beq n 24 then [.leaf (.int .i64), .leaf .ptr] else [])) (fun n => bif Nat.beq n 0 then some ⟨[3], [.int .i64]⟩ else none) (fun _ => none) (fun n => bif Nat.beq n 3 then some 10 else none) Try.func76 (by kernel_rfl) (by kernel_rfl) h

end Go.Proofs.Ytfpghcdjfiggiaa.V
