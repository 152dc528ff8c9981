/- Readings of the program's functions. No condition. -/
import Derived.Test.YtfpghcdjfiggiaaGCfg
namespace Go.Proofs.Ytfpghcdjfiggiaa.V
open Go
set_option maxRecDepth 100000
set_option linter.unusedVariables false
/-- gneiss/object.New -/
def V_f155 (p : Nat) (w : World) (K : Option Addr → Int → World → Prop) : Prop :=
 ∀ (b1 : Nat) (w2 : World), NewMap w w2 b1 →
 ∀ (b3 : Nat) (w4 : World), NewAt w2 w4 b3 #[.pointer (some ⟨p, 0, none⟩), .map (some b1), .int .i64 0] 207 →
 K (some ⟨b3, 0, none⟩) 0 w4
theorem r_f155 (p : Nat) (w : World) (K : Option Addr → Int → World → Prop) (h : V_f155 p w K) : C155 (some ⟨p, 0, none⟩) w K :=
  @calls_of_eq Try.prog 155 Try.f155 [.pointer (some ⟨p, 0, none⟩)] w [.leaf .ptr, .leaf (.int .i64)] K _ (cfg true (fun _ => [])) (fun _ => none) (fun _ => none) (fun _ => none) Try.func155 (by kernel_rfl) (by kernel_rfl) h

/-- gneiss/gneisslaw8.begun -/
def V_f86 (count : Int) (w : World) (K : Option Addr → Option Addr → Option Addr → Bool → World → Prop) : Prop :=
 C40 (IntKind.wrap .i64 ((IntKind.wrap .i64 (14 * count)) + 64)) 3 w fun q1 n2 w3 =>
 C47 q1 0 count w3 fun q4 n5 w6 =>
 C155 q4 w6 fun q7 n8 w9 =>
 IfB (decide ((n2 : Int) = 0))
 (IfB (decide ((n5 : Int) = 0))
 (IfB (decide ((n8 : Int) = 0))
 (K q7 q4 q1 (!(Option.isNone q7)) w9)
 (K q7 q4 q1 false w9))
 (K q7 q4 q1 false w9))
 (K q7 q4 q1 false w9)
theorem r_f86 (count : Int) (w : World) (K : Option Addr → Option Addr → Option Addr → Bool → World → Prop) (h : V_f86 count w K) : C86 count w K :=
  @calls_of_eq Try.prog 86 Try.f86 [.int .i64 count] w [.leaf .ptr, .leaf .ptr, .leaf .ptr, .leaf .bool] K _ (cfg false (fun _ => [])) (fun _ => none) (fun _ => none) (fun _ => none) Try.func86 (by kernel_rfl) (by kernel_rfl) h

/-- (*gneiss/object.Store).find -/
def V_f158 (s : Nat) (agent : Int) (ref : Int) (i : Int) (w : World) (K : Int → Int → Int → World → Prop) : Prop :=
 ∃ (m1 : Option Nat), World.cell? w ⟨s, 1, none⟩ = some (.map m1) ∧
 RunF Try.prog (Instr.lookup 205 (.map m1) (.int .i64 ref) true) w [.agg [.int .i64, .int .i64], .leaf .bool] fun (n2 : Int) (n3 : Int) (b4 : Bool) (w5 : World) =>
 ∀ (b6 : Nat) (w7 : World), NewAt w5 w7 b6 #[.int .i64 0, .int .i64 0] 210 →
 MayL w7 ⟨b6, 0, none⟩ 2 ∧ ∀ w8 : World, SetL w7 w8 ⟨b6, 0, none⟩ [.int .i64 n2, .int .i64 n3] →
 ∃ M9 : World → Prop,
 (∃ (q11 : Option Addr), World.cell? w8 ⟨s, 0, none⟩ = some (.pointer q11) ∧
 C156 q11 w8 fun q12 w13 =>
 C135 q12 agent w13 fun b14 w15 =>
 IfB (!b14)
 (K 0 0 803 w15)
 (IfB (!b4)
 (K 0 0 803 w15)
 (IfB (decide ((i : Int) < 0))
 (K 0 0 802 w15)
 (∃ (n16 : Int), World.cell? w15 ⟨b6, 0, none⟩ = some (.int .i64 n16) ∧
 IfB (decide ((n16 : Int) ≤ i))
 (K 0 0 802 w15)
 (M9 w15))))) ∧
 ∀ (_ : Env) (w10 : World), M9 w10 →
 ∃ (n17 : Int), World.cell? w10 ⟨b6, 1, none⟩ = some (.int .i64 n17) ∧
 (7 : Int) ≠ 0 ∧
 Fit .i64 (Int.tdiv i 7) ∧
 ∃ (I18 : Int → Int → World → Prop) (m19 : Int → Int → World → Nat),
 I18 n17 0 w10 ∧
 ∀ (_ : Env) (n20 : Int) (n21 : Int) (w22 : World), I18 n20 n21 w22 →
 IfB (decide ((n21 : Int) < (Int.tdiv i 7)))
 (∃ (q23 : Option Addr), World.cell? w22 ⟨s, 0, none⟩ = some (.pointer q23) ∧
 C52 q23 agent n20 7 w22 fun n24 n25 w26 =>
 Fit .i64 (n24 - 1) ∧
 Fit .i64 (n21 + 1) ∧
 (I18 (n24 - 1) (n21 + 1) w26 ∧
 m19 (n24 - 1) (n21 + 1) w26 < m19 n20 n21 w22))
 ((7 : Int) ≠ 0 ∧
 K n20 (Int.tmod i 7) 0 w22)
theorem r_f158 (s : Nat) (agent : Int) (ref : Int) (i : Int) (w : World) (K : Int → Int → Int → World → Prop) (h : V_f158 s agent ref i w K) : C158 (some ⟨s, 0, none⟩) agent ref i w K :=
  @calls_of_eq Try.prog 158 Try.f158 [.pointer (some ⟨s, 0, none⟩), .int .i64 agent, .int .i64 ref, .int .i64 i] w [.leaf (.int .i64), .leaf (.int .i64), .leaf (.int .i64)] K _ (cfg true (fun _ => [])) (fun n => bif Nat.beq n 1 then some ⟨[13, 53], [.int .i64, .int .i64]⟩ else none) (fun n => bif Nat.beq n 8 then some ⟨[], []⟩ else none) (fun _ => none) Try.func158 (by kernel_rfl) (by kernel_rfl) h

/-- (*gneiss/object.Store).Make -/
def V_f87 (s : Nat) (agent : Int) (n : Int) (w : World) (K : Int → Int → World → Prop) : Prop :=
 ∃ M1 : World → Prop,
 (∃ (q3 : Option Addr), World.cell? w ⟨s, 0, none⟩ = some (.pointer q3) ∧
 C156 q3 w fun q4 w5 =>
 C135 q4 agent w5 fun b6 w7 =>
 IfB (!b6)
 (K 0 803 w7)
 (IfB (decide ((n : Int) < 0))
 (K 0 800 w7)
 (IfB (decide ((64 : Int) < n))
 (K 0 800 w7)
 (∃ (q8 : Option Addr), World.cell? w7 ⟨s, 0, none⟩ = some (.pointer q8) ∧
 C157 q8 w7 fun n9 w10 =>
 Fit .i64 (n + 5) ∧
 (6 : Int) ≠ 0 ∧
 Fit .i64 (Int.tdiv (n + 5) 6) ∧
 Fit .i64 (1 + (Int.tdiv (n + 5) 6)) ∧
 IfB (decide ((n9 : Int) < (1 + (Int.tdiv (n + 5) 6))))
 (K 0 801 w10)
 (M1 w10))))) ∧
 ∀ (_ : Env) (w2 : World), M1 w2 →
 Fit .i64 (n + 7) ∧
 Fit .i64 ((n + 7) - 1) ∧
 (7 : Int) ≠ 0 ∧
 Fit .i64 (Int.tdiv ((n + 7) - 1) 7) ∧
 ∃ (I11 : Int → Int → World → Prop) (m12 : Int → Int → World → Nat),
 I11 0 0 w2 ∧
 ∀ (_ : Env) (n13 : Int) (n14 : Int) (w15 : World), I11 n13 n14 w15 →
 IfB (decide ((n14 : Int) < (max 1 (Int.tdiv ((n + 7) - 1) 7))))
 (∃ (q16 : Option Addr), World.cell? w15 ⟨s, 0, none⟩ = some (.pointer q16) ∧
 C48 q16 agent w15 fun n17 n18 w19 =>
 ∃ (q20 : Option Addr), World.cell? w19 ⟨s, 0, none⟩ = some (.pointer q20) ∧
 C49 q20 agent n17 7 n13 w19 fun n21 w22 =>
 Fit .i64 (n17 + 1) ∧
 Fit .i64 (n14 + 1) ∧
 (I11 (n17 + 1) (n14 + 1) w22 ∧
 m12 (n17 + 1) (n14 + 1) w22 < m12 n13 n14 w15))
 (∃ (n23 : Int), World.cell? w15 ⟨s, 2, none⟩ = some (.int .i64 n23) ∧
 Fit .i64 (n23 + 1) ∧
 May w15 ⟨s, 2, none⟩ ∧ ∀ w24 : World, SetC w15 w24 ⟨s, 2, none⟩ (.int .i64 (n23 + 1)) →
 ∀ w25 : World, Drew w24 w25 →
 ∃ (m26 : Option Nat), World.cell? w25 ⟨s, 1, none⟩ = some (.map m26) ∧
 ∃ (n27 : Int), World.cell? w25 ⟨s, 2, none⟩ = some (.int .i64 n27) ∧
 Fit .i64 (n13 - 1) ∧
 ∃ w28 : World, Sem.run Try.prog (Instr.mapUpdate 205 (.map m26) (.int .i64 n27) (.agg #[.int .i64 n, .int .i64 (n13 - 1)])) w25 = .ok () w28 ∧
 ∃ (n29 : Int), World.cell? w28 ⟨s, 2, none⟩ = some (.int .i64 n29) ∧
 K n29 0 w28)
theorem r_f87 (s : Nat) (agent : Int) (n : Int) (w : World) (K : Int → Int → World → Prop) (h : V_f87 s agent n w K) : C87 (some ⟨s, 0, none⟩) agent n w K :=
  @calls_of_eq Try.prog 87 Try.f87 [.pointer (some ⟨s, 0, none⟩), .int .i64 agent, .int .i64 n] w [.leaf (.int .i64), .leaf (.int .i64)] K _ (cfg true (fun _ => [])) (fun n => bif Nat.beq n 1 then some ⟨[8, 46], [.int .i64, .int .i64]⟩ else none) (fun n => bif Nat.beq n 9 then some ⟨[], []⟩ else none) (fun n => bif Nat.beq n 17 then some 12 else none) Try.func87 (by kernel_rfl) (by kernel_rfl) h

/-- (*gneiss/object.Store).Put -/
def V_f88 (s : Nat) (agent : Int) (ref : Int) (i : Int) (v : Int) (w : World) (K : Int → World → Prop) : Prop :=
 C158 (some ⟨s, 0, none⟩) agent ref i w fun n1 n2 n3 w4 =>
 IfB (!decide ((n3 : Int) = 0))
 (K n3 w4)
 (∃ (q5 : Option Addr), World.cell? w4 ⟨s, 0, none⟩ = some (.pointer q5) ∧
 C49 q5 agent n1 n2 v w4 fun n6 w7 =>
 K n6 w7)
theorem r_f88 (s : Nat) (agent : Int) (ref : Int) (i : Int) (v : Int) (w : World) (K : Int → World → Prop) (h : V_f88 s agent ref i v w K) : C88 (some ⟨s, 0, none⟩) agent ref i v w K :=
  @calls_of_eq Try.prog 88 Try.f88 [.pointer (some ⟨s, 0, none⟩), .int .i64 agent, .int .i64 ref, .int .i64 i, .int .i64 v] w [.leaf (.int .i64)] K _ (cfg true (fun _ => [])) (fun _ => none) (fun _ => none) (fun _ => none) Try.func88 (by kernel_rfl) (by kernel_rfl) h

/-- (*gneiss/object.Store).Load -/
def V_f89 (s : Nat) (agent : Int) (ref : Int) (i : Int) (w : World) (K : Int → Int → World → Prop) : Prop :=
 C158 (some ⟨s, 0, none⟩) agent ref i w fun n1 n2 n3 w4 =>
 IfB (!decide ((n3 : Int) = 0))
 (K 0 n3 w4)
 (∃ (q5 : Option Addr), World.cell? w4 ⟨s, 0, none⟩ = some (.pointer q5) ∧
 C52 q5 agent n1 n2 w4 fun n6 n7 w8 =>
 K n6 n7 w8)
theorem r_f89 (s : Nat) (agent : Int) (ref : Int) (i : Int) (w : World) (K : Int → Int → World → Prop) (h : V_f89 s agent ref i w K) : C89 (some ⟨s, 0, none⟩) agent ref i w K :=
  @calls_of_eq Try.prog 89 Try.f89 [.pointer (some ⟨s, 0, none⟩), .int .i64 agent, .int .i64 ref, .int .i64 i] w [.leaf (.int .i64), .leaf (.int .i64)] K _ (cfg true (fun _ => [])) (fun _ => none) (fun _ => none) (fun _ => none) Try.func89 (by kernel_rfl) (by kernel_rfl) h

/-- (*gneiss/object.Store).Free -/
def V_f90 (s : Nat) (agent : Int) (ref : Int) (w : World) (K : Int → World → Prop) : Prop :=
 ∃ (m1 : Option Nat), World.cell? w ⟨s, 1, none⟩ = some (.map m1) ∧
 RunF Try.prog (Instr.lookup 205 (.map m1) (.int .i64 ref) true) w [.agg [.int .i64, .int .i64], .leaf .bool] fun (n2 : Int) (n3 : Int) (b4 : Bool) (w5 : World) =>
 ∀ (b6 : Nat) (w7 : World), NewAt w5 w7 b6 #[.int .i64 0, .int .i64 0] 210 →
 MayL w7 ⟨b6, 0, none⟩ 2 ∧ ∀ w8 : World, SetL w7 w8 ⟨b6, 0, none⟩ [.int .i64 n2, .int .i64 n3] →
 ∃ M9 : World → Prop,
 (∃ (q11 : Option Addr), World.cell? w8 ⟨s, 0, none⟩ = some (.pointer q11) ∧
 C156 q11 w8 fun q12 w13 =>
 C135 q12 agent w13 fun b14 w15 =>
 IfB (!b14)
 (K 803 w15)
 (IfB (!b4)
 (K 803 w15)
 (M9 w15))) ∧
 ∀ (_ : Env) (w10 : World), M9 w10 →
 ∃ (m16 : Option Nat), World.cell? w10 ⟨s, 1, none⟩ = some (.map m16) ∧
 RunF Try.prog (Builtin.delete_ #[205, 3] 0 #[.map m16, .int .i64 ref]) w10 [] fun (w17 : World) =>
 ∃ (n18 : Int), World.cell? w17 ⟨b6, 1, none⟩ = some (.int .i64 n18) ∧
 ∃ (I19 : Int → World → Prop) (m20 : Int → World → Nat),
 I19 n18 w17 ∧
 ∀ (_ : Env) (n21 : Int) (w22 : World), I19 n21 w22 →
 IfB (decide ((0 : Int) ≤ n21))
 (∃ (q23 : Option Addr), World.cell? w22 ⟨s, 0, none⟩ = some (.pointer q23) ∧
 C52 q23 agent n21 7 w22 fun n24 n25 w26 =>
 ∃ (q27 : Option Addr), World.cell? w26 ⟨s, 0, none⟩ = some (.pointer q27) ∧
 C54 q27 agent n21 w26 fun n28 w29 =>
 Fit .i64 (n24 - 1) ∧
 (I19 (n24 - 1) w29 ∧
 m20 (n24 - 1) w29 < m20 n21 w22))
 (K 0 w22)
theorem r_f90 (s : Nat) (agent : Int) (ref : Int) (w : World) (K : Int → World → Prop) (h : V_f90 s agent ref w K) : C90 (some ⟨s, 0, none⟩) agent ref w K :=
  @calls_of_eq Try.prog 90 Try.f90 [.pointer (some ⟨s, 0, none⟩), .int .i64 agent, .int .i64 ref] w [.leaf (.int .i64)] K _ (cfg true (fun _ => [])) (fun n => bif Nat.beq n 0 then some ⟨[9], [.int .i64]⟩ else none) (fun n => bif Nat.beq n 6 then some ⟨[], []⟩ else none) (fun _ => none) Try.func90 (by kernel_rfl) (by kernel_rfl) h

/-- (*gneiss/object.Store).Refs -/
def V_f91 (s : Nat) (w : World) (K : Option Addr → Nat → Nat → World → Prop) : Prop :=
 ∃ (m1 : Option Nat), World.cell? w ⟨s, 1, none⟩ = some (.map m1) ∧
 RunF Try.prog (Instr.range 205 (.map m1)) w [.leaf .any] fun (v2 : Value) (w3 : World) =>
 ∃ (I4 : Option Addr → Nat → Nat → World → Prop) (m5 : Option Addr → Nat → Nat → World → Nat),
 I4 none 0 0 w3 ∧
 ∀ (_ : Env) (a6 : Option Addr) (l6 c6 : Nat) (w7 : World), I4 a6 l6 c6 w7 →
 ∃ (b8 : Bool) (vs9 : List Value) (w10 : World), Sem.run Try.prog (Instr.next (v2) false 0) w7 = .ok (.tuple (List.toArray (.bool b8 :: vs9))) w10 ∧
 IfB b8
 (RunF Try.prog (Instr.entry (v2)) w10 [.leaf (.int .i64), .agg [.int .i64, .int .i64]] fun (n11 : Int) (n12 : Int) (n13 : Int) (w14 : World) =>
 ∀ (b15 : Nat) (w16 : World), NewAt w14 w16 b15 #[.int .i64 n11] 3 →
 RunF Try.prog (Builtin.append_ #[42, 42] 42 #[.slice a6 l6 c6, .slice (some ⟨b15, 0, none⟩) 1 1]) w16 [.leaf .slice] fun (a17 : Option Addr) (l17 c17 : Nat) (w18 : World) =>
 (I4 a17 l17 c17 w18 ∧
 m5 a17 l17 c17 w18 < m5 a6 l6 c6 w7))
 (C159 a6 l6 c6 w10 fun w19 =>
 K a6 l6 c6 w19)
theorem r_f91 (s : Nat) (w : World) (K : Option Addr → Nat → Nat → World → Prop) (h : V_f91 s w K) : C91 (some ⟨s, 0, none⟩) w K :=
  @calls_of_eq Try.prog 91 Try.f91 [.pointer (some ⟨s, 0, none⟩)] w [.leaf .slice] K _ (cfg true (fun n => bif Nat.beq n 14 then [.leaf (.int .i64), .agg [.int .i64, .int .i64]] else [])) (fun n => bif Nat.beq n 0 then some ⟨[3], [.slice]⟩ else none) (fun _ => none) (fun _ => none) Try.func91 (by kernel_rfl) (by kernel_rfl) h

/-- (*gneiss/object.Store).Size -/
def V_f163 (s : Nat) (ref : Int) (w : World) (K : Int → Int → World → Prop) : Prop :=
 ∃ (m1 : Option Nat), World.cell? w ⟨s, 1, none⟩ = some (.map m1) ∧
 RunF Try.prog (Instr.lookup 205 (.map m1) (.int .i64 ref) true) w [.agg [.int .i64, .int .i64], .leaf .bool] fun (n2 : Int) (n3 : Int) (b4 : Bool) (w5 : World) =>
 ∀ (b6 : Nat) (w7 : World), NewAt w5 w7 b6 #[.int .i64 0, .int .i64 0] 210 →
 MayL w7 ⟨b6, 0, none⟩ 2 ∧ ∀ w8 : World, SetL w7 w8 ⟨b6, 0, none⟩ [.int .i64 n2, .int .i64 n3] →
 IfB (!b4)
 (K 0 803 w8)
 (∃ (n9 : Int), World.cell? w8 ⟨b6, 0, none⟩ = some (.int .i64 n9) ∧
 K n9 0 w8)
theorem r_f163 (s : Nat) (ref : Int) (w : World) (K : Int → Int → World → Prop) (h : V_f163 s ref w K) : C163 (some ⟨s, 0, none⟩) ref w K :=
  @calls_of_eq Try.prog 163 Try.f163 [.pointer (some ⟨s, 0, none⟩), .int .i64 ref] w [.leaf (.int .i64), .leaf (.int .i64)] K _ (cfg true (fun _ => [])) (fun _ => none) (fun _ => none) (fun _ => none) Try.func163 (by kernel_rfl) (by kernel_rfl) h

end Go.Proofs.Ytfpghcdjfiggiaa.V
