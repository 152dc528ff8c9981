/- Readings of the program's functions. No condition. -/
import Derived.Test.YtfpghcdjfiggiaaGCfg
namespace Go.Proofs.Ytfpghcdjfiggiaa.V
open Go
set_option maxRecDepth 100000
set_option linter.unusedVariables false
/-- gneiss/heap.sizes -/
def V_f175 (kind : Int) (w : World) (K : Int → Int → Bool → World → Prop) : Prop :=
 IfB (decide ((kind : Int) = 1))
 (K 0 64 true w)
 (IfB (decide ((kind : Int) = 2))
 (K 0 1000 true w)
 (IfB (decide ((kind : Int) = 3))
 (K 0 1000 true w)
 (IfB (decide ((kind : Int) = 4))
 (K 1 1 true w)
 (K 0 0 false w))))
theorem r_f175 (kind : Int) (w : World) (K : Int → Int → Bool → World → Prop) (h : V_f175 kind w K) : C175 kind w K :=
  @calls_of_eq Try.prog 175 Try.f175 [.int .i64 kind] w [.leaf (.int .i64), .leaf (.int .i64), .leaf .bool] K _ (cfg true (fun _ => [])) (fun _ => none) (fun _ => none) (fun _ => none) Try.func175 (by kernel_rfl) (by kernel_rfl) h

/-- gneiss/heap.Form -/
def V_f152 (kind : Int) (classV : Int) (n : Int) (w : World) (K : Int → World → Prop) : Prop :=
 C175 kind w fun n1 n2 b3 w4 =>
 IfB (!b3)
 (K 902 w4)
 (IfB (decide ((n : Int) < n1))
 (K 900 w4)
 (IfB (decide ((n2 : Int) < n))
 (K 900 w4)
 (IfB (decide ((classV : Int) < 0))
 (K 900 w4)
 (K 0 w4))))
theorem r_f152 (kind : Int) (classV : Int) (n : Int) (w : World) (K : Int → World → Prop) (h : V_f152 kind classV n w K) : C152 kind classV n w K :=
  @calls_of_eq Try.prog 152 Try.f152 [.int .i64 kind, .int .i64 classV, .int .i64 n] w [.leaf (.int .i64)] K _ (cfg true (fun _ => [])) (fun _ => none) (fun _ => none) (fun _ => none) Try.func152 (by kernel_rfl) (by kernel_rfl) h

/-- (*gneiss/heap.Heap).find -/
def V_f153 (hV : Nat) (agent : Int) (ref : Int) (w : World) (K : Int → Int → Int → Int → Int → World → Prop) : Prop :=
 ∀ (b1 : Nat) (w2 : World), NewAt w w2 b1 #[.int .i64 0, .int .i64 0, .int .i64 0, .int .i64 0] 199 →
 ∃ (m3 : Option Nat), World.cell? w2 ⟨hV, 2, none⟩ = some (.map m3) ∧
 RunF Try.prog (Instr.lookup 195 (.map m3) (.int .i64 ref) true) w2 [.agg [.int .i64, .int .i64, .int .i64, .int .i64], .leaf .bool] fun (n4 : Int) (n5 : Int) (n6 : Int) (n7 : Int) (b8 : Bool) (w9 : World) =>
 ∀ (b10 : Nat) (w11 : World), NewAt w9 w11 b10 #[.int .i64 0, .int .i64 0, .int .i64 0, .int .i64 0] 199 →
 MayL w11 ⟨b10, 0, none⟩ 4 ∧ ∀ w12 : World, SetL w11 w12 ⟨b10, 0, none⟩ [.int .i64 n4, .int .i64 n5, .int .i64 n6, .int .i64 n7] →
 ∃ (q13 : Option Addr), World.cell? w12 ⟨hV, 0, none⟩ = some (.pointer q13) ∧
 C135 q13 agent w12 fun b14 w15 =>
 IfB (!b14)
 (MayL w15 ⟨b1, 0, none⟩ 4 ∧ ∀ w16 : World, SetL w15 w16 ⟨b1, 0, none⟩ [.int .i64 0, .int .i64 0, .int .i64 0, .int .i64 0] →
 ∃ (n17 : Int), ∃ (n18 : Int), ∃ (n19 : Int), ∃ (n20 : Int), CellsAt w16 ⟨b1, 0, none⟩ [.int .i64 n17, .int .i64 n18, .int .i64 n19, .int .i64 n20] ∧
 K n17 n18 n19 n20 904 w16)
 (IfB (!b8)
 (MayL w15 ⟨b1, 0, none⟩ 4 ∧ ∀ w21 : World, SetL w15 w21 ⟨b1, 0, none⟩ [.int .i64 0, .int .i64 0, .int .i64 0, .int .i64 0] →
 ∃ (n22 : Int), ∃ (n23 : Int), ∃ (n24 : Int), ∃ (n25 : Int), CellsAt w21 ⟨b1, 0, none⟩ [.int .i64 n22, .int .i64 n23, .int .i64 n24, .int .i64 n25] ∧
 K n22 n23 n24 n25 904 w21)
 (∃ (n26 : Int), ∃ (n27 : Int), ∃ (n28 : Int), ∃ (n29 : Int), CellsAt w15 ⟨b10, 0, none⟩ [.int .i64 n26, .int .i64 n27, .int .i64 n28, .int .i64 n29] ∧
 MayL w15 ⟨b1, 0, none⟩ 4 ∧ ∀ w30 : World, SetL w15 w30 ⟨b1, 0, none⟩ [.int .i64 n26, .int .i64 n27, .int .i64 n28, .int .i64 n29] →
 ∃ (n31 : Int), ∃ (n32 : Int), ∃ (n33 : Int), ∃ (n34 : Int), CellsAt w30 ⟨b1, 0, none⟩ [.int .i64 n31, .int .i64 n32, .int .i64 n33, .int .i64 n34] ∧
 K n31 n32 n33 n34 0 w30))
theorem r_f153 (hV : Nat) (agent : Int) (ref : Int) (w : World) (K : Int → Int → Int → Int → Int → World → Prop) (h : V_f153 hV agent ref w K) : C153 (some ⟨hV, 0, none⟩) agent ref w K :=
  @calls_of_eq Try.prog 153 Try.f153 [.pointer (some ⟨hV, 0, none⟩), .int .i64 agent, .int .i64 ref] w [.agg [.int .i64, .int .i64, .int .i64, .int .i64], .leaf (.int .i64)] K _ (cfg true (fun _ => [])) (fun _ => none) (fun _ => none) (fun _ => none) Try.func153 (by kernel_rfl) (by kernel_rfl) h

/-- gneiss/heap.bounds -/
def V_f154 (e : Int) (w : World) (K : Int → World → Prop) : Prop :=
 IfB (decide ((e : Int) = 703))
 (K 903 w)
 (K e w)
theorem r_f154 (e : Int) (w : World) (K : Int → World → Prop) (h : V_f154 e w K) : C154 e w K :=
  @calls_of_eq Try.prog 154 Try.f154 [.int .i64 e] w [.leaf (.int .i64)] K _ (cfg true (fun _ => [])) (fun _ => none) (fun _ => none) (fun _ => none) Try.func154 (by kernel_rfl) (by kernel_rfl) h

/-- (*gneiss/heap.Heap).Refs -/
def V_f95 (hV : Nat) (w : World) (K : Option Addr → Nat → Nat → World → Prop) : Prop :=
 ∃ (m1 : Option Nat), World.cell? w ⟨hV, 2, none⟩ = some (.map m1) ∧
 RunF Try.prog (Instr.range 195 (.map m1)) w [.leaf .any] fun (v2 : Value) (w3 : World) =>
 ∃ (I4 : Option Addr → Nat → Nat → World → Prop) (m5 : Option Addr → Nat → Nat → World → Nat),
 I4 none 0 0 w3 ∧
 ∀ (_ : Env) (a6 : Option Addr) (l6 c6 : Nat) (w7 : World), I4 a6 l6 c6 w7 →
 ∃ (b8 : Bool) (vs9 : List Value) (w10 : World), Sem.run Try.prog (Instr.next (v2) false 0) w7 = .ok (.tuple (List.toArray (.bool b8 :: vs9))) w10 ∧
 IfB b8
 (RunF Try.prog (Instr.entry (v2)) w10 [.leaf (.int .i64), .agg [.int .i64, .int .i64, .int .i64, .int .i64]] fun (n11 : Int) (n12 : Int) (n13 : Int) (n14 : Int) (n15 : Int) (w16 : World) =>
 ∀ (b17 : Nat) (w18 : World), NewAt w16 w18 b17 #[.int .i64 n11] 3 →
 RunF Try.prog (Builtin.append_ #[42, 42] 42 #[.slice a6 l6 c6, .slice (some ⟨b17, 0, none⟩) 1 1]) w18 [.leaf .slice] fun (a19 : Option Addr) (l19 c19 : Nat) (w20 : World) =>
 (I4 a19 l19 c19 w20 ∧
 m5 a19 l19 c19 w20 < m5 a6 l6 c6 w7))
 (C159 a6 l6 c6 w10 fun w21 =>
 K a6 l6 c6 w21)
theorem r_f95 (hV : Nat) (w : World) (K : Option Addr → Nat → Nat → World → Prop) (h : V_f95 hV w K) : C95 (some ⟨hV, 0, none⟩) w K :=
  @calls_of_eq Try.prog 95 Try.f95 [.pointer (some ⟨hV, 0, none⟩)] w [.leaf .slice] K _ (cfg true (fun n => bif Nat.beq n 14 then [.leaf (.int .i64), .agg [.int .i64, .int .i64, .int .i64, .int .i64]] else [])) (fun n => bif Nat.beq n 0 then some ⟨[3], [.slice]⟩ else none) (fun _ => none) (fun _ => none) Try.func95 (by kernel_rfl) (by kernel_rfl) h

/-- (*gneiss/heap.Heap).Room -/
def V_f98 (hV : Nat) (w : World) (K : Int → World → Prop) : Prop :=
 ∃ (n1 : Int), World.cell? w ⟨hV, 4, none⟩ = some (.int .i64 n1) ∧
 ∃ (m2 : Option Nat), World.cell? w ⟨hV, 2, none⟩ = some (.map m2) ∧
 RunF Try.prog (Instr.range 195 (.map m2)) w [.leaf .any] fun (v3 : Value) (w4 : World) =>
 ∃ (I5 : Int → World → Prop) (m6 : Int → World → Nat),
 I5 n1 w4 ∧
 ∀ (_ : Env) (n7 : Int) (w8 : World), I5 n7 w8 →
 ∃ (b9 : Bool) (vs10 : List Value) (w11 : World), Sem.run Try.prog (Instr.next (v3) false 0) w8 = .ok (.tuple (List.toArray (.bool b9 :: vs10))) w11 ∧
 IfB b9
 (RunF Try.prog (Instr.entry (v3)) w11 [.leaf (.int .i64), .agg [.int .i64, .int .i64, .int .i64, .int .i64]] fun (n12 : Int) (n13 : Int) (n14 : Int) (n15 : Int) (n16 : Int) (w17 : World) =>
 ∀ (b18 : Nat) (w19 : World), NewAt w17 w19 b18 #[.int .i64 0, .int .i64 0, .int .i64 0, .int .i64 0] 199 →
 MayL w19 ⟨b18, 0, none⟩ 4 ∧ ∀ w20 : World, SetL w19 w20 ⟨b18, 0, none⟩ [.int .i64 n13, .int .i64 n14, .int .i64 n15, .int .i64 n16] →
 ∃ (n21 : Int), World.cell? w20 ⟨b18, 2, none⟩ = some (.int .i64 n21) ∧
 Fit .i64 (n21 + 16) ∧
 Fit .i64 (n7 - (n21 + 16)) ∧
 (I5 (n7 - (n21 + 16)) w20 ∧
 m6 (n7 - (n21 + 16)) w20 < m6 n7 w8))
 (K n7 w11)
theorem r_f98 (hV : Nat) (w : World) (K : Int → World → Prop) (h : V_f98 hV w K) : C98 (some ⟨hV, 0, none⟩) w K :=
  @calls_of_eq Try.prog 98 Try.f98 [.pointer (some ⟨hV, 0, none⟩)] w [.leaf (.int .i64)] K _ (cfg true (fun n => bif Nat.beq n 19 then [.leaf (.int .i64), .agg [.int .i64, .int .i64, .int .i64, .int .i64]] else [])) (fun n => bif Nat.beq n 0 then some ⟨[3], [.int .i64]⟩ else none) (fun _ => none) (fun _ => none) Try.func98 (by kernel_rfl) (by kernel_rfl) h

/-- gneiss/heap.New -/
def V_f80 (words : Int) (agents : Int) (w : World) (K : Option Addr → Int → World → Prop) : Prop :=
 IfB (decide ((words : Int) < 512))
 (K none 900 w)
 (IfB (decide ((65536 : Int) < words))
 (K none 900 w)
 (IfB (decide ((agents : Int) < 1))
 (K none 900 w)
 (IfB (decide ((12 : Int) < agents))
 (K none 900 w)
 (C40 words agents w fun q1 n2 w3 =>
 C146 q1 0 words w3 fun q4 n5 w6 =>
 ∀ (b7 : Nat) (w8 : World), NewMap w6 w8 b7 →
 Fit .i64 (words + 3) ∧
 (4 : Int) ≠ 0 ∧
 Fit .i64 (Int.tdiv (words + 3) 4) ∧
 ∀ (b9 : Nat) (w10 : World), NewAt w8 w10 b9 #[.pointer q1, .pointer q4, .map (some b7), .int .i64 0, .int .i64 (Int.tdiv (words + 3) 4)] 197 →
 K (some ⟨b9, 0, none⟩) 0 w10))))
theorem r_f80 (words : Int) (agents : Int) (w : World) (K : Option Addr → Int → World → Prop) (h : V_f80 words agents w K) : C80 words agents w K :=
  @calls_of_eq Try.prog 80 Try.f80 [.int .i64 words, .int .i64 agents] w [.leaf .ptr, .leaf (.int .i64)] K _ (cfg true (fun _ => [])) (fun _ => none) (fun _ => none) (fun _ => none) Try.func80 (by kernel_rfl) (by kernel_rfl) h

/-- (*gneiss/heap.Heap).Make -/
def V_f81 (hV : Nat) (agent : Int) (kind : Int) (classV : Int) (n : Int) (w : World) (K : Int → Int → World → Prop) : Prop :=
 ∃ (q1 : Option Addr), World.cell? w ⟨hV, 0, none⟩ = some (.pointer q1) ∧
 C135 q1 agent w fun b2 w3 =>
 IfB (!b2)
 (K 0 904 w3)
 (C152 kind classV n w3 fun n4 w5 =>
 IfB (!decide ((n4 : Int) = 0))
 (K 0 n4 w5)
 (Fit .i64 (n + 16) ∧
 C98 (some ⟨hV, 0, none⟩) w5 fun n6 w7 =>
 IfB (decide ((n6 : Int) < (n + 16)))
 (K 0 901 w7)
 (∃ (I8 : Int → World → Prop) (m9 : Int → World → Nat),
 I8 0 w7 ∧
 ∀ (_ : Env) (n10 : Int) (w11 : World), I8 n10 w11 →
 IfB (decide ((n10 : Int) < 2))
 (∃ (q12 : Option Addr), World.cell? w11 ⟨hV, 1, none⟩ = some (.pointer q12) ∧
 C69 q12 agent n w11 fun n13 n14 w15 =>
 IfB (decide ((n14 : Int) = 0))
 (∃ (n16 : Int), World.cell? w15 ⟨hV, 3, none⟩ = some (.int .i64 n16) ∧
 Fit .i64 (n16 + 1) ∧
 May w15 ⟨hV, 3, none⟩ ∧ ∀ w17 : World, SetC w15 w17 ⟨hV, 3, none⟩ (.int .i64 (n16 + 1)) →
 ∀ w18 : World, Drew w17 w18 →
 ∃ (m19 : Option Nat), World.cell? w18 ⟨hV, 2, none⟩ = some (.map m19) ∧
 ∃ (n20 : Int), World.cell? w18 ⟨hV, 3, none⟩ = some (.int .i64 n20) ∧
 ∃ w21 : World, Sem.run Try.prog (Instr.mapUpdate 195 (.map m19) (.int .i64 n20) (.agg #[.int .i64 kind, .int .i64 classV, .int .i64 n, .int .i64 n13])) w18 = .ok () w21 ∧
 ∃ (n22 : Int), World.cell? w21 ⟨hV, 3, none⟩ = some (.int .i64 n22) ∧
 K n22 0 w21)
 (∃ (q23 : Option Addr), World.cell? w15 ⟨hV, 1, none⟩ = some (.pointer q23) ∧
 C72 q23 w15 fun n24 w25 =>
 ∃ (I26 : Bool → World → Prop) (m27 : Bool → World → Nat),
 I26 true w25 ∧
 ∀ (_ : Env) (b28 : Bool) (w29 : World), I26 b28 w29 →
 IfB b28
 (∃ (q30 : Option Addr), World.cell? w29 ⟨hV, 1, none⟩ = some (.pointer q30) ∧
 C73 q30 agent w29 fun b31 n32 w33 =>
 (I26 b31 w33 ∧
 m27 b31 w33 < m27 b28 w29))
 (Fit .i64 (n10 + 1) ∧
 (I8 (n10 + 1) w29 ∧
 m9 (n10 + 1) w29 < m9 n10 w11))))
 (K 0 901 w11))))
theorem r_f81 (hV : Nat) (agent : Int) (kind : Int) (classV : Int) (n : Int) (w : World) (K : Int → Int → World → Prop) (h : V_f81 hV agent kind classV n w K) : C81 (some ⟨hV, 0, none⟩) agent kind classV n w K :=
  @calls_of_eq Try.prog 81 Try.f81 [.pointer (some ⟨hV, 0, none⟩), .int .i64 agent, .int .i64 kind, .int .i64 classV, .int .i64 n] w [.leaf (.int .i64), .leaf (.int .i64)] K _ (cfg true (fun _ => [])) (fun n => bif Nat.beq n 1 then some ⟨[39], [.int .i64]⟩ else bif Nat.beq n 3 then some ⟨[15], [.bool]⟩ else none) (fun _ => none) (fun n => bif Nat.beq n 15 then some 14 else none) Try.func81 (by kernel_rfl) (by kernel_rfl) h

/-- (*gneiss/heap.Heap).Steps -/
def V_f82 (hV : Nat) (agent : Int) (w : World) (K : Int → World → Prop) : Prop :=
 ∃ (q1 : Option Addr), World.cell? w ⟨hV, 0, none⟩ = some (.pointer q1) ∧
 C128 q1 agent w fun n2 w3 =>
 K n2 w3
theorem r_f82 (hV : Nat) (agent : Int) (w : World) (K : Int → World → Prop) (h : V_f82 hV agent w K) : C82 (some ⟨hV, 0, none⟩) agent w K :=
  @calls_of_eq Try.prog 82 Try.f82 [.pointer (some ⟨hV, 0, none⟩), .int .i64 agent] w [.leaf (.int .i64)] K _ (cfg true (fun _ => [])) (fun _ => none) (fun _ => none) (fun _ => none) Try.func82 (by kernel_rfl) (by kernel_rfl) h

/-- (*gneiss/heap.Heap).Put -/
def V_f83 (hV : Nat) (agent : Int) (ref : Int) (i : Int) (v : Int) (w : World) (K : Int → World → Prop) : Prop :=
 C153 (some ⟨hV, 0, none⟩) agent ref w fun n1 n2 n3 n4 n5 w6 =>
 ∀ (b7 : Nat) (w8 : World), NewAt w6 w8 b7 #[.int .i64 0, .int .i64 0, .int .i64 0, .int .i64 0] 199 →
 MayL w8 ⟨b7, 0, none⟩ 4 ∧ ∀ w9 : World, SetL w8 w9 ⟨b7, 0, none⟩ [.int .i64 n1, .int .i64 n2, .int .i64 n3, .int .i64 n4] →
 IfB (!decide ((n5 : Int) = 0))
 (K n5 w9)
 (∀ w10 : World, Drew w9 w10 →
 ∃ (q11 : Option Addr), World.cell? w10 ⟨hV, 1, none⟩ = some (.pointer q11) ∧
 ∃ (n12 : Int), World.cell? w10 ⟨b7, 3, none⟩ = some (.int .i64 n12) ∧
 C70 q11 agent n12 i v w10 fun n13 w14 =>
 C154 n13 w14 fun n15 w16 =>
 K n15 w16)
theorem r_f83 (hV : Nat) (agent : Int) (ref : Int) (i : Int) (v : Int) (w : World) (K : Int → World → Prop) (h : V_f83 hV agent ref i v w K) : C83 (some ⟨hV, 0, none⟩) agent ref i v w K :=
  @calls_of_eq Try.prog 83 Try.f83 [.pointer (some ⟨hV, 0, none⟩), .int .i64 agent, .int .i64 ref, .int .i64 i, .int .i64 v] w [.leaf (.int .i64)] K _ (cfg true (fun _ => [])) (fun _ => none) (fun _ => none) (fun n => bif Nat.beq n 4 then some 9 else none) Try.func83 (by kernel_rfl) (by kernel_rfl) h

/-- (*gneiss/heap.Heap).Load -/
def V_f84 (hV : Nat) (agent : Int) (ref : Int) (i : Int) (w : World) (K : Int → Int → World → Prop) : Prop :=
 C153 (some ⟨hV, 0, none⟩) agent ref w fun n1 n2 n3 n4 n5 w6 =>
 ∀ (b7 : Nat) (w8 : World), NewAt w6 w8 b7 #[.int .i64 0, .int .i64 0, .int .i64 0, .int .i64 0] 199 →
 MayL w8 ⟨b7, 0, none⟩ 4 ∧ ∀ w9 : World, SetL w8 w9 ⟨b7, 0, none⟩ [.int .i64 n1, .int .i64 n2, .int .i64 n3, .int .i64 n4] →
 IfB (!decide ((n5 : Int) = 0))
 (K 0 n5 w9)
 (∀ w10 : World, Drew w9 w10 →
 ∃ (q11 : Option Addr), World.cell? w10 ⟨hV, 1, none⟩ = some (.pointer q11) ∧
 ∃ (n12 : Int), World.cell? w10 ⟨b7, 3, none⟩ = some (.int .i64 n12) ∧
 C75 q11 agent n12 i w10 fun n13 n14 w15 =>
 C154 n14 w15 fun n16 w17 =>
 K n13 n16 w17)
theorem r_f84 (hV : Nat) (agent : Int) (ref : Int) (i : Int) (w : World) (K : Int → Int → World → Prop) (h : V_f84 hV agent ref i w K) : C84 (some ⟨hV, 0, none⟩) agent ref i w K :=
  @calls_of_eq Try.prog 84 Try.f84 [.pointer (some ⟨hV, 0, none⟩), .int .i64 agent, .int .i64 ref, .int .i64 i] w [.leaf (.int .i64), .leaf (.int .i64)] K _ (cfg true (fun _ => [])) (fun _ => none) (fun _ => none) (fun _ => none) Try.func84 (by kernel_rfl) (by kernel_rfl) h

/-- (*gneiss/heap.Heap).Cell -/
def V_f94 (hV : Nat) (ref : Int) (w : World) (K : Int → Int → Int → Int → World → Prop) : Prop :=
 ∀ (b1 : Nat) (w2 : World), NewAt w w2 b1 #[.int .i64 0, .int .i64 0, .int .i64 0] 133 →
 ∃ (m3 : Option Nat), World.cell? w2 ⟨hV, 2, none⟩ = some (.map m3) ∧
 RunF Try.prog (Instr.lookup 195 (.map m3) (.int .i64 ref) true) w2 [.agg [.int .i64, .int .i64, .int .i64, .int .i64], .leaf .bool] fun (n4 : Int) (n5 : Int) (n6 : Int) (n7 : Int) (b8 : Bool) (w9 : World) =>
 ∀ (b10 : Nat) (w11 : World), NewAt w9 w11 b10 #[.int .i64 0, .int .i64 0, .int .i64 0, .int .i64 0] 199 →
 MayL w11 ⟨b10, 0, none⟩ 4 ∧ ∀ w12 : World, SetL w11 w12 ⟨b10, 0, none⟩ [.int .i64 n4, .int .i64 n5, .int .i64 n6, .int .i64 n7] →
 IfB (!b8)
 (MayL w12 ⟨b1, 0, none⟩ 3 ∧ ∀ w13 : World, SetL w12 w13 ⟨b1, 0, none⟩ [.int .i64 0, .int .i64 0, .int .i64 0] →
 ∃ (n14 : Int), ∃ (n15 : Int), ∃ (n16 : Int), CellsAt w13 ⟨b1, 0, none⟩ [.int .i64 n14, .int .i64 n15, .int .i64 n16] ∧
 K n14 n15 n16 904 w13)
 (∃ (n17 : Int), ∃ (n18 : Int), ∃ (n19 : Int), CellsAt w12 ⟨b10, 0, none⟩ [.int .i64 n17, .int .i64 n18, .int .i64 n19] ∧
 MayL w12 ⟨b1, 0, none⟩ 3 ∧ ∀ w20 : World, SetL w12 w20 ⟨b1, 0, none⟩ [.int .i64 n17, .int .i64 n18, .int .i64 n19] →
 ∃ (n21 : Int), ∃ (n22 : Int), ∃ (n23 : Int), CellsAt w20 ⟨b1, 0, none⟩ [.int .i64 n21, .int .i64 n22, .int .i64 n23] ∧
 K n21 n22 n23 0 w20)
theorem r_f94 (hV : Nat) (ref : Int) (w : World) (K : Int → Int → Int → Int → World → Prop) (h : V_f94 hV ref w K) : C94 (some ⟨hV, 0, none⟩) ref w K :=
  @calls_of_eq Try.prog 94 Try.f94 [.pointer (some ⟨hV, 0, none⟩), .int .i64 ref] w [.agg [.int .i64, .int .i64, .int .i64], .leaf (.int .i64)] K _ (cfg true (fun _ => [])) (fun _ => none) (fun _ => none) (fun _ => none) Try.func94 (by kernel_rfl) (by kernel_rfl) h

/-- (*gneiss/heap.Heap).Free -/
def V_f96 (hV : Nat) (agent : Int) (ref : Int) (w : World) (K : Int → World → Prop) : Prop :=
 C153 (some ⟨hV, 0, none⟩) agent ref w fun n1 n2 n3 n4 n5 w6 =>
 ∀ (b7 : Nat) (w8 : World), NewAt w6 w8 b7 #[.int .i64 0, .int .i64 0, .int .i64 0, .int .i64 0] 199 →
 MayL w8 ⟨b7, 0, none⟩ 4 ∧ ∀ w9 : World, SetL w8 w9 ⟨b7, 0, none⟩ [.int .i64 n1, .int .i64 n2, .int .i64 n3, .int .i64 n4] →
 IfB (!decide ((n5 : Int) = 0))
 (K n5 w9)
 (∃ (m10 : Option Nat), World.cell? w9 ⟨hV, 2, none⟩ = some (.map m10) ∧
 RunF Try.prog (Builtin.delete_ #[195, 3] 0 #[.map m10, .int .i64 ref]) w9 [] fun (w11 : World) =>
 ∀ w12 : World, Drew w11 w12 →
 ∃ (q13 : Option Addr), World.cell? w12 ⟨hV, 1, none⟩ = some (.pointer q13) ∧
 ∃ (n14 : Int), World.cell? w12 ⟨b7, 3, none⟩ = some (.int .i64 n14) ∧
 C71 q13 n14 w12 fun n15 w16 =>
 K n15 w16)
theorem r_f96 (hV : Nat) (agent : Int) (ref : Int) (w : World) (K : Int → World → Prop) (h : V_f96 hV agent ref w K) : C96 (some ⟨hV, 0, none⟩) agent ref w K :=
  @calls_of_eq Try.prog 96 Try.f96 [.pointer (some ⟨hV, 0, none⟩), .int .i64 agent, .int .i64 ref] w [.leaf (.int .i64)] K _ (cfg true (fun _ => [])) (fun _ => none) (fun _ => none) (fun n => bif Nat.beq n 5 then some 6 else none) Try.func96 (by kernel_rfl) (by kernel_rfl) h

end Go.Proofs.Ytfpghcdjfiggiaa.V
