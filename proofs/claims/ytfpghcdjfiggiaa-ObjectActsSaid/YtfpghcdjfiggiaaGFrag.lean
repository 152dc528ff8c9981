/- Readings of the program's functions. No condition. -/
import Derived.Test.YtfpghcdjfiggiaaGCfg
namespace Go.Proofs.Ytfpghcdjfiggiaa.V
open Go
set_option maxRecDepth 100000
set_option linter.unusedVariables false
/-- gneiss/arena.ViewOf[int] -/
def V_f133 (a : Nat) (base : Int) (w : World) (K : Option Addr → Int → World → Prop) : Prop :=
 ∀ (b1 : Nat) (w2 : World), NewAt w w2 b1 #[.pointer none, .int .i64 0] 169 →
 MayL w2 ⟨b1, 0, none⟩ 2 ∧ ∀ w3 : World, SetL w2 w3 ⟨b1, 0, none⟩ [.pointer (some ⟨a, 0, none⟩), .int .i64 base] →
 ∃ (q4 : Option Addr), ∃ (n5 : Int), CellsAt w3 ⟨b1, 0, none⟩ [.pointer q4, .int .i64 n5] ∧
 K q4 n5 w3
theorem r_f133 (a : Nat) (base : Int) (w : World) (K : Option Addr → Int → World → Prop) (h : V_f133 a base w K) : C133 (some ⟨a, 0, none⟩) base w K :=
  @calls_of_eq Try.prog 133 Try.f133 [.pointer (some ⟨a, 0, none⟩), .int .i64 base] w [.agg [.ptr, .int .i64]] K _ (cfg true (fun _ => [])) (fun _ => none) (fun _ => none) (fun _ => none) Try.func133 (by kernel_rfl) (by kernel_rfl) h

/-- (gneiss/arena.View[int]).Set -/
def V_f134 (va : Option Addr) (vb : Int) (i : Int) (x : Int) (w : World) (K : World → Prop) : Prop :=
 ∀ (b1 : Nat) (w2 : World), NewAt w w2 b1 #[.pointer va, .int .i64 vb] 169 →
 ∀ w3 : World, Drew w2 w3 →
 ∃ (q4 : Option Addr), World.cell? w3 ⟨b1, 0, none⟩ = some (.pointer q4) ∧
 PtrOK q4 fun (p5 : Addr) =>
 ∃ (a6 : Option Addr) (l6 c6 : Nat), World.cell? w3 (Addr.add p5 0) = some (.slice a6 l6 c6) ∧
 ∃ (n7 : Int), World.cell? w3 ⟨b1, 1, none⟩ = some (.int .i64 n7) ∧
 Fit .i64 (n7 + i) ∧
 PtrOK a6 fun (p8 : Addr) =>
 ((0 : Int) ≤ (n7 + i) ∧ (n7 + i) < (l6 : Int)) ∧
 May w3 (Addr.add p8 (Int.toNat (n7 + i) * 1)) ∧ ∀ w9 : World, SetC w3 w9 (Addr.add p8 (Int.toNat (n7 + i) * 1)) (.int .i64 x) →
 K w9
theorem r_f134 (va : Option Addr) (vb : Int) (i : Int) (x : Int) (w : World) (K : World → Prop) (h : V_f134 va vb i x w K) : C134 va vb i x w K :=
  @calls_of_eq Try.prog 134 Try.f134 [.agg #[.pointer va, .int .i64 vb], .int .i64 i, .int .i64 x] w [] K _ (cfg true (fun _ => [])) (fun _ => none) (fun _ => none) (fun n => bif Nat.beq n 1 then some 11 else none) Try.func134 (by kernel_rfl) (by kernel_rfl) h

/-- (gneiss/arena.View[int]).Get -/
def V_f141 (va : Option Addr) (vb : Int) (i : Int) (w : World) (K : Int → World → Prop) : Prop :=
 ∀ (b1 : Nat) (w2 : World), NewAt w w2 b1 #[.pointer va, .int .i64 vb] 169 →
 ∀ w3 : World, Drew w2 w3 →
 ∃ (q4 : Option Addr), World.cell? w3 ⟨b1, 0, none⟩ = some (.pointer q4) ∧
 PtrOK q4 fun (p5 : Addr) =>
 ∃ (a6 : Option Addr) (l6 c6 : Nat), World.cell? w3 (Addr.add p5 0) = some (.slice a6 l6 c6) ∧
 ∃ (n7 : Int), World.cell? w3 ⟨b1, 1, none⟩ = some (.int .i64 n7) ∧
 Fit .i64 (n7 + i) ∧
 PtrOK a6 fun (p8 : Addr) =>
 ((0 : Int) ≤ (n7 + i) ∧ (n7 + i) < (l6 : Int)) ∧
 ∃ (n9 : Int), World.cell? w3 (Addr.add p8 (Int.toNat (n7 + i) * 1)) = some (.int .i64 n9) ∧
 K n9 w3
theorem r_f141 (va : Option Addr) (vb : Int) (i : Int) (w : World) (K : Int → World → Prop) (h : V_f141 va vb i w K) : C141 va vb i w K :=
  @calls_of_eq Try.prog 141 Try.f141 [.agg #[.pointer va, .int .i64 vb], .int .i64 i] w [.leaf (.int .i64)] K _ (cfg true (fun _ => [])) (fun _ => none) (fun _ => none) (fun n => bif Nat.beq n 1 then some 12 else none) Try.func141 (by kernel_rfl) (by kernel_rfl) h

/-- (*gneiss/frag.Pool).used -/
def V_f137 (p : Nat) (f : Int) (w : World) (K : Bool → World → Prop) : Prop :=
 IfB (decide ((0 : Int) ≤ f))
 (∃ (n1 : Int), World.cell? w ⟨p, 5, none⟩ = some (.int .i64 n1) ∧
 IfB (decide ((f : Int) < n1))
 (∃ (q2 : Option Addr), ∃ (n3 : Int), CellsAt w ⟨p, 2, none⟩ [.pointer q2, .int .i64 n3] ∧
 C141 q2 n3 f w fun n4 w5 =>
 K (!decide ((n4 : Int) = 0)) w5)
 (K false w))
 (K false w)
theorem r_f137 (p : Nat) (f : Int) (w : World) (K : Bool → World → Prop) (h : V_f137 p f w K) : C137 (some ⟨p, 0, none⟩) f w K :=
  @calls_of_eq Try.prog 137 Try.f137 [.pointer (some ⟨p, 0, none⟩), .int .i64 f] w [.leaf .bool] K _ (cfg true (fun _ => [])) (fun _ => none) (fun _ => none) (fun _ => none) Try.func137 (by kernel_rfl) (by kernel_rfl) h

/-- (*gneiss/frag.Pool).may -/
def V_f138 (p : Nat) (agent : Int) (f : Int) (w : World) (K : Int → World → Prop) : Prop :=
 ∃ (q1 : Option Addr), World.cell? w ⟨p, 0, none⟩ = some (.pointer q1) ∧
 C135 q1 agent w fun b2 w3 =>
 IfB (!b2)
 (K 602 w3)
 (C137 (some ⟨p, 0, none⟩) f w3 fun b4 w5 =>
 IfB (!b4)
 (K 602 w5)
 (K 0 w5))
theorem r_f138 (p : Nat) (agent : Int) (f : Int) (w : World) (K : Int → World → Prop) (h : V_f138 p agent f w K) : C138 (some ⟨p, 0, none⟩) agent f w K :=
  @calls_of_eq Try.prog 138 Try.f138 [.pointer (some ⟨p, 0, none⟩), .int .i64 agent, .int .i64 f] w [.leaf (.int .i64)] K _ (cfg true (fun _ => [])) (fun _ => none) (fun _ => none) (fun _ => none) Try.func138 (by kernel_rfl) (by kernel_rfl) h

/-- (*gneiss/frag.Pool).place -/
def V_f136 (p : Nat) (agent : Int) (f : Int) (i : Int) (w : World) (K : Int → Int → World → Prop) : Prop :=
 C138 (some ⟨p, 0, none⟩) agent f w fun n1 w2 =>
 IfB (!decide ((n1 : Int) = 0))
 (K 0 n1 w2)
 (IfB (decide ((i : Int) < 0))
 (K 0 602 w2)
 (IfB (decide ((8 : Int) ≤ i))
 (K 0 602 w2)
 (∃ (n3 : Int), World.cell? w2 ⟨p, 4, none⟩ = some (.int .i64 n3) ∧
 Fit .i64 (f * 8) ∧
 Fit .i64 (n3 + (f * 8)) ∧
 Fit .i64 ((n3 + (f * 8)) + i) ∧
 K ((n3 + (f * 8)) + i) 0 w2)))
theorem r_f136 (p : Nat) (agent : Int) (f : Int) (i : Int) (w : World) (K : Int → Int → World → Prop) (h : V_f136 p agent f i w K) : C136 (some ⟨p, 0, none⟩) agent f i w K :=
  @calls_of_eq Try.prog 136 Try.f136 [.pointer (some ⟨p, 0, none⟩), .int .i64 agent, .int .i64 f, .int .i64 i] w [.leaf (.int .i64), .leaf (.int .i64)] K _ (cfg true (fun _ => [])) (fun _ => none) (fun _ => none) (fun _ => none) Try.func136 (by kernel_rfl) (by kernel_rfl) h

/-- (*gneiss/frag.Pool).Colour -/
def V_f131 (p : Nat) (f : Int) (w : World) (K : Int → Int → World → Prop) : Prop :=
 IfB (decide ((f : Int) < 0))
 (K 0 602 w)
 (∃ (n1 : Int), World.cell? w ⟨p, 5, none⟩ = some (.int .i64 n1) ∧
 IfB (decide ((n1 : Int) ≤ f))
 (K 0 602 w)
 (∃ (q2 : Option Addr), ∃ (n3 : Int), CellsAt w ⟨p, 2, none⟩ [.pointer q2, .int .i64 n3] ∧
 C141 q2 n3 f w fun n4 w5 =>
 K n4 0 w5))
theorem r_f131 (p : Nat) (f : Int) (w : World) (K : Int → Int → World → Prop) (h : V_f131 p f w K) : C131 (some ⟨p, 0, none⟩) f w K :=
  @calls_of_eq Try.prog 131 Try.f131 [.pointer (some ⟨p, 0, none⟩), .int .i64 f] w [.leaf (.int .i64), .leaf (.int .i64)] K _ (cfg true (fun _ => [])) (fun _ => none) (fun _ => none) (fun _ => none) Try.func131 (by kernel_rfl) (by kernel_rfl) h

/-- (*gneiss/frag.Pool).Arena -/
def V_f156 (p : Nat) (w : World) (K : Option Addr → World → Prop) : Prop :=
 ∃ (q1 : Option Addr), World.cell? w ⟨p, 0, none⟩ = some (.pointer q1) ∧
 K q1 w
theorem r_f156 (p : Nat) (w : World) (K : Option Addr → World → Prop) (h : V_f156 p w K) : C156 (some ⟨p, 0, none⟩) w K :=
  @calls_of_eq Try.prog 156 Try.f156 [.pointer (some ⟨p, 0, none⟩)] w [.leaf .ptr] K _ (cfg true (fun _ => [])) (fun _ => none) (fun _ => none) (fun _ => none) Try.func156 (by kernel_rfl) (by kernel_rfl) h

/-- (*gneiss/frag.Pool).Room -/
def V_f157 (p : Nat) (w : World) (K : Int → World → Prop) : Prop :=
 ∃ (a1 : Option Addr) (l1 c1 : Nat), World.cell? w ⟨p, 1, none⟩ = some (.slice a1 l1 c1) ∧
 K (l1 : Int) w
theorem r_f157 (p : Nat) (w : World) (K : Int → World → Prop) (h : V_f157 p w K) : C157 (some ⟨p, 0, none⟩) w K :=
  @calls_of_eq Try.prog 157 Try.f157 [.pointer (some ⟨p, 0, none⟩)] w [.leaf (.int .i64)] K _ (cfg true (fun _ => [])) (fun _ => none) (fun _ => none) (fun _ => none) Try.func157 (by kernel_rfl) (by kernel_rfl) h

/-- gneiss/frag.New -/
def V_f47 (a : Nat) (base : Int) (count : Int) (w : World) (K : Option Addr → Int → World → Prop) : Prop :=
 IfB (decide ((count : Int) < 1))
 (K none 600 w)
 (IfB (decide ((2000 : Int) < count))
 (K none 600 w)
 (Fit .i64 (14 * count) ∧
 Fit .i64 ((14 * count) + 64) ∧
 C132 (some ⟨a, 0, none⟩) base ((14 * count) + 64) w fun b1 w2 =>
 IfB (!b1)
 (K none 600 w2)
 (C133 (some ⟨a, 0, none⟩) base w2 fun q3 n4 w5 =>
 Fit .i64 (base + count) ∧
 ∀ (b6 : Nat) (w7 : World), NewAt w5 w7 b6 #[.pointer (some ⟨a, 0, none⟩), .slice none 0 0, .pointer q3, .int .i64 n4, .int .i64 (base + count), .int .i64 count] 172 →
 Fit .i64 (count - 1) ∧
 ∃ (I8 : Int → World → Prop) (m9 : Int → World → Nat),
 I8 (count - 1) w7 ∧
 ∀ (_ : Env) (n10 : Int) (w11 : World), I8 n10 w11 →
 IfB (decide ((0 : Int) ≤ n10))
 (∃ (a12 : Option Addr) (l12 c12 : Nat), World.cell? w11 ⟨b6, 1, none⟩ = some (.slice a12 l12 c12) ∧
 ∀ (b13 : Nat) (w14 : World), NewAt w11 w14 b13 #[.int .i64 n10] 3 →
 RunF Try.prog (Builtin.append_ #[42, 42] 42 #[.slice a12 l12 c12, .slice (some ⟨b13, 0, none⟩) 1 1]) w14 [.leaf .slice] fun (a15 : Option Addr) (l15 c15 : Nat) (w16 : World) =>
 May w16 ⟨b6, 1, none⟩ ∧ ∀ w17 : World, SetC w16 w17 ⟨b6, 1, none⟩ (.slice a15 l15 c15) →
 ∃ (q18 : Option Addr), ∃ (n19 : Int), CellsAt w17 ⟨b6, 2, none⟩ [.pointer q18, .int .i64 n19] ∧
 C134 q18 n19 n10 0 w17 fun w20 =>
 Fit .i64 (n10 - 1) ∧
 (I8 (n10 - 1) w20 ∧
 m9 (n10 - 1) w20 < m9 n10 w11))
 (K (some ⟨b6, 0, none⟩) 0 w11))))
theorem r_f47 (a : Nat) (base : Int) (count : Int) (w : World) (K : Option Addr → Int → World → Prop) (h : V_f47 a base count w K) : C47 (some ⟨a, 0, none⟩) base count w K :=
  @calls_of_eq Try.prog 47 Try.f47 [.pointer (some ⟨a, 0, none⟩), .int .i64 base, .int .i64 count] w [.leaf .ptr, .leaf (.int .i64)] K _ (cfg true (fun _ => [])) (fun n => bif Nat.beq n 1 then some ⟨[9], [.int .i64]⟩ else none) (fun _ => none) (fun _ => none) Try.func47 (by kernel_rfl) (by kernel_rfl) h

/-- (*gneiss/frag.Pool).Alloc -/
def V_f48 (p : Nat) (agent : Int) (w : World) (K : Int → Int → World → Prop) : Prop :=
 ∃ (q1 : Option Addr), World.cell? w ⟨p, 0, none⟩ = some (.pointer q1) ∧
 C135 q1 agent w fun b2 w3 =>
 IfB (!b2)
 (K 0 602 w3)
 (∃ (a4 : Option Addr) (l4 c4 : Nat), World.cell? w3 ⟨p, 1, none⟩ = some (.slice a4 l4 c4) ∧
 IfB (decide (((l4 : Int) : Int) = 0))
 (K 0 601 w3)
 (∀ w5 : World, Drew w3 w5 →
 ∃ (a6 : Option Addr) (l6 c6 : Nat), World.cell? w5 ⟨p, 1, none⟩ = some (.slice a6 l6 c6) ∧
 ∃ (a7 : Option Addr) (l7 c7 : Nat), World.cell? w5 ⟨p, 1, none⟩ = some (.slice a7 l7 c7) ∧
 Fit .i64 ((l7 : Int) - 1) ∧
 PtrOK a6 fun (p8 : Addr) =>
 ((0 : Int) ≤ ((l7 : Int) - 1) ∧ ((l7 : Int) - 1) < (l6 : Int)) ∧
 ∃ (n9 : Int), World.cell? w5 (Addr.add p8 (Int.toNat ((l7 : Int) - 1) * 1)) = some (.int .i64 n9) ∧
 ∀ w10 : World, Drew w5 w10 →
 ∃ (a11 : Option Addr) (l11 c11 : Nat), World.cell? w10 ⟨p, 1, none⟩ = some (.slice a11 l11 c11) ∧
 ∃ (a12 : Option Addr) (l12 c12 : Nat), World.cell? w10 ⟨p, 1, none⟩ = some (.slice a12 l12 c12) ∧
 Fit .i64 ((l12 : Int) - 1) ∧
 ((0 : Int) ≤ ((l12 : Int) - 1) ∧ ((l12 : Int) - 1) ≤ (c11 : Int)) ∧
 May w10 ⟨p, 1, none⟩ ∧ ∀ w13 : World, SetC w10 w13 ⟨p, 1, none⟩ (.slice a11 (Int.toNat ((l12 : Int) - 1)) c11) →
 ∃ (q14 : Option Addr), ∃ (n15 : Int), CellsAt w13 ⟨p, 2, none⟩ [.pointer q14, .int .i64 n15] ∧
 C134 q14 n15 n9 1 w13 fun w16 =>
 ∃ M17 : Option Addr → World → Prop,
 (∀ w20 : World, Drew w16 w20 →
 Fit .i64 (n9 * 8) ∧
 (∃ (q21 : Option Addr), World.cell? w20 ⟨p, 0, none⟩ = some (.pointer q21) ∧
 (∃ (n22 : Int), World.cell? w20 ⟨p, 4, none⟩ = some (.int .i64 n22) ∧
 Fit .i64 (n22 + (n9 * 8)) ∧
 (C133 q21 (n22 + (n9 * 8)) w20 fun q23 n24 w25 =>
 ∀ (b26 : Nat) (w27 : World), NewAt w25 w27 b26 #[.pointer none, .int .i64 0] 169 →
 MayL w27 ⟨b26, 0, none⟩ 2 ∧ ∀ w28 : World, SetL w27 w28 ⟨b26, 0, none⟩ [.pointer q23, .int .i64 n24] →
 M17 (some ⟨b26, 0, none⟩) w28) ∧
 (∀ (b29 : Nat) (w30 : World), NewAt w20 w30 b29 #[.pointer none, .int .i64 0] 169 →
 C133 q21 (n22 + (n9 * 8)) w30 fun q31 n32 w33 =>
 MayL w33 ⟨b29, 0, none⟩ 2 ∧ ∀ w34 : World, SetL w33 w34 ⟨b29, 0, none⟩ [.pointer q31, .int .i64 n32] →
 M17 (some ⟨b29, 0, none⟩) w34)) ∧
 (∀ (b35 : Nat) (w36 : World), NewAt w20 w36 b35 #[.pointer none, .int .i64 0] 169 →
 ∃ (n37 : Int), World.cell? w36 ⟨p, 4, none⟩ = some (.int .i64 n37) ∧
 Fit .i64 (n37 + (n9 * 8)) ∧
 C133 q21 (n37 + (n9 * 8)) w36 fun q38 n39 w40 =>
 MayL w40 ⟨b35, 0, none⟩ 2 ∧ ∀ w41 : World, SetL w40 w41 ⟨b35, 0, none⟩ [.pointer q38, .int .i64 n39] →
 M17 (some ⟨b35, 0, none⟩) w41)) ∧
 (∃ (n42 : Int), World.cell? w20 ⟨p, 4, none⟩ = some (.int .i64 n42) ∧
 Fit .i64 (n42 + (n9 * 8)) ∧
 (∃ (q43 : Option Addr), World.cell? w20 ⟨p, 0, none⟩ = some (.pointer q43) ∧
 (C133 q43 (n42 + (n9 * 8)) w20 fun q44 n45 w46 =>
 ∀ (b47 : Nat) (w48 : World), NewAt w46 w48 b47 #[.pointer none, .int .i64 0] 169 →
 MayL w48 ⟨b47, 0, none⟩ 2 ∧ ∀ w49 : World, SetL w48 w49 ⟨b47, 0, none⟩ [.pointer q44, .int .i64 n45] →
 M17 (some ⟨b47, 0, none⟩) w49) ∧
 (∀ (b50 : Nat) (w51 : World), NewAt w20 w51 b50 #[.pointer none, .int .i64 0] 169 →
 C133 q43 (n42 + (n9 * 8)) w51 fun q52 n53 w54 =>
 MayL w54 ⟨b50, 0, none⟩ 2 ∧ ∀ w55 : World, SetL w54 w55 ⟨b50, 0, none⟩ [.pointer q52, .int .i64 n53] →
 M17 (some ⟨b50, 0, none⟩) w55)) ∧
 (∀ (b56 : Nat) (w57 : World), NewAt w20 w57 b56 #[.pointer none, .int .i64 0] 169 →
 ∃ (q58 : Option Addr), World.cell? w57 ⟨p, 0, none⟩ = some (.pointer q58) ∧
 C133 q58 (n42 + (n9 * 8)) w57 fun q59 n60 w61 =>
 MayL w61 ⟨b56, 0, none⟩ 2 ∧ ∀ w62 : World, SetL w61 w62 ⟨b56, 0, none⟩ [.pointer q59, .int .i64 n60] →
 M17 (some ⟨b56, 0, none⟩) w62)) ∧
 (∀ (b63 : Nat) (w64 : World), NewAt w20 w64 b63 #[.pointer none, .int .i64 0] 169 →
 ∃ (q65 : Option Addr), World.cell? w64 ⟨p, 0, none⟩ = some (.pointer q65) ∧
 ∃ (n66 : Int), World.cell? w64 ⟨p, 4, none⟩ = some (.int .i64 n66) ∧
 Fit .i64 (n66 + (n9 * 8)) ∧
 C133 q65 (n66 + (n9 * 8)) w64 fun q67 n68 w69 =>
 MayL w69 ⟨b63, 0, none⟩ 2 ∧ ∀ w70 : World, SetL w69 w70 ⟨b63, 0, none⟩ [.pointer q67, .int .i64 n68] →
 M17 (some ⟨b63, 0, none⟩) w70)) ∧
 ∀ (_ : Env) (q18 : Option Addr) (w19 : World), M17 q18 w19 →
 ∃ (I71 : Int → World → Prop) (m72 : Int → World → Nat),
 I71 0 w19 ∧
 ∀ (_ : Env) (n73 : Int) (w74 : World), I71 n73 w74 →
 IfB (decide ((n73 : Int) < 8))
 (PtrOK q18 fun (p75 : Addr) =>
 ∃ (q76 : Option Addr), ∃ (n77 : Int), CellsAt w74 p75 [.pointer q76, .int .i64 n77] ∧
 C134 q76 n77 n73 0 w74 fun w78 =>
 Fit .i64 (n73 + 1) ∧
 (I71 (n73 + 1) w78 ∧
 m72 (n73 + 1) w78 < m72 n73 w74))
 (K n9 0 w74)))
theorem r_f48 (p : Nat) (agent : Int) (w : World) (K : Int → Int → World → Prop) (h : V_f48 p agent w K) : C48 (some ⟨p, 0, none⟩) agent w K :=
  @calls_of_eq Try.prog 48 Try.f48 [.pointer (some ⟨p, 0, none⟩), .int .i64 agent] w [.leaf (.int .i64), .leaf (.int .i64)] K _ (cfg true (fun _ => [])) (fun n => bif Nat.beq n 1 then some ⟨[71], [.int .i64]⟩ else none) (fun n => bif Nat.beq n 11 then some ⟨[7], [.ptr]⟩ else none) (fun n => bif Nat.beq n 7 then some 13 else bif Nat.beq n 8 then some 14 else none) Try.func48 (by kernel_rfl) (by kernel_rfl) h

/-- (*gneiss/frag.Pool).Store -/
def V_f49 (p : Nat) (agent : Int) (f : Int) (i : Int) (v : Int) (w : World) (K : Int → World → Prop) : Prop :=
 C136 (some ⟨p, 0, none⟩) agent f i w fun n1 n2 w3 =>
 IfB (!decide ((n2 : Int) = 0))
 (K n2 w3)
 (∃ (q4 : Option Addr), World.cell? w3 ⟨p, 0, none⟩ = some (.pointer q4) ∧
 C43 q4 agent n1 v w3 fun n5 w6 =>
 K n5 w6)
theorem r_f49 (p : Nat) (agent : Int) (f : Int) (i : Int) (v : Int) (w : World) (K : Int → World → Prop) (h : V_f49 p agent f i v w K) : C49 (some ⟨p, 0, none⟩) agent f i v w K :=
  @calls_of_eq Try.prog 49 Try.f49 [.pointer (some ⟨p, 0, none⟩), .int .i64 agent, .int .i64 f, .int .i64 i, .int .i64 v] w [.leaf (.int .i64)] K _ (cfg true (fun _ => [])) (fun _ => none) (fun _ => none) (fun _ => none) Try.func49 (by kernel_rfl) (by kernel_rfl) h

/-- (*gneiss/frag.Pool).Used -/
def V_f50 (p : Nat) (w : World) (K : Option Addr → Nat → Nat → World → Prop) : Prop :=
 ∃ (n1 : Int), World.cell? w ⟨p, 5, none⟩ = some (.int .i64 n1) ∧
 ∃ (I2 : Option Addr → Nat → Nat → Int → World → Prop) (m3 : Option Addr → Nat → Nat → Int → World → Nat),
 I2 none 0 0 0 w ∧
 ∀ (_ : Env) (a4 : Option Addr) (l4 c4 : Nat) (n5 : Int) (w6 : World), I2 a4 l4 c4 n5 w6 →
 IfB (decide ((n5 : Int) < n1))
 (C137 (some ⟨p, 0, none⟩) n5 w6 fun b7 w8 =>
 IfB b7
 (∀ (b9 : Nat) (w10 : World), NewAt w8 w10 b9 #[.int .i64 n5] 3 →
 RunF Try.prog (Builtin.append_ #[42, 42] 42 #[.slice a4 l4 c4, .slice (some ⟨b9, 0, none⟩) 1 1]) w10 [.leaf .slice] fun (a11 : Option Addr) (l11 c11 : Nat) (w12 : World) =>
 Fit .i64 (n5 + 1) ∧
 (I2 a11 l11 c11 (n5 + 1) w12 ∧
 m3 a11 l11 c11 (n5 + 1) w12 < m3 a4 l4 c4 n5 w6))
 (Fit .i64 (n5 + 1) ∧
 (I2 a4 l4 c4 (n5 + 1) w8 ∧
 m3 a4 l4 c4 (n5 + 1) w8 < m3 a4 l4 c4 n5 w6)))
 (K a4 l4 c4 w6)
theorem r_f50 (p : Nat) (w : World) (K : Option Addr → Nat → Nat → World → Prop) (h : V_f50 p w K) : C50 (some ⟨p, 0, none⟩) w K :=
  @calls_of_eq Try.prog 50 Try.f50 [.pointer (some ⟨p, 0, none⟩)] w [.leaf .slice] K _ (cfg true (fun _ => [])) (fun n => bif Nat.beq n 0 then some ⟨[3, 11], [.slice, .int .i64]⟩ else none) (fun _ => none) (fun _ => none) Try.func50 (by kernel_rfl) (by kernel_rfl) h

/-- gneiss/gneisslaw6.begun -/
def V_f51 (base : Int) (count : Int) (w : World) (K : Option Addr → Option Addr → Bool → World → Prop) : Prop :=
 Fit .i64 (14 * count) ∧
 Fit .i64 (base + (14 * count)) ∧
 Fit .i64 ((base + (14 * count)) + 64) ∧
 C40 ((base + (14 * count)) + 64) 3 w fun q1 n2 w3 =>
 C47 q1 base count w3 fun q4 n5 w6 =>
 IfB (decide ((n2 : Int) = 0))
 (IfB (decide ((n5 : Int) = 0))
 (K q4 q1 (!(Option.isNone q4)) w6)
 (K q4 q1 false w6))
 (K q4 q1 false w6)
theorem r_f51 (base : Int) (count : Int) (w : World) (K : Option Addr → Option Addr → Bool → World → Prop) (h : V_f51 base count w K) : C51 base count w K :=
  @calls_of_eq Try.prog 51 Try.f51 [.int .i64 base, .int .i64 count] w [.leaf .ptr, .leaf .ptr, .leaf .bool] K _ (cfg true (fun _ => [])) (fun _ => none) (fun _ => none) (fun _ => none) Try.func51 (by kernel_rfl) (by kernel_rfl) h

/-- (*gneiss/frag.Pool).Load -/
def V_f52 (p : Nat) (agent : Int) (f : Int) (i : Int) (w : World) (K : Int → Int → World → Prop) : Prop :=
 C136 (some ⟨p, 0, none⟩) agent f i w fun n1 n2 w3 =>
 IfB (!decide ((n2 : Int) = 0))
 (K 0 n2 w3)
 (∃ (q4 : Option Addr), World.cell? w3 ⟨p, 0, none⟩ = some (.pointer q4) ∧
 C42 q4 agent n1 w3 fun n5 n6 w7 =>
 K n5 n6 w7)
theorem r_f52 (p : Nat) (agent : Int) (f : Int) (i : Int) (w : World) (K : Int → Int → World → Prop) (h : V_f52 p agent f i w K) : C52 (some ⟨p, 0, none⟩) agent f i w K :=
  @calls_of_eq Try.prog 52 Try.f52 [.pointer (some ⟨p, 0, none⟩), .int .i64 agent, .int .i64 f, .int .i64 i] w [.leaf (.int .i64), .leaf (.int .i64)] K _ (cfg true (fun _ => [])) (fun _ => none) (fun _ => none) (fun _ => none) Try.func52 (by kernel_rfl) (by kernel_rfl) h

/-- (*gneiss/frag.Pool).Paint -/
def V_f53 (p : Nat) (agent : Int) (f : Int) (c : Int) (w : World) (K : Int → World → Prop) : Prop :=
 C138 (some ⟨p, 0, none⟩) agent f w fun n1 w2 =>
 IfB (!decide ((n1 : Int) = 0))
 (K n1 w2)
 (IfB (decide ((c : Int) < 1))
 (K 603 w2)
 (IfB (decide ((3 : Int) < c))
 (K 603 w2)
 (∃ (q3 : Option Addr), ∃ (n4 : Int), CellsAt w2 ⟨p, 2, none⟩ [.pointer q3, .int .i64 n4] ∧
 C134 q3 n4 f c w2 fun w5 =>
 K 0 w5)))
theorem r_f53 (p : Nat) (agent : Int) (f : Int) (c : Int) (w : World) (K : Int → World → Prop) (h : V_f53 p agent f c w K) : C53 (some ⟨p, 0, none⟩) agent f c w K :=
  @calls_of_eq Try.prog 53 Try.f53 [.pointer (some ⟨p, 0, none⟩), .int .i64 agent, .int .i64 f, .int .i64 c] w [.leaf (.int .i64)] K _ (cfg true (fun _ => [])) (fun _ => none) (fun _ => none) (fun _ => none) Try.func53 (by kernel_rfl) (by kernel_rfl) h

/-- (*gneiss/frag.Pool).Free -/
def V_f54 (p : Nat) (agent : Int) (f : Int) (w : World) (K : Int → World → Prop) : Prop :=
 C138 (some ⟨p, 0, none⟩) agent f w fun n1 w2 =>
 IfB (decide ((n1 : Int) = 0))
 (∃ (q3 : Option Addr), ∃ (n4 : Int), CellsAt w2 ⟨p, 2, none⟩ [.pointer q3, .int .i64 n4] ∧
 C134 q3 n4 f 0 w2 fun w5 =>
 ∃ (a6 : Option Addr) (l6 c6 : Nat), World.cell? w5 ⟨p, 1, none⟩ = some (.slice a6 l6 c6) ∧
 ∀ (b7 : Nat) (w8 : World), NewAt w5 w8 b7 #[.int .i64 f] 3 →
 RunF Try.prog (Builtin.append_ #[42, 42] 42 #[.slice a6 l6 c6, .slice (some ⟨b7, 0, none⟩) 1 1]) w8 [.leaf .slice] fun (a9 : Option Addr) (l9 c9 : Nat) (w10 : World) =>
 May w10 ⟨p, 1, none⟩ ∧ ∀ w11 : World, SetC w10 w11 ⟨p, 1, none⟩ (.slice a9 l9 c9) →
 K n1 w11)
 (K n1 w2)
theorem r_f54 (p : Nat) (agent : Int) (f : Int) (w : World) (K : Int → World → Prop) (h : V_f54 p agent f w K) : C54 (some ⟨p, 0, none⟩) agent f w K :=
  @calls_of_eq Try.prog 54 Try.f54 [.pointer (some ⟨p, 0, none⟩), .int .i64 agent, .int .i64 f] w [.leaf (.int .i64)] K _ (cfg true (fun _ => [])) (fun _ => none) (fun _ => none) (fun _ => none) Try.func54 (by kernel_rfl) (by kernel_rfl) h

/-- gneiss/gneisslaw6.awake -/
def V_f46 (w : World) (K : Bool → World → Prop) : Prop :=
 C51 0 1 w fun q1 q2 b3 w4 =>
 IfB (!b3)
 (K false w4)
 (C48 q1 0 w4 fun n5 n6 w7 =>
 C48 q1 1 w7 fun n8 n9 w10 =>
 C49 q1 0 0 7 9 w10 fun n11 w12 =>
 C52 q1 2 0 7 w12 fun n13 n14 w15 =>
 C54 q1 0 0 w15 fun n16 w17 =>
 C131 q1 0 w17 fun n18 n19 w20 =>
 IfB (decide ((n5 : Int) = 0))
 (IfB (decide ((n6 : Int) = 0))
 (IfB (decide ((n9 : Int) = 601))
 (IfB (decide ((n11 : Int) = 0))
 (IfB (decide ((n13 : Int) = 9))
 (IfB (decide ((n14 : Int) = 0))
 (IfB (decide ((n16 : Int) = 0))
 (IfB (decide ((n18 : Int) = 0))
 (K (decide ((n19 : Int) = 0)) w20)
 (K false w20))
 (K false w20))
 (K false w20))
 (K false w20))
 (K false w20))
 (K false w20))
 (K false w20))
 (K false w20))
theorem r_f46 (w : World) (K : Bool → World → Prop) (h : V_f46 w K) : C46  w K :=
  @calls_of_eq Try.prog 46 Try.f46 [] w [.leaf .bool] K _ (cfg true (fun _ => [])) (fun _ => none) (fun _ => none) (fun _ => none) Try.func46 (by kernel_rfl) (by kernel_rfl) h

end Go.Proofs.Ytfpghcdjfiggiaa.V
