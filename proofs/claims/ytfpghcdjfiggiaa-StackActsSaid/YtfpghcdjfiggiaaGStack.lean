/- Readings of the program's functions. No condition. -/
import Derived.Test.YtfpghcdjfiggiaaGCfg
namespace Go.Proofs.Ytfpghcdjfiggiaa.V
open Go
set_option maxRecDepth 100000
set_option linter.unusedVariables false
/-- (*gneiss/stack.Stack).pushed -/
def V_f142 (s : Nat) (v : Int) (w : World) (K : Bool → World → Prop) : Prop :=
 ∃ (q1 : Option Addr), ∃ (q2 : Option Addr), ∃ (q3 : Option Addr), ∃ (q4 : Option Addr), ∃ (q5 : Option Addr), ∃ (q6 : Option Addr), ∃ (q7 : Option Addr), ∃ (q8 : Option Addr), ∃ (q9 : Option Addr), ∃ (q10 : Option Addr), ∃ (q11 : Option Addr), ∃ (q12 : Option Addr), CellsAt w ⟨s, 3, none⟩ [.pointer q1, .pointer q2, .pointer q3, .pointer q4, .pointer q5, .pointer q6, .pointer q7, .pointer q8, .pointer q9, .pointer q10, .pointer q11, .pointer q12] ∧
 ∃ (I13 : Int → World → Prop) (m14 : Int → World → Nat),
 I13 0 w ∧
 ∀ (_ : Env) (n15 : Int) (w16 : World), I13 n15 w16 →
 IfB (decide ((n15 : Int) < 12))
 (((0 : Int) ≤ n15 ∧ n15 < (12 : Int)) ∧
 ∃ (q17 : Option Addr), ([.pointer q1, .pointer q2, .pointer q3, .pointer q4, .pointer q5, .pointer q6, .pointer q7, .pointer q8, .pointer q9, .pointer q10, .pointer q11, .pointer q12] : List Value)[Int.toNat n15 * 1]? = some (.pointer q17) ∧
 IfB (!(Option.isNone q17))
 (PtrOK q17 fun (p18 : Addr) =>
 ∃ (n19 : Int), World.cell? w16 (Addr.add p18 0) = some (.int .i64 n19) ∧
 IfB (decide ((n19 : Int) = 0))
 (PtrOK q17 fun (p20 : Addr) =>
 ∃ (n21 : Int), World.cell? w16 (Addr.add p20 1) = some (.int .i64 n21) ∧
 IfB (decide ((n21 : Int) = v))
 (K true w16)
 (Fit .i64 (n15 + 1) ∧
 (I13 (n15 + 1) w16 ∧
 m14 (n15 + 1) w16 < m14 n15 w16)))
 (Fit .i64 (n15 + 1) ∧
 (I13 (n15 + 1) w16 ∧
 m14 (n15 + 1) w16 < m14 n15 w16)))
 (Fit .i64 (n15 + 1) ∧
 (I13 (n15 + 1) w16 ∧
 m14 (n15 + 1) w16 < m14 n15 w16)))
 (K false w16)
theorem r_f142 (s : Nat) (v : Int) (w : World) (K : Bool → World → Prop) (h : V_f142 s v w K) : C142 (some ⟨s, 0, none⟩) v w K :=
  @calls_of_eq Try.prog 142 Try.f142 [.pointer (some ⟨s, 0, none⟩), .int .i64 v] w [.leaf .bool] K _ (cfg true (fun _ => [])) (fun n => bif Nat.beq n 0 then some ⟨[11], [.int .i64]⟩ else none) (fun _ => none) (fun _ => none) Try.func142 (by kernel_rfl) (by kernel_rfl) h

/-- (*gneiss/stack.Stack).Has -/
def V_f143 (s : Nat) (v : Int) (w : World) (K : Bool → World → Prop) : Prop :=
 C60 (some ⟨s, 0, none⟩) w fun a1 l1 c1 w2 =>
 ∃ (I3 : Int → World → Prop) (m4 : Int → World → Nat),
 I3 0 w2 ∧
 ∀ (_ : Env) (n5 : Int) (w6 : World), I3 n5 w6 →
 IfB (decide ((n5 : Int) < (l1 : Int)))
 (PtrOK a1 fun (p7 : Addr) =>
 ((0 : Int) ≤ n5 ∧ n5 < (l1 : Int)) ∧
 ∃ (n8 : Int), World.cell? w6 (Addr.add p7 (Int.toNat n5 * 1)) = some (.int .i64 n8) ∧
 IfB (decide ((n8 : Int) = v))
 (K true w6)
 (Fit .i64 (n5 + 1) ∧
 (I3 (n5 + 1) w6 ∧
 m4 (n5 + 1) w6 < m4 n5 w6)))
 (K false w6)
theorem r_f143 (s : Nat) (v : Int) (w : World) (K : Bool → World → Prop) (h : V_f143 s v w K) : C143 (some ⟨s, 0, none⟩) v w K :=
  @calls_of_eq Try.prog 143 Try.f143 [.pointer (some ⟨s, 0, none⟩), .int .i64 v] w [.leaf .bool] K _ (cfg true (fun _ => [])) (fun n => bif Nat.beq n 0 then some ⟨[10], [.int .i64]⟩ else none) (fun _ => none) (fun _ => none) Try.func143 (by kernel_rfl) (by kernel_rfl) h

/-- (*gneiss/stack.Stack).step -/
def V_f144 (s : Nat) (agent : Int) (o : Option Addr) (w : World) (K : Bool → Int → Bool → World → Prop) : Prop :=
 PtrOK o fun (p1 : Addr) =>
 ∃ (n2 : Int), World.cell? w (Addr.add p1 2) = some (.int .i64 n2) ∧
 IfB (decide ((n2 : Int) = 0))
 (∃ M3 : World → Prop,
 (∀ w5 : World, Drew w w5 →
 ∃ (q6 : Option Addr), World.cell? w5 ⟨s, 0, none⟩ = some (.pointer q6) ∧
 ∃ (n7 : Int), World.cell? w5 ⟨s, 1, none⟩ = some (.int .i64 n7) ∧
 C42 q6 agent n7 w5 fun n8 n9 w10 =>
 PtrOK o fun (p11 : Addr) =>
 May w10 (Addr.add p11 3) ∧ ∀ w12 : World, SetC w10 w12 (Addr.add p11 3) (.int .i64 n8) →
 M3 w12) ∧
 ∀ (_ : Env) (w4 : World), M3 w4 →
 PtrOK o fun (p13 : Addr) =>
 May w4 (Addr.add p13 2) ∧ ∀ w14 : World, SetC w4 w14 (Addr.add p13 2) (.int .i64 1) →
 PtrOK o fun (p15 : Addr) =>
 ∃ (n16 : Int), World.cell? w14 (Addr.add p15 0) = some (.int .i64 n16) ∧
 IfB (decide ((n16 : Int) = 1))
 (PtrOK o fun (p17 : Addr) =>
 ∃ (n18 : Int), World.cell? w14 (Addr.add p17 3) = some (.int .i64 n18) ∧
 IfB (decide (((bits .and .i64 n18 65535) : Int) = 0))
 (K true 0 false w14)
 (K false 0 false w14))
 (K false 0 false w14))
 (IfB (decide ((n2 : Int) = 1))
 (PtrOK o fun (p19 : Addr) =>
 ∃ (n20 : Int), World.cell? w (Addr.add p19 3) = some (.int .i64 n20) ∧
 PtrOK o fun (p21 : Addr) =>
 ∃ (n22 : Int), World.cell? w (Addr.add p21 0) = some (.int .i64 n22) ∧
 IfB (decide ((n22 : Int) = 0))
 (∀ w23 : World, Drew w w23 →
 ∃ (q24 : Option Addr), World.cell? w23 ⟨s, 0, none⟩ = some (.pointer q24) ∧
 ∃ (n25 : Int), World.cell? w23 ⟨s, 1, none⟩ = some (.int .i64 n25) ∧
 Fit .i64 (n25 + 1) ∧
 PtrOK o fun (p26 : Addr) =>
 ∃ (n27 : Int), World.cell? w23 (Addr.add p26 1) = some (.int .i64 n27) ∧
 Fit .i64 ((n25 + 1) + n27) ∧
 C43 q24 agent ((n25 + 1) + n27) (bits .and .i64 n20 65535) w23 fun n28 w29 =>
 PtrOK o fun (p30 : Addr) =>
 ∃ (n31 : Int), World.cell? w29 (Addr.add p30 1) = some (.int .i64 n31) ∧
 Fit .i64 (n31 + 1) ∧
 PtrOK o fun (p32 : Addr) =>
 May w29 (Addr.add p32 4) ∧ ∀ w33 : World, SetC w29 w33 (Addr.add p32 4) (.int .i64 (n31 + 1)) →
 PtrOK o fun (p34 : Addr) =>
 May w33 (Addr.add p34 2) ∧ ∀ w35 : World, SetC w33 w35 (Addr.add p34 2) (.int .i64 2) →
 K false 0 false w35)
 (∀ w36 : World, Drew w w36 →
 ∃ (q37 : Option Addr), World.cell? w36 ⟨s, 0, none⟩ = some (.pointer q37) ∧
 ∃ (n38 : Int), World.cell? w36 ⟨s, 1, none⟩ = some (.int .i64 n38) ∧
 Fit .i64 (n38 + (bits .and .i64 n20 65535)) ∧
 C42 q37 agent (n38 + (bits .and .i64 n20 65535)) w36 fun n39 n40 w41 =>
 PtrOK o fun (p42 : Addr) =>
 May w41 (Addr.add p42 4) ∧ ∀ w43 : World, SetC w41 w43 (Addr.add p42 4) (.int .i64 n39) →
 PtrOK o fun (p44 : Addr) =>
 May w43 (Addr.add p44 2) ∧ ∀ w45 : World, SetC w43 w45 (Addr.add p44 2) (.int .i64 2) →
 K false 0 false w45))
 (∀ w46 : World, Drew w w46 →
 PtrOK o fun (p47 : Addr) =>
 ∃ (n48 : Int), World.cell? w46 (Addr.add p47 3) = some (.int .i64 n48) ∧
 ((0 : Int) ≤ 16 ∧ 16 ≤ (64 : Int)) ∧
 Fit .i64 ((n48 / 2 ^ Int.toNat 16) + 1) ∧
 ((0 : Int) ≤ 16 ∧ 16 ≤ (64 : Int)) ∧
 PtrOK o fun (p49 : Addr) =>
 ∃ (n50 : Int), World.cell? w46 (Addr.add p49 4) = some (.int .i64 n50) ∧
 ∃ M51 : Bool → World → Prop,
 (∀ w54 : World, Drew w46 w54 →
 ∃ (q55 : Option Addr), World.cell? w54 ⟨s, 0, none⟩ = some (.pointer q55) ∧
 ∃ (n56 : Int), World.cell? w54 ⟨s, 1, none⟩ = some (.int .i64 n56) ∧
 PtrOK o fun (p57 : Addr) =>
 ∃ (n58 : Int), World.cell? w54 (Addr.add p57 3) = some (.int .i64 n58) ∧
 C44 q55 agent n56 n58 (bits .or .i64 (IntKind.wrap .i64 (((n48 / 2 ^ Int.toNat 16) + 1) * 2 ^ Int.toNat 16)) n50) w54 fun b59 n60 w61 =>
 M51 b59 w61) ∧
 ∀ (_ : Env) (b52 : Bool) (w53 : World), M51 b52 w53 →
 IfB (!b52)
 (PtrOK o fun (p62 : Addr) =>
 May w53 (Addr.add p62 2) ∧ ∀ w63 : World, SetC w53 w63 (Addr.add p62 2) (.int .i64 0) →
 K false 0 false w63)
 (PtrOK o fun (p64 : Addr) =>
 ∃ (n65 : Int), World.cell? w53 (Addr.add p64 0) = some (.int .i64 n65) ∧
 IfB (decide ((n65 : Int) = 0))
 (K true 0 true w53)
 (∀ w66 : World, Drew w53 w66 →
 PtrOK o fun (p67 : Addr) =>
 ∃ (n68 : Int), World.cell? w66 (Addr.add p67 3) = some (.int .i64 n68) ∧
 Fit .i64 ((bits .and .i64 n68 65535) - 1) ∧
 K true ((bits .and .i64 n68 65535) - 1) true w66))))
theorem r_f144 (s : Nat) (agent : Int) (o : Option Addr) (w : World) (K : Bool → Int → Bool → World → Prop) (h : V_f144 s agent o w K) : C144 (some ⟨s, 0, none⟩) agent o w K :=
  @calls_of_eq Try.prog 144 Try.f144 [.pointer (some ⟨s, 0, none⟩), .int .i64 agent, .pointer o] w [.leaf .bool, .leaf (.int .i64), .leaf .bool] K _ (cfg true (fun _ => [])) (fun _ => none) (fun n => bif Nat.beq n 4 then some ⟨[11], [.bool]⟩ else bif Nat.beq n 12 then some ⟨[], []⟩ else none) (fun n => bif Nat.beq n 2 then some 13 else bif Nat.beq n 9 then some 9 else bif Nat.beq n 18 then some 16 else none) Try.func144 (by kernel_rfl) (by kernel_rfl) h

/-- (*gneiss/stack.Stack).Items -/
def V_f60 (s : Nat) (w : World) (K : Option Addr → Nat → Nat → World → Prop) : Prop :=
 ∃ M1 : Option Addr → World → Prop,
 (∀ w4 : World, Drew w w4 →
 (∃ (q5 : Option Addr), World.cell? w4 ⟨s, 0, none⟩ = some (.pointer q5) ∧
 (∃ (n6 : Int), World.cell? w4 ⟨s, 1, none⟩ = some (.int .i64 n6) ∧
 (C133 q5 n6 w4 fun q7 n8 w9 =>
 ∀ (b10 : Nat) (w11 : World), NewAt w9 w11 b10 #[.pointer none, .int .i64 0] 169 →
 MayL w11 ⟨b10, 0, none⟩ 2 ∧ ∀ w12 : World, SetL w11 w12 ⟨b10, 0, none⟩ [.pointer q7, .int .i64 n8] →
 M1 (some ⟨b10, 0, none⟩) w12) ∧
 (∀ (b13 : Nat) (w14 : World), NewAt w4 w14 b13 #[.pointer none, .int .i64 0] 169 →
 C133 q5 n6 w14 fun q15 n16 w17 =>
 MayL w17 ⟨b13, 0, none⟩ 2 ∧ ∀ w18 : World, SetL w17 w18 ⟨b13, 0, none⟩ [.pointer q15, .int .i64 n16] →
 M1 (some ⟨b13, 0, none⟩) w18)) ∧
 (∀ (b19 : Nat) (w20 : World), NewAt w4 w20 b19 #[.pointer none, .int .i64 0] 169 →
 ∃ (n21 : Int), World.cell? w20 ⟨s, 1, none⟩ = some (.int .i64 n21) ∧
 C133 q5 n21 w20 fun q22 n23 w24 =>
 MayL w24 ⟨b19, 0, none⟩ 2 ∧ ∀ w25 : World, SetL w24 w25 ⟨b19, 0, none⟩ [.pointer q22, .int .i64 n23] →
 M1 (some ⟨b19, 0, none⟩) w25)) ∧
 (∃ (n26 : Int), World.cell? w4 ⟨s, 1, none⟩ = some (.int .i64 n26) ∧
 (∃ (q27 : Option Addr), World.cell? w4 ⟨s, 0, none⟩ = some (.pointer q27) ∧
 (C133 q27 n26 w4 fun q28 n29 w30 =>
 ∀ (b31 : Nat) (w32 : World), NewAt w30 w32 b31 #[.pointer none, .int .i64 0] 169 →
 MayL w32 ⟨b31, 0, none⟩ 2 ∧ ∀ w33 : World, SetL w32 w33 ⟨b31, 0, none⟩ [.pointer q28, .int .i64 n29] →
 M1 (some ⟨b31, 0, none⟩) w33) ∧
 (∀ (b34 : Nat) (w35 : World), NewAt w4 w35 b34 #[.pointer none, .int .i64 0] 169 →
 C133 q27 n26 w35 fun q36 n37 w38 =>
 MayL w38 ⟨b34, 0, none⟩ 2 ∧ ∀ w39 : World, SetL w38 w39 ⟨b34, 0, none⟩ [.pointer q36, .int .i64 n37] →
 M1 (some ⟨b34, 0, none⟩) w39)) ∧
 (∀ (b40 : Nat) (w41 : World), NewAt w4 w41 b40 #[.pointer none, .int .i64 0] 169 →
 ∃ (q42 : Option Addr), World.cell? w41 ⟨s, 0, none⟩ = some (.pointer q42) ∧
 C133 q42 n26 w41 fun q43 n44 w45 =>
 MayL w45 ⟨b40, 0, none⟩ 2 ∧ ∀ w46 : World, SetL w45 w46 ⟨b40, 0, none⟩ [.pointer q43, .int .i64 n44] →
 M1 (some ⟨b40, 0, none⟩) w46)) ∧
 (∀ (b47 : Nat) (w48 : World), NewAt w4 w48 b47 #[.pointer none, .int .i64 0] 169 →
 ∃ (q49 : Option Addr), World.cell? w48 ⟨s, 0, none⟩ = some (.pointer q49) ∧
 ∃ (n50 : Int), World.cell? w48 ⟨s, 1, none⟩ = some (.int .i64 n50) ∧
 C133 q49 n50 w48 fun q51 n52 w53 =>
 MayL w53 ⟨b47, 0, none⟩ 2 ∧ ∀ w54 : World, SetL w53 w54 ⟨b47, 0, none⟩ [.pointer q51, .int .i64 n52] →
 M1 (some ⟨b47, 0, none⟩) w54)) ∧
 ∀ (_ : Env) (q2 : Option Addr) (w3 : World), M1 q2 w3 →
 PtrOK q2 fun (p55 : Addr) =>
 ∃ (q56 : Option Addr), ∃ (n57 : Int), CellsAt w3 p55 [.pointer q56, .int .i64 n57] ∧
 C141 q56 n57 0 w3 fun n58 w59 =>
 ∃ (I60 : Option Addr → Nat → Nat → Int → World → Prop) (m61 : Option Addr → Nat → Nat → Int → World → Nat),
 I60 none 0 0 (bits .and .i64 n58 65535) w59 ∧
 ∀ (_ : Env) (a62 : Option Addr) (l62 c62 : Nat) (n63 : Int) (w64 : World), I60 a62 l62 c62 n63 w64 →
 IfB (decide ((0 : Int) < n63))
 (∃ (n65 : Int), World.cell? w64 ⟨s, 2, none⟩ = some (.int .i64 n65) ∧
 IfB (decide ((n63 : Int) ≤ n65))
 (∃ (n66 : Int), World.cell? w64 ⟨s, 2, none⟩ = some (.int .i64 n66) ∧
 IfB (decide (((l62 : Int) : Int) < n66))
 (Fit .i64 (n63 - 1) ∧
 ∀ (b67 : Nat) (w68 : World), NewAt w64 w68 b67 #[.int .i64 (n63 - 1)] 3 →
 RunF Try.prog (Builtin.append_ #[42, 42] 42 #[.slice a62 l62 c62, .slice (some ⟨b67, 0, none⟩) 1 1]) w68 [.leaf .slice] fun (a69 : Option Addr) (l69 c69 : Nat) (w70 : World) =>
 PtrOK q2 fun (p71 : Addr) =>
 ∃ (q72 : Option Addr), ∃ (n73 : Int), CellsAt w70 p71 [.pointer q72, .int .i64 n73] ∧
 C141 q72 n73 n63 w70 fun n74 w75 =>
 (I60 a69 l69 c69 n74 w75 ∧
 m61 a69 l69 c69 n74 w75 < m61 a62 l62 c62 n63 w64))
 (K a62 l62 c62 w64))
 (K a62 l62 c62 w64))
 (K a62 l62 c62 w64)
theorem r_f60 (s : Nat) (w : World) (K : Option Addr → Nat → Nat → World → Prop) (h : V_f60 s w K) : C60 (some ⟨s, 0, none⟩) w K :=
  @calls_of_eq Try.prog 60 Try.f60 [.pointer (some ⟨s, 0, none⟩)] w [.leaf .slice] K _ (cfg true (fun _ => [])) (fun n => bif Nat.beq n 0 then some ⟨[4, 5], [.slice, .int .i64]⟩ else none) (fun n => bif Nat.beq n 4 then some ⟨[3], [.ptr]⟩ else none) (fun _ => none) Try.func60 (by kernel_rfl) (by kernel_rfl) h

/-- (*gneiss/stack.Stack).Begin -/
def V_f62 (s : Nat) (agent : Int) (op : Int) (v : Int) (w : World) (K : Int → World → Prop) : Prop :=
 ∃ (q1 : Option Addr), World.cell? w ⟨s, 0, none⟩ = some (.pointer q1) ∧
 C135 q1 agent w fun b2 w3 =>
 IfB (!b2)
 (K 501 w3)
 (((0 : Int) ≤ agent ∧ agent < (12 : Int)) ∧
 ∃ (q4 : Option Addr), World.cell? w3 (Addr.add ⟨s, 3, none⟩ (Int.toNat agent * 1)) = some (.pointer q4) ∧
 IfB (!(Option.isNone q4))
 (K 502 w3)
 (IfB (!decide ((op : Int) = 0))
 (IfB (!decide ((op : Int) = 1))
 (K 504 w3)
 (IfB (decide ((op : Int) = 0))
 (IfB (decide ((v : Int) < 0))
 (K 504 w3)
 (∃ (n5 : Int), World.cell? w3 ⟨s, 2, none⟩ = some (.int .i64 n5) ∧
 IfB (decide ((n5 : Int) ≤ v))
 (K 504 w3)
 (C142 (some ⟨s, 0, none⟩) v w3 fun b6 w7 =>
 IfB b6
 (K 504 w7)
 (C143 (some ⟨s, 0, none⟩) v w7 fun b8 w9 =>
 IfB b8
 (K 504 w9)
 (∀ (b10 : Nat) (w11 : World), NewAt w9 w11 b10 #[.int .i64 op, .int .i64 v, .int .i64 0, .int .i64 0, .int .i64 0] 180 →
 ((0 : Int) ≤ agent ∧ agent < (12 : Int)) ∧
 May w11 (Addr.add ⟨s, 3, none⟩ (Int.toNat agent * 1)) ∧ ∀ w12 : World, SetC w11 w12 (Addr.add ⟨s, 3, none⟩ (Int.toNat agent * 1)) (.pointer (some ⟨b10, 0, none⟩)) →
 K 0 w12)))))
 (∀ (b13 : Nat) (w14 : World), NewAt w3 w14 b13 #[.int .i64 op, .int .i64 v, .int .i64 0, .int .i64 0, .int .i64 0] 180 →
 ((0 : Int) ≤ agent ∧ agent < (12 : Int)) ∧
 May w14 (Addr.add ⟨s, 3, none⟩ (Int.toNat agent * 1)) ∧ ∀ w15 : World, SetC w14 w15 (Addr.add ⟨s, 3, none⟩ (Int.toNat agent * 1)) (.pointer (some ⟨b13, 0, none⟩)) →
 K 0 w15)))
 (IfB (decide ((op : Int) = 0))
 (IfB (decide ((v : Int) < 0))
 (K 504 w3)
 (∃ (n16 : Int), World.cell? w3 ⟨s, 2, none⟩ = some (.int .i64 n16) ∧
 IfB (decide ((n16 : Int) ≤ v))
 (K 504 w3)
 (C142 (some ⟨s, 0, none⟩) v w3 fun b17 w18 =>
 IfB b17
 (K 504 w18)
 (C143 (some ⟨s, 0, none⟩) v w18 fun b19 w20 =>
 IfB b19
 (K 504 w20)
 (∀ (b21 : Nat) (w22 : World), NewAt w20 w22 b21 #[.int .i64 op, .int .i64 v, .int .i64 0, .int .i64 0, .int .i64 0] 180 →
 ((0 : Int) ≤ agent ∧ agent < (12 : Int)) ∧
 May w22 (Addr.add ⟨s, 3, none⟩ (Int.toNat agent * 1)) ∧ ∀ w23 : World, SetC w22 w23 (Addr.add ⟨s, 3, none⟩ (Int.toNat agent * 1)) (.pointer (some ⟨b21, 0, none⟩)) →
 K 0 w23)))))
 (∀ (b24 : Nat) (w25 : World), NewAt w3 w25 b24 #[.int .i64 op, .int .i64 v, .int .i64 0, .int .i64 0, .int .i64 0] 180 →
 ((0 : Int) ≤ agent ∧ agent < (12 : Int)) ∧
 May w25 (Addr.add ⟨s, 3, none⟩ (Int.toNat agent * 1)) ∧ ∀ w26 : World, SetC w25 w26 (Addr.add ⟨s, 3, none⟩ (Int.toNat agent * 1)) (.pointer (some ⟨b24, 0, none⟩)) →
 K 0 w26))))
theorem r_f62 (s : Nat) (agent : Int) (op : Int) (v : Int) (w : World) (K : Int → World → Prop) (h : V_f62 s agent op v w K) : C62 (some ⟨s, 0, none⟩) agent op v w K :=
  @calls_of_eq Try.prog 62 Try.f62 [.pointer (some ⟨s, 0, none⟩), .int .i64 agent, .int .i64 op, .int .i64 v] w [.leaf (.int .i64)] K _ (cfg true (fun _ => [])) (fun _ => none) (fun _ => none) (fun _ => none) Try.func62 (by kernel_rfl) (by kernel_rfl) h

/-- (*gneiss/stack.Stack).Step -/
def V_f63 (s : Nat) (agent : Int) (w : World) (K : Bool → Int → Bool → Int → World → Prop) : Prop :=
 ∃ (q1 : Option Addr), World.cell? w ⟨s, 0, none⟩ = some (.pointer q1) ∧
 C135 q1 agent w fun b2 w3 =>
 IfB (!b2)
 (K false 0 false 501 w3)
 (((0 : Int) ≤ agent ∧ agent < (12 : Int)) ∧
 ∃ (q4 : Option Addr), World.cell? w3 (Addr.add ⟨s, 3, none⟩ (Int.toNat agent * 1)) = some (.pointer q4) ∧
 IfB (Option.isNone q4)
 (K false 0 false 503 w3)
 (((0 : Int) ≤ agent ∧ agent < (12 : Int)) ∧
 ∃ (q5 : Option Addr), World.cell? w3 (Addr.add ⟨s, 3, none⟩ (Int.toNat agent * 1)) = some (.pointer q5) ∧
 C144 (some ⟨s, 0, none⟩) agent q5 w3 fun b6 n7 b8 w9 =>
 ∃ M10 : World → Prop,
 (IfB b6
 (((0 : Int) ≤ agent ∧ agent < (12 : Int)) ∧
 May w9 (Addr.add ⟨s, 3, none⟩ (Int.toNat agent * 1)) ∧ ∀ w12 : World, SetC w9 w12 (Addr.add ⟨s, 3, none⟩ (Int.toNat agent * 1)) (.pointer none) →
 M10 w12)
 (M10 w9)) ∧
 ∀ (_ : Env) (w11 : World), M10 w11 →
 K b6 n7 b8 0 w11))
theorem r_f63 (s : Nat) (agent : Int) (w : World) (K : Bool → Int → Bool → Int → World → Prop) (h : V_f63 s agent w K) : C63 (some ⟨s, 0, none⟩) agent w K :=
  @calls_of_eq Try.prog 63 Try.f63 [.pointer (some ⟨s, 0, none⟩), .int .i64 agent] w [.leaf .bool, .leaf (.int .i64), .leaf .bool, .leaf (.int .i64)] K _ (cfg true (fun _ => [])) (fun _ => none) (fun n => bif Nat.beq n 11 then some ⟨[], []⟩ else none) (fun _ => none) Try.func63 (by kernel_rfl) (by kernel_rfl) h

/-- gneiss/stack.New -/
def V_f58 (a : Nat) (base : Int) (cap : Int) (w : World) (K : Option Addr → Int → World → Prop) : Prop :=
 IfB (decide ((cap : Int) < 1))
 (K none 500 w)
 (IfB (decide ((1000 : Int) < cap))
 (K none 500 w)
 (Fit .i64 (2 * cap) ∧
 Fit .i64 ((2 * cap) + 8) ∧
 C132 (some ⟨a, 0, none⟩) base ((2 * cap) + 8) w fun b1 w2 =>
 IfB (!b1)
 (K none 500 w2)
 (C133 (some ⟨a, 0, none⟩) base w2 fun q3 n4 w5 =>
 ∀ (b6 : Nat) (w7 : World), NewAt w5 w7 b6 #[.pointer none, .int .i64 0] 169 →
 MayL w7 ⟨b6, 0, none⟩ 2 ∧ ∀ w8 : World, SetL w7 w8 ⟨b6, 0, none⟩ [.pointer q3, .int .i64 n4] →
 Fit .i64 (cap + 1) ∧
 ∃ (I9 : Int → World → Prop) (m10 : Int → World → Nat),
 I9 0 w8 ∧
 ∀ (_ : Env) (n11 : Int) (w12 : World), I9 n11 w12 →
 IfB (decide ((n11 : Int) < (cap + 1)))
 (∃ (q13 : Option Addr), ∃ (n14 : Int), CellsAt w12 ⟨b6, 0, none⟩ [.pointer q13, .int .i64 n14] ∧
 C134 q13 n14 n11 0 w12 fun w15 =>
 Fit .i64 (n11 + 1) ∧
 (I9 (n11 + 1) w15 ∧
 m10 (n11 + 1) w15 < m10 n11 w12))
 (∀ (b16 : Nat) (w17 : World), NewAt w12 w17 b16 #[.pointer (some ⟨a, 0, none⟩), .int .i64 base, .int .i64 cap, .pointer none, .pointer none, .pointer none, .pointer none, .pointer none, .pointer none, .pointer none, .pointer none, .pointer none, .pointer none, .pointer none, .pointer none] 178 →
 K (some ⟨b16, 0, none⟩) 0 w17))))
theorem r_f58 (a : Nat) (base : Int) (cap : Int) (w : World) (K : Option Addr → Int → World → Prop) (h : V_f58 a base cap w K) : C58 (some ⟨a, 0, none⟩) base cap w K :=
  @calls_of_eq Try.prog 58 Try.f58 [.pointer (some ⟨a, 0, none⟩), .int .i64 base, .int .i64 cap] w [.leaf .ptr, .leaf (.int .i64)] K _ (cfg true (fun _ => [])) (fun n => bif Nat.beq n 1 then some ⟨[34], [.int .i64]⟩ else none) (fun _ => none) (fun _ => none) Try.func58 (by kernel_rfl) (by kernel_rfl) h

/-- gneiss/stack.New -/
def V_f58z (base : Int) (cap : Int) (w : World) (K : Option Addr → Int → World → Prop) : Prop :=
 K none 1 w
theorem r_f58z (base : Int) (cap : Int) (w : World) (K : Option Addr → Int → World → Prop) (h : V_f58z base cap w K) : C58 none base cap w K :=
  @calls_of_eq Try.prog 58 Try.f58 [.pointer none, .int .i64 base, .int .i64 cap] w [.leaf .ptr, .leaf (.int .i64)] K _ (cfg true (fun _ => [])) (fun _ => none) (fun _ => none) (fun _ => none) Try.func58 (by kernel_rfl) (by kernel_rfl) h

/-- gneiss/gneisslaw5.alone -/
def V_f59 (s : Nat) (agent : Int) (op : Int) (v : Int) (w : World) (K : Int → Bool → Int → Bool → World → Prop) : Prop :=
 C62 (some ⟨s, 0, none⟩) agent op v w fun n1 w2 =>
 IfB (!decide ((n1 : Int) = 0))
 (K 0 false 0 false w2)
 (∃ (I3 : Int → World → Prop) (m4 : Int → World → Nat),
 I3 1 w2 ∧
 ∀ (_ : Env) (n5 : Int) (w6 : World), I3 n5 w6 →
 IfB (decide ((n5 : Int) ≤ 16))
 (C63 (some ⟨s, 0, none⟩) agent w6 fun b7 n8 b9 n10 w11 =>
 IfB (!decide ((n10 : Int) = 0))
 (K 0 false 0 false w11)
 (IfB b7
 (K n8 b9 n5 true w11)
 (Fit .i64 (n5 + 1) ∧
 (I3 (n5 + 1) w11 ∧
 m4 (n5 + 1) w11 < m4 n5 w6))))
 (K 0 false 0 false w6))
theorem r_f59 (s : Nat) (agent : Int) (op : Int) (v : Int) (w : World) (K : Int → Bool → Int → Bool → World → Prop) (h : V_f59 s agent op v w K) : C59 (some ⟨s, 0, none⟩) agent op v w K :=
  @calls_of_eq Try.prog 59 Try.f59 [.pointer (some ⟨s, 0, none⟩), .int .i64 agent, .int .i64 op, .int .i64 v] w [.leaf (.int .i64), .leaf .bool, .leaf (.int .i64), .leaf .bool] K _ (cfg true (fun _ => [])) (fun n => bif Nat.beq n 0 then some ⟨[13], [.int .i64]⟩ else none) (fun _ => none) (fun _ => none) Try.func59 (by kernel_rfl) (by kernel_rfl) h

/-- gneiss/gneisslaw5.begun -/
def V_f61 (agents : Int) (base : Int) (cap : Int) (w : World) (K : Option Addr → Option Addr → Bool → World → Prop) : Prop :=
 Fit .i64 (2 * cap) ∧
 Fit .i64 (base + (2 * cap)) ∧
 Fit .i64 ((base + (2 * cap)) + 8) ∧
 C40 ((base + (2 * cap)) + 8) agents w fun q1 n2 w3 =>
 C58 q1 base cap w3 fun q4 n5 w6 =>
 IfB (decide ((n2 : Int) = 0))
 (IfB (decide ((n5 : Int) = 0))
 (K q4 q1 (!(Option.isNone q4)) w6)
 (K q4 q1 false w6))
 (K q4 q1 false w6)
theorem r_f61 (agents : Int) (base : Int) (cap : Int) (w : World) (K : Option Addr → Option Addr → Bool → World → Prop) (h : V_f61 agents base cap w K) : C61 agents base cap w K :=
  @calls_of_eq Try.prog 61 Try.f61 [.int .i64 agents, .int .i64 base, .int .i64 cap] w [.leaf .ptr, .leaf .ptr, .leaf .bool] K _ (cfg true (fun _ => [])) (fun _ => none) (fun _ => none) (fun _ => none) Try.func61 (by kernel_rfl) (by kernel_rfl) h

end Go.Proofs.Ytfpghcdjfiggiaa.V
