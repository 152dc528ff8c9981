/- Readings of the program's functions. No condition. -/
import Derived.Test.YtfpghcdjfiggiaaGCfg
namespace Go.Proofs.Ytfpghcdjfiggiaa.V
open Go
set_option maxRecDepth 100000
set_option linter.unusedVariables false
/-- gneiss/gneisslaw7.SpineActs -/
def V_f17 (base : Int) (words : Int) (actsa : Option Addr) (actsl actsc : Nat) (w : World) (K : Bool → World → Prop) : Prop :=
 (1500 : Int) ≠ 0 ∧
 C68 (bits .and .i64 base 15) (IntKind.wrap .i64 (32 + (IntKind.wrap .i64 (Int.tmod (IntKind.wrap .u64 words) 1500)))) w fun q1 q2 b3 w4 =>
 IfB (!b3)
 (K false w4)
 ((2 : Int) ≠ 0 ∧
 ∀ (b5 : Nat) (w6 : World), NewAt w4 w6 b5 #[.pointer q1, .pointer q2, .int .i64 (IntKind.wrap .i64 (Int.tdiv (IntKind.wrap .i64 (32 + (IntKind.wrap .i64 (Int.tmod (IntKind.wrap .u64 words) 1500)))) 2)), .slice none 0 0, .int .i64 0, .bool false] 108 →
 ∃ M7 : World → Prop,
 (∃ (I9 : Int → World → Prop) (m10 : Int → World → Nat),
 I9 0 w6 ∧
 ∀ (_ : Env) (n11 : Int) (w12 : World), I9 n11 w12 →
 IfB (decide ((n11 : Int) < (actsl : Int)))
 (IfB (decide ((n11 : Int) < 400))
 (PtrOK actsa fun (p13 : Addr) =>
 ((0 : Int) ≤ n11 ∧ n11 < (actsl : Int)) ∧
 ∃ (n14 : Int), ∃ (n15 : Int), ∃ (n16 : Int), ∃ (n17 : Int), ∃ (n18 : Int), CellsAt w12 (Addr.add p13 (Int.toNat n11 * 5)) [.int .i64 n14, .int .i64 n15, .int .i64 n16, .int .i64 n17, .int .i64 n18] ∧
 C77 (some ⟨b5, 0, none⟩) n14 n15 n16 n17 n18 w12 fun b19 w20 =>
 IfB (!b19)
 (K false w20)
 (∃ (q21 : Option Addr), World.cell? w20 ⟨b5, 0, none⟩ = some (.pointer q21) ∧
 C76 q21 w20 fun n22 w23 =>
 C78 (some ⟨b5, 0, none⟩) w23 fun n24 w25 =>
 IfB (!decide ((n22 : Int) = n24))
 (K false w25)
 ((I9 (IntKind.wrap .i64 (n11 + 1)) w25 ∧
 m10 (IntKind.wrap .i64 (n11 + 1)) w25 < m10 n11 w12))))
 (M7 w12))
 (M7 w12)) ∧
 ∀ (_ : Env) (w8 : World), M7 w8 →
 ∃ (I26 : Int → World → Prop) (m27 : Int → World → Nat),
 I26 0 w8 ∧
 ∀ (_ : Env) (n28 : Int) (w29 : World), I26 n28 w29 →
 ∃ (a30 : Option Addr) (l30 c30 : Nat), World.cell? w29 ⟨b5, 3, none⟩ = some (.slice a30 l30 c30) ∧
 IfB (decide ((n28 : Int) < (l30 : Int)))
 (∃ (a31 : Option Addr) (l31 c31 : Nat), World.cell? w29 ⟨b5, 3, none⟩ = some (.slice a31 l31 c31) ∧
 PtrOK a31 fun (p32 : Addr) =>
 ((0 : Int) ≤ n28 ∧ n28 < (l31 : Int)) ∧
 ∃ (b33 : Bool), World.cell? w29 (Addr.add (Addr.add p32 (Int.toNat n28 * 4)) 2) = some (.bool b33) ∧
 IfB b33
 ((I26 (IntKind.wrap .i64 (n28 + 1)) w29 ∧
 m27 (IntKind.wrap .i64 (n28 + 1)) w29 < m27 n28 w29))
 (∃ M34 : Int → Int → World → Prop,
 (∀ w38 : World, Drew w29 w38 →
 ∃ (q39 : Option Addr), World.cell? w38 ⟨b5, 0, none⟩ = some (.pointer q39) ∧
 ∃ (a40 : Option Addr) (l40 c40 : Nat), World.cell? w38 ⟨b5, 3, none⟩ = some (.slice a40 l40 c40) ∧
 PtrOK a40 fun (p41 : Addr) =>
 ((0 : Int) ≤ n28 ∧ n28 < (l40 : Int)) ∧
 ∃ (n42 : Int), World.cell? w38 (Addr.add (Addr.add p41 (Int.toNat n28 * 4)) 0) = some (.int .i64 n42) ∧
 C74 q39 n42 w38 fun n43 n44 w45 =>
 M34 n43 n44 w45) ∧
 ∀ (_ : Env) (n35 : Int) (n36 : Int) (w37 : World), M34 n35 n36 w37 →
 ∃ M46 : World → Prop,
 (IfB (!decide ((n36 : Int) = 0))
 (K false w37)
 (∃ (a48 : Option Addr) (l48 c48 : Nat), World.cell? w37 ⟨b5, 3, none⟩ = some (.slice a48 l48 c48) ∧
 PtrOK a48 fun (p49 : Addr) =>
 ((0 : Int) ≤ n28 ∧ n28 < (l48 : Int)) ∧
 ∃ (a50 : Option Addr) (l50 c50 : Nat), World.cell? w37 (Addr.add (Addr.add p49 (Int.toNat n28 * 4)) 1) = some (.slice a50 l50 c50) ∧
 IfB (!decide ((n35 : Int) = (l50 : Int)))
 (K false w37)
 (M46 w37))) ∧
 ∀ (_ : Env) (w47 : World), M46 w47 →
 ∃ (I51 : Int → World → Prop) (m52 : Int → World → Nat),
 I51 0 w47 ∧
 ∀ (_ : Env) (n53 : Int) (w54 : World), I51 n53 w54 →
 IfB (decide ((n53 : Int) < n35))
 (∃ M55 : Int → Int → World → Prop,
 (∀ w59 : World, Drew w54 w59 →
 ∃ (q60 : Option Addr), World.cell? w59 ⟨b5, 0, none⟩ = some (.pointer q60) ∧
 ∃ (a61 : Option Addr) (l61 c61 : Nat), World.cell? w59 ⟨b5, 3, none⟩ = some (.slice a61 l61 c61) ∧
 PtrOK a61 fun (p62 : Addr) =>
 ((0 : Int) ≤ n28 ∧ n28 < (l61 : Int)) ∧
 ∃ (n63 : Int), World.cell? w59 (Addr.add (Addr.add p62 (Int.toNat n28 * 4)) 0) = some (.int .i64 n63) ∧
 C75 q60 0 n63 n53 w59 fun n64 n65 w66 =>
 M55 n64 n65 w66) ∧
 ∀ (_ : Env) (n56 : Int) (n57 : Int) (w58 : World), M55 n56 n57 w58 →
 IfB (!decide ((n57 : Int) = 0))
 (K false w58)
 (∃ (a67 : Option Addr) (l67 c67 : Nat), World.cell? w58 ⟨b5, 3, none⟩ = some (.slice a67 l67 c67) ∧
 PtrOK a67 fun (p68 : Addr) =>
 ((0 : Int) ≤ n28 ∧ n28 < (l67 : Int)) ∧
 ∃ (a69 : Option Addr) (l69 c69 : Nat), World.cell? w58 (Addr.add (Addr.add p68 (Int.toNat n28 * 4)) 1) = some (.slice a69 l69 c69) ∧
 PtrOK a69 fun (p70 : Addr) =>
 ((0 : Int) ≤ n53 ∧ n53 < (l69 : Int)) ∧
 ∃ (n71 : Int), World.cell? w58 (Addr.add p70 (Int.toNat n53 * 1)) = some (.int .i64 n71) ∧
 IfB (!decide ((n56 : Int) = n71))
 (K false w58)
 ((I51 (IntKind.wrap .i64 (n53 + 1)) w58 ∧
 m52 (IntKind.wrap .i64 (n53 + 1)) w58 < m52 n53 w54))))
 ((I26 (IntKind.wrap .i64 (n28 + 1)) w54 ∧
 m27 (IntKind.wrap .i64 (n28 + 1)) w54 < m27 n28 w29))))
 (C67  w29 fun b72 w73 =>
 K b72 w73))
theorem r_f17 (base : Int) (words : Int) (actsa : Option Addr) (actsl actsc : Nat) (w : World) (K : Bool → World → Prop) (h : V_f17 base words actsa actsl actsc w K) : C17 base words actsa actsl actsc w K :=
  @calls_of_eq Try.prog 17 Try.f17 [.int .i64 base, .int .i64 words, .slice actsa actsl actsc] w [.leaf .bool] K _ (cfg false (fun _ => [])) (fun n => bif Nat.beq n 0 then some ⟨[13], [.int .i64]⟩ else bif Nat.beq n 2 then some ⟨[14], [.int .i64]⟩ else bif Nat.beq n 4 then some ⟨[17], [.int .i64]⟩ else none) (fun n => bif Nat.beq n 11 then some ⟨[], []⟩ else bif Nat.beq n 16 then some ⟨[15, 16], [.int .i64, .int .i64]⟩ else bif Nat.beq n 18 then some ⟨[], []⟩ else bif Nat.beq n 22 then some ⟨[18, 19], [.int .i64, .int .i64]⟩ else none) (fun _ => none) Try.func17 (by kernel_rfl) (by kernel_rfl) h

end Go.Proofs.Ytfpghcdjfiggiaa.V
