/- Readings of the program's functions. No condition. -/
import Derived.Test.YtmlhdmnnijapjaaGCfg
namespace Go.Proofs.Ytmlhdmnnijapjaa.V
open Go
set_option maxRecDepth 100000
set_option linter.unusedVariables false
/-- gneiss/gneisslaw11.MarkActs -/
def V_f5 (cap0 : Int) (actsa : Option Addr) (actsl actsc : Nat) (w : World) (K : Bool → World → Prop) : Prop :=
 C21 cap0 w fun q1 n2 w3 =>
 ∃ M4 : World → Prop,
 (IfB (decide ((cap0 : Int) < 1))
 (IfB (decide ((n2 : Int) = 1100))
 (C22  w3 fun b6 w7 =>
 K b6 w7)
 (K false w3))
 (IfB (decide ((4096 : Int) < cap0))
 (IfB (decide ((n2 : Int) = 1100))
 (C22  w3 fun b8 w9 =>
 K b8 w9)
 (K false w3))
 (M4 w3))) ∧
 ∀ (_ : Env) (w5 : World), M4 w5 →
 RunF Try.prog (Instr.makeSlice 38 (.int .i64 cap0) (.int .i64 cap0)) w5 [.leaf .slice] fun (a10 : Option Addr) (l10 c10 : Nat) (w11 : World) =>
 ∃ (I12 : Int → World → Prop) (m13 : Int → World → Nat),
 I12 0 w11 ∧
 ∀ (_ : Env) (n14 : Int) (w15 : World), I12 n14 w15 →
 IfB (decide ((n14 : Int) < cap0))
 (PtrOK a10 fun (p16 : Addr) =>
 ((0 : Int) ≤ n14 ∧ n14 < (l10 : Int)) ∧
 May w15 (Addr.add p16 (Int.toNat n14 * 1)) ∧ ∀ w17 : World, SetC w15 w17 (Addr.add p16 (Int.toNat n14 * 1)) (.int .i64 1) →
 (I12 (IntKind.wrap .i64 (n14 + 1)) w17 ∧
 m13 (IntKind.wrap .i64 (n14 + 1)) w17 < m13 n14 w15))
 (∃ M18 : World → Prop,
 (∃ (I20 : Option Addr → Nat → Nat → Int → World → Prop) (m21 : Option Addr → Nat → Nat → Int → World → Nat),
 I20 none 0 0 0 w15 ∧
 ∀ (_ : Env) (a22 : Option Addr) (l22 c22 : Nat) (n23 : Int) (w24 : World), I20 a22 l22 c22 n23 w24 →
 IfB (decide ((n23 : Int) < (actsl : Int)))
 (IfB (decide ((n23 : Int) < 300))
 (PtrOK actsa fun (p25 : Addr) =>
 ((0 : Int) ≤ n23 ∧ n23 < (actsl : Int)) ∧
 ∃ (n26 : Int), ∃ (n27 : Int), CellsAt w24 (Addr.add p25 (Int.toNat n23 * 2)) [.int .i64 n26, .int .i64 n27] ∧
 ∀ (b28 : Nat) (w29 : World), NewAt w24 w29 b28 #[.int .i64 0, .int .i64 0] 40 →
 MayL w29 ⟨b28, 0, none⟩ 2 ∧ ∀ w30 : World, SetL w29 w30 ⟨b28, 0, none⟩ [.int .i64 n26, .int .i64 n27] →
 ∃ M31 : Bool → World → Prop,
 (∃ (n34 : Int), World.cell? w30 ⟨b28, 1, none⟩ = some (.int .i64 n34) ∧
 IfB (decide ((0 : Int) ≤ n34))
 (∃ (n35 : Int), World.cell? w30 ⟨b28, 1, none⟩ = some (.int .i64 n35) ∧
 M31 (decide ((n35 : Int) < cap0)) w30)
 (M31 false w30)) ∧
 ∀ (_ : Env) (b32 : Bool) (w33 : World), M31 b32 w33 →
 ∃ (n36 : Int), World.cell? w33 ⟨b28, 0, none⟩ = some (.int .i64 n36) ∧
 IfB (decide ((n36 : Int) < 3))
 (∃ (n37 : Int), World.cell? w33 ⟨b28, 1, none⟩ = some (.int .i64 n37) ∧
 C23 q1 n37 w33 fun b38 n39 w40 =>
 IfB (!b32)
 (IfB (!decide ((n39 : Int) = 1102))
 (K false w40)
 (IfB b38
 (K false w40)
 ((I20 a22 l22 c22 (IntKind.wrap .i64 (n23 + 1)) w40 ∧
 m21 a22 l22 c22 (IntKind.wrap .i64 (n23 + 1)) w40 < m21 a22 l22 c22 n23 w24))))
 (∃ M41 : World → Prop,
 (IfB (!decide ((n39 : Int) = 0))
 (K false w40)
 (∃ (n43 : Int), World.cell? w40 ⟨b28, 1, none⟩ = some (.int .i64 n43) ∧
 PtrOK a10 fun (p44 : Addr) =>
 ((0 : Int) ≤ n43 ∧ n43 < (l10 : Int)) ∧
 ∃ (n45 : Int), World.cell? w40 (Addr.add p44 (Int.toNat n43 * 1)) = some (.int .i64 n45) ∧
 IfB (!(b38 == (decide ((n45 : Int) = 1))))
 (K false w40)
 (M41 w40))) ∧
 ∀ (_ : Env) (w42 : World), M41 w42 →
 IfB b38
 (∃ (n46 : Int), World.cell? w42 ⟨b28, 1, none⟩ = some (.int .i64 n46) ∧
 PtrOK a10 fun (p47 : Addr) =>
 ((0 : Int) ≤ n46 ∧ n46 < (l10 : Int)) ∧
 May w42 (Addr.add p47 (Int.toNat n46 * 1)) ∧ ∀ w48 : World, SetC w42 w48 (Addr.add p47 (Int.toNat n46 * 1)) (.int .i64 2) →
 ∃ (n49 : Int), World.cell? w48 ⟨b28, 1, none⟩ = some (.int .i64 n49) ∧
 ∀ (b50 : Nat) (w51 : World), NewAt w48 w51 b50 #[.int .i64 n49] 3 →
 RunF Try.prog (Builtin.append_ #[38, 38] 38 #[.slice a22 l22 c22, .slice (some ⟨b50, 0, none⟩) 1 1]) w51 [.leaf .slice] fun (a52 : Option Addr) (l52 c52 : Nat) (w53 : World) =>
 (I20 a52 l52 c52 (IntKind.wrap .i64 (n23 + 1)) w53 ∧
 m21 a52 l52 c52 (IntKind.wrap .i64 (n23 + 1)) w53 < m21 a22 l22 c22 n23 w24))
 ((I20 a22 l22 c22 (IntKind.wrap .i64 (n23 + 1)) w42 ∧
 m21 a22 l22 c22 (IntKind.wrap .i64 (n23 + 1)) w42 < m21 a22 l22 c22 n23 w24))))
 (∃ (n54 : Int), World.cell? w33 ⟨b28, 0, none⟩ = some (.int .i64 n54) ∧
 IfB (decide ((n54 : Int) < 5))
 (C24 q1 w33 fun n55 b56 w57 =>
 ∃ M58 : World → Prop,
 (IfB (!(b56 == (decide ((0 : Int) < (l22 : Int)))))
 (K false w57)
 (IfB b56
 (PtrOK a22 fun (p60 : Addr) =>
 ((0 : Int) ≤ 0 ∧ 0 < (l22 : Int)) ∧
 ∃ (n61 : Int), World.cell? w57 (Addr.add p60 (Int.toNat 0 * 1)) = some (.int .i64 n61) ∧
 IfB (!decide ((n55 : Int) = n61))
 (K false w57)
 (IfB (!b56)
 (IfB (!decide ((n55 : Int) = 0))
 (K false w57)
 (M58 w57))
 (M58 w57)))
 (IfB (!b56)
 (IfB (!decide ((n55 : Int) = 0))
 (K false w57)
 (M58 w57))
 (M58 w57)))) ∧
 ∀ (_ : Env) (w59 : World), M58 w59 →
 IfB b56
 (PtrOK a10 fun (p62 : Addr) =>
 ((0 : Int) ≤ n55 ∧ n55 < (l10 : Int)) ∧
 May w59 (Addr.add p62 (Int.toNat n55 * 1)) ∧ ∀ w63 : World, SetC w59 w63 (Addr.add p62 (Int.toNat n55 * 1)) (.int .i64 3) →
 ((0 : Int) ≤ 1 ∧ 1 ≤ (l22 : Int)) ∧
 (I20 (Adv a22 c22 (Int.toNat 1) 1) (l22 - Int.toNat 1) (c22 - Int.toNat 1) (IntKind.wrap .i64 (n23 + 1)) w63 ∧
 m21 (Adv a22 c22 (Int.toNat 1) 1) (l22 - Int.toNat 1) (c22 - Int.toNat 1) (IntKind.wrap .i64 (n23 + 1)) w63 < m21 a22 l22 c22 n23 w24))
 ((I20 a22 l22 c22 (IntKind.wrap .i64 (n23 + 1)) w59 ∧
 m21 a22 l22 c22 (IntKind.wrap .i64 (n23 + 1)) w59 < m21 a22 l22 c22 n23 w24)))
 (∃ (n64 : Int), World.cell? w33 ⟨b28, 0, none⟩ = some (.int .i64 n64) ∧
 IfB (decide ((n64 : Int) = 5))
 (∃ (n65 : Int), World.cell? w33 ⟨b28, 1, none⟩ = some (.int .i64 n65) ∧
 C25 q1 n65 w33 fun n66 n67 w68 =>
 IfB (!(b32 == (decide ((n67 : Int) = 0))))
 (K false w68)
 (IfB b32
 (∃ (n69 : Int), World.cell? w68 ⟨b28, 1, none⟩ = some (.int .i64 n69) ∧
 PtrOK a10 fun (p70 : Addr) =>
 ((0 : Int) ≤ n69 ∧ n69 < (l10 : Int)) ∧
 ∃ (n71 : Int), World.cell? w68 (Addr.add p70 (Int.toNat n69 * 1)) = some (.int .i64 n71) ∧
 IfB (!decide ((n66 : Int) = n71))
 (K false w68)
 (IfB (!b32)
 (IfB (!decide ((n67 : Int) = 1102))
 (K false w68)
 (IfB (!decide ((n66 : Int) = 0))
 (K false w68)
 ((I20 a22 l22 c22 (IntKind.wrap .i64 (n23 + 1)) w68 ∧
 m21 a22 l22 c22 (IntKind.wrap .i64 (n23 + 1)) w68 < m21 a22 l22 c22 n23 w24))))
 ((I20 a22 l22 c22 (IntKind.wrap .i64 (n23 + 1)) w68 ∧
 m21 a22 l22 c22 (IntKind.wrap .i64 (n23 + 1)) w68 < m21 a22 l22 c22 n23 w24))))
 (IfB (!b32)
 (IfB (!decide ((n67 : Int) = 1102))
 (K false w68)
 (IfB (!decide ((n66 : Int) = 0))
 (K false w68)
 ((I20 a22 l22 c22 (IntKind.wrap .i64 (n23 + 1)) w68 ∧
 m21 a22 l22 c22 (IntKind.wrap .i64 (n23 + 1)) w68 < m21 a22 l22 c22 n23 w24))))
 ((I20 a22 l22 c22 (IntKind.wrap .i64 (n23 + 1)) w68 ∧
 m21 a22 l22 c22 (IntKind.wrap .i64 (n23 + 1)) w68 < m21 a22 l22 c22 n23 w24)))))
 (C26 q1 w33 fun w72 =>
 ∃ (I73 : Int → World → Prop) (m74 : Int → World → Nat),
 I73 0 w72 ∧
 ∀ (_ : Env) (n75 : Int) (w76 : World), I73 n75 w76 →
 IfB (decide ((n75 : Int) < cap0))
 (PtrOK a10 fun (p77 : Addr) =>
 ((0 : Int) ≤ n75 ∧ n75 < (l10 : Int)) ∧
 May w76 (Addr.add p77 (Int.toNat n75 * 1)) ∧ ∀ w78 : World, SetC w76 w78 (Addr.add p77 (Int.toNat n75 * 1)) (.int .i64 1) →
 (I73 (IntKind.wrap .i64 (n75 + 1)) w78 ∧
 m74 (IntKind.wrap .i64 (n75 + 1)) w78 < m74 n75 w76))
 ((I20 none 0 0 (IntKind.wrap .i64 (n23 + 1)) w76 ∧
 m21 none 0 0 (IntKind.wrap .i64 (n23 + 1)) w76 < m21 a22 l22 c22 n23 w24))))))
 (M18 w24))
 (M18 w24)) ∧
 ∀ (_ : Env) (w19 : World), M18 w19 →
 IfB (decide ((n2 : Int) = 0))
 (C27 q1 a10 l10 c10 w19 fun b79 w80 =>
 IfB b79
 (C22  w80 fun b81 w82 =>
 K b81 w82)
 (K false w80))
 (K false w19))
theorem r_f5 (cap0 : Int) (actsa : Option Addr) (actsl actsc : Nat) (w : World) (K : Bool → World → Prop) (h : V_f5 cap0 actsa actsl actsc w K) : C5 cap0 actsa actsl actsc w K :=
  @calls_of_eq Try.prog 5 Try.f5 [.int .i64 cap0, .slice actsa actsl actsc] w [.leaf .bool] K _ (cfg false (fun _ => [])) (fun n => bif Nat.beq n 0 then some ⟨[8], [.int .i64]⟩ else bif Nat.beq n 2 then some ⟨[9, 10], [.slice, .int .i64]⟩ else bif Nat.beq n 5 then some ⟨[19], [.int .i64]⟩ else none) (fun n => bif Nat.beq n 4 then some ⟨[], []⟩ else bif Nat.beq n 21 then some ⟨[12], [.bool]⟩ else bif Nat.beq n 28 then some ⟨[], []⟩ else bif Nat.beq n 35 then some ⟨[], []⟩ else bif Nat.beq n 42 then some ⟨[], []⟩ else none) (fun _ => none) Try.func5 (by kernel_rfl) (by kernel_rfl) h

/-- gneiss/gneisslaw11.MarkRows -/
def V_f6 (cap0 : Int) (refsa : Option Addr) (refsl refsc : Nat) (w : World) (K : Bool → World → Prop) : Prop :=
 C22  w fun b1 w2 =>
 IfB (!b1)
 (K false w2)
 (C21 (IntKind.wrap .i64 (1 + (bits .and .i64 cap0 63))) w2 fun q3 n4 w5 =>
 ∃ M6 : Option Addr → Nat → Nat → World → Prop,
 (∃ (I9 : Option Addr → Nat → Nat → Int → World → Prop) (m10 : Option Addr → Nat → Nat → Int → World → Nat),
 I9 none 0 0 0 w5 ∧
 ∀ (_ : Env) (a11 : Option Addr) (l11 c11 : Nat) (n12 : Int) (w13 : World), I9 a11 l11 c11 n12 w13 →
 IfB (decide ((n12 : Int) < (refsl : Int)))
 (IfB (decide ((n12 : Int) < 100))
 (PtrOK refsa fun (p14 : Addr) =>
 ((0 : Int) ≤ n12 ∧ n12 < (refsl : Int)) ∧
 ∃ (n15 : Int), World.cell? w13 (Addr.add p14 (Int.toNat n12 * 1)) = some (.int .i64 n15) ∧
 ((IntKind.wrap .u64 (IntKind.wrap .i64 (1 + (bits .and .i64 cap0 63)))) : Int) ≠ 0 ∧
 C23 q3 (IntKind.wrap .i64 (Int.tmod (IntKind.wrap .u64 n15) (IntKind.wrap .u64 (IntKind.wrap .i64 (1 + (bits .and .i64 cap0 63)))))) w13 fun b16 n17 w18 =>
 IfB (!decide ((n17 : Int) = 0))
 (K false w18)
 (IfB b16
 (∀ (b19 : Nat) (w20 : World), NewAt w18 w20 b19 #[.int .i64 (IntKind.wrap .i64 (Int.tmod (IntKind.wrap .u64 n15) (IntKind.wrap .u64 (IntKind.wrap .i64 (1 + (bits .and .i64 cap0 63))))))] 3 →
 RunF Try.prog (Builtin.append_ #[38, 38] 38 #[.slice a11 l11 c11, .slice (some ⟨b19, 0, none⟩) 1 1]) w20 [.leaf .slice] fun (a21 : Option Addr) (l21 c21 : Nat) (w22 : World) =>
 (I9 a21 l21 c21 (IntKind.wrap .i64 (n12 + 1)) w22 ∧
 m10 a21 l21 c21 (IntKind.wrap .i64 (n12 + 1)) w22 < m10 a11 l11 c11 n12 w13))
 ((I9 a11 l11 c11 (IntKind.wrap .i64 (n12 + 1)) w18 ∧
 m10 a11 l11 c11 (IntKind.wrap .i64 (n12 + 1)) w18 < m10 a11 l11 c11 n12 w13))))
 (M6 a11 l11 c11 w13))
 (M6 a11 l11 c11 w13)) ∧
 ∀ (_ : Env) (a7 : Option Addr) (l7 c7 : Nat) (w8 : World), M6 a7 l7 c7 w8 →
 ∃ (I23 : Int → World → Prop) (m24 : Int → World → Nat),
 I23 0 w8 ∧
 ∀ (_ : Env) (n25 : Int) (w26 : World), I23 n25 w26 →
 IfB (decide ((n25 : Int) < (l7 : Int)))
 (∃ (I27 : Int → World → Prop) (m28 : Int → World → Nat),
 I27 0 w26 ∧
 ∀ (_ : Env) (n29 : Int) (w30 : World), I27 n29 w30 →
 IfB (decide ((n29 : Int) < n25))
 (∀ w31 : World, Drew w30 w31 →
 PtrOK a7 fun (p32 : Addr) =>
 ((0 : Int) ≤ n29 ∧ n29 < (l7 : Int)) ∧
 ∃ (n33 : Int), World.cell? w31 (Addr.add p32 (Int.toNat n29 * 1)) = some (.int .i64 n33) ∧
 PtrOK a7 fun (p34 : Addr) =>
 ((0 : Int) ≤ n25 ∧ n25 < (l7 : Int)) ∧
 ∃ (n35 : Int), World.cell? w31 (Addr.add p34 (Int.toNat n25 * 1)) = some (.int .i64 n35) ∧
 IfB (decide ((n33 : Int) = n35))
 (K false w31)
 ((I27 (IntKind.wrap .i64 (n29 + 1)) w31 ∧
 m28 (IntKind.wrap .i64 (n29 + 1)) w31 < m28 n29 w30)))
 (C24 q3 w30 fun n36 b37 w38 =>
 IfB (!b37)
 (K false w38)
 (PtrOK a7 fun (p39 : Addr) =>
 ((0 : Int) ≤ n25 ∧ n25 < (l7 : Int)) ∧
 ∃ (n40 : Int), World.cell? w38 (Addr.add p39 (Int.toNat n25 * 1)) = some (.int .i64 n40) ∧
 IfB (!decide ((n36 : Int) = n40))
 (K false w38)
 ((I23 (IntKind.wrap .i64 (n25 + 1)) w38 ∧
 m24 (IntKind.wrap .i64 (n25 + 1)) w38 < m24 n25 w26)))))
 (C24 q3 w26 fun n41 b42 w43 =>
 C28 q3 w43 fun a44 l44 c44 w45 =>
 C26 q3 w45 fun w46 =>
 IfB (decide ((n4 : Int) = 0))
 (IfB (!b42)
 (IfB (decide (((l44 : Int) : Int) = (l7 : Int)))
 (C28 q3 w46 fun a47 l47 c47 w48 =>
 K (decide (((l47 : Int) : Int) = 0)) w48)
 (K false w46))
 (K false w46))
 (K false w46)))
theorem r_f6 (cap0 : Int) (refsa : Option Addr) (refsl refsc : Nat) (w : World) (K : Bool → World → Prop) (h : V_f6 cap0 refsa refsl refsc w K) : C6 cap0 refsa refsl refsc w K :=
  @calls_of_eq Try.prog 6 Try.f6 [.int .i64 cap0, .slice refsa refsl refsc] w [.leaf .bool] K _ (cfg false (fun _ => [])) (fun n => bif Nat.beq n 0 then some ⟨[8, 9], [.slice, .int .i64]⟩ else bif Nat.beq n 2 then some ⟨[13], [.int .i64]⟩ else bif Nat.beq n 4 then some ⟨[14], [.int .i64]⟩ else none) (fun n => bif Nat.beq n 15 then some ⟨[8], [.slice]⟩ else none) (fun n => bif Nat.beq n 21 then some 9 else none) Try.func6 (by kernel_rfl) (by kernel_rfl) h

end Go.Proofs.Ytmlhdmnnijapjaa.V
