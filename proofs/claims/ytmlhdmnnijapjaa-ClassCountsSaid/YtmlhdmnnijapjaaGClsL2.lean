/- Readings of the program's functions. No condition. -/
import Derived.Test.YtmlhdmnnijapjaaGCfg
namespace Go.Proofs.Ytmlhdmnnijapjaa.V
open Go
set_option maxRecDepth 100000
set_option linter.unusedVariables false
/-- gneiss/gneisslaw14.refuses -/
def V_f38 (pa : Int) (pba : Option Addr) (pbl pbc : Nat) (code : Int) (w : World) (K : Bool → World → Prop) : Prop :=
 ∀ (b1 : Nat) (w2 : World), NewAt w w2 b1 #[.int .i64 pa, .slice pba pbl pbc] 54 →
 ∃ (n3 : Int), ∃ (a4 : Option Addr) (l4 c4 : Nat), CellsAt w2 ⟨b1, 0, none⟩ [.int .i64 n3, .slice a4 l4 c4] ∧
 C35 n3 a4 l4 c4 w2 fun s5 n6 w7 =>
 IfB (ByteArray.toList s5 == ByteArray.toList (ByteArray.mk #[]))
 (K (decide ((n6 : Int) = code)) w7)
 (K false w7)
theorem r_f38 (pa : Int) (pba : Option Addr) (pbl pbc : Nat) (code : Int) (w : World) (K : Bool → World → Prop) (h : V_f38 pa pba pbl pbc code w K) : C38 pa pba pbl pbc code w K :=
  @calls_of_eq Try.prog 38 Try.f38 [.agg #[.int .i64 pa, .slice pba pbl pbc], .int .i64 code] w [.leaf .bool] K _ (cfg true (fun _ => [])) (fun _ => none) (fun _ => none) (fun _ => none) Try.func38 (by kernel_rfl) (by kernel_rfl) h

/-- gneiss/gneisslaw14.back -/
def V_f39 (pa : Int) (pba : Option Addr) (pbl pbc : Nat) (w : World) (K : Bool → World → Prop) : Prop :=
 ∀ (b1 : Nat) (w2 : World), NewAt w w2 b1 #[.int .i64 pa, .slice pba pbl pbc] 54 →
 ∃ (n3 : Int), ∃ (a4 : Option Addr) (l4 c4 : Nat), CellsAt w2 ⟨b1, 0, none⟩ [.int .i64 n3, .slice a4 l4 c4] ∧
 C35 n3 a4 l4 c4 w2 fun s5 n6 w7 =>
 C29 s5 w7 fun n8 a9 l9 c9 n10 n11 w12 =>
 ∀ (b13 : Nat) (w14 : World), NewAt w12 w14 b13 #[.int .i64 0, .slice none 0 0] 54 →
 MayL w14 ⟨b13, 0, none⟩ 2 ∧ ∀ w15 : World, SetL w14 w15 ⟨b13, 0, none⟩ [.int .i64 n8, .slice a9 l9 c9] →
 IfB (decide ((n6 : Int) = 0))
 (IfB (decide ((n11 : Int) = 0))
 (∃ (n16 : Int), ∃ (a17 : Option Addr) (l17 c17 : Nat), CellsAt w15 ⟨b1, 0, none⟩ [.int .i64 n16, .slice a17 l17 c17] ∧
 ∃ (n18 : Int), ∃ (a19 : Option Addr) (l19 c19 : Nat), CellsAt w15 ⟨b13, 0, none⟩ [.int .i64 n18, .slice a19 l19 c19] ∧
 C31 n16 a17 l17 c17 n18 a19 l19 c19 w15 fun b20 w21 =>
 K b20 w21)
 (K false w15))
 (K false w15)
theorem r_f39 (pa : Int) (pba : Option Addr) (pbl pbc : Nat) (w : World) (K : Bool → World → Prop) (h : V_f39 pa pba pbl pbc w K) : C39 pa pba pbl pbc w K :=
  @calls_of_eq Try.prog 39 Try.f39 [.agg #[.int .i64 pa, .slice pba pbl pbc]] w [.leaf .bool] K _ (cfg true (fun _ => [])) (fun _ => none) (fun _ => none) (fun _ => none) Try.func39 (by kernel_rfl) (by kernel_rfl) h

/-- gneiss/gneisslaw14.ClassCounts -/
def V_f11 (kind : Int) (over : Bool) (w : World) (K : Bool → World → Prop) : Prop :=
 C33  w fun b1 w2 =>
 IfB (!b1)
 (K false w2)
 (C37  w2 fun n3 a4 l4 c4 w5 =>
 ∀ (b6 : Nat) (w7 : World), NewAt w5 w7 b6 #[.int .i64 0, .slice none 0 0] 54 →
 MayL w7 ⟨b6, 0, none⟩ 2 ∧ ∀ w8 : World, SetL w7 w8 ⟨b6, 0, none⟩ [.int .i64 n3, .slice a4 l4 c4] →
 ∃ (a9 : Option Addr) (l9 c9 : Nat), World.cell? w8 ⟨b6, 1, none⟩ = some (.slice a9 l9 c9) ∧
 PtrOK a9 fun (p10 : Addr) =>
 ((0 : Int) ≤ 0 ∧ 0 < (l9 : Int)) ∧
 ∀ (b11 : Nat) (w12 : World), NewAt w8 w12 b11 #[.int .i64 40, .int .i64 8, .int .i64 24, .int .i64 24, .int .i64 24, .int .i64 8, .int .i64 300, .int .i64 16] 3 →
 ((0 : Int) ≤ (bits .and .i64 kind 7) ∧ (bits .and .i64 kind 7) < (8 : Int)) ∧
 ∃ (n13 : Int), World.cell? w12 (Addr.add ⟨b11, 0, none⟩ (Int.toNat (bits .and .i64 kind 7) * 1)) = some (.int .i64 n13) ∧
 ∃ M14 : Int → World → Prop,
 (IfB over
 (Fit .i64 (n13 + 1) ∧
 M14 (n13 + 1) w12)
 (M14 n13 w12)) ∧
 ∀ (_ : Env) (n15 : Int) (w16 : World), M14 n15 w16 →
 ∃ M17 : World → Prop,
 (IfB (decide (((bits .and .i64 kind 7) : Int) = 0))
 (∃ (I19 : World → Prop) (m20 : World → Nat),
 I19 w16 ∧
 ∀ (_ : Env) (w21 : World), I19 w21 →
 ∃ (a22 : Option Addr) (l22 c22 : Nat), World.cell? w21 ⟨b6, 1, none⟩ = some (.slice a22 l22 c22) ∧
 IfB (decide (((l22 : Int) : Int) < n15))
 (∃ (a23 : Option Addr) (l23 c23 : Nat), World.cell? w21 ⟨b6, 1, none⟩ = some (.slice a23 l23 c23) ∧
 ∀ (b24 : Nat) (w25 : World), NewAt w21 w25 b24 #[.string (ByteArray.mk #[65]), .bool false, .bool false, .int .i64 0, .slice none 0 0, .slice none 0 0, .slice none 0 0, .slice none 0 0] 75 →
 RunF Try.prog (Builtin.append_ #[52, 52] 52 #[.slice a23 l23 c23, .slice (some ⟨b24, 0, none⟩) 1 1]) w25 [.leaf .slice] fun (a26 : Option Addr) (l26 c26 : Nat) (w27 : World) =>
 May w27 ⟨b6, 1, none⟩ ∧ ∀ w28 : World, SetC w27 w28 ⟨b6, 1, none⟩ (.slice a26 l26 c26) →
 (I19 w28 ∧
 m20 w28 < m20 w21))
 (M17 w21))
 (IfB (decide (((bits .and .i64 kind 7) : Int) = 1))
 (RunF Try.prog (Instr.makeSlice 38 (.int .i64 n15) (.int .i64 n15)) w16 [.leaf .slice] fun (a29 : Option Addr) (l29 c29 : Nat) (w30 : World) =>
 May w30 (Addr.add (Addr.add p10 (Int.toNat 0 * 8)) 4) ∧ ∀ w31 : World, SetC w30 w31 (Addr.add (Addr.add p10 (Int.toNat 0 * 8)) 4) (.slice a29 l29 c29) →
 M17 w31)
 (IfB (decide (((bits .and .i64 kind 7) : Int) = 2))
 (∃ (I32 : Option Addr → Nat → Nat → Int → World → Prop) (m33 : Option Addr → Nat → Nat → Int → World → Nat),
 I32 none 0 0 0 w16 ∧
 ∀ (_ : Env) (a34 : Option Addr) (l34 c34 : Nat) (n35 : Int) (w36 : World), I32 a34 l34 c34 n35 w36 →
 IfB (decide ((n35 : Int) < n15))
 (∀ (b37 : Nat) (w38 : World), NewAt w36 w38 b37 #[.string (ByteArray.mk #[102]), .int .i64 1] 77 →
 RunF Try.prog (Builtin.append_ #[72, 72] 72 #[.slice a34 l34 c34, .slice (some ⟨b37, 0, none⟩) 1 1]) w38 [.leaf .slice] fun (a39 : Option Addr) (l39 c39 : Nat) (w40 : World) =>
 Fit .i64 (n35 + 1) ∧
 (I32 a39 l39 c39 (n35 + 1) w40 ∧
 m33 a39 l39 c39 (n35 + 1) w40 < m33 a34 l34 c34 n35 w36))
 (IfB (decide (((bits .and .i64 kind 1) : Int) = 0))
 (May w36 (Addr.add (Addr.add p10 (Int.toNat 0 * 8)) 5) ∧ ∀ w41 : World, SetC w36 w41 (Addr.add (Addr.add p10 (Int.toNat 0 * 8)) 5) (.slice a34 l34 c34) →
 M17 w41)
 (May w36 (Addr.add (Addr.add p10 (Int.toNat 0 * 8)) 6) ∧ ∀ w42 : World, SetC w36 w42 (Addr.add (Addr.add p10 (Int.toNat 0 * 8)) 6) (.slice a34 l34 c34) →
 M17 w42)))
 (IfB (decide (((bits .and .i64 kind 7) : Int) = 3))
 (∃ (I43 : Option Addr → Nat → Nat → Int → World → Prop) (m44 : Option Addr → Nat → Nat → Int → World → Nat),
 I43 none 0 0 0 w16 ∧
 ∀ (_ : Env) (a45 : Option Addr) (l45 c45 : Nat) (n46 : Int) (w47 : World), I43 a45 l45 c45 n46 w47 →
 IfB (decide ((n46 : Int) < n15))
 (∀ (b48 : Nat) (w49 : World), NewAt w47 w49 b48 #[.string (ByteArray.mk #[102]), .int .i64 1] 77 →
 RunF Try.prog (Builtin.append_ #[72, 72] 72 #[.slice a45 l45 c45, .slice (some ⟨b48, 0, none⟩) 1 1]) w49 [.leaf .slice] fun (a50 : Option Addr) (l50 c50 : Nat) (w51 : World) =>
 Fit .i64 (n46 + 1) ∧
 (I43 a50 l50 c50 (n46 + 1) w51 ∧
 m44 a50 l50 c50 (n46 + 1) w51 < m44 a45 l45 c45 n46 w47))
 (IfB (decide (((bits .and .i64 kind 1) : Int) = 0))
 (May w47 (Addr.add (Addr.add p10 (Int.toNat 0 * 8)) 5) ∧ ∀ w52 : World, SetC w47 w52 (Addr.add (Addr.add p10 (Int.toNat 0 * 8)) 5) (.slice a45 l45 c45) →
 M17 w52)
 (May w47 (Addr.add (Addr.add p10 (Int.toNat 0 * 8)) 6) ∧ ∀ w53 : World, SetC w47 w53 (Addr.add (Addr.add p10 (Int.toNat 0 * 8)) 6) (.slice a45 l45 c45) →
 M17 w53)))
 (IfB (decide (((bits .and .i64 kind 7) : Int) = 4))
 (∃ (I54 : World → Prop) (m55 : World → Nat),
 I54 w16 ∧
 ∀ (_ : Env) (w56 : World), I54 w56 →
 ∃ (a57 : Option Addr) (l57 c57 : Nat), World.cell? w56 (Addr.add (Addr.add p10 (Int.toNat 0 * 8)) 7) = some (.slice a57 l57 c57) ∧
 IfB (decide (((l57 : Int) : Int) < n15))
 (∃ (a58 : Option Addr) (l58 c58 : Nat), World.cell? w56 (Addr.add (Addr.add p10 (Int.toNat 0 * 8)) 7) = some (.slice a58 l58 c58) ∧
 ∀ (b59 : Nat) (w60 : World), NewAt w56 w60 b59 #[.string (ByteArray.mk #[109]), .bool false, .slice none 0 0, .int .i64 0, .int .i64 0, .int .i64 0, .slice none 0 0, .slice none 0 0, .slice none 0 0] 82 →
 RunF Try.prog (Builtin.append_ #[73, 73] 73 #[.slice a58 l58 c58, .slice (some ⟨b59, 0, none⟩) 1 1]) w60 [.leaf .slice] fun (a61 : Option Addr) (l61 c61 : Nat) (w62 : World) =>
 May w62 (Addr.add (Addr.add p10 (Int.toNat 0 * 8)) 7) ∧ ∀ w63 : World, SetC w62 w63 (Addr.add (Addr.add p10 (Int.toNat 0 * 8)) 7) (.slice a61 l61 c61) →
 (I54 w63 ∧
 m55 w63 < m55 w56))
 (M17 w56))
 (IfB (decide (((bits .and .i64 kind 7) : Int) = 5))
 (∀ w64 : World, Drew w16 w64 →
 (∃ (a65 : Option Addr) (l65 c65 : Nat), World.cell? w64 (Addr.add (Addr.add p10 (Int.toNat 0 * 8)) 7) = some (.slice a65 l65 c65) ∧
 RunF Try.prog (Instr.makeSlice 38 (.int .i64 n15) (.int .i64 n15)) w64 [.leaf .slice] fun (a66 : Option Addr) (l66 c66 : Nat) (w67 : World) =>
 PtrOK a65 fun (p68 : Addr) =>
 ((0 : Int) ≤ 0 ∧ 0 < (l65 : Int)) ∧
 May w67 (Addr.add (Addr.add p68 (Int.toNat 0 * 9)) 2) ∧ ∀ w69 : World, SetC w67 w69 (Addr.add (Addr.add p68 (Int.toNat 0 * 9)) 2) (.slice a66 l66 c66) →
 M17 w69) ∧
 (RunF Try.prog (Instr.makeSlice 38 (.int .i64 n15) (.int .i64 n15)) w64 [.leaf .slice] fun (a70 : Option Addr) (l70 c70 : Nat) (w71 : World) =>
 ∃ (a72 : Option Addr) (l72 c72 : Nat), World.cell? w71 (Addr.add (Addr.add p10 (Int.toNat 0 * 8)) 7) = some (.slice a72 l72 c72) ∧
 PtrOK a72 fun (p73 : Addr) =>
 ((0 : Int) ≤ 0 ∧ 0 < (l72 : Int)) ∧
 May w71 (Addr.add (Addr.add p73 (Int.toNat 0 * 9)) 2) ∧ ∀ w74 : World, SetC w71 w74 (Addr.add (Addr.add p73 (Int.toNat 0 * 9)) 2) (.slice a70 l70 c70) →
 M17 w74))
 (IfB (decide (((bits .and .i64 kind 7) : Int) = 6))
 (∀ w75 : World, Drew w16 w75 →
 (∃ (a76 : Option Addr) (l76 c76 : Nat), World.cell? w75 (Addr.add (Addr.add p10 (Int.toNat 0 * 8)) 7) = some (.slice a76 l76 c76) ∧
 RunF Try.prog (Instr.makeSlice 78 (.int .i64 n15) (.int .i64 n15)) w75 [.leaf .slice] fun (a77 : Option Addr) (l77 c77 : Nat) (w78 : World) =>
 PtrOK a76 fun (p79 : Addr) =>
 ((0 : Int) ≤ 0 ∧ 0 < (l76 : Int)) ∧
 May w78 (Addr.add (Addr.add p79 (Int.toNat 0 * 9)) 6) ∧ ∀ w80 : World, SetC w78 w80 (Addr.add (Addr.add p79 (Int.toNat 0 * 9)) 6) (.slice a77 l77 c77) →
 M17 w80) ∧
 (RunF Try.prog (Instr.makeSlice 78 (.int .i64 n15) (.int .i64 n15)) w75 [.leaf .slice] fun (a81 : Option Addr) (l81 c81 : Nat) (w82 : World) =>
 ∃ (a83 : Option Addr) (l83 c83 : Nat), World.cell? w82 (Addr.add (Addr.add p10 (Int.toNat 0 * 8)) 7) = some (.slice a83 l83 c83) ∧
 PtrOK a83 fun (p84 : Addr) =>
 ((0 : Int) ≤ 0 ∧ 0 < (l83 : Int)) ∧
 May w82 (Addr.add (Addr.add p84 (Int.toNat 0 * 9)) 6) ∧ ∀ w85 : World, SetC w82 w85 (Addr.add (Addr.add p84 (Int.toNat 0 * 9)) 6) (.slice a81 l81 c81) →
 M17 w85))
 (∀ w86 : World, Drew w16 w86 →
 (∃ (a87 : Option Addr) (l87 c87 : Nat), World.cell? w86 (Addr.add (Addr.add p10 (Int.toNat 0 * 8)) 7) = some (.slice a87 l87 c87) ∧
 RunF Try.prog (Instr.makeSlice 79 (.int .i64 n15) (.int .i64 n15)) w86 [.leaf .slice] fun (a88 : Option Addr) (l88 c88 : Nat) (w89 : World) =>
 PtrOK a87 fun (p90 : Addr) =>
 ((0 : Int) ≤ 0 ∧ 0 < (l87 : Int)) ∧
 May w89 (Addr.add (Addr.add p90 (Int.toNat 0 * 9)) 7) ∧ ∀ w91 : World, SetC w89 w91 (Addr.add (Addr.add p90 (Int.toNat 0 * 9)) 7) (.slice a88 l88 c88) →
 M17 w91) ∧
 (RunF Try.prog (Instr.makeSlice 79 (.int .i64 n15) (.int .i64 n15)) w86 [.leaf .slice] fun (a92 : Option Addr) (l92 c92 : Nat) (w93 : World) =>
 ∃ (a94 : Option Addr) (l94 c94 : Nat), World.cell? w93 (Addr.add (Addr.add p10 (Int.toNat 0 * 8)) 7) = some (.slice a94 l94 c94) ∧
 PtrOK a94 fun (p95 : Addr) =>
 ((0 : Int) ≤ 0 ∧ 0 < (l94 : Int)) ∧
 May w93 (Addr.add (Addr.add p95 (Int.toNat 0 * 9)) 7) ∧ ∀ w96 : World, SetC w93 w96 (Addr.add (Addr.add p95 (Int.toNat 0 * 9)) 7) (.slice a92 l92 c92) →
 M17 w96))))))))) ∧
 ∀ (_ : Env) (w18 : World), M17 w18 →
 IfB over
 (∃ (n97 : Int), ∃ (a98 : Option Addr) (l98 c98 : Nat), CellsAt w18 ⟨b6, 0, none⟩ [.int .i64 n97, .slice a98 l98 c98] ∧
 C38 n97 a98 l98 c98 1404 w18 fun b99 w100 =>
 K b99 w100)
 (∃ (n101 : Int), ∃ (a102 : Option Addr) (l102 c102 : Nat), CellsAt w18 ⟨b6, 0, none⟩ [.int .i64 n101, .slice a102 l102 c102] ∧
 C39 n101 a102 l102 c102 w18 fun b103 w104 =>
 K b103 w104))
theorem r_f11 (kind : Int) (over : Bool) (w : World) (K : Bool → World → Prop) (h : V_f11 kind over w K) : C11 kind over w K :=
  @calls_of_eq Try.prog 11 Try.f11 [.int .i64 kind, .bool over] w [.leaf .bool] K _ (cfg true (fun _ => [])) (fun n => bif Nat.beq n 1 then some ⟨[], []⟩ else bif Nat.beq n 3 then some ⟨[8, 9], [.slice, .int .i64]⟩ else bif Nat.beq n 5 then some ⟨[], []⟩ else none) (fun n => bif Nat.beq n 8 then some ⟨[7], [.int .i64]⟩ else bif Nat.beq n 32 then some ⟨[], []⟩ else none) (fun _ => none) Try.func11 (by kernel_rfl) (by kernel_rfl) h

/-- gneiss/gneisslaw14.ClassNames -/
def V_f12 (name : ByteArray) (whereV : Int) (w : World) (K : Bool → World → Prop) : Prop :=
 C33  w fun b1 w2 =>
 IfB (!b1)
 (K false w2)
 (∃ M3 : Bool → World → Prop,
 (IfB (decide ((1 : Int) ≤ (ByteArray.size name : Int)))
 (M3 (decide (((ByteArray.size name : Int) : Int) ≤ 16)) w2)
 (M3 false w2)) ∧
 ∀ (_ : Env) (b4 : Bool) (w5 : World), M3 b4 w5 →
 ∃ (I6 : Bool → Int → World → Prop) (m7 : Bool → Int → World → Nat),
 I6 b4 0 w5 ∧
 ∀ (_ : Env) (b8 : Bool) (n9 : Int) (w10 : World), I6 b8 n9 w10 →
 IfB (decide ((n9 : Int) < (ByteArray.size name : Int)))
 (∃ h11 : Int.toNat n9 < ByteArray.size name, 0 ≤ n9 ∧
 ∃ M12 : Bool → World → Prop,
 (IfB (decide ((((UInt8.toNat (name[Int.toNat n9]'h11) : Nat) : Int) : Int) = 95))
 (M12 true w10)
 (IfB (decide ((97 : Int) ≤ ((UInt8.toNat (name[Int.toNat n9]'h11) : Nat) : Int)))
 (IfB (decide ((((UInt8.toNat (name[Int.toNat n9]'h11) : Nat) : Int) : Int) ≤ 122))
 (M12 true w10)
 (IfB (decide ((65 : Int) ≤ ((UInt8.toNat (name[Int.toNat n9]'h11) : Nat) : Int)))
 (M12 (decide ((((UInt8.toNat (name[Int.toNat n9]'h11) : Nat) : Int) : Int) ≤ 90)) w10)
 (M12 false w10)))
 (IfB (decide ((65 : Int) ≤ ((UInt8.toNat (name[Int.toNat n9]'h11) : Nat) : Int)))
 (M12 (decide ((((UInt8.toNat (name[Int.toNat n9]'h11) : Nat) : Int) : Int) ≤ 90)) w10)
 (M12 false w10)))) ∧
 ∀ (_ : Env) (b13 : Bool) (w14 : World), M12 b13 w14 →
 IfB b8
 (IfB b13
 (Fit .i64 (n9 + 1) ∧
 (I6 true (n9 + 1) w14 ∧
 m7 true (n9 + 1) w14 < m7 b8 n9 w10))
 (IfB (decide ((0 : Int) < n9))
 (IfB (decide ((48 : Int) ≤ ((UInt8.toNat (name[Int.toNat n9]'h11) : Nat) : Int)))
 (Fit .i64 (n9 + 1) ∧
 (I6 (decide ((((UInt8.toNat (name[Int.toNat n9]'h11) : Nat) : Int) : Int) ≤ 57)) (n9 + 1) w14 ∧
 m7 (decide ((((UInt8.toNat (name[Int.toNat n9]'h11) : Nat) : Int) : Int) ≤ 57)) (n9 + 1) w14 < m7 b8 n9 w10))
 (Fit .i64 (n9 + 1) ∧
 (I6 false (n9 + 1) w14 ∧
 m7 false (n9 + 1) w14 < m7 b8 n9 w10)))
 (Fit .i64 (n9 + 1) ∧
 (I6 false (n9 + 1) w14 ∧
 m7 false (n9 + 1) w14 < m7 b8 n9 w10))))
 (Fit .i64 (n9 + 1) ∧
 (I6 false (n9 + 1) w14 ∧
 m7 false (n9 + 1) w14 < m7 b8 n9 w10)))
 (C37  w10 fun n15 a16 l16 c16 w17 =>
 ∀ (b18 : Nat) (w19 : World), NewAt w17 w19 b18 #[.int .i64 0, .slice none 0 0] 54 →
 MayL w19 ⟨b18, 0, none⟩ 2 ∧ ∀ w20 : World, SetL w19 w20 ⟨b18, 0, none⟩ [.int .i64 n15, .slice a16 l16 c16] →
 ∃ M21 : World → Prop,
 (IfB (decide (((bits .and .i64 whereV 3) : Int) = 0))
 (∃ (a23 : Option Addr) (l23 c23 : Nat), World.cell? w20 ⟨b18, 1, none⟩ = some (.slice a23 l23 c23) ∧
 PtrOK a23 fun (p24 : Addr) =>
 ((0 : Int) ≤ 0 ∧ 0 < (l23 : Int)) ∧
 May w20 (Addr.add (Addr.add p24 (Int.toNat 0 * 8)) 0) ∧ ∀ w25 : World, SetC w20 w25 (Addr.add (Addr.add p24 (Int.toNat 0 * 8)) 0) (.string name) →
 M21 w25)
 (IfB (decide (((bits .and .i64 whereV 3) : Int) = 1))
 (∃ (a26 : Option Addr) (l26 c26 : Nat), World.cell? w20 ⟨b18, 1, none⟩ = some (.slice a26 l26 c26) ∧
 PtrOK a26 fun (p27 : Addr) =>
 ((0 : Int) ≤ 0 ∧ 0 < (l26 : Int)) ∧
 ∃ (a28 : Option Addr) (l28 c28 : Nat), World.cell? w20 (Addr.add (Addr.add p27 (Int.toNat 0 * 8)) 7) = some (.slice a28 l28 c28) ∧
 PtrOK a28 fun (p29 : Addr) =>
 ((0 : Int) ≤ 0 ∧ 0 < (l28 : Int)) ∧
 May w20 (Addr.add (Addr.add p29 (Int.toNat 0 * 9)) 0) ∧ ∀ w30 : World, SetC w20 w30 (Addr.add (Addr.add p29 (Int.toNat 0 * 9)) 0) (.string name) →
 M21 w30)
 (IfB (decide (((bits .and .i64 whereV 3) : Int) = 2))
 (∃ (a31 : Option Addr) (l31 c31 : Nat), World.cell? w20 ⟨b18, 1, none⟩ = some (.slice a31 l31 c31) ∧
 ∀ (b32 : Nat) (w33 : World), NewAt w20 w33 b32 #[.string name, .int .i64 0] 77 →
 PtrOK a31 fun (p34 : Addr) =>
 ((0 : Int) ≤ 0 ∧ 0 < (l31 : Int)) ∧
 May w33 (Addr.add (Addr.add p34 (Int.toNat 0 * 8)) 5) ∧ ∀ w35 : World, SetC w33 w35 (Addr.add (Addr.add p34 (Int.toNat 0 * 8)) 5) (.slice (some ⟨b32, 0, none⟩) 1 1) →
 M21 w35)
 (∃ (a36 : Option Addr) (l36 c36 : Nat), World.cell? w20 ⟨b18, 1, none⟩ = some (.slice a36 l36 c36) ∧
 ∀ (b37 : Nat) (w38 : World), NewAt w20 w38 b37 #[.string name, .int .i64 0] 77 →
 PtrOK a36 fun (p39 : Addr) =>
 ((0 : Int) ≤ 0 ∧ 0 < (l36 : Int)) ∧
 May w38 (Addr.add (Addr.add p39 (Int.toNat 0 * 8)) 6) ∧ ∀ w40 : World, SetC w38 w40 (Addr.add (Addr.add p39 (Int.toNat 0 * 8)) 6) (.slice (some ⟨b37, 0, none⟩) 1 1) →
 M21 w40)))) ∧
 ∀ (_ : Env) (w22 : World), M21 w22 →
 IfB b8
 (∃ (n41 : Int), ∃ (a42 : Option Addr) (l42 c42 : Nat), CellsAt w22 ⟨b18, 0, none⟩ [.int .i64 n41, .slice a42 l42 c42] ∧
 C39 n41 a42 l42 c42 w22 fun b43 w44 =>
 K b43 w44)
 (∃ (n45 : Int), ∃ (a46 : Option Addr) (l46 c46 : Nat), CellsAt w22 ⟨b18, 0, none⟩ [.int .i64 n45, .slice a46 l46 c46] ∧
 C38 n45 a46 l46 c46 1403 w22 fun b47 w48 =>
 K b47 w48)))
theorem r_f12 (name : ByteArray) (whereV : Int) (w : World) (K : Bool → World → Prop) (h : V_f12 name whereV w K) : C12 name whereV w K :=
  @calls_of_eq Try.prog 12 Try.f12 [.string name, .int .i64 whereV] w [.leaf .bool] K _ (cfg true (fun _ => [])) (fun n => bif Nat.beq n 0 then some ⟨[5, 6], [.bool, .int .i64]⟩ else none) (fun n => bif Nat.beq n 4 then some ⟨[5], [.bool]⟩ else bif Nat.beq n 9 then some ⟨[8], [.bool]⟩ else bif Nat.beq n 19 then some ⟨[], []⟩ else none) (fun _ => none) Try.func12 (by kernel_rfl) (by kernel_rfl) h

/-- gneiss/gneisslaw14.ClassNumbers -/
def V_f13 (whereV : Int) (x : Int) (w : World) (K : Bool → World → Prop) : Prop :=
 C33  w fun b1 w2 =>
 IfB (!b1)
 (K false w2)
 (C37  w2 fun n3 a4 l4 c4 w5 =>
 ∀ (b6 : Nat) (w7 : World), NewAt w5 w7 b6 #[.int .i64 0, .slice none 0 0] 54 →
 MayL w7 ⟨b6, 0, none⟩ 2 ∧ ∀ w8 : World, SetL w7 w8 ⟨b6, 0, none⟩ [.int .i64 n3, .slice a4 l4 c4] →
 ∃ (a9 : Option Addr) (l9 c9 : Nat), World.cell? w8 ⟨b6, 1, none⟩ = some (.slice a9 l9 c9) ∧
 PtrOK a9 fun (p10 : Addr) =>
 ((0 : Int) ≤ 0 ∧ 0 < (l9 : Int)) ∧
 ∃ (a11 : Option Addr) (l11 c11 : Nat), World.cell? w8 (Addr.add (Addr.add p10 (Int.toNat 0 * 8)) 7) = some (.slice a11 l11 c11) ∧
 PtrOK a11 fun (p12 : Addr) =>
 ((0 : Int) ≤ 0 ∧ 0 < (l11 : Int)) ∧
 ∃ M13 : Bool → World → Prop,
 (IfB (decide (((-2147483648) : Int) ≤ x))
 (M13 (decide ((x : Int) ≤ 2147483647)) w8)
 (M13 false w8)) ∧
 ∀ (_ : Env) (b14 : Bool) (w15 : World), M13 b14 w15 →
 ∃ M16 : Bool → World → Prop,
 (IfB (decide (((bits .and .i64 whereV 7) : Int) = 0))
 (May w15 ⟨b6, 0, none⟩ ∧ ∀ w19 : World, SetC w15 w19 ⟨b6, 0, none⟩ (.int .i64 x) →
 M16 b14 w19)
 (IfB (decide (((bits .and .i64 whereV 7) : Int) = 1))
 (∃ (a20 : Option Addr) (l20 c20 : Nat), World.cell? w15 ⟨b6, 1, none⟩ = some (.slice a20 l20 c20) ∧
 PtrOK a20 fun (p21 : Addr) =>
 ((0 : Int) ≤ 0 ∧ 0 < (l20 : Int)) ∧
 May w15 (Addr.add (Addr.add p21 (Int.toNat 0 * 8)) 3) ∧ ∀ w22 : World, SetC w15 w22 (Addr.add (Addr.add p21 (Int.toNat 0 * 8)) 3) (.int .i64 x) →
 M16 b14 w22)
 (IfB (decide (((bits .and .i64 whereV 7) : Int) = 2))
 (May w15 (Addr.add (Addr.add p12 (Int.toNat 0 * 9)) 3) ∧ ∀ w23 : World, SetC w15 w23 (Addr.add (Addr.add p12 (Int.toNat 0 * 9)) 3) (.int .i64 x) →
 M16 b14 w23)
 (IfB (decide (((bits .and .i64 whereV 7) : Int) = 3))
 (∃ (a24 : Option Addr) (l24 c24 : Nat), World.cell? w15 (Addr.add (Addr.add p12 (Int.toNat 0 * 9)) 6) = some (.slice a24 l24 c24) ∧
 PtrOK a24 fun (p25 : Addr) =>
 ((0 : Int) ≤ 0 ∧ 0 < (l24 : Int)) ∧
 May w15 (Addr.add (Addr.add p25 (Int.toNat 0 * 3)) 0) ∧ ∀ w26 : World, SetC w15 w26 (Addr.add (Addr.add p25 (Int.toNat 0 * 3)) 0) (.int .i64 x) →
 M16 b14 w26)
 (IfB (decide (((bits .and .i64 whereV 7) : Int) = 4))
 (∀ (b27 : Nat) (w28 : World), NewAt w15 w28 b27 #[.int .i64 x] 3 →
 ∀ (b29 : Nat) (w30 : World), NewAt w28 w30 b29 #[.int .i64 x, .slice none 0 0, .slice (some ⟨b27, 0, none⟩) 1 1] 89 →
 May w30 (Addr.add (Addr.add p12 (Int.toNat 0 * 9)) 8) ∧ ∀ w31 : World, SetC w30 w31 (Addr.add (Addr.add p12 (Int.toNat 0 * 9)) 8) (.slice (some ⟨b29, 0, none⟩) 1 1) →
 M16 b14 w31)
 (IfB (decide (((bits .and .i64 whereV 7) : Int) = 5))
 (∀ (b32 : Nat) (w33 : World), NewAt w15 w33 b32 #[.int .i64 x, .int .i64 0, .int .i64 0, .int .i64 x] 91 →
 May w33 (Addr.add (Addr.add p12 (Int.toNat 0 * 9)) 7) ∧ ∀ w34 : World, SetC w33 w34 (Addr.add (Addr.add p12 (Int.toNat 0 * 9)) 7) (.slice (some ⟨b32, 0, none⟩) 1 1) →
 M16 b14 w34)
 (IfB (decide (((bits .and .i64 whereV 7) : Int) = 6))
 (May w15 (Addr.add (Addr.add p12 (Int.toNat 0 * 9)) 4) ∧ ∀ w35 : World, SetC w15 w35 (Addr.add (Addr.add p12 (Int.toNat 0 * 9)) 4) (.int .i64 x) →
 IfB (decide ((0 : Int) ≤ x))
 (M16 (decide ((x : Int) ≤ 24)) w35)
 (M16 false w35))
 (May w15 (Addr.add (Addr.add p12 (Int.toNat 0 * 9)) 5) ∧ ∀ w36 : World, SetC w15 w36 (Addr.add (Addr.add p12 (Int.toNat 0 * 9)) 5) (.int .i64 x) →
 IfB (decide ((0 : Int) ≤ x))
 (M16 (decide ((x : Int) ≤ 24)) w36)
 (M16 false w36))))))))) ∧
 ∀ (_ : Env) (b17 : Bool) (w18 : World), M16 b17 w18 →
 IfB b17
 (∃ (n37 : Int), ∃ (a38 : Option Addr) (l38 c38 : Nat), CellsAt w18 ⟨b6, 0, none⟩ [.int .i64 n37, .slice a38 l38 c38] ∧
 C39 n37 a38 l38 c38 w18 fun b39 w40 =>
 K b39 w40)
 (∃ (n41 : Int), ∃ (a42 : Option Addr) (l42 c42 : Nat), CellsAt w18 ⟨b6, 0, none⟩ [.int .i64 n41, .slice a42 l42 c42] ∧
 C38 n41 a42 l42 c42 1402 w18 fun b43 w44 =>
 K b43 w44))
theorem r_f13 (whereV : Int) (x : Int) (w : World) (K : Bool → World → Prop) (h : V_f13 whereV x w K) : C13 whereV x w K :=
  @calls_of_eq Try.prog 13 Try.f13 [.int .i64 whereV, .int .i64 x] w [.leaf .bool] K _ (cfg true (fun _ => [])) (fun _ => none) (fun n => bif Nat.beq n 6 then some ⟨[7], [.bool]⟩ else bif Nat.beq n 24 then some ⟨[7], [.bool]⟩ else none) (fun _ => none) Try.func13 (by kernel_rfl) (by kernel_rfl) h

end Go.Proofs.Ytmlhdmnnijapjaa.V
