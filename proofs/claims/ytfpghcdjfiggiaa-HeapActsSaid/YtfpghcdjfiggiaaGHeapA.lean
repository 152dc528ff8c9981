/- Readings of the program's functions. No condition. -/
import Derived.Test.YtfpghcdjfiggiaaGCfg
namespace Go.Proofs.Ytfpghcdjfiggiaa.V
open Go
set_option maxRecDepth 100000
set_option linter.unusedVariables false
/-- (*gneiss/gneisslaw9.play).act -/
def V_f97 (y : Nat) (xa : Int) (xb : Int) (xc : Int) (xd : Int) (xe : Int) (xf : Int) (w : World) (K : Bool → World → Prop) : Prop :=
 ∀ (b1 : Nat) (w2 : World), NewAt w w2 b1 #[.int .i64 xa, .int .i64 xb, .int .i64 xc, .int .i64 xd, .int .i64 xe, .int .i64 xf] 143 →
 ∃ (n3 : Int), World.cell? w2 ⟨b1, 2, none⟩ = some (.int .i64 n3) ∧
 ∃ M4 : Int → World → Prop,
 (∃ (a7 : Option Addr) (l7 c7 : Nat), World.cell? w2 ⟨y, 3, none⟩ = some (.slice a7 l7 c7) ∧
 IfB (decide ((0 : Int) < (l7 : Int)))
 (∃ (n8 : Int), World.cell? w2 ⟨b1, 2, none⟩ = some (.int .i64 n8) ∧
 IfB (decide ((0 : Int) ≤ n8))
 (∀ w9 : World, Drew w2 w9 →
 ∃ (a10 : Option Addr) (l10 c10 : Nat), World.cell? w9 ⟨y, 3, none⟩ = some (.slice a10 l10 c10) ∧
 ∃ (n11 : Int), World.cell? w9 ⟨b1, 2, none⟩ = some (.int .i64 n11) ∧
 ∃ (a12 : Option Addr) (l12 c12 : Nat), World.cell? w9 ⟨y, 3, none⟩ = some (.slice a12 l12 c12) ∧
 ((l12 : Int) : Int) ≠ 0 ∧
 PtrOK a10 fun (p13 : Addr) =>
 ((0 : Int) ≤ (Int.tmod n11 (l12 : Int)) ∧ (Int.tmod n11 (l12 : Int)) < (l10 : Int)) ∧
 ∃ (n14 : Int), World.cell? w9 (Addr.add (Addr.add p13 (Int.toNat (Int.tmod n11 (l12 : Int)) * 4)) 0) = some (.int .i64 n14) ∧
 M4 n14 w9)
 (M4 n3 w2))
 (M4 n3 w2)) ∧
 ∀ (_ : Env) (n5 : Int) (w6 : World), M4 n5 w6 →
 C100 (some ⟨y, 0, none⟩) n5 w6 fun n15 w16 =>
 ∃ (n17 : Int), World.cell? w16 ⟨b1, 0, none⟩ = some (.int .i64 n17) ∧
 IfB (decide ((n17 : Int) < 3))
 (∃ (n18 : Int), ∃ (n19 : Int), ∃ (n20 : Int), ∃ (n21 : Int), ∃ (n22 : Int), ∃ (n23 : Int), CellsAt w16 ⟨b1, 0, none⟩ [.int .i64 n18, .int .i64 n19, .int .i64 n20, .int .i64 n21, .int .i64 n22, .int .i64 n23] ∧
 C164 (some ⟨y, 0, none⟩) n18 n19 n20 n21 n22 n23 w16 fun b24 w25 =>
 K b24 w25)
 (∃ (n26 : Int), World.cell? w16 ⟨b1, 0, none⟩ = some (.int .i64 n26) ∧
 IfB (decide ((n26 : Int) < 7))
 (∃ (n27 : Int), ∃ (n28 : Int), ∃ (n29 : Int), ∃ (n30 : Int), ∃ (n31 : Int), ∃ (n32 : Int), CellsAt w16 ⟨b1, 0, none⟩ [.int .i64 n27, .int .i64 n28, .int .i64 n29, .int .i64 n30, .int .i64 n31, .int .i64 n32] ∧
 C165 (some ⟨y, 0, none⟩) n27 n28 n29 n30 n31 n32 n5 w16 fun b33 w34 =>
 K b33 w34)
 (∃ (n35 : Int), World.cell? w16 ⟨b1, 0, none⟩ = some (.int .i64 n35) ∧
 IfB (decide ((n35 : Int) = 7))
 (∀ w36 : World, Drew w16 w36 →
 ∃ (q37 : Option Addr), World.cell? w36 ⟨y, 0, none⟩ = some (.pointer q37) ∧
 ∃ (n38 : Int), World.cell? w36 ⟨b1, 1, none⟩ = some (.int .i64 n38) ∧
 C96 q37 n38 n5 w36 fun n39 w40 =>
 ∃ M41 : World → Prop,
 (∀ w43 : World, Drew w40 w43 →
 ∃ (n44 : Int), World.cell? w43 ⟨b1, 1, none⟩ = some (.int .i64 n44) ∧
 IfB (decide ((n44 : Int) < 0))
 (K (decide ((n39 : Int) = 904)) w43)
 (∃ (n45 : Int), World.cell? w43 ⟨b1, 1, none⟩ = some (.int .i64 n45) ∧
 ∃ (n46 : Int), World.cell? w43 ⟨y, 2, none⟩ = some (.int .i64 n46) ∧
 IfB (decide ((n46 : Int) ≤ n45))
 (K (decide ((n39 : Int) = 904)) w43)
 (IfB (decide ((n15 : Int) < 0))
 (K (decide ((n39 : Int) = 904)) w43)
 (M41 w43)))) ∧
 ∀ (_ : Env) (w42 : World), M41 w42 →
 ∀ w47 : World, Drew w42 w47 →
 Fit .i64 (n15 + 1) ∧
 (∀ (b48 : Nat) (w49 : World), NewAt w47 w49 b48 #[] 217 →
 ∃ (a50 : Option Addr) (l50 c50 : Nat), World.cell? w49 ⟨y, 3, none⟩ = some (.slice a50 l50 c50) ∧
 ((0 : Int) ≤ n15 ∧ n15 ≤ (c50 : Int)) ∧
 (RunF Try.prog (Builtin.append_ #[138, 138] 138 #[.slice (some ⟨b48, 0, none⟩) 0 0, .slice a50 (Int.toNat n15) c50]) w49 [.leaf .slice] fun (a51 : Option Addr) (l51 c51 : Nat) (w52 : World) =>
 ∃ (a53 : Option Addr) (l53 c53 : Nat), World.cell? w52 ⟨y, 3, none⟩ = some (.slice a53 l53 c53) ∧
 ((0 : Int) ≤ (n15 + 1) ∧ (n15 + 1) ≤ (l53 : Int)) ∧
 RunF Try.prog (Builtin.append_ #[138, 138] 138 #[.slice a51 l51 c51, .slice (Adv a53 c53 (Int.toNat (n15 + 1)) 4) (l53 - Int.toNat (n15 + 1)) (c53 - Int.toNat (n15 + 1))]) w52 [.leaf .slice] fun (a54 : Option Addr) (l54 c54 : Nat) (w55 : World) =>
 May w55 ⟨y, 3, none⟩ ∧ ∀ w56 : World, SetC w55 w56 ⟨y, 3, none⟩ (.slice a54 l54 c54) →
 K (decide ((n39 : Int) = 0)) w56) ∧
 (∃ (a57 : Option Addr) (l57 c57 : Nat), World.cell? w49 ⟨y, 3, none⟩ = some (.slice a57 l57 c57) ∧
 ((0 : Int) ≤ (n15 + 1) ∧ (n15 + 1) ≤ (l57 : Int)) ∧
 RunF Try.prog (Builtin.append_ #[138, 138] 138 #[.slice (some ⟨b48, 0, none⟩) 0 0, .slice a50 (Int.toNat n15) c50]) w49 [.leaf .slice] fun (a58 : Option Addr) (l58 c58 : Nat) (w59 : World) =>
 RunF Try.prog (Builtin.append_ #[138, 138] 138 #[.slice a58 l58 c58, .slice (Adv a57 c57 (Int.toNat (n15 + 1)) 4) (l57 - Int.toNat (n15 + 1)) (c57 - Int.toNat (n15 + 1))]) w59 [.leaf .slice] fun (a60 : Option Addr) (l60 c60 : Nat) (w61 : World) =>
 May w61 ⟨y, 3, none⟩ ∧ ∀ w62 : World, SetC w61 w62 ⟨y, 3, none⟩ (.slice a60 l60 c60) →
 K (decide ((n39 : Int) = 0)) w62)) ∧
 (∃ (a63 : Option Addr) (l63 c63 : Nat), World.cell? w47 ⟨y, 3, none⟩ = some (.slice a63 l63 c63) ∧
 ((0 : Int) ≤ n15 ∧ n15 ≤ (c63 : Int)) ∧
 (∀ (b64 : Nat) (w65 : World), NewAt w47 w65 b64 #[] 217 →
 (RunF Try.prog (Builtin.append_ #[138, 138] 138 #[.slice (some ⟨b64, 0, none⟩) 0 0, .slice a63 (Int.toNat n15) c63]) w65 [.leaf .slice] fun (a66 : Option Addr) (l66 c66 : Nat) (w67 : World) =>
 ∃ (a68 : Option Addr) (l68 c68 : Nat), World.cell? w67 ⟨y, 3, none⟩ = some (.slice a68 l68 c68) ∧
 ((0 : Int) ≤ (n15 + 1) ∧ (n15 + 1) ≤ (l68 : Int)) ∧
 RunF Try.prog (Builtin.append_ #[138, 138] 138 #[.slice a66 l66 c66, .slice (Adv a68 c68 (Int.toNat (n15 + 1)) 4) (l68 - Int.toNat (n15 + 1)) (c68 - Int.toNat (n15 + 1))]) w67 [.leaf .slice] fun (a69 : Option Addr) (l69 c69 : Nat) (w70 : World) =>
 May w70 ⟨y, 3, none⟩ ∧ ∀ w71 : World, SetC w70 w71 ⟨y, 3, none⟩ (.slice a69 l69 c69) →
 K (decide ((n39 : Int) = 0)) w71) ∧
 (∃ (a72 : Option Addr) (l72 c72 : Nat), World.cell? w65 ⟨y, 3, none⟩ = some (.slice a72 l72 c72) ∧
 ((0 : Int) ≤ (n15 + 1) ∧ (n15 + 1) ≤ (l72 : Int)) ∧
 RunF Try.prog (Builtin.append_ #[138, 138] 138 #[.slice (some ⟨b64, 0, none⟩) 0 0, .slice a63 (Int.toNat n15) c63]) w65 [.leaf .slice] fun (a73 : Option Addr) (l73 c73 : Nat) (w74 : World) =>
 RunF Try.prog (Builtin.append_ #[138, 138] 138 #[.slice a73 l73 c73, .slice (Adv a72 c72 (Int.toNat (n15 + 1)) 4) (l72 - Int.toNat (n15 + 1)) (c72 - Int.toNat (n15 + 1))]) w74 [.leaf .slice] fun (a75 : Option Addr) (l75 c75 : Nat) (w76 : World) =>
 May w76 ⟨y, 3, none⟩ ∧ ∀ w77 : World, SetC w76 w77 ⟨y, 3, none⟩ (.slice a75 l75 c75) →
 K (decide ((n39 : Int) = 0)) w77)) ∧
 (∃ (a78 : Option Addr) (l78 c78 : Nat), World.cell? w47 ⟨y, 3, none⟩ = some (.slice a78 l78 c78) ∧
 ((0 : Int) ≤ (n15 + 1) ∧ (n15 + 1) ≤ (l78 : Int)) ∧
 ∀ (b79 : Nat) (w80 : World), NewAt w47 w80 b79 #[] 217 →
 RunF Try.prog (Builtin.append_ #[138, 138] 138 #[.slice (some ⟨b79, 0, none⟩) 0 0, .slice a63 (Int.toNat n15) c63]) w80 [.leaf .slice] fun (a81 : Option Addr) (l81 c81 : Nat) (w82 : World) =>
 RunF Try.prog (Builtin.append_ #[138, 138] 138 #[.slice a81 l81 c81, .slice (Adv a78 c78 (Int.toNat (n15 + 1)) 4) (l78 - Int.toNat (n15 + 1)) (c78 - Int.toNat (n15 + 1))]) w82 [.leaf .slice] fun (a83 : Option Addr) (l83 c83 : Nat) (w84 : World) =>
 May w84 ⟨y, 3, none⟩ ∧ ∀ w85 : World, SetC w84 w85 ⟨y, 3, none⟩ (.slice a83 l83 c83) →
 K (decide ((n39 : Int) = 0)) w85)) ∧
 (∃ (a86 : Option Addr) (l86 c86 : Nat), World.cell? w47 ⟨y, 3, none⟩ = some (.slice a86 l86 c86) ∧
 ((0 : Int) ≤ (n15 + 1) ∧ (n15 + 1) ≤ (l86 : Int)) ∧
 (∀ (b87 : Nat) (w88 : World), NewAt w47 w88 b87 #[] 217 →
 ∃ (a89 : Option Addr) (l89 c89 : Nat), World.cell? w88 ⟨y, 3, none⟩ = some (.slice a89 l89 c89) ∧
 ((0 : Int) ≤ n15 ∧ n15 ≤ (c89 : Int)) ∧
 RunF Try.prog (Builtin.append_ #[138, 138] 138 #[.slice (some ⟨b87, 0, none⟩) 0 0, .slice a89 (Int.toNat n15) c89]) w88 [.leaf .slice] fun (a90 : Option Addr) (l90 c90 : Nat) (w91 : World) =>
 RunF Try.prog (Builtin.append_ #[138, 138] 138 #[.slice a90 l90 c90, .slice (Adv a86 c86 (Int.toNat (n15 + 1)) 4) (l86 - Int.toNat (n15 + 1)) (c86 - Int.toNat (n15 + 1))]) w91 [.leaf .slice] fun (a92 : Option Addr) (l92 c92 : Nat) (w93 : World) =>
 May w93 ⟨y, 3, none⟩ ∧ ∀ w94 : World, SetC w93 w94 ⟨y, 3, none⟩ (.slice a92 l92 c92) →
 K (decide ((n39 : Int) = 0)) w94) ∧
 (∃ (a95 : Option Addr) (l95 c95 : Nat), World.cell? w47 ⟨y, 3, none⟩ = some (.slice a95 l95 c95) ∧
 ((0 : Int) ≤ n15 ∧ n15 ≤ (c95 : Int)) ∧
 ∀ (b96 : Nat) (w97 : World), NewAt w47 w97 b96 #[] 217 →
 RunF Try.prog (Builtin.append_ #[138, 138] 138 #[.slice (some ⟨b96, 0, none⟩) 0 0, .slice a95 (Int.toNat n15) c95]) w97 [.leaf .slice] fun (a98 : Option Addr) (l98 c98 : Nat) (w99 : World) =>
 RunF Try.prog (Builtin.append_ #[138, 138] 138 #[.slice a98 l98 c98, .slice (Adv a86 c86 (Int.toNat (n15 + 1)) 4) (l86 - Int.toNat (n15 + 1)) (c86 - Int.toNat (n15 + 1))]) w99 [.leaf .slice] fun (a100 : Option Addr) (l100 c100 : Nat) (w101 : World) =>
 May w101 ⟨y, 3, none⟩ ∧ ∀ w102 : World, SetC w101 w102 ⟨y, 3, none⟩ (.slice a100 l100 c100) →
 K (decide ((n39 : Int) = 0)) w102)))
 (∃ (q103 : Option Addr), World.cell? w16 ⟨y, 0, none⟩ = some (.pointer q103) ∧
 C94 q103 n5 w16 fun n104 n105 n106 n107 w108 =>
 ∀ (b109 : Nat) (w110 : World), NewAt w108 w110 b109 #[.int .i64 0, .int .i64 0, .int .i64 0] 133 →
 MayL w110 ⟨b109, 0, none⟩ 3 ∧ ∀ w111 : World, SetL w110 w111 ⟨b109, 0, none⟩ [.int .i64 n104, .int .i64 n105, .int .i64 n106] →
 IfB (decide ((n15 : Int) < 0))
 (IfB (decide ((n107 : Int) = 904))
 (∃ (n112 : Int), ∃ (n113 : Int), ∃ (n114 : Int), CellsAt w111 ⟨b109, 0, none⟩ [.int .i64 n112, .int .i64 n113, .int .i64 n114] ∧
 Sem.run Try.prog (eqGuard .eql 133 (.tmp 124) (.tmp 125) (.agg #[.int .i64 n112, .int .i64 n113, .int .i64 n114]) (.agg #[.int .i64 0, .int .i64 0, .int .i64 0])) w111 = .ok () w111 ∧
 ∃ b115 : Bool, Sem.run Try.prog (Op.equal 133 (.agg #[.int .i64 n112, .int .i64 n113, .int .i64 n114]) (.agg #[.int .i64 0, .int .i64 0, .int .i64 0])) w111 = .ok b115 w111 ∧
 K b115 w111)
 (K false w111))
 (∀ w116 : World, Drew w111 w116 →
 IfB (decide ((n107 : Int) = 0))
 (∃ (n117 : Int), ∃ (n118 : Int), ∃ (n119 : Int), CellsAt w116 ⟨b109, 0, none⟩ [.int .i64 n117, .int .i64 n118, .int .i64 n119] ∧
 ∃ (a120 : Option Addr) (l120 c120 : Nat), World.cell? w116 ⟨y, 3, none⟩ = some (.slice a120 l120 c120) ∧
 PtrOK a120 fun (p121 : Addr) =>
 ((0 : Int) ≤ n15 ∧ n15 < (l120 : Int)) ∧
 ∃ (n122 : Int), World.cell? w116 (Addr.add (Addr.add p121 (Int.toNat n15 * 4)) 1) = some (.int .i64 n122) ∧
 ∃ (a123 : Option Addr) (l123 c123 : Nat), World.cell? w116 ⟨y, 3, none⟩ = some (.slice a123 l123 c123) ∧
 PtrOK a123 fun (p124 : Addr) =>
 ((0 : Int) ≤ n15 ∧ n15 < (l123 : Int)) ∧
 ∃ (n125 : Int), World.cell? w116 (Addr.add (Addr.add p124 (Int.toNat n15 * 4)) 2) = some (.int .i64 n125) ∧
 ∃ (a126 : Option Addr) (l126 c126 : Nat), World.cell? w116 ⟨y, 3, none⟩ = some (.slice a126 l126 c126) ∧
 PtrOK a126 fun (p127 : Addr) =>
 ((0 : Int) ≤ n15 ∧ n15 < (l126 : Int)) ∧
 ∃ (a128 : Option Addr) (l128 c128 : Nat), World.cell? w116 (Addr.add (Addr.add p127 (Int.toNat n15 * 4)) 3) = some (.slice a128 l128 c128) ∧
 Sem.run Try.prog (eqGuard .eql 133 (.tmp 132) (.tmp 158) (.agg #[.int .i64 n117, .int .i64 n118, .int .i64 n119]) (.agg #[.int .i64 n122, .int .i64 n125, .int .i64 (l128 : Int)])) w116 = .ok () w116 ∧
 ∃ b129 : Bool, Sem.run Try.prog (Op.equal 133 (.agg #[.int .i64 n117, .int .i64 n118, .int .i64 n119]) (.agg #[.int .i64 n122, .int .i64 n125, .int .i64 (l128 : Int)])) w116 = .ok b129 w116 ∧
 K b129 w116)
 (K false w116)))))
theorem r_f97 (y : Nat) (xa : Int) (xb : Int) (xc : Int) (xd : Int) (xe : Int) (xf : Int) (w : World) (K : Bool → World → Prop) (h : V_f97 y xa xb xc xd xe xf w K) : C97 (some ⟨y, 0, none⟩) xa xb xc xd xe xf w K :=
  @calls_of_eq Try.prog 97 Try.f97 [.pointer (some ⟨y, 0, none⟩), .agg #[.int .i64 xa, .int .i64 xb, .int .i64 xc, .int .i64 xd, .int .i64 xe, .int .i64 xf]] w [.leaf .bool] K _ (cfg true (fun _ => [])) (fun _ => none) (fun n => bif Nat.beq n 4 then some ⟨[5], [.int .i64]⟩ else bif Nat.beq n 13 then some ⟨[], []⟩ else none) (fun n => bif Nat.beq n 3 then some 16 else bif Nat.beq n 10 then some 7 else bif Nat.beq n 11 then some 16 else none) Try.func97 (by kernel_rfl) (by kernel_rfl) h

/-- (*gneiss/gneisslaw9.play).make -/
def V_f164 (y : Nat) (xa : Int) (xb : Int) (xc : Int) (xd : Int) (xe : Int) (xf : Int) (w : World) (K : Bool → World → Prop) : Prop :=
 ∀ (b1 : Nat) (w2 : World), NewAt w w2 b1 #[.int .i64 xa, .int .i64 xb, .int .i64 xc, .int .i64 xd, .int .i64 xe, .int .i64 xf] 143 →
 ∃ (q3 : Option Addr), World.cell? w2 ⟨y, 0, none⟩ = some (.pointer q3) ∧
 C98 q3 w2 fun n4 w5 =>
 ∃ M6 : Int → Int → World → Prop,
 (∀ w10 : World, Drew w5 w10 →
 ∃ (q11 : Option Addr), World.cell? w10 ⟨y, 0, none⟩ = some (.pointer q11) ∧
 ∃ (n12 : Int), World.cell? w10 ⟨b1, 1, none⟩ = some (.int .i64 n12) ∧
 ∃ (n13 : Int), World.cell? w10 ⟨b1, 3, none⟩ = some (.int .i64 n13) ∧
 ∃ (n14 : Int), World.cell? w10 ⟨b1, 4, none⟩ = some (.int .i64 n14) ∧
 ∃ (n15 : Int), World.cell? w10 ⟨b1, 5, none⟩ = some (.int .i64 n15) ∧
 C81 q11 n12 n13 n14 n15 w10 fun n16 n17 w18 =>
 M6 n16 n17 w18) ∧
 ∀ (_ : Env) (n7 : Int) (n8 : Int) (w9 : World), M6 n7 n8 w9 →
 ∃ M19 : World → Prop,
 (∀ w21 : World, Drew w9 w21 →
 ∃ (n22 : Int), World.cell? w21 ⟨b1, 1, none⟩ = some (.int .i64 n22) ∧
 IfB (decide ((n22 : Int) < 0))
 (IfB (decide ((n8 : Int) = 904))
 (K (decide ((n7 : Int) = 0)) w21)
 (K false w21))
 (∃ (n23 : Int), World.cell? w21 ⟨b1, 1, none⟩ = some (.int .i64 n23) ∧
 ∃ (n24 : Int), World.cell? w21 ⟨y, 2, none⟩ = some (.int .i64 n24) ∧
 IfB (decide ((n24 : Int) ≤ n23))
 (IfB (decide ((n8 : Int) = 904))
 (K (decide ((n7 : Int) = 0)) w21)
 (K false w21))
 (∃ (n25 : Int), World.cell? w21 ⟨b1, 3, none⟩ = some (.int .i64 n25) ∧
 IfB (decide ((n25 : Int) < 1))
 (IfB (decide ((n8 : Int) = 902))
 (K (decide ((n7 : Int) = 0)) w21)
 (K false w21))
 (∃ (n26 : Int), World.cell? w21 ⟨b1, 3, none⟩ = some (.int .i64 n26) ∧
 IfB (decide ((4 : Int) < n26))
 (IfB (decide ((n8 : Int) = 902))
 (K (decide ((n7 : Int) = 0)) w21)
 (K false w21))
 (∃ (n27 : Int), World.cell? w21 ⟨b1, 3, none⟩ = some (.int .i64 n27) ∧
 ∃ (n28 : Int), World.cell? w21 ⟨b1, 5, none⟩ = some (.int .i64 n28) ∧
 C179 n27 n28 w21 fun b29 w30 =>
 IfB (!b29)
 (IfB (decide ((n8 : Int) = 900))
 (K (decide ((n7 : Int) = 0)) w30)
 (K false w30))
 (∃ (n31 : Int), World.cell? w30 ⟨b1, 4, none⟩ = some (.int .i64 n31) ∧
 IfB (decide ((n31 : Int) < 0))
 (IfB (decide ((n8 : Int) = 900))
 (K (decide ((n7 : Int) = 0)) w30)
 (K false w30))
 (∃ (n32 : Int), World.cell? w30 ⟨b1, 5, none⟩ = some (.int .i64 n32) ∧
 Fit .i64 (n32 + 16) ∧
 IfB (decide ((n4 : Int) < (n32 + 16)))
 (IfB (decide ((n8 : Int) = 901))
 (K (decide ((n7 : Int) = 0)) w30)
 (K false w30))
 (M19 w30)))))))) ∧
 ∀ (_ : Env) (w20 : World), M19 w20 →
 ∃ M33 : World → Prop,
 (IfB (!decide ((n8 : Int) = 0))
 (K false w20)
 (IfB (decide ((n7 : Int) < 1))
 (K false w20)
 (C100 (some ⟨y, 0, none⟩) n7 w20 fun n35 w36 =>
 IfB (decide ((0 : Int) ≤ n35))
 (K false w36)
 (M33 w36)))) ∧
 ∀ (_ : Env) (w34 : World), M33 w34 →
 ∀ w37 : World, Drew w34 w37 →
 ∃ (n38 : Int), World.cell? w37 ⟨b1, 5, none⟩ = some (.int .i64 n38) ∧
 (∃ (a39 : Option Addr) (l39 c39 : Nat), World.cell? w37 ⟨y, 3, none⟩ = some (.slice a39 l39 c39) ∧
 (∃ (n40 : Int), World.cell? w37 ⟨b1, 3, none⟩ = some (.int .i64 n40) ∧
 (∃ (n41 : Int), World.cell? w37 ⟨b1, 4, none⟩ = some (.int .i64 n41) ∧
 RunF Try.prog (Instr.makeSlice 42 (.int .i64 n38) (.int .i64 n38)) w37 [.leaf .slice] fun (a42 : Option Addr) (l42 c42 : Nat) (w43 : World) =>
 ∀ (b44 : Nat) (w45 : World), NewAt w43 w45 b44 #[.int .i64 n7, .int .i64 n40, .int .i64 n41, .slice a42 l42 c42] 217 →
 RunF Try.prog (Builtin.append_ #[138, 138] 138 #[.slice a39 l39 c39, .slice (some ⟨b44, 0, none⟩) 1 1]) w45 [.leaf .slice] fun (a46 : Option Addr) (l46 c46 : Nat) (w47 : World) =>
 May w47 ⟨y, 3, none⟩ ∧ ∀ w48 : World, SetC w47 w48 ⟨y, 3, none⟩ (.slice a46 l46 c46) →
 K true w48) ∧
 (RunF Try.prog (Instr.makeSlice 42 (.int .i64 n38) (.int .i64 n38)) w37 [.leaf .slice] fun (a49 : Option Addr) (l49 c49 : Nat) (w50 : World) =>
 ∃ (n51 : Int), World.cell? w50 ⟨b1, 4, none⟩ = some (.int .i64 n51) ∧
 ∀ (b52 : Nat) (w53 : World), NewAt w50 w53 b52 #[.int .i64 n7, .int .i64 n40, .int .i64 n51, .slice a49 l49 c49] 217 →
 RunF Try.prog (Builtin.append_ #[138, 138] 138 #[.slice a39 l39 c39, .slice (some ⟨b52, 0, none⟩) 1 1]) w53 [.leaf .slice] fun (a54 : Option Addr) (l54 c54 : Nat) (w55 : World) =>
 May w55 ⟨y, 3, none⟩ ∧ ∀ w56 : World, SetC w55 w56 ⟨y, 3, none⟩ (.slice a54 l54 c54) →
 K true w56)) ∧
 (∃ (n57 : Int), World.cell? w37 ⟨b1, 4, none⟩ = some (.int .i64 n57) ∧
 (∃ (n58 : Int), World.cell? w37 ⟨b1, 3, none⟩ = some (.int .i64 n58) ∧
 RunF Try.prog (Instr.makeSlice 42 (.int .i64 n38) (.int .i64 n38)) w37 [.leaf .slice] fun (a59 : Option Addr) (l59 c59 : Nat) (w60 : World) =>
 ∀ (b61 : Nat) (w62 : World), NewAt w60 w62 b61 #[.int .i64 n7, .int .i64 n58, .int .i64 n57, .slice a59 l59 c59] 217 →
 RunF Try.prog (Builtin.append_ #[138, 138] 138 #[.slice a39 l39 c39, .slice (some ⟨b61, 0, none⟩) 1 1]) w62 [.leaf .slice] fun (a63 : Option Addr) (l63 c63 : Nat) (w64 : World) =>
 May w64 ⟨y, 3, none⟩ ∧ ∀ w65 : World, SetC w64 w65 ⟨y, 3, none⟩ (.slice a63 l63 c63) →
 K true w65) ∧
 (RunF Try.prog (Instr.makeSlice 42 (.int .i64 n38) (.int .i64 n38)) w37 [.leaf .slice] fun (a66 : Option Addr) (l66 c66 : Nat) (w67 : World) =>
 ∃ (n68 : Int), World.cell? w67 ⟨b1, 3, none⟩ = some (.int .i64 n68) ∧
 ∀ (b69 : Nat) (w70 : World), NewAt w67 w70 b69 #[.int .i64 n7, .int .i64 n68, .int .i64 n57, .slice a66 l66 c66] 217 →
 RunF Try.prog (Builtin.append_ #[138, 138] 138 #[.slice a39 l39 c39, .slice (some ⟨b69, 0, none⟩) 1 1]) w70 [.leaf .slice] fun (a71 : Option Addr) (l71 c71 : Nat) (w72 : World) =>
 May w72 ⟨y, 3, none⟩ ∧ ∀ w73 : World, SetC w72 w73 ⟨y, 3, none⟩ (.slice a71 l71 c71) →
 K true w73)) ∧
 (RunF Try.prog (Instr.makeSlice 42 (.int .i64 n38) (.int .i64 n38)) w37 [.leaf .slice] fun (a74 : Option Addr) (l74 c74 : Nat) (w75 : World) =>
 ∃ (n76 : Int), World.cell? w75 ⟨b1, 3, none⟩ = some (.int .i64 n76) ∧
 ∃ (n77 : Int), World.cell? w75 ⟨b1, 4, none⟩ = some (.int .i64 n77) ∧
 ∀ (b78 : Nat) (w79 : World), NewAt w75 w79 b78 #[.int .i64 n7, .int .i64 n76, .int .i64 n77, .slice a74 l74 c74] 217 →
 RunF Try.prog (Builtin.append_ #[138, 138] 138 #[.slice a39 l39 c39, .slice (some ⟨b78, 0, none⟩) 1 1]) w79 [.leaf .slice] fun (a80 : Option Addr) (l80 c80 : Nat) (w81 : World) =>
 May w81 ⟨y, 3, none⟩ ∧ ∀ w82 : World, SetC w81 w82 ⟨y, 3, none⟩ (.slice a80 l80 c80) →
 K true w82)) ∧
 (∃ (n83 : Int), World.cell? w37 ⟨b1, 3, none⟩ = some (.int .i64 n83) ∧
 (∃ (a84 : Option Addr) (l84 c84 : Nat), World.cell? w37 ⟨y, 3, none⟩ = some (.slice a84 l84 c84) ∧
 (∃ (n85 : Int), World.cell? w37 ⟨b1, 4, none⟩ = some (.int .i64 n85) ∧
 RunF Try.prog (Instr.makeSlice 42 (.int .i64 n38) (.int .i64 n38)) w37 [.leaf .slice] fun (a86 : Option Addr) (l86 c86 : Nat) (w87 : World) =>
 ∀ (b88 : Nat) (w89 : World), NewAt w87 w89 b88 #[.int .i64 n7, .int .i64 n83, .int .i64 n85, .slice a86 l86 c86] 217 →
 RunF Try.prog (Builtin.append_ #[138, 138] 138 #[.slice a84 l84 c84, .slice (some ⟨b88, 0, none⟩) 1 1]) w89 [.leaf .slice] fun (a90 : Option Addr) (l90 c90 : Nat) (w91 : World) =>
 May w91 ⟨y, 3, none⟩ ∧ ∀ w92 : World, SetC w91 w92 ⟨y, 3, none⟩ (.slice a90 l90 c90) →
 K true w92) ∧
 (RunF Try.prog (Instr.makeSlice 42 (.int .i64 n38) (.int .i64 n38)) w37 [.leaf .slice] fun (a93 : Option Addr) (l93 c93 : Nat) (w94 : World) =>
 ∃ (n95 : Int), World.cell? w94 ⟨b1, 4, none⟩ = some (.int .i64 n95) ∧
 ∀ (b96 : Nat) (w97 : World), NewAt w94 w97 b96 #[.int .i64 n7, .int .i64 n83, .int .i64 n95, .slice a93 l93 c93] 217 →
 RunF Try.prog (Builtin.append_ #[138, 138] 138 #[.slice a84 l84 c84, .slice (some ⟨b96, 0, none⟩) 1 1]) w97 [.leaf .slice] fun (a98 : Option Addr) (l98 c98 : Nat) (w99 : World) =>
 May w99 ⟨y, 3, none⟩ ∧ ∀ w100 : World, SetC w99 w100 ⟨y, 3, none⟩ (.slice a98 l98 c98) →
 K true w100)) ∧
 (∃ (n101 : Int), World.cell? w37 ⟨b1, 4, none⟩ = some (.int .i64 n101) ∧
 (∃ (a102 : Option Addr) (l102 c102 : Nat), World.cell? w37 ⟨y, 3, none⟩ = some (.slice a102 l102 c102) ∧
 RunF Try.prog (Instr.makeSlice 42 (.int .i64 n38) (.int .i64 n38)) w37 [.leaf .slice] fun (a103 : Option Addr) (l103 c103 : Nat) (w104 : World) =>
 ∀ (b105 : Nat) (w106 : World), NewAt w104 w106 b105 #[.int .i64 n7, .int .i64 n83, .int .i64 n101, .slice a103 l103 c103] 217 →
 RunF Try.prog (Builtin.append_ #[138, 138] 138 #[.slice a102 l102 c102, .slice (some ⟨b105, 0, none⟩) 1 1]) w106 [.leaf .slice] fun (a107 : Option Addr) (l107 c107 : Nat) (w108 : World) =>
 May w108 ⟨y, 3, none⟩ ∧ ∀ w109 : World, SetC w108 w109 ⟨y, 3, none⟩ (.slice a107 l107 c107) →
 K true w109) ∧
 (RunF Try.prog (Instr.makeSlice 42 (.int .i64 n38) (.int .i64 n38)) w37 [.leaf .slice] fun (a110 : Option Addr) (l110 c110 : Nat) (w111 : World) =>
 (∃ (a112 : Option Addr) (l112 c112 : Nat), World.cell? w111 ⟨y, 3, none⟩ = some (.slice a112 l112 c112) ∧
 ∀ (b113 : Nat) (w114 : World), NewAt w111 w114 b113 #[.int .i64 n7, .int .i64 n83, .int .i64 n101, .slice a110 l110 c110] 217 →
 RunF Try.prog (Builtin.append_ #[138, 138] 138 #[.slice a112 l112 c112, .slice (some ⟨b113, 0, none⟩) 1 1]) w114 [.leaf .slice] fun (a115 : Option Addr) (l115 c115 : Nat) (w116 : World) =>
 May w116 ⟨y, 3, none⟩ ∧ ∀ w117 : World, SetC w116 w117 ⟨y, 3, none⟩ (.slice a115 l115 c115) →
 K true w117) ∧
 (∀ (b118 : Nat) (w119 : World), NewAt w111 w119 b118 #[.int .i64 n7, .int .i64 n83, .int .i64 n101, .slice a110 l110 c110] 217 →
 ∃ (a120 : Option Addr) (l120 c120 : Nat), World.cell? w119 ⟨y, 3, none⟩ = some (.slice a120 l120 c120) ∧
 RunF Try.prog (Builtin.append_ #[138, 138] 138 #[.slice a120 l120 c120, .slice (some ⟨b118, 0, none⟩) 1 1]) w119 [.leaf .slice] fun (a121 : Option Addr) (l121 c121 : Nat) (w122 : World) =>
 May w122 ⟨y, 3, none⟩ ∧ ∀ w123 : World, SetC w122 w123 ⟨y, 3, none⟩ (.slice a121 l121 c121) →
 K true w123))) ∧
 (RunF Try.prog (Instr.makeSlice 42 (.int .i64 n38) (.int .i64 n38)) w37 [.leaf .slice] fun (a124 : Option Addr) (l124 c124 : Nat) (w125 : World) =>
 ∃ (n126 : Int), World.cell? w125 ⟨b1, 4, none⟩ = some (.int .i64 n126) ∧
 (∃ (a127 : Option Addr) (l127 c127 : Nat), World.cell? w125 ⟨y, 3, none⟩ = some (.slice a127 l127 c127) ∧
 ∀ (b128 : Nat) (w129 : World), NewAt w125 w129 b128 #[.int .i64 n7, .int .i64 n83, .int .i64 n126, .slice a124 l124 c124] 217 →
 RunF Try.prog (Builtin.append_ #[138, 138] 138 #[.slice a127 l127 c127, .slice (some ⟨b128, 0, none⟩) 1 1]) w129 [.leaf .slice] fun (a130 : Option Addr) (l130 c130 : Nat) (w131 : World) =>
 May w131 ⟨y, 3, none⟩ ∧ ∀ w132 : World, SetC w131 w132 ⟨y, 3, none⟩ (.slice a130 l130 c130) →
 K true w132) ∧
 (∀ (b133 : Nat) (w134 : World), NewAt w125 w134 b133 #[.int .i64 n7, .int .i64 n83, .int .i64 n126, .slice a124 l124 c124] 217 →
 ∃ (a135 : Option Addr) (l135 c135 : Nat), World.cell? w134 ⟨y, 3, none⟩ = some (.slice a135 l135 c135) ∧
 RunF Try.prog (Builtin.append_ #[138, 138] 138 #[.slice a135 l135 c135, .slice (some ⟨b133, 0, none⟩) 1 1]) w134 [.leaf .slice] fun (a136 : Option Addr) (l136 c136 : Nat) (w137 : World) =>
 May w137 ⟨y, 3, none⟩ ∧ ∀ w138 : World, SetC w137 w138 ⟨y, 3, none⟩ (.slice a136 l136 c136) →
 K true w138))) ∧
 (∃ (n139 : Int), World.cell? w37 ⟨b1, 4, none⟩ = some (.int .i64 n139) ∧
 (∃ (a140 : Option Addr) (l140 c140 : Nat), World.cell? w37 ⟨y, 3, none⟩ = some (.slice a140 l140 c140) ∧
 (∃ (n141 : Int), World.cell? w37 ⟨b1, 3, none⟩ = some (.int .i64 n141) ∧
 RunF Try.prog (Instr.makeSlice 42 (.int .i64 n38) (.int .i64 n38)) w37 [.leaf .slice] fun (a142 : Option Addr) (l142 c142 : Nat) (w143 : World) =>
 ∀ (b144 : Nat) (w145 : World), NewAt w143 w145 b144 #[.int .i64 n7, .int .i64 n141, .int .i64 n139, .slice a142 l142 c142] 217 →
 RunF Try.prog (Builtin.append_ #[138, 138] 138 #[.slice a140 l140 c140, .slice (some ⟨b144, 0, none⟩) 1 1]) w145 [.leaf .slice] fun (a146 : Option Addr) (l146 c146 : Nat) (w147 : World) =>
 May w147 ⟨y, 3, none⟩ ∧ ∀ w148 : World, SetC w147 w148 ⟨y, 3, none⟩ (.slice a146 l146 c146) →
 K true w148) ∧
 (RunF Try.prog (Instr.makeSlice 42 (.int .i64 n38) (.int .i64 n38)) w37 [.leaf .slice] fun (a149 : Option Addr) (l149 c149 : Nat) (w150 : World) =>
 ∃ (n151 : Int), World.cell? w150 ⟨b1, 3, none⟩ = some (.int .i64 n151) ∧
 ∀ (b152 : Nat) (w153 : World), NewAt w150 w153 b152 #[.int .i64 n7, .int .i64 n151, .int .i64 n139, .slice a149 l149 c149] 217 →
 RunF Try.prog (Builtin.append_ #[138, 138] 138 #[.slice a140 l140 c140, .slice (some ⟨b152, 0, none⟩) 1 1]) w153 [.leaf .slice] fun (a154 : Option Addr) (l154 c154 : Nat) (w155 : World) =>
 May w155 ⟨y, 3, none⟩ ∧ ∀ w156 : World, SetC w155 w156 ⟨y, 3, none⟩ (.slice a154 l154 c154) →
 K true w156)) ∧
 (∃ (n157 : Int), World.cell? w37 ⟨b1, 3, none⟩ = some (.int .i64 n157) ∧
 (∃ (a158 : Option Addr) (l158 c158 : Nat), World.cell? w37 ⟨y, 3, none⟩ = some (.slice a158 l158 c158) ∧
 RunF Try.prog (Instr.makeSlice 42 (.int .i64 n38) (.int .i64 n38)) w37 [.leaf .slice] fun (a159 : Option Addr) (l159 c159 : Nat) (w160 : World) =>
 ∀ (b161 : Nat) (w162 : World), NewAt w160 w162 b161 #[.int .i64 n7, .int .i64 n157, .int .i64 n139, .slice a159 l159 c159] 217 →
 RunF Try.prog (Builtin.append_ #[138, 138] 138 #[.slice a158 l158 c158, .slice (some ⟨b161, 0, none⟩) 1 1]) w162 [.leaf .slice] fun (a163 : Option Addr) (l163 c163 : Nat) (w164 : World) =>
 May w164 ⟨y, 3, none⟩ ∧ ∀ w165 : World, SetC w164 w165 ⟨y, 3, none⟩ (.slice a163 l163 c163) →
 K true w165) ∧
 (RunF Try.prog (Instr.makeSlice 42 (.int .i64 n38) (.int .i64 n38)) w37 [.leaf .slice] fun (a166 : Option Addr) (l166 c166 : Nat) (w167 : World) =>
 (∃ (a168 : Option Addr) (l168 c168 : Nat), World.cell? w167 ⟨y, 3, none⟩ = some (.slice a168 l168 c168) ∧
 ∀ (b169 : Nat) (w170 : World), NewAt w167 w170 b169 #[.int .i64 n7, .int .i64 n157, .int .i64 n139, .slice a166 l166 c166] 217 →
 RunF Try.prog (Builtin.append_ #[138, 138] 138 #[.slice a168 l168 c168, .slice (some ⟨b169, 0, none⟩) 1 1]) w170 [.leaf .slice] fun (a171 : Option Addr) (l171 c171 : Nat) (w172 : World) =>
 May w172 ⟨y, 3, none⟩ ∧ ∀ w173 : World, SetC w172 w173 ⟨y, 3, none⟩ (.slice a171 l171 c171) →
 K true w173) ∧
 (∀ (b174 : Nat) (w175 : World), NewAt w167 w175 b174 #[.int .i64 n7, .int .i64 n157, .int .i64 n139, .slice a166 l166 c166] 217 →
 ∃ (a176 : Option Addr) (l176 c176 : Nat), World.cell? w175 ⟨y, 3, none⟩ = some (.slice a176 l176 c176) ∧
 RunF Try.prog (Builtin.append_ #[138, 138] 138 #[.slice a176 l176 c176, .slice (some ⟨b174, 0, none⟩) 1 1]) w175 [.leaf .slice] fun (a177 : Option Addr) (l177 c177 : Nat) (w178 : World) =>
 May w178 ⟨y, 3, none⟩ ∧ ∀ w179 : World, SetC w178 w179 ⟨y, 3, none⟩ (.slice a177 l177 c177) →
 K true w179))) ∧
 (RunF Try.prog (Instr.makeSlice 42 (.int .i64 n38) (.int .i64 n38)) w37 [.leaf .slice] fun (a180 : Option Addr) (l180 c180 : Nat) (w181 : World) =>
 ∃ (n182 : Int), World.cell? w181 ⟨b1, 3, none⟩ = some (.int .i64 n182) ∧
 (∃ (a183 : Option Addr) (l183 c183 : Nat), World.cell? w181 ⟨y, 3, none⟩ = some (.slice a183 l183 c183) ∧
 ∀ (b184 : Nat) (w185 : World), NewAt w181 w185 b184 #[.int .i64 n7, .int .i64 n182, .int .i64 n139, .slice a180 l180 c180] 217 →
 RunF Try.prog (Builtin.append_ #[138, 138] 138 #[.slice a183 l183 c183, .slice (some ⟨b184, 0, none⟩) 1 1]) w185 [.leaf .slice] fun (a186 : Option Addr) (l186 c186 : Nat) (w187 : World) =>
 May w187 ⟨y, 3, none⟩ ∧ ∀ w188 : World, SetC w187 w188 ⟨y, 3, none⟩ (.slice a186 l186 c186) →
 K true w188) ∧
 (∀ (b189 : Nat) (w190 : World), NewAt w181 w190 b189 #[.int .i64 n7, .int .i64 n182, .int .i64 n139, .slice a180 l180 c180] 217 →
 ∃ (a191 : Option Addr) (l191 c191 : Nat), World.cell? w190 ⟨y, 3, none⟩ = some (.slice a191 l191 c191) ∧
 RunF Try.prog (Builtin.append_ #[138, 138] 138 #[.slice a191 l191 c191, .slice (some ⟨b189, 0, none⟩) 1 1]) w190 [.leaf .slice] fun (a192 : Option Addr) (l192 c192 : Nat) (w193 : World) =>
 May w193 ⟨y, 3, none⟩ ∧ ∀ w194 : World, SetC w193 w194 ⟨y, 3, none⟩ (.slice a192 l192 c192) →
 K true w194))) ∧
 (RunF Try.prog (Instr.makeSlice 42 (.int .i64 n38) (.int .i64 n38)) w37 [.leaf .slice] fun (a195 : Option Addr) (l195 c195 : Nat) (w196 : World) =>
 ∃ (n197 : Int), World.cell? w196 ⟨b1, 3, none⟩ = some (.int .i64 n197) ∧
 ∃ (n198 : Int), World.cell? w196 ⟨b1, 4, none⟩ = some (.int .i64 n198) ∧
 (∃ (a199 : Option Addr) (l199 c199 : Nat), World.cell? w196 ⟨y, 3, none⟩ = some (.slice a199 l199 c199) ∧
 ∀ (b200 : Nat) (w201 : World), NewAt w196 w201 b200 #[.int .i64 n7, .int .i64 n197, .int .i64 n198, .slice a195 l195 c195] 217 →
 RunF Try.prog (Builtin.append_ #[138, 138] 138 #[.slice a199 l199 c199, .slice (some ⟨b200, 0, none⟩) 1 1]) w201 [.leaf .slice] fun (a202 : Option Addr) (l202 c202 : Nat) (w203 : World) =>
 May w203 ⟨y, 3, none⟩ ∧ ∀ w204 : World, SetC w203 w204 ⟨y, 3, none⟩ (.slice a202 l202 c202) →
 K true w204) ∧
 (∀ (b205 : Nat) (w206 : World), NewAt w196 w206 b205 #[.int .i64 n7, .int .i64 n197, .int .i64 n198, .slice a195 l195 c195] 217 →
 ∃ (a207 : Option Addr) (l207 c207 : Nat), World.cell? w206 ⟨y, 3, none⟩ = some (.slice a207 l207 c207) ∧
 RunF Try.prog (Builtin.append_ #[138, 138] 138 #[.slice a207 l207 c207, .slice (some ⟨b205, 0, none⟩) 1 1]) w206 [.leaf .slice] fun (a208 : Option Addr) (l208 c208 : Nat) (w209 : World) =>
 May w209 ⟨y, 3, none⟩ ∧ ∀ w210 : World, SetC w209 w210 ⟨y, 3, none⟩ (.slice a208 l208 c208) →
 K true w210))
theorem r_f164 (y : Nat) (xa : Int) (xb : Int) (xc : Int) (xd : Int) (xe : Int) (xf : Int) (w : World) (K : Bool → World → Prop) (h : V_f164 y xa xb xc xd xe xf w K) : C164 (some ⟨y, 0, none⟩) xa xb xc xd xe xf w K :=
  @calls_of_eq Try.prog 164 Try.f164 [.pointer (some ⟨y, 0, none⟩), .agg #[.int .i64 xa, .int .i64 xb, .int .i64 xc, .int .i64 xd, .int .i64 xe, .int .i64 xf]] w [.leaf .bool] K _ (cfg true (fun _ => [])) (fun _ => none) (fun n => bif Nat.beq n 3 then some ⟨[6, 7], [.int .i64, .int .i64]⟩ else bif Nat.beq n 11 then some ⟨[], []⟩ else bif Nat.beq n 13 then some ⟨[], []⟩ else none) (fun n => bif Nat.beq n 3 then some 13 else none) Try.func164 (by kernel_rfl) (by kernel_rfl) h

/-- (*gneiss/gneisslaw9.play).word -/
def V_f165 (y : Nat) (xa : Int) (xb : Int) (xc : Int) (xd : Int) (xe : Int) (xf : Int) (ref : Int) (w : World) (K : Bool → World → Prop) : Prop :=
 ∀ (b1 : Nat) (w2 : World), NewAt w w2 b1 #[.int .i64 xa, .int .i64 xb, .int .i64 xc, .int .i64 xd, .int .i64 xe, .int .i64 xf] 143 →
 C100 (some ⟨y, 0, none⟩) ref w2 fun n3 w4 =>
 ∀ w5 : World, Drew w4 w5 →
 ∃ (q6 : Option Addr), World.cell? w5 ⟨y, 0, none⟩ = some (.pointer q6) ∧
 ∃ (n7 : Int), World.cell? w5 ⟨b1, 1, none⟩ = some (.int .i64 n7) ∧
 C82 q6 n7 w5 fun n8 w9 =>
 ∃ M10 : Int → Int → World → Prop,
 (∃ (n14 : Int), World.cell? w9 ⟨b1, 0, none⟩ = some (.int .i64 n14) ∧
 IfB (decide ((n14 : Int) < 5))
 (∀ w15 : World, Drew w9 w15 →
 ∃ (q16 : Option Addr), World.cell? w15 ⟨y, 0, none⟩ = some (.pointer q16) ∧
 ∃ (n17 : Int), World.cell? w15 ⟨b1, 1, none⟩ = some (.int .i64 n17) ∧
 ∃ (n18 : Int), World.cell? w15 ⟨b1, 4, none⟩ = some (.int .i64 n18) ∧
 C84 q16 n17 ref n18 w15 fun n19 n20 w21 =>
 M10 n19 n20 w21)
 (∀ w22 : World, Drew w9 w22 →
 ∃ (q23 : Option Addr), World.cell? w22 ⟨y, 0, none⟩ = some (.pointer q23) ∧
 ∃ (n24 : Int), World.cell? w22 ⟨b1, 1, none⟩ = some (.int .i64 n24) ∧
 ∃ (n25 : Int), World.cell? w22 ⟨b1, 4, none⟩ = some (.int .i64 n25) ∧
 ∃ (n26 : Int), World.cell? w22 ⟨b1, 5, none⟩ = some (.int .i64 n26) ∧
 C83 q23 n24 ref n25 n26 w22 fun n27 w28 =>
 M10 0 n27 w28)) ∧
 ∀ (_ : Env) (n11 : Int) (n12 : Int) (w13 : World), M10 n11 n12 w13 →
 ∃ M29 : World → Prop,
 (∀ w31 : World, Drew w13 w31 →
 ∃ (n32 : Int), World.cell? w31 ⟨b1, 1, none⟩ = some (.int .i64 n32) ∧
 IfB (decide ((n32 : Int) < 0))
 (IfB (decide ((n12 : Int) = 904))
 (K (decide ((n11 : Int) = 0)) w31)
 (K false w31))
 (∃ (n33 : Int), World.cell? w31 ⟨b1, 1, none⟩ = some (.int .i64 n33) ∧
 ∃ (n34 : Int), World.cell? w31 ⟨y, 2, none⟩ = some (.int .i64 n34) ∧
 IfB (decide ((n34 : Int) ≤ n33))
 (IfB (decide ((n12 : Int) = 904))
 (K (decide ((n11 : Int) = 0)) w31)
 (K false w31))
 (IfB (decide ((n3 : Int) < 0))
 (IfB (decide ((n12 : Int) = 904))
 (K (decide ((n11 : Int) = 0)) w31)
 (K false w31))
 (∀ w35 : World, Drew w31 w35 →
 ∃ (n36 : Int), World.cell? w35 ⟨b1, 4, none⟩ = some (.int .i64 n36) ∧
 IfB (decide ((n36 : Int) < 0))
 (IfB (decide ((n12 : Int) = 903))
 (K (decide ((n11 : Int) = 0)) w35)
 (K false w35))
 (∃ (n37 : Int), World.cell? w35 ⟨b1, 4, none⟩ = some (.int .i64 n37) ∧
 ∃ (a38 : Option Addr) (l38 c38 : Nat), World.cell? w35 ⟨y, 3, none⟩ = some (.slice a38 l38 c38) ∧
 PtrOK a38 fun (p39 : Addr) =>
 ((0 : Int) ≤ n3 ∧ n3 < (l38 : Int)) ∧
 ∃ (a40 : Option Addr) (l40 c40 : Nat), World.cell? w35 (Addr.add (Addr.add p39 (Int.toNat n3 * 4)) 3) = some (.slice a40 l40 c40) ∧
 IfB (decide (((l40 : Int) : Int) ≤ n37))
 (IfB (decide ((n12 : Int) = 903))
 (K (decide ((n11 : Int) = 0)) w35)
 (K false w35))
 (M29 w35)))))) ∧
 ∀ (_ : Env) (w30 : World), M29 w30 →
 ∃ M41 : Int → World → Prop,
 (∃ (a44 : Option Addr) (l44 c44 : Nat), World.cell? w30 ⟨y, 3, none⟩ = some (.slice a44 l44 c44) ∧
 PtrOK a44 fun (p45 : Addr) =>
 ((0 : Int) ≤ n3 ∧ n3 < (l44 : Int)) ∧
 ∃ (n46 : Int), World.cell? w30 (Addr.add (Addr.add p45 (Int.toNat n3 * 4)) 1) = some (.int .i64 n46) ∧
 IfB (decide ((n46 : Int) = 1))
 (∃ (a47 : Option Addr) (l47 c47 : Nat), World.cell? w30 ⟨y, 3, none⟩ = some (.slice a47 l47 c47) ∧
 PtrOK a47 fun (p48 : Addr) =>
 ((0 : Int) ≤ n3 ∧ n3 < (l47 : Int)) ∧
 ∃ (a49 : Option Addr) (l49 c49 : Nat), World.cell? w30 (Addr.add (Addr.add p48 (Int.toNat n3 * 4)) 3) = some (.slice a49 l49 c49) ∧
 (4 : Int) ≠ 0 ∧
 Fit .i64 (Int.tdiv (l49 : Int) 4) ∧
 Fit .i64 (12 + (Int.tdiv (l49 : Int) 4)) ∧
 M41 (12 + (Int.tdiv (l49 : Int) 4)) w30)
 (M41 12 w30)) ∧
 ∀ (_ : Env) (n42 : Int) (w43 : World), M41 n42 w43 →
 ∃ M50 : World → Prop,
 (∀ w52 : World, Drew w43 w52 →
 IfB (!decide ((n12 : Int) = 0))
 (K false w52)
 (∃ (q53 : Option Addr), World.cell? w52 ⟨y, 0, none⟩ = some (.pointer q53) ∧
 ∃ (n54 : Int), World.cell? w52 ⟨b1, 1, none⟩ = some (.int .i64 n54) ∧
 Fit .i64 (n8 + n42) ∧
 C82 q53 n54 w52 fun n55 w56 =>
 IfB (decide (((n8 + n42) : Int) < n55))
 (K false w56)
 (M50 w56))) ∧
 ∀ (_ : Env) (w51 : World), M50 w51 →
 ∃ (n57 : Int), World.cell? w51 ⟨b1, 0, none⟩ = some (.int .i64 n57) ∧
 IfB (decide ((5 : Int) ≤ n57))
 (∀ w58 : World, Drew w51 w58 →
 ∃ (a59 : Option Addr) (l59 c59 : Nat), World.cell? w58 ⟨y, 3, none⟩ = some (.slice a59 l59 c59) ∧
 PtrOK a59 fun (p60 : Addr) =>
 ((0 : Int) ≤ n3 ∧ n3 < (l59 : Int)) ∧
 ∃ (a61 : Option Addr) (l61 c61 : Nat), World.cell? w58 (Addr.add (Addr.add p60 (Int.toNat n3 * 4)) 3) = some (.slice a61 l61 c61) ∧
 ∃ (n62 : Int), World.cell? w58 ⟨b1, 4, none⟩ = some (.int .i64 n62) ∧
 ∃ (n63 : Int), World.cell? w58 ⟨b1, 5, none⟩ = some (.int .i64 n63) ∧
 PtrOK a61 fun (p64 : Addr) =>
 ((0 : Int) ≤ n62 ∧ n62 < (l61 : Int)) ∧
 May w58 (Addr.add p64 (Int.toNat n62 * 1)) ∧ ∀ w65 : World, SetC w58 w65 (Addr.add p64 (Int.toNat n62 * 1)) (.int .i64 n63) →
 K true w65)
 (∀ w66 : World, Drew w51 w66 →
 ∃ (a67 : Option Addr) (l67 c67 : Nat), World.cell? w66 ⟨y, 3, none⟩ = some (.slice a67 l67 c67) ∧
 PtrOK a67 fun (p68 : Addr) =>
 ((0 : Int) ≤ n3 ∧ n3 < (l67 : Int)) ∧
 ∃ (a69 : Option Addr) (l69 c69 : Nat), World.cell? w66 (Addr.add (Addr.add p68 (Int.toNat n3 * 4)) 3) = some (.slice a69 l69 c69) ∧
 ∃ (n70 : Int), World.cell? w66 ⟨b1, 4, none⟩ = some (.int .i64 n70) ∧
 PtrOK a69 fun (p71 : Addr) =>
 ((0 : Int) ≤ n70 ∧ n70 < (l69 : Int)) ∧
 ∃ (n72 : Int), World.cell? w66 (Addr.add p71 (Int.toNat n70 * 1)) = some (.int .i64 n72) ∧
 K (decide ((n11 : Int) = n72)) w66)
theorem r_f165 (y : Nat) (xa : Int) (xb : Int) (xc : Int) (xd : Int) (xe : Int) (xf : Int) (ref : Int) (w : World) (K : Bool → World → Prop) (h : V_f165 y xa xb xc xd xe xf ref w K) : C165 (some ⟨y, 0, none⟩) xa xb xc xd xe xf ref w K :=
  @calls_of_eq Try.prog 165 Try.f165 [.pointer (some ⟨y, 0, none⟩), .agg #[.int .i64 xa, .int .i64 xb, .int .i64 xc, .int .i64 xd, .int .i64 xe, .int .i64 xf], .int .i64 ref] w [.leaf .bool] K _ (cfg true (fun _ => [])) (fun _ => none) (fun n => bif Nat.beq n 9 then some ⟨[9, 10], [.int .i64, .int .i64]⟩ else bif Nat.beq n 13 then some ⟨[], []⟩ else bif Nat.beq n 16 then some ⟨[14], [.int .i64]⟩ else bif Nat.beq n 18 then some ⟨[], []⟩ else none) (fun n => bif Nat.beq n 2 then some 6 else bif Nat.beq n 7 then some 11 else bif Nat.beq n 9 then some 17 else bif Nat.beq n 11 then some 18 else bif Nat.beq n 19 then some 13 else bif Nat.beq n 21 then some 15 else none) Try.func165 (by kernel_rfl) (by kernel_rfl) h

/-- (*gneiss/gneisslaw9.play).sure -/
def V_f99 (y : Nat) (w : World) (K : Int → World → Prop) : Prop :=
 ∃ (n1 : Int), World.cell? w ⟨y, 1, none⟩ = some (.int .i64 n1) ∧
 (4 : Int) ≠ 0 ∧
 Fit .i64 (Int.tdiv n1 4) ∧
 ∃ (I2 : Int → Int → World → Prop) (m3 : Int → Int → World → Nat),
 I2 (Int.tdiv n1 4) 0 w ∧
 ∀ (_ : Env) (n4 : Int) (n5 : Int) (w6 : World), I2 n4 n5 w6 →
 ∃ (a7 : Option Addr) (l7 c7 : Nat), World.cell? w6 ⟨y, 3, none⟩ = some (.slice a7 l7 c7) ∧
 IfB (decide ((n5 : Int) < (l7 : Int)))
 (∃ (a8 : Option Addr) (l8 c8 : Nat), World.cell? w6 ⟨y, 3, none⟩ = some (.slice a8 l8 c8) ∧
 PtrOK a8 fun (p9 : Addr) =>
 ((0 : Int) ≤ n5 ∧ n5 < (l8 : Int)) ∧
 ∃ (a10 : Option Addr) (l10 c10 : Nat), World.cell? w6 (Addr.add (Addr.add p9 (Int.toNat n5 * 4)) 3) = some (.slice a10 l10 c10) ∧
 Fit .i64 (n4 - (l10 : Int)) ∧
 Fit .i64 ((n4 - (l10 : Int)) - 16) ∧
 Fit .i64 (n5 + 1) ∧
 (I2 ((n4 - (l10 : Int)) - 16) (n5 + 1) w6 ∧
 m3 ((n4 - (l10 : Int)) - 16) (n5 + 1) w6 < m3 n4 n5 w6))
 (K n4 w6)
theorem r_f99 (y : Nat) (w : World) (K : Int → World → Prop) (h : V_f99 y w K) : C99 (some ⟨y, 0, none⟩) w K :=
  @calls_of_eq Try.prog 99 Try.f99 [.pointer (some ⟨y, 0, none⟩)] w [.leaf (.int .i64)] K _ (cfg true (fun _ => [])) (fun n => bif Nat.beq n 0 then some ⟨[3, 4], [.int .i64, .int .i64]⟩ else none) (fun _ => none) (fun _ => none) Try.func99 (by kernel_rfl) (by kernel_rfl) h

/-- (*gneiss/gneisslaw9.play).at -/
def V_f100 (y : Nat) (ref : Int) (w : World) (K : Int → World → Prop) : Prop :=
 ∃ (I1 : Int → World → Prop) (m2 : Int → World → Nat),
 I1 0 w ∧
 ∀ (_ : Env) (n3 : Int) (w4 : World), I1 n3 w4 →
 ∃ (a5 : Option Addr) (l5 c5 : Nat), World.cell? w4 ⟨y, 3, none⟩ = some (.slice a5 l5 c5) ∧
 IfB (decide ((n3 : Int) < (l5 : Int)))
 (∃ (a6 : Option Addr) (l6 c6 : Nat), World.cell? w4 ⟨y, 3, none⟩ = some (.slice a6 l6 c6) ∧
 PtrOK a6 fun (p7 : Addr) =>
 ((0 : Int) ≤ n3 ∧ n3 < (l6 : Int)) ∧
 ∃ (n8 : Int), World.cell? w4 (Addr.add (Addr.add p7 (Int.toNat n3 * 4)) 0) = some (.int .i64 n8) ∧
 IfB (decide ((n8 : Int) = ref))
 (K n3 w4)
 (Fit .i64 (n3 + 1) ∧
 (I1 (n3 + 1) w4 ∧
 m2 (n3 + 1) w4 < m2 n3 w4)))
 (K (-1) w4)
theorem r_f100 (y : Nat) (ref : Int) (w : World) (K : Int → World → Prop) (h : V_f100 y ref w K) : C100 (some ⟨y, 0, none⟩) ref w K :=
  @calls_of_eq Try.prog 100 Try.f100 [.pointer (some ⟨y, 0, none⟩), .int .i64 ref] w [.leaf (.int .i64)] K _ (cfg true (fun _ => [])) (fun n => bif Nat.beq n 0 then some ⟨[5], [.int .i64]⟩ else none) (fun _ => none) (fun _ => none) Try.func100 (by kernel_rfl) (by kernel_rfl) h

/-- gneiss/gneisslaw9.fits -/
def V_f179 (kind : Int) (k : Int) (w : World) (K : Bool → World → Prop) : Prop :=
 IfB (decide ((kind : Int) = 1))
 (IfB (decide ((0 : Int) ≤ k))
 (K (decide ((k : Int) ≤ 64)) w)
 (K false w))
 (IfB (decide ((kind : Int) = 4))
 (K (decide ((k : Int) = 1)) w)
 (IfB (decide ((0 : Int) ≤ k))
 (K (decide ((k : Int) ≤ 1000)) w)
 (K false w)))
theorem r_f179 (kind : Int) (k : Int) (w : World) (K : Bool → World → Prop) (h : V_f179 kind k w K) : C179 kind k w K :=
  @calls_of_eq Try.prog 179 Try.f179 [.int .i64 kind, .int .i64 k] w [.leaf .bool] K _ (cfg true (fun _ => [])) (fun _ => none) (fun _ => none) (fun _ => none) Try.func179 (by kernel_rfl) (by kernel_rfl) h

/-- gneiss/gneisslaw9.HeapActs -/
def V_f23 (words : Int) (agents : Int) (actsa : Option Addr) (actsl actsc : Nat) (w : World) (K : Bool → World → Prop) : Prop :=
 C80 words agents w fun q1 n2 w3 =>
 ∃ M4 : World → Prop,
 (IfB (decide ((words : Int) < 512))
 (IfB (decide ((n2 : Int) = 900))
 (C79  w3 fun b6 w7 =>
 K b6 w7)
 (K false w3))
 (IfB (decide ((65536 : Int) < words))
 (IfB (decide ((n2 : Int) = 900))
 (C79  w3 fun b8 w9 =>
 K b8 w9)
 (K false w3))
 (IfB (decide ((agents : Int) < 1))
 (IfB (decide ((n2 : Int) = 900))
 (C79  w3 fun b10 w11 =>
 K b10 w11)
 (K false w3))
 (IfB (decide ((12 : Int) < agents))
 (IfB (decide ((n2 : Int) = 900))
 (C79  w3 fun b12 w13 =>
 K b12 w13)
 (K false w3))
 (M4 w3))))) ∧
 ∀ (_ : Env) (w5 : World), M4 w5 →
 IfB (decide ((20000 : Int) < words))
 (C79  w5 fun b14 w15 =>
 K b14 w15)
 (∀ (b16 : Nat) (w17 : World), NewAt w5 w17 b16 #[.pointer q1, .int .i64 words, .int .i64 agents, .slice none 0 0] 140 →
 ∃ M18 : World → Prop,
 (∃ (I20 : Int → World → Prop) (m21 : Int → World → Nat),
 I20 0 w17 ∧
 ∀ (_ : Env) (n22 : Int) (w23 : World), I20 n22 w23 →
 IfB (decide ((n22 : Int) < (actsl : Int)))
 (IfB (decide ((n22 : Int) < 250))
 (∃ M24 : World → Prop,
 (PtrOK actsa fun (p26 : Addr) =>
 ((0 : Int) ≤ n22 ∧ n22 < (actsl : Int)) ∧
 ∃ (n27 : Int), ∃ (n28 : Int), ∃ (n29 : Int), ∃ (n30 : Int), ∃ (n31 : Int), ∃ (n32 : Int), CellsAt w23 (Addr.add p26 (Int.toNat n22 * 6)) [.int .i64 n27, .int .i64 n28, .int .i64 n29, .int .i64 n30, .int .i64 n31, .int .i64 n32] ∧
 C97 (some ⟨b16, 0, none⟩) n27 n28 n29 n30 n31 n32 w23 fun b33 w34 =>
 IfB (!b33)
 (K false w34)
 (∃ (q35 : Option Addr), World.cell? w34 ⟨b16, 0, none⟩ = some (.pointer q35) ∧
 C98 q35 w34 fun n36 w37 =>
 C99 (some ⟨b16, 0, none⟩) w37 fun n38 w39 =>
 IfB (decide ((n36 : Int) < n38))
 (K false w39)
 (M24 w39))) ∧
 ∀ (_ : Env) (w25 : World), M24 w25 →
 ∃ (q40 : Option Addr), World.cell? w25 ⟨b16, 0, none⟩ = some (.pointer q40) ∧
 C95 q40 w25 fun a41 l41 c41 w42 =>
 ∃ (a43 : Option Addr) (l43 c43 : Nat), World.cell? w42 ⟨b16, 3, none⟩ = some (.slice a43 l43 c43) ∧
 IfB (!decide (((l41 : Int) : Int) = (l43 : Int)))
 (K false w42)
 (∃ (I44 : Int → World → Prop) (m45 : Int → World → Nat),
 I44 0 w42 ∧
 ∀ (_ : Env) (n46 : Int) (w47 : World), I44 n46 w47 →
 IfB (decide ((n46 : Int) < (l41 : Int)))
 (∀ w48 : World, Drew w47 w48 →
 PtrOK a41 fun (p49 : Addr) =>
 ((0 : Int) ≤ n46 ∧ n46 < (l41 : Int)) ∧
 ∃ (n50 : Int), World.cell? w48 (Addr.add p49 (Int.toNat n46 * 1)) = some (.int .i64 n50) ∧
 C100 (some ⟨b16, 0, none⟩) n50 w48 fun n51 w52 =>
 IfB (decide ((n51 : Int) < 0))
 (K false w52)
 (IfB (decide ((0 : Int) < n46))
 (PtrOK a41 fun (p53 : Addr) =>
 ((0 : Int) ≤ (IntKind.wrap .i64 (n46 - 1)) ∧ (IntKind.wrap .i64 (n46 - 1)) < (l41 : Int)) ∧
 ∃ (n54 : Int), World.cell? w52 (Addr.add p53 (Int.toNat (IntKind.wrap .i64 (n46 - 1)) * 1)) = some (.int .i64 n54) ∧
 PtrOK a41 fun (p55 : Addr) =>
 ((0 : Int) ≤ n46 ∧ n46 < (l41 : Int)) ∧
 ∃ (n56 : Int), World.cell? w52 (Addr.add p55 (Int.toNat n46 * 1)) = some (.int .i64 n56) ∧
 IfB (decide ((n56 : Int) ≤ n54))
 (K false w52)
 ((I44 (IntKind.wrap .i64 (n46 + 1)) w52 ∧
 m45 (IntKind.wrap .i64 (n46 + 1)) w52 < m45 n46 w47)))
 ((I44 (IntKind.wrap .i64 (n46 + 1)) w52 ∧
 m45 (IntKind.wrap .i64 (n46 + 1)) w52 < m45 n46 w47))))
 (C56 a41 l41 c41 w47 fun w57 =>
 (I20 (IntKind.wrap .i64 (n22 + 1)) w57 ∧
 m21 (IntKind.wrap .i64 (n22 + 1)) w57 < m21 n22 w23))))
 (M18 w23))
 (M18 w23)) ∧
 ∀ (_ : Env) (w19 : World), M18 w19 →
 IfB (decide ((n2 : Int) = 0))
 (C79  w19 fun b58 w59 =>
 K b58 w59)
 (K false w19))
theorem r_f23 (words : Int) (agents : Int) (actsa : Option Addr) (actsl actsc : Nat) (w : World) (K : Bool → World → Prop) (h : V_f23 words agents actsa actsl actsc w K) : C23 words agents actsa actsl actsc w K :=
  @calls_of_eq Try.prog 23 Try.f23 [.int .i64 words, .int .i64 agents, .slice actsa actsl actsc] w [.leaf .bool] K _ (cfg false (fun _ => [])) (fun n => bif Nat.beq n 0 then some ⟨[10], [.int .i64]⟩ else bif Nat.beq n 2 then some ⟨[12], [.int .i64]⟩ else none) (fun n => bif Nat.beq n 4 then some ⟨[], []⟩ else bif Nat.beq n 12 then some ⟨[], []⟩ else bif Nat.beq n 21 then some ⟨[], []⟩ else none) (fun _ => none) Try.func23 (by kernel_rfl) (by kernel_rfl) h

end Go.Proofs.Ytfpghcdjfiggiaa.V
