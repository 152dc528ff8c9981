/- Readings of parts of the program's functions. No condition. -/
import Derived.Test.YtmlhdmnnijapjaaGCfg
import Derived.Test.YtmlhdmnnijapjaaVCD
namespace Go.Proofs.Ytmlhdmnnijapjaa.V
open Go
set_option maxRecDepth 100000
set_option linter.unusedVariables false
/-- A part of gneiss/class.Decode. -/
-- d0: (seqL (bodyC Try.f29))
def V_d0 (X : List PanicEntry → World → Prop) (w : World) (KN : Option Addr → Option Addr → Option Addr → World → Prop) (KR : World → Prop) : Prop :=
 ∀ (b1 : Nat) (w2 : World), NewAt w w2 b1 #[.int .i64 0, .slice none 0 0] 54 →
 ∀ (b3 : Nat) (w4 : World), NewAt w2 w4 b3 #[.int .i64 0] 3 →
 ∀ (b5 : Nat) (w6 : World), NewAt w4 w6 b5 #[.int .i64 0] 25 →
 KN (some ⟨b1, 0, none⟩) (some ⟨b3, 0, none⟩) (some ⟨b5, 0, none⟩) w6
theorem r_d0 (X : List PanicEntry → World → Prop) (w : World) (KN : Option Addr → Option Addr → Option Addr → World → Prop) (KR : World → Prop) {D : List Deferred} {a : Act} {e : Env} (h : V_d0 X w KN KR) (hps : ∀ p ∈ ([] : List (Nat × Value)), e p.1 = p.2) (hr : RelD D 46 a e) :
    (seqL (bodyC Try.f29)).wp Try.prog (fun x a' w' => ∃ e', RelD D 46 a' e' ∧ Off (mods (seqL (bodyC Try.f29))) e e' ∧ (Post.mk (fun e w => appP [.ptr, .ptr, .ptr] KN [e 2, e 3, e 4] w) (fun _ w => KR w) (fun _ _ _ => False) (thrC X (fun _ => none)).X).at x e' w') a w :=
  code_of_eq (P := Try.prog) (c := (seqL (bodyC Try.f29))) (cfg true (fun _ => [])) (thrC X (fun _ => none)) (fun _ => none) (fun _ => none) (fun _ => none) 0 ⟨fun e w => appP [.ptr, .ptr, .ptr] KN [e 2, e 3, e 4] w, fun _ w => KR w, fun _ _ _ => False, (thrC X (fun _ => none)).X⟩ [] (by kernel_rfl) (fun _ _ h => h) (by kernel_rfl) h hps hr

/-- A part of gneiss/class.Decode. -/
-- d1: (seqL (seqR (bodyC Try.f29)))
def V_d1 (X : List PanicEntry → World → Prop) (i0 : ByteArray) (i2 : Nat) (i3 : Nat) (i4 : Nat) (w : World) (KN : World → Prop) (KR : World → Prop) : Prop :=
 IfB (decide ((32768 : Int) < (ByteArray.size i0 : Int)))
 (∃ (n1 : Int), ∃ (a2 : Option Addr) (l2 c2 : Nat), CellsAt w ⟨i2, 0, none⟩ [.int .i64 n1, .slice a2 l2 c2] ∧
 MayL w ⟨i2, 0, none⟩ 2 ∧ ∀ w3 : World, SetL w w3 ⟨i2, 0, none⟩ [.int .i64 n1, .slice a2 l2 c2] →
 May w3 ⟨i3, 0, none⟩ ∧ ∀ w4 : World, SetC w3 w4 ⟨i3, 0, none⟩ (.int .i64 0) →
 May w4 ⟨i4, 0, none⟩ ∧ ∀ w5 : World, SetC w4 w5 ⟨i4, 0, none⟩ (.int .i64 1406) →
 KR w5)
 (IfB (decide (((ByteArray.size i0 : Int) : Int) < 4))
 (∃ (n6 : Int), ∃ (a7 : Option Addr) (l7 c7 : Nat), CellsAt w ⟨i2, 0, none⟩ [.int .i64 n6, .slice a7 l7 c7] ∧
 MayL w ⟨i2, 0, none⟩ 2 ∧ ∀ w8 : World, SetL w w8 ⟨i2, 0, none⟩ [.int .i64 n6, .slice a7 l7 c7] →
 May w8 ⟨i3, 0, none⟩ ∧ ∀ w9 : World, SetC w8 w9 ⟨i3, 0, none⟩ (.int .i64 0) →
 May w9 ⟨i4, 0, none⟩ ∧ ∀ w10 : World, SetC w9 w10 ⟨i4, 0, none⟩ (.int .i64 1400) →
 KR w10)
 (((0 : Int) ≤ 4 ∧ (4 : Int) ≤ (ByteArray.size i0 : Int)) ∧
 IfB (!(ByteArray.toList (ByteArray.extract i0 0 (Int.toNat 4)) == ByteArray.toList (ByteArray.mk #[71, 78, 83, 83])))
 (∃ (n11 : Int), ∃ (a12 : Option Addr) (l12 c12 : Nat), CellsAt w ⟨i2, 0, none⟩ [.int .i64 n11, .slice a12 l12 c12] ∧
 MayL w ⟨i2, 0, none⟩ 2 ∧ ∀ w13 : World, SetL w w13 ⟨i2, 0, none⟩ [.int .i64 n11, .slice a12 l12 c12] →
 May w13 ⟨i3, 0, none⟩ ∧ ∀ w14 : World, SetC w13 w14 ⟨i3, 0, none⟩ (.int .i64 0) →
 May w14 ⟨i4, 0, none⟩ ∧ ∀ w15 : World, SetC w14 w15 ⟨i4, 0, none⟩ (.int .i64 1400) →
 KR w15)
 (KN w)))
theorem r_d1 (X : List PanicEntry → World → Prop) (i0 : ByteArray) (i2 : Nat) (i3 : Nat) (i4 : Nat) (w : World) (KN : World → Prop) (KR : World → Prop) {D : List Deferred} {a : Act} {e : Env} (h : V_d1 X i0 i2 i3 i4 w KN KR) (hps : ∀ p ∈ ([(0, .string i0), (2, .pointer (some ⟨i2, 0, none⟩)), (3, .pointer (some ⟨i3, 0, none⟩)), (4, .pointer (some ⟨i4, 0, none⟩))] : List (Nat × Value)), e p.1 = p.2) (hr : RelD D 46 a e) :
    (seqL (seqR (bodyC Try.f29))).wp Try.prog (fun x a' w' => ∃ e', RelD D 46 a' e' ∧ Off (mods (seqL (seqR (bodyC Try.f29)))) e e' ∧ (Post.mk (fun e w => appP [] KN [] w) (fun _ w => KR w) (fun _ _ _ => False) (thrC X (fun _ => none)).X).at x e' w') a w :=
  code_of_eq (P := Try.prog) (c := (seqL (seqR (bodyC Try.f29)))) (cfg true (fun _ => [])) (thrC X (fun _ => none)) (fun _ => none) (fun _ => none) (fun _ => none) 0 ⟨fun e w => appP [] KN [] w, fun _ w => KR w, fun _ _ _ => False, (thrC X (fun _ => none)).X⟩ [(0, .string i0), (2, .pointer (some ⟨i2, 0, none⟩)), (3, .pointer (some ⟨i3, 0, none⟩)), (4, .pointer (some ⟨i4, 0, none⟩))] (by kernel_rfl) (fun _ _ h => h) (by kernel_rfl) h hps hr

/-- A part of gneiss/class.Decode. -/
-- d2: (seqR (seqR (seqR (bodyC Try.f29))))
def V_d2 (X : List PanicEntry → World → Prop) (i0 : ByteArray) (i2 : Nat) (i3 : Nat) (i4 : Nat) (w : World) (KN : World → Prop) (KR : World → Prop) : Prop :=
 ∀ (b1 : Nat) (w2 : World), NewAt w w2 b1 #[.string i0, .int .i64 4] 111 →
 CX47 X (some ⟨b1, 0, none⟩) w2 fun n3 w4 =>
 May w4 ⟨i2, 0, none⟩ ∧ ∀ w5 : World, SetC w4 w5 ⟨i2, 0, none⟩ (.int .i64 n3) →
 CX48 X (some ⟨b1, 0, none⟩) 40 (.func (.func 49) #[.pointer (some ⟨b1, 0, none⟩)] #[] : Value) w5 fun a6 l6 c6 w7 =>
 May w7 ⟨i2, 1, none⟩ ∧ ∀ w8 : World, SetC w7 w8 ⟨i2, 1, none⟩ (.slice a6 l6 c6) →
 ∀ w9 : World, Drew w8 w9 →
 ∃ (n10 : Int), World.cell? w9 ⟨b1, 1, none⟩ = some (.int .i64 n10) ∧
 ∃ (n11 : Int), World.cell? w9 ⟨b1, 1, none⟩ = some (.int .i64 n11) ∧
 CX50 X (decide ((n10 : Int) < (ByteArray.size i0 : Int))) n11 1405 w9 fun w12 =>
 ∃ (n13 : Int), ∃ (a14 : Option Addr) (l14 c14 : Nat), CellsAt w12 ⟨i2, 0, none⟩ [.int .i64 n13, .slice a14 l14 c14] ∧
 MayL w12 ⟨i2, 0, none⟩ 2 ∧ ∀ w15 : World, SetL w12 w15 ⟨i2, 0, none⟩ [.int .i64 n13, .slice a14 l14 c14] →
 May w15 ⟨i3, 0, none⟩ ∧ ∀ w16 : World, SetC w15 w16 ⟨i3, 0, none⟩ (.int .i64 0) →
 May w16 ⟨i4, 0, none⟩ ∧ ∀ w17 : World, SetC w16 w17 ⟨i4, 0, none⟩ (.int .i64 0) →
 KR w17
theorem r_d2 (X : List PanicEntry → World → Prop) (i0 : ByteArray) (i2 : Nat) (i3 : Nat) (i4 : Nat) (w : World) (KN : World → Prop) (KR : World → Prop) {D : List Deferred} {a : Act} {e : Env} (h : V_d2 X i0 i2 i3 i4 w KN KR) (hps : ∀ p ∈ ([(0, .string i0), (2, .pointer (some ⟨i2, 0, none⟩)), (3, .pointer (some ⟨i3, 0, none⟩)), (4, .pointer (some ⟨i4, 0, none⟩))] : List (Nat × Value)), e p.1 = p.2) (hr : RelD D 46 a e) :
    (seqR (seqR (seqR (bodyC Try.f29)))).wp Try.prog (fun x a' w' => ∃ e', RelD D 46 a' e' ∧ Off (mods (seqR (seqR (seqR (bodyC Try.f29))))) e e' ∧ (Post.mk (fun e w => appP [] KN [] w) (fun _ w => KR w) (fun _ _ _ => False) (thrC X (fun _ => none)).X).at x e' w') a w :=
  code_of_eq (P := Try.prog) (c := (seqR (seqR (seqR (bodyC Try.f29))))) (cfg true (fun _ => [])) (thrC X (fun _ => none)) (fun _ => none) (fun _ => none) (fun n => bif Nat.beq n 9 then some 11 else none) 0 ⟨fun e w => appP [] KN [] w, fun _ w => KR w, fun _ _ _ => False, (thrC X (fun _ => none)).X⟩ [(0, .string i0), (2, .pointer (some ⟨i2, 0, none⟩)), (3, .pointer (some ⟨i3, 0, none⟩)), (4, .pointer (some ⟨i4, 0, none⟩))] (by kernel_rfl) (fun _ _ h => h) (by kernel_rfl) h hps hr

/-- A part of gneiss/class.Decode$1. -/
-- d3: (condT (seqR (seqR (bodyC Try.f46))))
def V_d3 (i0 : Nat) (i1 : Nat) (i2 : Nat) (i3a i3c : Int) (w : World) (KN : World → Prop) (KR : World → Prop) : Prop :=
 ∀ (b1 : Nat) (w2 : World), NewAt w w2 b1 #[.int .i64 0, .int .i64 0] 107 →
 MayL w2 ⟨b1, 0, none⟩ 2 ∧ ∀ w3 : World, SetL w2 w3 ⟨b1, 0, none⟩ [.int .i64 i3a, .int .i64 i3c] →
 ∀ w4 : World, Drew w3 w4 →
 (∃ (n5 : Int), World.cell? w4 ⟨b1, 0, none⟩ = some (.int .i64 n5) ∧
 (∃ (n6 : Int), World.cell? w4 ⟨b1, 1, none⟩ = some (.int .i64 n6) ∧
 MayL w4 ⟨i0, 0, none⟩ 2 ∧ ∀ w7 : World, SetL w4 w7 ⟨i0, 0, none⟩ [.int .i64 0, .slice none 0 0] →
 May w7 ⟨i1, 0, none⟩ ∧ ∀ w8 : World, SetC w7 w8 ⟨i1, 0, none⟩ (.int .i64 n5) →
 May w8 ⟨i2, 0, none⟩ ∧ ∀ w9 : World, SetC w8 w9 ⟨i2, 0, none⟩ (.int .i64 n6) →
 KN w9) ∧
 (MayL w4 ⟨i0, 0, none⟩ 2 ∧ ∀ w10 : World, SetL w4 w10 ⟨i0, 0, none⟩ [.int .i64 0, .slice none 0 0] →
 (∃ (n11 : Int), World.cell? w10 ⟨b1, 1, none⟩ = some (.int .i64 n11) ∧
 May w10 ⟨i1, 0, none⟩ ∧ ∀ w12 : World, SetC w10 w12 ⟨i1, 0, none⟩ (.int .i64 n5) →
 May w12 ⟨i2, 0, none⟩ ∧ ∀ w13 : World, SetC w12 w13 ⟨i2, 0, none⟩ (.int .i64 n11) →
 KN w13) ∧
 (May w10 ⟨i1, 0, none⟩ ∧ ∀ w14 : World, SetC w10 w14 ⟨i1, 0, none⟩ (.int .i64 n5) →
 ∃ (n15 : Int), World.cell? w14 ⟨b1, 1, none⟩ = some (.int .i64 n15) ∧
 May w14 ⟨i2, 0, none⟩ ∧ ∀ w16 : World, SetC w14 w16 ⟨i2, 0, none⟩ (.int .i64 n15) →
 KN w16))) ∧
 (∃ (n17 : Int), World.cell? w4 ⟨b1, 1, none⟩ = some (.int .i64 n17) ∧
 (∃ (n18 : Int), World.cell? w4 ⟨b1, 0, none⟩ = some (.int .i64 n18) ∧
 MayL w4 ⟨i0, 0, none⟩ 2 ∧ ∀ w19 : World, SetL w4 w19 ⟨i0, 0, none⟩ [.int .i64 0, .slice none 0 0] →
 May w19 ⟨i1, 0, none⟩ ∧ ∀ w20 : World, SetC w19 w20 ⟨i1, 0, none⟩ (.int .i64 n18) →
 May w20 ⟨i2, 0, none⟩ ∧ ∀ w21 : World, SetC w20 w21 ⟨i2, 0, none⟩ (.int .i64 n17) →
 KN w21) ∧
 (MayL w4 ⟨i0, 0, none⟩ 2 ∧ ∀ w22 : World, SetL w4 w22 ⟨i0, 0, none⟩ [.int .i64 0, .slice none 0 0] →
 ∃ (n23 : Int), World.cell? w22 ⟨b1, 0, none⟩ = some (.int .i64 n23) ∧
 May w22 ⟨i1, 0, none⟩ ∧ ∀ w24 : World, SetC w22 w24 ⟨i1, 0, none⟩ (.int .i64 n23) →
 May w24 ⟨i2, 0, none⟩ ∧ ∀ w25 : World, SetC w24 w25 ⟨i2, 0, none⟩ (.int .i64 n17) →
 KN w25)) ∧
 (MayL w4 ⟨i0, 0, none⟩ 2 ∧ ∀ w26 : World, SetL w4 w26 ⟨i0, 0, none⟩ [.int .i64 0, .slice none 0 0] →
 ∃ (n27 : Int), World.cell? w26 ⟨b1, 0, none⟩ = some (.int .i64 n27) ∧
 (∃ (n28 : Int), World.cell? w26 ⟨b1, 1, none⟩ = some (.int .i64 n28) ∧
 May w26 ⟨i1, 0, none⟩ ∧ ∀ w29 : World, SetC w26 w29 ⟨i1, 0, none⟩ (.int .i64 n27) →
 May w29 ⟨i2, 0, none⟩ ∧ ∀ w30 : World, SetC w29 w30 ⟨i2, 0, none⟩ (.int .i64 n28) →
 KN w30) ∧
 (May w26 ⟨i1, 0, none⟩ ∧ ∀ w31 : World, SetC w26 w31 ⟨i1, 0, none⟩ (.int .i64 n27) →
 ∃ (n32 : Int), World.cell? w31 ⟨b1, 1, none⟩ = some (.int .i64 n32) ∧
 May w31 ⟨i2, 0, none⟩ ∧ ∀ w33 : World, SetC w31 w33 ⟨i2, 0, none⟩ (.int .i64 n32) →
 KN w33))
theorem r_d3 (i0 : Nat) (i1 : Nat) (i2 : Nat) (i3a i3c : Int) (w : World) (KN : World → Prop) (KR : World → Prop) {D : List Deferred} {a : Act} {e : Env} (h : V_d3 i0 i1 i2 i3a i3c w KN KR) (hps : ∀ p ∈ ([(0, .pointer (some ⟨i0, 0, none⟩)), (1, .pointer (some ⟨i1, 0, none⟩)), (2, .pointer (some ⟨i2, 0, none⟩)), (3, .iface 107 (.agg #[.int .i64 i3a, .int .i64 i3c]))] : List (Nat × Value)), e p.1 = p.2) (hr : RelD D 22 a e) :
    (condT (seqR (seqR (bodyC Try.f46)))).wp Try.prog (fun x a' w' => ∃ e', RelD D 22 a' e' ∧ Off (mods (condT (seqR (seqR (bodyC Try.f46))))) e e' ∧ (Post.mk (fun e w => appP [] KN [] w) (fun _ w => KR w) (fun _ _ _ => False) thr0.X).at x e' w') a w :=
  code_of_eq (P := Try.prog) (c := (condT (seqR (seqR (bodyC Try.f46))))) (cfg true (fun _ => [])) thr0 (fun _ => none) (fun _ => none) (fun _ => none) 0 ⟨fun e w => appP [] KN [] w, fun _ w => KR w, fun _ _ _ => False, thr0.X⟩ [(0, .pointer (some ⟨i0, 0, none⟩)), (1, .pointer (some ⟨i1, 0, none⟩)), (2, .pointer (some ⟨i2, 0, none⟩)), (3, .iface 107 (.agg #[.int .i64 i3a, .int .i64 i3c]))] (by kernel_rfl) (fun _ _ h => h) (by kernel_rfl) h hps hr

end Go.Proofs.Ytmlhdmnnijapjaa.V
