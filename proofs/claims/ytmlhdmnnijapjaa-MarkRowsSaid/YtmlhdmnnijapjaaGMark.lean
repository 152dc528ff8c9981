/- Readings of the program's functions. No condition. -/
import Derived.Test.YtmlhdmnnijapjaaGCfg
namespace Go.Proofs.Ytmlhdmnnijapjaa.V
open Go
set_option maxRecDepth 100000
set_option linter.unusedVariables false
/-- (*gneiss/mark.Work).has -/
def V_f41 (wV : Nat) (ref : Int) (w : World) (K : Int → World → Prop) : Prop :=
 IfB (decide ((ref : Int) < 0))
 (K 1102 w)
 (∃ (a1 : Option Addr) (l1 c1 : Nat), World.cell? w ⟨wV, 0, none⟩ = some (.slice a1 l1 c1) ∧
 IfB (decide (((l1 : Int) : Int) ≤ ref))
 (K 1102 w)
 (K 0 w))
theorem r_f41 (wV : Nat) (ref : Int) (w : World) (K : Int → World → Prop) (h : V_f41 wV ref w K) : C41 (some ⟨wV, 0, none⟩) ref w K :=
  @calls_of_eq Try.prog 41 Try.f41 [.pointer (some ⟨wV, 0, none⟩), .int .i64 ref] w [.leaf (.int .i64)] K _ (cfg true (fun _ => [])) (fun _ => none) (fun _ => none) (fun _ => none) Try.func41 (by kernel_rfl) (by kernel_rfl) h

/-- (*gneiss/mark.ring[int]).push -/
def V_f42 (r rO : Nat) (x : Int) (w : World) (K : World → Prop) : Prop :=
 ∃ (a1 : Option Addr) (l1 c1 : Nat), World.cell? w ⟨r, rO, none⟩ = some (.slice a1 l1 c1) ∧
 ∀ (b2 : Nat) (w3 : World), NewAt w w3 b2 #[.int .i64 x] 3 →
 RunF Try.prog (Builtin.append_ #[38, 38] 38 #[.slice a1 l1 c1, .slice (some ⟨b2, 0, none⟩) 1 1]) w3 [.leaf .slice] fun (a4 : Option Addr) (l4 c4 : Nat) (w5 : World) =>
 May w5 ⟨r, rO, none⟩ ∧ ∀ w6 : World, SetC w5 w6 ⟨r, rO, none⟩ (.slice a4 l4 c4) →
 K w6
theorem r_f42 (r rO : Nat) (x : Int) (w : World) (K : World → Prop) (h : V_f42 r rO x w K) : C42 (some ⟨r, rO, none⟩) x w K :=
  @calls_of_eq Try.prog 42 Try.f42 [.pointer (some ⟨r, rO, none⟩), .int .i64 x] w [] K _ (cfg true (fun _ => [])) (fun _ => none) (fun _ => none) (fun _ => none) Try.func42 (by kernel_rfl) (by kernel_rfl) h

/-- (*gneiss/mark.ring[int]).pop -/
def V_f43 (r rO : Nat) (w : World) (K : Int → Bool → World → Prop) : Prop :=
 ∃ (a1 : Option Addr) (l1 c1 : Nat), World.cell? w ⟨r, rO, none⟩ = some (.slice a1 l1 c1) ∧
 IfB (decide (((l1 : Int) : Int) = 0))
 (K 0 false w)
 (∀ w2 : World, Drew w w2 →
 ∃ (a3 : Option Addr) (l3 c3 : Nat), World.cell? w2 ⟨r, rO, none⟩ = some (.slice a3 l3 c3) ∧
 PtrOK a3 fun (p4 : Addr) =>
 ((0 : Int) ≤ 0 ∧ 0 < (l3 : Int)) ∧
 ∃ (n5 : Int), World.cell? w2 (Addr.add p4 (Int.toNat 0 * 1)) = some (.int .i64 n5) ∧
 ∃ (a6 : Option Addr) (l6 c6 : Nat), World.cell? w2 ⟨r, rO, none⟩ = some (.slice a6 l6 c6) ∧
 ((0 : Int) ≤ 1 ∧ 1 ≤ (l6 : Int)) ∧
 May w2 ⟨r, rO, none⟩ ∧ ∀ w7 : World, SetC w2 w7 ⟨r, rO, none⟩ (.slice (Adv a6 c6 (Int.toNat 1) 1) (l6 - Int.toNat 1) (c6 - Int.toNat 1)) →
 K n5 true w7)
theorem r_f43 (r rO : Nat) (w : World) (K : Int → Bool → World → Prop) (h : V_f43 r rO w K) : C43 (some ⟨r, rO, none⟩) w K :=
  @calls_of_eq Try.prog 43 Try.f43 [.pointer (some ⟨r, rO, none⟩)] w [.leaf (.int .i64), .leaf .bool] K _ (cfg true (fun _ => [])) (fun _ => none) (fun _ => none) (fun n => bif Nat.beq n 3 then some 15 else none) Try.func43 (by kernel_rfl) (by kernel_rfl) h

/-- (*gneiss/mark.Work).Reset -/
def V_f26 (wV : Nat) (w : World) (K : World → Prop) : Prop :=
 MayL w ⟨wV, 1, none⟩ 1 ∧ ∀ w1 : World, SetL w w1 ⟨wV, 1, none⟩ [.slice none 0 0] →
 ∃ (a2 : Option Addr) (l2 c2 : Nat), World.cell? w1 ⟨wV, 0, none⟩ = some (.slice a2 l2 c2) ∧
 ∃ (I3 : Int → World → Prop) (m4 : Int → World → Nat),
 I3 0 w1 ∧
 ∀ (_ : Env) (n5 : Int) (w6 : World), I3 n5 w6 →
 IfB (decide ((n5 : Int) < (l2 : Int)))
 (∃ (a7 : Option Addr) (l7 c7 : Nat), World.cell? w6 ⟨wV, 0, none⟩ = some (.slice a7 l7 c7) ∧
 PtrOK a7 fun (p8 : Addr) =>
 ((0 : Int) ≤ n5 ∧ n5 < (l7 : Int)) ∧
 May w6 (Addr.add p8 (Int.toNat n5 * 1)) ∧ ∀ w9 : World, SetC w6 w9 (Addr.add p8 (Int.toNat n5 * 1)) (.int .i64 1) →
 Fit .i64 (n5 + 1) ∧
 (I3 (n5 + 1) w9 ∧
 m4 (n5 + 1) w9 < m4 n5 w6))
 (K w6)
theorem r_f26 (wV : Nat) (w : World) (K : World → Prop) (h : V_f26 wV w K) : C26 (some ⟨wV, 0, none⟩) w K :=
  @calls_of_eq Try.prog 26 Try.f26 [.pointer (some ⟨wV, 0, none⟩)] w [] K _ (cfg true (fun _ => [])) (fun n => bif Nat.beq n 0 then some ⟨[14], [.int .i64]⟩ else none) (fun _ => none) (fun _ => none) Try.func26 (by kernel_rfl) (by kernel_rfl) h

/-- gneiss/mark.New -/
def V_f21 (cap : Int) (w : World) (K : Option Addr → Int → World → Prop) : Prop :=
 IfB (decide ((cap : Int) < 1))
 (K none 1100 w)
 (IfB (decide ((4096 : Int) < cap))
 (K none 1100 w)
 (RunF Try.prog (Instr.makeSlice 38 (.int .i64 cap) (.int .i64 cap)) w [.leaf .slice] fun (a1 : Option Addr) (l1 c1 : Nat) (w2 : World) =>
 ∀ (b3 : Nat) (w4 : World), NewAt w2 w4 b3 #[.slice a1 l1 c1, .slice none 0 0] 99 →
 C26 (some ⟨b3, 0, none⟩) w4 fun w5 =>
 K (some ⟨b3, 0, none⟩) 0 w5))
theorem r_f21 (cap : Int) (w : World) (K : Option Addr → Int → World → Prop) (h : V_f21 cap w K) : C21 cap w K :=
  @calls_of_eq Try.prog 21 Try.f21 [.int .i64 cap] w [.leaf .ptr, .leaf (.int .i64)] K _ (cfg true (fun _ => [])) (fun _ => none) (fun _ => none) (fun _ => none) Try.func21 (by kernel_rfl) (by kernel_rfl) h

/-- (*gneiss/mark.Work).Grey -/
def V_f23 (wV : Nat) (ref : Int) (w : World) (K : Bool → Int → World → Prop) : Prop :=
 C41 (some ⟨wV, 0, none⟩) ref w fun n1 w2 =>
 IfB (!decide ((n1 : Int) = 0))
 (K false n1 w2)
 (∃ (a3 : Option Addr) (l3 c3 : Nat), World.cell? w2 ⟨wV, 0, none⟩ = some (.slice a3 l3 c3) ∧
 PtrOK a3 fun (p4 : Addr) =>
 ((0 : Int) ≤ ref ∧ ref < (l3 : Int)) ∧
 ∃ (n5 : Int), World.cell? w2 (Addr.add p4 (Int.toNat ref * 1)) = some (.int .i64 n5) ∧
 IfB (!decide ((n5 : Int) = 1))
 (K false 0 w2)
 (∃ (a6 : Option Addr) (l6 c6 : Nat), World.cell? w2 ⟨wV, 0, none⟩ = some (.slice a6 l6 c6) ∧
 PtrOK a6 fun (p7 : Addr) =>
 ((0 : Int) ≤ ref ∧ ref < (l6 : Int)) ∧
 May w2 (Addr.add p7 (Int.toNat ref * 1)) ∧ ∀ w8 : World, SetC w2 w8 (Addr.add p7 (Int.toNat ref * 1)) (.int .i64 2) →
 C42 (some ⟨wV, 1, none⟩) ref w8 fun w9 =>
 K true 0 w9))
theorem r_f23 (wV : Nat) (ref : Int) (w : World) (K : Bool → Int → World → Prop) (h : V_f23 wV ref w K) : C23 (some ⟨wV, 0, none⟩) ref w K :=
  @calls_of_eq Try.prog 23 Try.f23 [.pointer (some ⟨wV, 0, none⟩), .int .i64 ref] w [.leaf .bool, .leaf (.int .i64)] K _ (cfg true (fun _ => [])) (fun _ => none) (fun _ => none) (fun _ => none) Try.func23 (by kernel_rfl) (by kernel_rfl) h

/-- (*gneiss/mark.Work).Next -/
def V_f24 (wV : Nat) (w : World) (K : Int → Bool → World → Prop) : Prop :=
 C43 (some ⟨wV, 1, none⟩) w fun n1 b2 w3 =>
 IfB b2
 (∃ (a4 : Option Addr) (l4 c4 : Nat), World.cell? w3 ⟨wV, 0, none⟩ = some (.slice a4 l4 c4) ∧
 PtrOK a4 fun (p5 : Addr) =>
 ((0 : Int) ≤ n1 ∧ n1 < (l4 : Int)) ∧
 May w3 (Addr.add p5 (Int.toNat n1 * 1)) ∧ ∀ w6 : World, SetC w3 w6 (Addr.add p5 (Int.toNat n1 * 1)) (.int .i64 3) →
 K n1 b2 w6)
 (K n1 b2 w3)
theorem r_f24 (wV : Nat) (w : World) (K : Int → Bool → World → Prop) (h : V_f24 wV w K) : C24 (some ⟨wV, 0, none⟩) w K :=
  @calls_of_eq Try.prog 24 Try.f24 [.pointer (some ⟨wV, 0, none⟩)] w [.leaf (.int .i64), .leaf .bool] K _ (cfg true (fun _ => [])) (fun _ => none) (fun _ => none) (fun _ => none) Try.func24 (by kernel_rfl) (by kernel_rfl) h

/-- (*gneiss/mark.Work).Colour -/
def V_f25 (wV : Nat) (ref : Int) (w : World) (K : Int → Int → World → Prop) : Prop :=
 C41 (some ⟨wV, 0, none⟩) ref w fun n1 w2 =>
 IfB (!decide ((n1 : Int) = 0))
 (K 0 n1 w2)
 (∃ (a3 : Option Addr) (l3 c3 : Nat), World.cell? w2 ⟨wV, 0, none⟩ = some (.slice a3 l3 c3) ∧
 PtrOK a3 fun (p4 : Addr) =>
 ((0 : Int) ≤ ref ∧ ref < (l3 : Int)) ∧
 ∃ (n5 : Int), World.cell? w2 (Addr.add p4 (Int.toNat ref * 1)) = some (.int .i64 n5) ∧
 K n5 0 w2)
theorem r_f25 (wV : Nat) (ref : Int) (w : World) (K : Int → Int → World → Prop) (h : V_f25 wV ref w K) : C25 (some ⟨wV, 0, none⟩) ref w K :=
  @calls_of_eq Try.prog 25 Try.f25 [.pointer (some ⟨wV, 0, none⟩), .int .i64 ref] w [.leaf (.int .i64), .leaf (.int .i64)] K _ (cfg true (fun _ => [])) (fun _ => none) (fun _ => none) (fun _ => none) Try.func25 (by kernel_rfl) (by kernel_rfl) h

/-- gneiss/gneisslaw0.SpoilInts -/
def V_f44 (aa : Option Addr) (al ac : Nat) (w : World) (K : World → Prop) : Prop :=
 ∃ (I1 : Int → World → Prop) (m2 : Int → World → Nat),
 I1 0 w ∧
 ∀ (_ : Env) (n3 : Int) (w4 : World), I1 n3 w4 →
 IfB (decide ((n3 : Int) < (al : Int)))
 (PtrOK aa fun (p5 : Addr) =>
 ((0 : Int) ≤ n3 ∧ n3 < (al : Int)) ∧
 ∃ (n6 : Int), World.cell? w4 (Addr.add p5 (Int.toNat n3 * 1)) = some (.int .i64 n6) ∧
 Fit .i64 ((-9) - n6) ∧
 PtrOK aa fun (p7 : Addr) =>
 ((0 : Int) ≤ n3 ∧ n3 < (al : Int)) ∧
 May w4 (Addr.add p7 (Int.toNat n3 * 1)) ∧ ∀ w8 : World, SetC w4 w8 (Addr.add p7 (Int.toNat n3 * 1)) (.int .i64 ((-9) - n6)) →
 Fit .i64 (n3 + 1) ∧
 (I1 (n3 + 1) w8 ∧
 m2 (n3 + 1) w8 < m2 n3 w4))
 (K w4)
theorem r_f44 (aa : Option Addr) (al ac : Nat) (w : World) (K : World → Prop) (h : V_f44 aa al ac w K) : C44 aa al ac w K :=
  @calls_of_eq Try.prog 44 Try.f44 [.slice aa al ac] w [] K _ (cfg true (fun _ => [])) (fun n => bif Nat.beq n 0 then some ⟨[2], [.int .i64]⟩ else none) (fun _ => none) (fun _ => none) Try.func44 (by kernel_rfl) (by kernel_rfl) h

/-- gneiss/gneisslaw11.awake -/
def V_f22 (w : World) (K : Bool → World → Prop) : Prop :=
 C21 3 w fun q1 n2 w3 =>
 C23 q1 2 w3 fun b4 n5 w6 =>
 C23 q1 2 w6 fun b7 n8 w9 =>
 C24 q1 w9 fun n10 b11 w12 =>
 C24 q1 w12 fun n13 b14 w15 =>
 C25 q1 2 w15 fun n16 n17 w18 =>
 C23 q1 3 w18 fun b19 n20 w21 =>
 IfB (decide ((n2 : Int) = 0))
 (IfB b4
 (IfB (decide ((n5 : Int) = 0))
 (IfB (!b7)
 (IfB (decide ((n8 : Int) = 0))
 (IfB (decide ((n10 : Int) = 2))
 (IfB b11
 (IfB (!b14)
 (IfB (decide ((n16 : Int) = 3))
 (IfB (decide ((n17 : Int) = 0))
 (K (decide ((n20 : Int) = 1102)) w21)
 (K false w21))
 (K false w21))
 (K false w21))
 (K false w21))
 (K false w21))
 (K false w21))
 (K false w21))
 (K false w21))
 (K false w21))
 (K false w21)
theorem r_f22 (w : World) (K : Bool → World → Prop) (h : V_f22 w K) : C22  w K :=
  @calls_of_eq Try.prog 22 Try.f22 [] w [.leaf .bool] K _ (cfg true (fun _ => [])) (fun _ => none) (fun _ => none) (fun _ => none) Try.func22 (by kernel_rfl) (by kernel_rfl) h

/-- gneiss/gneisslaw11.blacks -/
def V_f27 (wV : Nat) (csa : Option Addr) (csl csc : Nat) (w : World) (K : Bool → World → Prop) : Prop :=
 C28 (some ⟨wV, 0, none⟩) w fun a1 l1 c1 w2 =>
 C28 (some ⟨wV, 0, none⟩) w2 fun a3 l3 c3 w4 =>
 ∃ (I5 : Int → Int → World → Prop) (m6 : Int → Int → World → Nat),
 I5 0 0 w4 ∧
 ∀ (_ : Env) (n7 : Int) (n8 : Int) (w9 : World), I5 n7 n8 w9 →
 IfB (decide ((n8 : Int) < (csl : Int)))
 (PtrOK csa fun (p10 : Addr) =>
 ((0 : Int) ≤ n8 ∧ n8 < (csl : Int)) ∧
 ∃ (n11 : Int), World.cell? w9 (Addr.add p10 (Int.toNat n8 * 1)) = some (.int .i64 n11) ∧
 IfB (!decide ((n11 : Int) = 3))
 (Fit .i64 (n8 + 1) ∧
 (I5 n7 (n8 + 1) w9 ∧
 m6 n7 (n8 + 1) w9 < m6 n7 n8 w9))
 (IfB (decide (((l1 : Int) : Int) ≤ n7))
 (K false w9)
 (PtrOK a1 fun (p12 : Addr) =>
 ((0 : Int) ≤ n7 ∧ n7 < (l1 : Int)) ∧
 ∃ (n13 : Int), World.cell? w9 (Addr.add p12 (Int.toNat n7 * 1)) = some (.int .i64 n13) ∧
 IfB (!decide ((n13 : Int) = n8))
 (K false w9)
 (Fit .i64 (n7 + 1) ∧
 Fit .i64 (n8 + 1) ∧
 (I5 (n7 + 1) (n8 + 1) w9 ∧
 m6 (n7 + 1) (n8 + 1) w9 < m6 n7 n8 w9)))))
 (C44 a1 l1 c1 w9 fun w14 =>
 IfB (decide (((l1 : Int) : Int) = n7))
 (IfB (decide (((l3 : Int) : Int) = n7))
 (IfB (decide ((n7 : Int) = 0))
 (K true w14)
 (PtrOK a3 fun (p15 : Addr) =>
 ((0 : Int) ≤ 0 ∧ 0 < (l3 : Int)) ∧
 ∃ (n16 : Int), World.cell? w14 (Addr.add p15 (Int.toNat 0 * 1)) = some (.int .i64 n16) ∧
 PtrOK csa fun (p17 : Addr) =>
 ((0 : Int) ≤ n16 ∧ n16 < (csl : Int)) ∧
 ∃ (n18 : Int), World.cell? w14 (Addr.add p17 (Int.toNat n16 * 1)) = some (.int .i64 n18) ∧
 K (decide ((n18 : Int) = 3)) w14))
 (K false w14))
 (K false w14))
theorem r_f27 (wV : Nat) (csa : Option Addr) (csl csc : Nat) (w : World) (K : Bool → World → Prop) (h : V_f27 wV csa csl csc w K) : C27 (some ⟨wV, 0, none⟩) csa csl csc w K :=
  @calls_of_eq Try.prog 27 Try.f27 [.pointer (some ⟨wV, 0, none⟩), .slice csa csl csc] w [.leaf .bool] K _ (cfg true (fun _ => [])) (fun n => bif Nat.beq n 0 then some ⟨[7, 8], [.int .i64, .int .i64]⟩ else none) (fun _ => none) (fun _ => none) Try.func27 (by kernel_rfl) (by kernel_rfl) h

/-- (*gneiss/mark.Work).of -/
def V_f45 (wV : Nat) (colour : Int) (w : World) (K : Value → World → Prop) : Prop :=
 ∀ (b1 : Nat) (w2 : World), NewAt w w2 b1 #[.pointer (some ⟨wV, 0, none⟩)] 35 →
 ∀ (b3 : Nat) (w4 : World), NewAt w2 w4 b3 #[.int .i64 colour] 3 →
 K (.func (.func 67) #[] #[.pointer (some ⟨b1, 0, none⟩), .pointer (some ⟨b3, 0, none⟩)] : Value) w4
theorem r_f45 (wV : Nat) (colour : Int) (w : World) (K : Value → World → Prop) (h : V_f45 wV colour w K) : C45 (some ⟨wV, 0, none⟩) colour w K :=
  @calls_of_eq Try.prog 45 Try.f45 [.pointer (some ⟨wV, 0, none⟩), .int .i64 colour] w [.leaf .any] K _ (cfg true (fun _ => [])) (fun _ => none) (fun _ => none) (fun _ => none) Try.func45 (by kernel_rfl) (by kernel_rfl) h

end Go.Proofs.Ytmlhdmnnijapjaa.V
