/- Readings of the program's functions. No condition. -/
import Derived.Test.YtfpghcdjfiggiaaGCfg
namespace Go.Proofs.Ytfpghcdjfiggiaa.V
open Go
set_option maxRecDepth 100000
set_option linter.unusedVariables false
/-- gneiss/gneisslaw7.begun -/
def V_f68 (base : Int) (words : Int) (w : World) (K : Option Addr → Option Addr → Bool → World → Prop) : Prop :=
 Fit .i64 (base + words) ∧
 C40 (base + words) 3 w fun q1 n2 w3 =>
 C146 q1 base words w3 fun q4 n5 w6 =>
 IfB (decide ((n2 : Int) = 0))
 (IfB (decide ((n5 : Int) = 0))
 (K q4 q1 (!(Option.isNone q4)) w6)
 (K q4 q1 false w6))
 (K q4 q1 false w6)
theorem r_f68 (base : Int) (words : Int) (w : World) (K : Option Addr → Option Addr → Bool → World → Prop) (h : V_f68 base words w K) : C68 base words w K :=
  @calls_of_eq Try.prog 68 Try.f68 [.int .i64 base, .int .i64 words] w [.leaf .ptr, .leaf .ptr, .leaf .bool] K _ (cfg true (fun _ => [])) (fun _ => none) (fun _ => none) (fun _ => none) Try.func68 (by kernel_rfl) (by kernel_rfl) h

/-- gneiss/gneisslaw7.awake -/
def V_f67 (w : World) (K : Bool → World → Prop) : Prop :=
 C68 0 64 w fun q1 q2 b3 w4 =>
 IfB (!b3)
 (K false w4)
 (C69 q1 0 5 w4 fun n5 n6 w7 =>
 C70 q1 1 n5 4 9 w7 fun n8 w9 =>
 C75 q1 2 n5 4 w9 fun n10 n11 w12 =>
 C72 q1 w12 fun n13 w14 =>
 C72 q1 w14 fun n15 w16 =>
 C69 q1 0 40 w16 fun n17 n18 w19 =>
 IfB (decide ((n6 : Int) = 0))
 (IfB (decide ((1 : Int) ≤ n5))
 (IfB (decide ((n8 : Int) = 0))
 (IfB (decide ((n10 : Int) = 9))
 (IfB (decide ((n11 : Int) = 0))
 (IfB (decide ((n13 : Int) = 0))
 (IfB (decide ((n15 : Int) = 701))
 (K (decide ((n18 : Int) = 702)) w19)
 (K false w19))
 (K false w19))
 (K false w19))
 (K false w19))
 (K false w19))
 (K false w19))
 (K false w19))
theorem r_f67 (w : World) (K : Bool → World → Prop) (h : V_f67 w K) : C67  w K :=
  @calls_of_eq Try.prog 67 Try.f67 [] w [.leaf .bool] K _ (cfg true (fun _ => [])) (fun _ => none) (fun _ => none) (fun _ => none) Try.func67 (by kernel_rfl) (by kernel_rfl) h

/-- gneiss/gneisslaw7.SpineRoom -/
def V_f16 (size : Int) (rounds : Int) (w : World) (K : Bool → World → Prop) : Prop :=
 C67  w fun b1 w2 =>
 IfB (!b1)
 (K false w2)
 (C68 0 400 w2 fun q3 q4 b5 w6 =>
 IfB (!b5)
 (K false w6)
 (Fit .i64 (100 + (bits .and .i64 size 63)) ∧
 ∃ (I7 : Int → World → Prop) (m8 : Int → World → Nat),
 I7 0 w6 ∧
 ∀ (_ : Env) (n9 : Int) (w10 : World), I7 n9 w10 →
 IfB (decide ((n9 : Int) ≤ (bits .and .i64 rounds 7)))
 (C69 q3 0 (100 + (bits .and .i64 size 63)) w10 fun n11 n12 w13 =>
 C69 q3 1 (100 + (bits .and .i64 size 63)) w13 fun n14 n15 w16 =>
 ∃ M17 : World → Prop,
 (IfB (!decide ((n12 : Int) = 0))
 (K false w16)
 (IfB (!decide ((n15 : Int) = 702))
 (K false w16)
 (C76 q3 w16 fun n19 w20 =>
 Fit .i64 (196 - (100 + (bits .and .i64 size 63))) ∧
 IfB (!decide ((n19 : Int) = (196 - (100 + (bits .and .i64 size 63)))))
 (K false w20)
 (M17 w20)))) ∧
 ∀ (_ : Env) (w18 : World), M17 w18 →
 C71 q3 n11 w18 fun n21 w22 =>
 C74 q3 n11 w22 fun n23 n24 w25 =>
 C72 q3 w25 fun n26 w27 =>
 ∃ M28 : World → Prop,
 (∃ (I30 : Int → World → Prop) (m31 : Int → World → Nat),
 I30 0 w27 ∧
 ∀ (_ : Env) (n32 : Int) (w33 : World), I30 n32 w33 →
 IfB (decide ((n32 : Int) < 100))
 (C73 q3 2 w33 fun b34 n35 w36 =>
 IfB (!b34)
 (M28 w36)
 (Fit .i64 (n32 + 1) ∧
 (I30 (n32 + 1) w36 ∧
 m31 (n32 + 1) w36 < m31 n32 w33)))
 (M28 w33)) ∧
 ∀ (_ : Env) (w29 : World), M28 w29 →
 IfB (!decide ((n21 : Int) = 0))
 (K false w29)
 (IfB (!decide ((n24 : Int) = 704))
 (K false w29)
 (C76 q3 w29 fun n37 w38 =>
 IfB (!decide ((n37 : Int) = 200))
 (K false w38)
 (Fit .i64 (n9 + 1) ∧
 (I7 (n9 + 1) w38 ∧
 m8 (n9 + 1) w38 < m8 n9 w10)))))
 (K true w10)))
theorem r_f16 (size : Int) (rounds : Int) (w : World) (K : Bool → World → Prop) (h : V_f16 size rounds w K) : C16 size rounds w K :=
  @calls_of_eq Try.prog 16 Try.f16 [.int .i64 size, .int .i64 rounds] w [.leaf .bool] K _ (cfg true (fun _ => [])) (fun n => bif Nat.beq n 0 then some ⟨[9], [.int .i64]⟩ else bif Nat.beq n 2 then some ⟨[17], [.int .i64]⟩ else none) (fun n => bif Nat.beq n 14 then some ⟨[], []⟩ else bif Nat.beq n 22 then some ⟨[], []⟩ else none) (fun _ => none) Try.func16 (by kernel_rfl) (by kernel_rfl) h

end Go.Proofs.Ytfpghcdjfiggiaa.V
