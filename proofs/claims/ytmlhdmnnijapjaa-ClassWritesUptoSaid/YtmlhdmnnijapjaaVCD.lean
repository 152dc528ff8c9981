/- Readings of parts of a function; a function that defers a call. No condition. -/
import Derived.Test.YtmlhdmnnijapjaaVCC
import Derived.Defers
import Derived.Recover
namespace Go.Proofs.Ytmlhdmnnijapjaa.V
open Go

/-- The halves of a sequence; a function's code. -/
def seqL : Code → Code
  | .seq a _ => a
  | c => c
def seqR : Code → Code
  | .seq _ b => b
  | c => c
def condT : Code → Code
  | .cond _ a _ => a
  | c => c
def bodyC (f : Func) : Code := f.body.getD .skip

/-- Slots whose values are known. -/
def pin (ps : List (Nat × Value)) (e : Env) : Env := fun n => match ps.find? (fun p => Nat.beq n p.1) with
  | some p => p.2
  | none => e n

theorem pin_self {ps : List (Nat × Value)} {e : Env} (h : ∀ p ∈ ps, e p.1 = p.2) : pin ps e = e := by
  funext n
  unfold pin
  split
  · rename_i p hp
    have hm := List.mem_of_find?_eq_some hp
    have hb := List.find?_some hp
    rw [← h p hm, Nat.eq_of_beq_eq_true hb]
  · rfl

/-- A part of a function's code, by its reading. -/
theorem code_of_eq {P : Program} {D : List Deferred} {N : Nat} {c : Code} {e : Env} {a : Act} {w : World} {V : Prop} (chk : Cfg P) (T : Thr) (lo cut : Nat → Option Ann) (tl : Nat → Option Nat) (cur : Nat) (q : Post) (ps : List (Nat × Value))
    (hok : okC P tl N c = true) (hp : ∀ ch w', T.X ch w' → q.pan ch w') (he : V = vcC P chk T lo cut tl cur c q (pin ps e) w) (h : V) (hps : ∀ p ∈ ps, e p.1 = p.2) (hr : RelD D N a e) :
    c.wp P (fun x a' w' => ∃ e', RelD D N a' e' ∧ Off (mods c) e e' ∧ q.at x e' w') a w := by
  have h := he.mp h
  rw [pin_self hps] at h
  exact vcC_sound c cur e a w q hok hp hr h

end Go.Proofs.Ytmlhdmnnijapjaa.V
