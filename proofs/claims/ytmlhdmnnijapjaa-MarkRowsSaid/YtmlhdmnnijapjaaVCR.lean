/- A reading of a region that a round of a range over a function runs. No condition. -/
import Derived.Test.YtmlhdmnnijapjaaVCC
import Derived.RangeFuncFrom
import Derived.RangeFuncLeaves
import Derived.RangeFuncCalls
import Derived.WalkKit
import Derived.OwnWalkIn
import Derived.TacticsInMore
import Derived.LoopIn
import Derived.Shelf.Abstract
namespace Go.Proofs.Ytmlhdmnnijapjaa.V
open Go Go.RowKit

/-- No statement 'defer'. -/
def noDefer : Op → Bool
  | .defer _ => false
  | _ => true

theorem good_wpIn {P : Program} {l n : Nat} {o : Oper} {a : Act} {w : World} {K : Value → World → Prop} {next : Act → World → Prop} {Q : Exit → Act → World → Prop}
    (hd : noDefer o.op = true) (h : Good P (execOp a.eval o) w K) (hn : ∀ v w', K v w' → next (a.put o.dst v) w') : o.wpIn (Fence.wide.inRound l) n P a w next Q := by
  refine ⟨fun _ _ => trivial, ?_⟩
  rw [show (Fence.wide.inRound l).round = some l from rfl, Oper.semAt_some l _ _ (fun c hc => by rw [hc] at hd; cases hd)]
  unfold Good at h
  split at h
  · rename_i v w' hr; rw [hr]; exact hn _ _ h
  · rename_i w' hr; rw [hr]; exact hn _ _ h
  · rename_i f args w' hr
    rw [hr]
    refine ⟨fun h => by simp [Fence.wide] at h, ?_⟩
    refine (CallsIn.inRound l (callsIn_wide.2 h)).mono fun en w'' hen => ?_
    obtain ⟨v, rfl, hk⟩ := hen
    exact hn _ _ hk
  · exact h.elim

theorem vcL_soundIn {P : Program} {chk : Cfg P} {ops : Array Oper} {N l n : Nat} {Q : Exit → Act → World → Prop} : ∀ (os : List Oper) (e : Env) (a : Act) (w : World) (K : Env → World → Prop),
    (∀ o ∈ os, OkO P N ops o ∧ noDefer o.op = true ∧ o.guard = none) → Rel N a e → vcL P chk ops os e w K →
    (∀ e' a' w', Rel N a' e' → Off (dsts os) e e' → K e' w' → Q .normal a' w') → wpListIn (Fence.wide.inRound l) n P ops Q os a w := by
  intro os
  induction os with
  | nil => intro e a w K _ hr h hq; exact hq e a w hr (Off.refl _ _) h
  | cons o rest ih =>
    intro e a w K hok hr h hq
    have hok' := fun o' (h' : o' ∈ rest) => hok o' (List.mem_cons_of_mem _ h')
    obtain ⟨⟨ho1, ho2, _⟩, hd, hg⟩ := hok o (List.mem_cons_self ..)
    refine wpListIn_plain hg fun K2 hK2 => ?_
    simp only [vcL, vcG, hg] at h
    have hgd := op_sound ho1 h
    rw [← rel_ev hr] at hgd
    refine good_wpIn hd hgd fun v w' hk => hK2 _ _ (ih _ _ w' K hok' (rel_put hr o.dst ho2 v) hk fun e2 a2 w2 g1 g2 g3 => ?_)
    exact hq e2 a2 w2 g1 (by rw [dsts_cons]; exact (off_put e o.dst v).trans g2) g3


def okRound (P : Program) (N : Nat) (ops : Array Oper) : Bool := ops.toList.all fun o => okOp P o.op && (o.dst.all fun d => Nat.blt d N) && noDefer o.op && o.guard.isNone

/-- A region of a round, by its reading. -/
theorem region_in {P : Program} (chk : Cfg P) (N : Nat) {l n : Nat} {Q : Exit → Act → World → Prop} {ops : Array Oper} {id : Nat} (e : Env) {a : Act} {w : World} (KK : World → Prop) {V : Prop}
    (hok : okRound P N ops = true) (hr : Rel N a e) (he : V = vcL P chk ops ops.toList e w fun _ w' => KK w') (h : V) (hq : ∀ a' w', KK w' → Q .normal a' w') : (Code.region id ops false).wpIn (Fence.wide.inRound l) n P Q a w := by
  refine wpIn_region_list (vcL_soundIn (N := N) (chk := chk) _ e a w _ (fun o ho => ?_) hr (he.mp h) fun e' a' w' _ _ h3 => hq a' w' h3)
  unfold okRound at hok
  rw [List.all_eq_true] at hok
  have := hok o ho
  simp only [Bool.and_eq_true, Option.isNone_iff_eq_none] at this
  obtain ⟨⟨⟨h1, h2⟩, h3⟩, h4⟩ := this
  exact ⟨⟨h1, h2, by rw [h4]; rfl⟩, h3, h4⟩

theorem rel_list {n : Nat} {l : List Value} (hn : l.length = n) : Rel n { tmps := l.toArray, defers := [] } (argEnv l) := by
  refine ⟨by simpa using hn, fun n => ?_, rfl⟩
  simp [argEnv, Array.getD_eq_getD_getElem?, List.getD_eq_getElem?_getD]

end Go.Proofs.Ytmlhdmnnijapjaa.V
