/- A region that draws its order: operations that do not hang on the world may be taken first; operations that leave the world alone are taken in one order, where nothing else may come between. No condition. -/
import Derived.Test.YtmlhdmnnijapjaaVCS
import Derived.Still
namespace Go.Proofs.Ytmlhdmnnijapjaa.V
open Go

section
variable {P : Program} {ops : Array Oper}

/-- In every world it leaves 'v' in its temporary, and the world alone. -/
def YieldsA (P : Program) (ops : Array Oper) (o : Oper) (v : Value) (a : Act) : Prop :=
  (Region.wanted o (yielded ops a.tmps) = true ∧ ∀ w, (execOp a.eval o).run P w = .ok (.value v) w) ∨ (Region.wanted o (yielded ops a.tmps) = false ∧ v = undef)

theorem YieldsA.of_same {o : Oper} {v : Value} {a a' : Act} (hy : YieldsA P ops o v a) (he : execOp a'.eval o = execOp a.eval o)
    (hw : Region.wanted o (yielded ops a'.tmps) = Region.wanted o (yielded ops a.tmps)) : YieldsA P ops o v a' := by
  unfold YieldsA at *
  rw [he, hw]
  exact hy

/-- What is thrown hangs on no slot that an operation writes. -/
def Stable (ops : Array Oper) (Q : Exit → Act → World → Prop) : Prop := (∀ a w, ¬ Q .outgrown a w) ∧ ∀ (i : Nat) (o : Oper), ops[i]? = some o → ∀ ch a v w, Q (.panic ch) (a.put o.dst v) w → Q (.panic ch) a w

theorem put_defers (a : Act) (x : Option Tmp) (v : Value) (d : Deferred) : ({ a.put x v with defers := d :: (a.put x v).defers } : Act) = ({ a with defers := d :: a.defers } : Act).put x v := by
  cases x <;> rfl

theorem wpOp_put {j : Nat} {oi oj : Oper} {v : Value} {Q : Exit → Act → World → Prop} (hQ : (∀ a w, ¬ Q .outgrown a w) ∧ ∀ ch a v w, Q (.panic ch) (a.put oi.dst v) w → Q (.panic ch) a w) (hj : ops[j]? = some oj) (hap : oi.apart ops oj = true)
    (hsi : ∀ cs b, oi.op ≠ .select cs b) (hsj : ∀ cs b, oj.op ≠ .select cs b) {K : Act → World → Prop} {a : Act} {w : World}
    (hy : YieldsA P ops oi v a) (h : wpOp P ops Q j K (a.put oi.dst v) w) :
    wpOp P ops Q j (fun a' w' => YieldsA P ops oi v a' ∧ K (a'.put oi.dst v) w') a w := by
  obtain ⟨h1, h2, h3⟩ := Oper.apart_spec hap
  have keep : ∀ (a : Act), YieldsA P ops oi v a → ∀ u, YieldsA P ops oi v (a.put oj.dst u) := fun a hy u =>
    hy.of_same (execOp_put oi hsi a oj.dst u h3) (wanted_put oi a oj.dst u h3)
  unfold wpOp at *
  simp only [hj] at *
  rw [wanted_put oj a oi.dst v h1] at h
  split
  · rename_i hw
    simp only [hw, if_true] at h
    rcases h with h | ⟨_, a0, w0, h0⟩
    · left
      unfold Oper.wp at *
      rw [execOp_put oj hsj a oi.dst v h1] at h
      generalize (execOp a.eval oj).run P w = r at *
      cases r with
      | ok n w' =>
        cases n <;> simp only [Oper.upon] at h ⊢
        case value u => exact ⟨keep a hy u, by rw [← Act.put_comm a v u h2]; exact h⟩
        case skip => exact ⟨keep a hy _, by rw [← Act.put_comm a v undef h2]; exact h⟩
        case defer d =>
          have hya : YieldsA P ops oi v { a with defers := d :: a.defers } := hy
          refine ⟨keep _ hya _, ?_⟩
          rw [put_defers] at h
          rw [← Act.put_comm _ v undef h2]
          exact h
        case enter f args =>
          refine h.mono fun e w'' he => ?_
          cases e with
          | returned u => exact ⟨keep a hy u, by rw [← Act.put_comm a v u h2]; exact he⟩
          | panicked chain => exact hQ.2 _ _ _ _ he
          | outgrown => obtain ⟨a0, w0, h0⟩ := he; exact absurd h0 (hQ.1 _ _)
        case row row args => exact h.mono fun u w'' he => ⟨keep a hy u, by rw [← Act.put_comm a v u h2]; exact he⟩
      | halt x w' =>
        cases x <;> simp only [Oper.upon] at h
        case panic u => exact hQ.2 _ _ _ _ h
    · exact absurd h0 (hQ.1 _ _)
  · rename_i hw
    simp only [hw] at h
    exact ⟨keep a hy _, by rw [← Act.put_comm a v undef h2]; exact h⟩

theorem YieldsA.wpOp {i : Nat} {o : Oper} {v : Value} {a : Act} {w : World} {Q : Exit → Act → World → Prop} (hi : ops[i]? = some o) (hy : YieldsA P ops o v a) {K : Act → World → Prop} (h : K (a.put o.dst v) w) : wpOp P ops Q i K a w := by
  unfold Go.wpOp
  simp only [hi]
  rcases hy with ⟨hw, hv⟩ | ⟨hw, rfl⟩
  · simp only [hw, if_true]
    left
    unfold Oper.wp
    rw [hv w]
    exact h
  · simp only [hw, Bool.false_eq_true, if_false]; exact h

theorem free_listed {i j : Nat} {oi : Oper} {listed : Array Bool} (hfree : ∀ j oj, ops[j]? = some oj → j ≠ i → listed.getD j true = false → (∀ e ∈ oj.after, Region.binds .any e = true → e.on ≠ i) → oi.apart ops oj = true) :
    ∀ k ok, ops[k]? = some ok → k ≠ i → (listed.setIfInBounds j true).getD k true = false → (∀ e ∈ ok.after, Region.binds .any e = true → e.on ≠ i) → oi.apart ops ok = true := by
  intro k ok hk hki hun hno
  refine hfree k ok hk hki ?_ hno
  by_cases hjk : j = k
  · subst hjk
    by_cases hlt : j < listed.size
    · simp [hlt, Array.getD_eq_getD_getElem?] at hun
    · simp [hlt, Array.getD_eq_getD_getElem?] at hun
  · simpa [Array.getD_eq_getD_getElem?, Array.getElem?_setIfInBounds, hjk] using hun

/-- One operation: the ones that leave the world alone are known to. -/
def stepT (P : Program) (ops : Array Oper) (Q : Exit → Act → World → Prop) (i : Nat) (K : Act → World → Prop) (a : Act) (w : World) : Prop :=
  match quietOp P (opAt ops i) with
  | true => stOp P ops w i (fun a' => K a' w) a
  | false => wpOp P ops Q i K a w

def wpT (P : Program) (ops : Array Oper) (Q : Exit → Act → World → Prop) : Nat → Array Bool → Act → World → Prop
  | 0, listed, a, w => Region.ready .any ops listed = [] ∧ Q .normal a w
  | n + 1, listed, a, w => (Region.ready .any ops listed = [] → Q .normal a w) ∧
    ∀ i ∈ Region.ready .any ops listed, stepT P ops Q i (wpT P ops Q n (listed.setIfInBounds i true)) a w

theorem wpT_any {Q : Exit → Act → World → Prop} : ∀ (n : Nat) (listed : Array Bool) (a : Act) (w : World), wpT P ops Q n listed a w → wpAny P .any ops Q n listed a w := by
  intro n
  induction n with
  | zero => intro listed a w h; exact h
  | succ n ih =>
    intro listed a w h
    refine ⟨h.1, fun i hi => ?_⟩
    have h1 := h.2 i hi
    unfold stepT at h1
    split at h1
    · exact wpOp_of_stOp (fun a' h => ih _ a' w h) h1
    · exact wpOp_mono (fun a' w' h => ih _ a' w' h) h1

theorem stOp_put' {w : World} {j : Nat} {oi oj : Oper} {v : Value} {Y : Act → Prop} (hj : ops[j]? = some oj) (hap : oi.apart ops oj = true)
    (hsj : ∀ cs b, oj.op ≠ .select cs b) {K : Act → Prop} {a : Act} (keep : ∀ u, Y (a.put oj.dst u)) (h : stOp P ops w j K (a.put oi.dst v)) :
    stOp P ops w j (fun a' => Y a' ∧ K (a'.put oi.dst v)) a := by
  obtain ⟨h1, h2, h3⟩ := Oper.apart_spec hap
  unfold stOp at *
  simp only [hj] at *
  rw [wanted_put oj a oi.dst v h1] at h
  split
  · rename_i hw
    simp only [hw, if_true] at h
    unfold Oper.still at *
    rw [execOp_put oj hsj a oi.dst v h1] at h
    generalize (execOp a.eval oj).run P w = r at *
    cases r with
    | ok n w' =>
      cases n <;> simp only [Oper.stillUpon] at h ⊢
      case value u => exact ⟨h.1, keep u, by rw [← Act.put_comm a v u h2]; exact h.2⟩
      case skip => exact ⟨h.1, keep _, by rw [← Act.put_comm a v undef h2]; exact h.2⟩
      case enter f args => obtain ⟨hw', u, hc, hn⟩ := h; exact ⟨hw', u, hc, keep u, by rw [← Act.put_comm a v u h2]; exact hn⟩
    | halt x w' => simp only [Oper.stillUpon] at h
  · rename_i hw
    simp only [hw] at h
    exact ⟨keep _, by rw [← Act.put_comm a v undef h2]; exact h⟩

theorem not_waits {i j : Nat} {oj : Oper} {listed : Array Bool} (hr : i ∈ Region.ready .any ops listed) (hall : ∀ e ∈ oj.after, Region.binds .any e = true → listed.getD e.on false = true) (_ : ops[j]? = some oj) :
    ∀ e ∈ oj.after, Region.binds .any e = true → e.on ≠ i := fun e he hb heq => by
  have h1 := hall e he hb
  have h0 := (mem_ready.1 hr).1
  rw [heq] at h1
  rcases Nat.lt_or_ge i listed.size with h' | h'
  · simp [h'] at h0 h1; rw [h0] at h1; cases h1
  · simp [Array.getElem?_eq_none h'] at h1

theorem YieldsA.stepT {i : Nat} {o : Oper} {v : Value} {a : Act} {w : World} {Q : Exit → Act → World → Prop} (hi : ops[i]? = some o) (hy : YieldsA P ops o v a) {K : Act → World → Prop} (h : K (a.put o.dst v) w) : stepT P ops Q i K a w := by
  unfold V.stepT
  split
  · unfold Go.stOp
    simp only [hi]
    rcases hy with ⟨hw, hv⟩ | ⟨hw, rfl⟩
    · simp only [hw, if_true]
      unfold Oper.still
      rw [hv w]
      exact ⟨rfl, h⟩
    · simp only [hw, Bool.false_eq_true, if_false]; exact h
  · exact hy.wpOp hi h

theorem wpT_first {Q : Exit → Act → World → Prop} (hQ : Stable ops Q) {i : Nat} {oi : Oper} {v : Value} (hi : ops[i]? = some oi) (hsel : ∀ (j : Nat) (o : Oper) cs b, ops[j]? = some o → o.op ≠ .select cs b) :
    ∀ (fuel : Nat) (listed : Array Bool) (a : Act) (w : World),
      (∀ j oj, ops[j]? = some oj → j ≠ i → listed.getD j true = false → (∀ e ∈ oj.after, Region.binds .any e = true → e.on ≠ i) → oi.apart ops oj = true) →
      i ∈ Region.ready .any ops listed → YieldsA P ops oi v a →
      wpT P ops Q fuel (listed.setIfInBounds i true) (a.put oi.dst v) w → wpT P ops Q (fuel + 1) listed a w := by
  intro fuel
  induction fuel with
  | zero =>
    intro listed a w _ hr hy H
    refine ⟨fun h => (by rw [h] at hr; cases hr), fun j hj => ?_⟩
    by_cases hji : j = i
    · subst hji; exact hy.stepT hi H
    · have := ready_mono hj hji
      rw [H.1] at this
      cases this
  | succ fuel ih =>
    intro listed a w hfree hr hy H
    refine ⟨fun h => (by rw [h] at hr; cases hr), fun j hj => ?_⟩
    by_cases hji : j = i
    · subst hji; exact hy.stepT hi H
    · have h1 := H.2 j (ready_mono hj hji)
      obtain ⟨hjun, oj, hoj, hall⟩ := mem_ready.1 hj
      have hap := hfree j oj hoj hji hjun (not_waits hr hall hoj)
      have go : ∀ a' w', YieldsA P ops oi v a' → wpT P ops Q fuel ((listed.setIfInBounds i true).setIfInBounds j true) (a'.put oi.dst v) w' → wpT P ops Q (fuel + 1) (listed.setIfInBounds j true) a' w' := by
        intro a' w' hy' hK
        refine ih (listed.setIfInBounds j true) a' w' (free_listed hfree) (ready_mono hr (fun h => hji h.symm)) hy' ?_
        rw [Array.setIfInBounds_comm _ _ hji]
        exact hK
      unfold stepT at h1 ⊢
      split at h1
      · obtain ⟨_, _, h3⟩ := Oper.apart_spec hap
        have h2 := stOp_put' (Y := YieldsA P ops oi v) hoj hap (fun cs b => hsel j oj cs b hoj)
          (fun u => hy.of_same (execOp_put oi (fun cs b => hsel i oi cs b hi) a oj.dst u h3) (wanted_put oi a oj.dst u h3)) h1
        exact stOp_mono (fun a' h => go a' w h.1 h.2) h2
      · have h2 := wpOp_put ⟨hQ.1, hQ.2 i oi hi⟩ hoj hap (fun cs b => hsel i oi cs b hi) (fun cs b => hsel j oj cs b hoj) hy h1
        exact wpOp_mono (fun a' w' h => go a' w' h.1 h.2) h2

/-- What is listed has all that it waits for listed. -/
def Closed (ops : Array Oper) (listed : Array Bool) : Prop :=
  ∀ j oj, ops[j]? = some oj → listed.getD j false = true → ∀ e ∈ oj.after, Region.binds .any e = true → listed.getD e.on false = true

theorem Closed.set {listed : Array Bool} {i : Nat} (h : Closed ops listed) (hi : i ∈ Region.ready .any ops listed) : Closed ops (listed.setIfInBounds i true) := by
  intro j oj hj hl e he hb
  by_cases hji : j = i
  · subst hji
    obtain ⟨_, o, ho, hall⟩ := mem_ready.1 hi
    rw [hj] at ho
    cases ho
    exact getD_set_true (hall e he hb)
  · rw [getD_set_ne false (fun h => hji h.symm)] at hl
    exact getD_set_true (h j oj hj hl e he hb)

theorem reach_listed {listed : Array Bool} (hc : Closed ops listed) : ∀ (n j i : Nat) (oj : Oper), ops[j]? = some oj → (∀ e ∈ oj.after, Region.binds .any e = true → listed.getD e.on false = true) →
    reach ops n j i = true → listed.getD i false = true := by
  intro n
  induction n with
  | zero => intro j i oj _ _ h; simp [reach] at h
  | succ n ih =>
    intro j i oj hj hall h
    simp only [reach, hj, List.any_eq_true, Bool.and_eq_true, Bool.or_eq_true] at h
    obtain ⟨e, he, hb, h⟩ := h
    have he' : e ∈ oj.after := Array.mem_toList_iff.1 he
    have hl := hall e he' hb
    rcases h with h | h
    · have := Nat.eq_of_beq_eq_true h
      rw [← this]; exact hl
    · cases ho : ops[e.on]? with
      | none =>
        cases n with
        | zero => simp [reach] at h
        | succ n => simp [reach, ho] at h
      | some ok => exact ih e.on i ok ho (hc e.on ok ho hl) h

theorem YieldsAt.stepT {i : Nat} {o : Oper} {v : Value} {a : Act} {w : World} {Q : Exit → Act → World → Prop} (hq : quietOp P (opAt ops i) = true) (hi : ops[i]? = some o) (hy : YieldsAt P ops w o v a) {K : Act → World → Prop} (h : K (a.put o.dst v) w) : stepT P ops Q i K a w := by
  unfold V.stepT
  rw [hq]
  exact hy.stOp hi h

/-- An operation that leaves the world alone may be taken first, if all that may change the world waits for it. -/
theorem wpT_still {Q : Exit → Act → World → Prop} {w : World} {i : Nat} {oi : Oper} {v : Value} (hi : ops[i]? = some oi) (hqi : quietOp P (opAt ops i) = true) (hsel : ∀ (j : Nat) (o : Oper) cs b, ops[j]? = some o → o.op ≠ .select cs b) :
    ∀ (fuel : Nat) (listed : Array Bool) (a : Act),
      (∀ j oj, ops[j]? = some oj → j ≠ i → listed.getD j true = false → (∀ e ∈ oj.after, Region.binds .any e = true → e.on ≠ i) → oi.apart ops oj = true) →
      (∀ j, j < ops.size → listed.getD j true = false → j ≠ i → quietOp P (opAt ops j) = false → reach ops ops.size j i = true) → Closed ops listed →
      i ∈ Region.ready .any ops listed → YieldsAt P ops w oi v a →
      wpT P ops Q fuel (listed.setIfInBounds i true) (a.put oi.dst v) w → wpT P ops Q (fuel + 1) listed a w := by
  intro fuel
  induction fuel with
  | zero =>
    intro listed a _ _ _ hr hy H
    refine ⟨fun h => (by rw [h] at hr; cases hr), fun j hj => ?_⟩
    by_cases hji : j = i
    · subst hji; exact YieldsAt.stepT hqi hi hy H
    · have := ready_mono hj hji
      rw [H.1] at this
      cases this
  | succ fuel ih =>
    intro listed a hfree hblk hcl hr hy H
    refine ⟨fun h => (by rw [h] at hr; cases hr), fun j hj => ?_⟩
    by_cases hji : j = i
    · subst hji; exact YieldsAt.stepT hqi hi hy H
    · have h1 := H.2 j (ready_mono hj hji)
      obtain ⟨hjun, oj, hoj, hall⟩ := mem_ready.1 hj
      have hap := hfree j oj hoj hji hjun (not_waits hr hall hoj)
      have hjlt : j < ops.size := (Array.getElem?_eq_some_iff.1 hoj).1
      cases hqj : quietOp P (opAt ops j) with
      | false =>
        have hre := hblk j hjlt hjun hji hqj
        have hli := reach_listed hcl _ j i oj hoj hall hre
        have h0 := (mem_ready.1 hr).1
        rcases Nat.lt_or_ge i listed.size with h' | h'
        · simp [h'] at h0 hli; rw [h0] at hli; cases hli
        · simp [Array.getElem?_eq_none h'] at hli
      | true =>
        unfold stepT at h1 ⊢
        rw [hqj] at h1 ⊢
        obtain ⟨_, _, h3⟩ := Oper.apart_spec hap
        have h2 := stOp_put' (Y := YieldsAt P ops w oi v) hoj hap (fun cs b => hsel j oj cs b hoj)
          (fun u => hy.of_same (execOp_put oi (fun cs b => hsel i oi cs b hi) a oj.dst u h3) (wanted_put oi a oj.dst u h3)) h1
        refine stOp_mono (fun a' h => ?_) h2
        refine ih (listed.setIfInBounds j true) a' (free_listed hfree) ?_ (hcl.set hj) (ready_mono hr (fun h => hji h.symm)) h.1 ?_
        · intro k hk hun hki hqk
          refine hblk k hk ?_ hki hqk
          by_cases hjk : j = k
          · subst hjk; exact hjun
          · rw [getD_set_ne true hjk] at hun; exact hun
        · rw [Array.setIfInBounds_comm _ _ hji]
          exact h.2

end

end Go.Proofs.Ytmlhdmnnijapjaa.V
