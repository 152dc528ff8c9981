/- Agents that push and pop: each value is counted once. Plain. -/
import Derived.Test.YtfpghcdjfiggiaaStack2
namespace Go.Proofs.Ytfpghcdjfiggiaa.V
open Go Go.RowKit

def Pend (op : Nat → Option OpR) (v : Int) : Prop := ∃ a r, op a = some r ∧ r.op = 0 ∧ r.v = v

structure Bal (k : Nat) (op : Nat → Option OpR) (items gt bz : List Int) (next : Int) : Prop where
  lg : gt.length = 32
  lb : bz.length = k
  bz : ∀ a, a < k → (bz.getD a 0 = 0 ∧ op a = none) ∨ (bz.getD a 0 = 1 ∧ ∃ r, op a = some r ∧ r.op = 0) ∨ (bz.getD a 0 = 2 ∧ ∃ r, op a = some r ∧ r.op = 1)
  out : ∀ a, k ≤ a → op a = none
  nx : 0 ≤ next ∧ next ≤ 32
  lo : ∀ v : Nat, (v : Int) < next → (gt.getD v 0 = 1 ∧ (v : Int) ∉ items ∧ ¬ Pend op v) ∨ (gt.getD v 0 = 0 ∧ (v : Int) ∈ items ∧ ¬ Pend op v) ∨ (gt.getD v 0 = 0 ∧ (v : Int) ∉ items ∧ Pend op v)
  hi : ∀ v : Nat, next ≤ v → v < 32 → gt.getD v 0 = 0 ∧ (v : Int) ∉ items ∧ ¬ Pend op v

section
variable {k a : Nat} {op : Nat → Option OpR} {items gt bz : List Int} {next : Int}

theorem getD_set (l : List Int) (i : Nat) (x : Int) (j : Nat) (h : i < l.length) : (l.set i x).getD j 0 = if j = i then x else l.getD j 0 := by
  rw [getI_set l i j x h]
  by_cases e : j = i
  · rw [if_pos e, if_pos e.symm]
  · rw [if_neg e, if_neg (fun h => e h.symm)]

theorem upd_bz {f : Nat → Option OpR} {r : Option OpR} {x : Int} (h : Bal k op items gt bz next) (ha : a < k)
    (hx : (x = 0 ∧ r = none) ∨ (x = 1 ∧ ∃ s, r = some s ∧ s.op = 0) ∨ (x = 2 ∧ ∃ s, r = some s ∧ s.op = 1)) :
    ∀ b, b < k → ((bz.set a x).getD b 0 = 0 ∧ upd op a r b = none) ∨ ((bz.set a x).getD b 0 = 1 ∧ ∃ s, upd op a r b = some s ∧ s.op = 0) ∨ ((bz.set a x).getD b 0 = 2 ∧ ∃ s, upd op a r b = some s ∧ s.op = 1) := by
  intro b hb
  have := h.lb
  by_cases e : b = a
  · subst e
    rw [getD_set _ _ _ _ (by omega), if_pos rfl, upd_self]
    exact hx
  · rw [getD_set _ _ _ _ (by omega), if_neg e, upd_ne _ _ e]
    exact h.bz b hb

theorem upd_out {r : Option OpR} (h : Bal k op items gt bz next) (ha : a < k) : ∀ b, k ≤ b → upd op a r b = none := fun b hb => by
  rw [upd_ne _ _ (by omega)]; exact h.out b hb

/-- A place that pushes nothing is another that pushes nothing. -/
theorem pend_other {r : Option OpR} {v : Int} (h1 : ∀ s, op a = some s → s.op = 0 → s.v ≠ v) (h2 : ∀ s, r = some s → s.op = 0 → s.v ≠ v) : Pend (upd op a r) v ↔ Pend op v := by
  constructor
  · rintro ⟨b, s, e1, e2, e3⟩
    by_cases e : b = a
    · subst e; rw [upd_self] at e1; exact absurd e3 (h2 s e1 e2)
    · rw [upd_ne _ _ e] at e1; exact ⟨b, s, e1, e2, e3⟩
  · rintro ⟨b, s, e1, e2, e3⟩
    by_cases e : b = a
    · subst e; exact absurd e3 (h1 s e1 e2)
    · exact ⟨b, s, by rw [upd_ne _ _ e]; exact e1, e2, e3⟩

theorem Bal.beginPush (h : Bal k op items gt bz next) (ha : a < k) (hn : op a = none) (hx : next < 32) : Bal k (upd op a (some ⟨0, next, 0, 0, 0⟩)) items gt (bz.set a 1) (next + 1) := by
  have hnx := h.nx
  have po : ∀ v : Int, v ≠ next → (Pend (upd op a (some ⟨0, next, 0, 0, 0⟩)) v ↔ Pend op v) := fun v hv => pend_other (fun s hs => by rw [hn] at hs; cases hs) (fun s hs _ e => by cases hs; exact hv e.symm)
  refine ⟨h.lg, by simp [h.lb], upd_bz h ha (f := op) (.inr (.inl ⟨rfl, _, rfl, rfl⟩)), upd_out h ha, by omega, fun v hv => ?_, fun v hv hv2 => ?_⟩
  · by_cases e : (v : Int) = next
    · obtain ⟨q1, q2, _⟩ := h.hi v (by omega) (by omega)
      exact .inr (.inr ⟨q1, q2, a, _, upd_self _ _ _, rfl, e.symm⟩)
    · rw [po _ e]; exact h.lo v (by omega)
  · rw [po _ (by omega)]; exact h.hi v (by omega) hv2

theorem Bal.beginPop (h : Bal k op items gt bz next) (ha : a < k) (hn : op a = none) (v0 : Int) : Bal k (upd op a (some ⟨1, v0, 0, 0, 0⟩)) items gt (bz.set a 2) next := by
  have po : ∀ v : Int, (Pend (upd op a (some ⟨1, v0, 0, 0, 0⟩)) v ↔ Pend op v) := fun v => pend_other (fun s hs => by rw [hn] at hs; cases hs) (fun s hs h1 => by cases hs; cases h1)
  refine ⟨h.lg, by simp [h.lb], upd_bz h ha (f := op) (.inr (.inr ⟨rfl, _, rfl, rfl⟩)), upd_out h ha, h.nx, fun v hv => ?_, fun v hv hv2 => ?_⟩
  · rw [po]; exact h.lo v hv
  · rw [po]; exact h.hi v hv hv2

theorem Bal.go (h : Bal k op items gt bz next) (ha : a < k) {r r' : OpR} (hr : op a = some r) (e1 : r'.op = r.op) (e2 : r'.v = r.v) : Bal k (upd op a (some r')) items gt bz next := by
  have po : ∀ v : Int, (Pend (upd op a (some r')) v ↔ Pend op v) := fun v => by
    constructor
    · rintro ⟨b, s, h1, h2, h3⟩
      by_cases e : b = a
      · subst e; rw [upd_self] at h1; cases h1; exact ⟨b, r, hr, by omega, by omega⟩
      · rw [upd_ne _ _ e] at h1; exact ⟨b, s, h1, h2, h3⟩
    · rintro ⟨b, s, h1, h2, h3⟩
      by_cases e : b = a
      · subst e; rw [hr] at h1; cases h1; exact ⟨b, r', upd_self _ _ _, by omega, by omega⟩
      · exact ⟨b, s, by rw [upd_ne _ _ e]; exact h1, h2, h3⟩
  refine ⟨h.lg, h.lb, fun b hb => ?_, upd_out h ha, h.nx, fun v hv => ?_, fun v hv hv2 => ?_⟩
  · by_cases e : b = a
    · subst e
      rw [upd_self]
      rcases h.bz b hb with ⟨_, q⟩ | ⟨q, s, q2, q3⟩ | ⟨q, s, q2, q3⟩
      · rw [hr] at q; cases q
      · rw [hr] at q2; cases q2; exact .inr (.inl ⟨q, r', rfl, by omega⟩)
      · rw [hr] at q2; cases q2; exact .inr (.inr ⟨q, r', rfl, by omega⟩)
    · rw [upd_ne _ _ e]; exact h.bz b hb
  · rw [po]; exact h.lo v hv
  · rw [po]; exact h.hi v hv hv2

theorem Bal.push (h : Bal k op items gt bz next) (ha : a < k) {r : OpR} (hr : op a = some r) (ho : r.op = 0) (hv : 0 ≤ r.v ∧ r.v < 32) (ds : ∀ b s, op b = some s → s.op = 0 → s.v = r.v → b = a) :
    Bal k (upd op a none) (r.v :: items) gt (bz.set a 0) next := by
  have po : ∀ v : Int, v ≠ r.v → (Pend (upd op a none) v ↔ Pend op v) := fun v hv => pend_other (fun s hs _ e => by rw [hr] at hs; cases hs; exact hv e.symm) (fun s hs => by cases hs)
  have pn : ¬ Pend (upd op a none) r.v := by
    rintro ⟨b, s, h1, h2, h3⟩
    by_cases e : b = a
    · subst e; rw [upd_self] at h1; cases h1
    · rw [upd_ne _ _ e] at h1; exact e (ds b s h1 h2 h3)
  have pp : Pend op r.v := ⟨a, r, hr, ho, rfl⟩
  refine ⟨h.lg, by simp [h.lb], upd_bz h ha (f := op) (.inl ⟨rfl, rfl⟩), upd_out h ha, h.nx, fun v hv2 => ?_, fun v hv2 hv3 => ?_⟩
  · by_cases e : (v : Int) = r.v
    · rcases h.lo v hv2 with ⟨_, _, q⟩ | ⟨_, _, q⟩ | ⟨q1, q2, q3⟩
      · rw [e] at q; exact absurd pp q
      · rw [e] at q; exact absurd pp q
      · refine .inr (.inl ⟨q1, by rw [e]; simp, by rw [e]; exact pn⟩)
    · rw [po _ e]
      have : ((v : Int) ∈ r.v :: items) ↔ (v : Int) ∈ items := by simp [e]
      rw [this]; exact h.lo v hv2
  · have q := h.hi v hv2 hv3
    by_cases e : (v : Int) = r.v
    · rw [e] at q; exact absurd pp q.2.2
    · rw [po _ e]
      have : ((v : Int) ∈ r.v :: items) ↔ (v : Int) ∈ items := by simp [e]
      rw [this]; exact q

theorem Bal.pops (h : Bal k op items gt bz next) (ha : a < k) {r : OpR} (hr : op a = some r) (ho : r.op = 1) (v : Int) : Pend (upd op a none) v ↔ Pend op v :=
  pend_other (fun s hs h0 => by rw [hr] at hs; cases hs; omega) (fun s hs => by cases hs)

theorem Bal.pop (h : Bal k op items gt bz next) (ha : a < k) {r : OpR} (hr : op a = some r) (ho : r.op = 1) {x : Int} {rest : List Int} (hit : items = x :: rest) (nd : items.Nodup) (hx : 0 ≤ x ∧ x < 32) :
    Bal k (upd op a none) rest (gt.set x.toNat (gt.getD x.toNat 0 + 1)) (bz.set a 0) next := by
  subst hit
  have hg := h.lg
  have hnd := List.nodup_cons.1 nd
  have e0 : ((x.toNat : Nat) : Int) = x := by omega
  refine ⟨by simp [h.lg], by simp [h.lb], upd_bz h ha (f := op) (.inl ⟨rfl, rfl⟩), upd_out h ha, h.nx, fun v hv2 => ?_, fun v hv2 hv3 => ?_⟩
  · rw [h.pops ha hr ho]
    by_cases e : (v : Int) = x
    · have e' : v = x.toNat := by omega
      subst e'
      rw [getD_set _ _ _ _ (by omega), if_pos rfl]
      have q := h.lo x.toNat hv2
      rw [e0] at q ⊢
      rcases q with ⟨_, q, _⟩ | ⟨q1, q2, q3⟩ | ⟨_, q, _⟩
      · exact absurd (by simp) q
      · exact .inl ⟨by omega, hnd.1, q3⟩
      · exact absurd (by simp) q
    · have q := h.lo v hv2
      have : ((v : Int) ∈ x :: rest) ↔ (v : Int) ∈ rest := by simp [e]
      rw [this] at q
      rw [getD_set _ _ _ _ (by omega), if_neg (by omega)]
      exact q
  · rw [h.pops ha hr ho]
    have q := h.hi v hv2 hv3
    by_cases e : (v : Int) = x
    · rw [e] at q; exact absurd (by simp) q.2.1
    · have : ((v : Int) ∈ x :: rest) ↔ (v : Int) ∈ rest := by simp [e]
      rw [this] at q
      rw [getD_set _ _ _ _ (by omega), if_neg (by omega)]
      exact q

theorem Bal.empty (h : Bal k op items gt bz next) (ha : a < k) {r : OpR} (hr : op a = some r) (ho : r.op = 1) : Bal k (upd op a none) items gt (bz.set a 0) next := by
  refine ⟨h.lg, by simp [h.lb], upd_bz h ha (f := op) (.inl ⟨rfl, rfl⟩), upd_out h ha, h.nx, fun v hv2 => ?_, fun v hv2 hv3 => ?_⟩
  · rw [h.pops ha hr ho]; exact h.lo v hv2
  · rw [h.pops ha hr ho]; exact h.hi v hv2 hv3

theorem rep0 (n v : Nat) : (List.replicate n (0 : Int)).getD v 0 = 0 := by
  rw [List.getD_eq_getElem?_getD, List.getElem?_replicate]
  split <;> rfl

theorem Bal.start (k : Nat) : Bal k (fun _ => none) [] (List.replicate 32 0) (List.replicate k 0) 0 := by
  refine ⟨by simp, by simp, fun a ha => .inl ⟨rep0 k a, rfl⟩, fun _ _ => rfl, by omega, fun v hv => by omega, fun v hv hv2 => ⟨rep0 32 v, by simp, ?_⟩⟩
  rintro ⟨_, _, h, _⟩
  cases h

/-- When nothing is under way, what stands in it and what was popped are all that was pushed. -/
theorem Bal.done (h : Bal k op items gt bz next) (hz : ∀ a, a < k → bz.getD a 0 = 0) : ∀ v : Nat, v < 32 → gt.getD v 0 + (if (v : Int) ∈ items then 1 else 0) = if (v : Int) < next then 1 else 0 := by
  have none' : ∀ a, op a = none := fun a => by
    by_cases ha : a < k
    · rcases h.bz a ha with q | q | q
      · exact q.2
      · have := hz a ha; omega
      · have := hz a ha; omega
    · exact h.out a (by omega)
  have pn : ∀ v, ¬ Pend op v := by rintro v ⟨a, r, q, _⟩; rw [none' a] at q; cases q
  intro v hv
  by_cases e : (v : Int) < next
  · rw [if_pos e]
    rcases h.lo v e with ⟨q1, q2, _⟩ | ⟨q1, q2, _⟩ | ⟨_, _, q⟩
    · rw [if_neg q2]; omega
    · rw [if_pos q2]; omega
    · exact absurd q (pn _)
  · rw [if_neg e]
    obtain ⟨q1, q2, _⟩ := h.hi v (by omega) hv
    rw [if_neg q2]; omega
end
end Go.Proofs.Ytfpghcdjfiggiaa.V
