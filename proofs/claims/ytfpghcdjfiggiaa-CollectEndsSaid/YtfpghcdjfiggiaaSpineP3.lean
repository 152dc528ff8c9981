/- Arrays that move: a cycle begins, in plain words. No condition. -/
import Derived.Test.YtfpghcdjfiggiaaSpineP2
import Derived.Test.YtfpghcdjfiggiaaMapRange
namespace Go.Proofs.Ytfpghcdjfiggiaa.V
open Go Go.RowKit

def sumK (f : Int → Int) : List Int → Int
  | [] => 0
  | k :: r => f k + sumK f r

theorem sumK_perm (f : Int → Int) {r r' : List Int} (h : r.Perm r') : sumK f r = sumK f r' := by
  induction h with
  | nil => rfl
  | cons x _ ih => simp [sumK, ih]
  | swap x y l => simp [sumK]; omega
  | trans _ _ h1 h2 => rw [h1, h2]

theorem sumK_congr {f f' : Int → Int} : ∀ (r : List Int), (∀ k ∈ r, f k = f' k) → sumK f r = sumK f' r
  | [], _ => rfl
  | k :: r, h => by unfold sumK; rw [h k (by simp), sumK_congr r (fun k hk => h k (by simp [hk]))]
theorem sumK_app (f : Int → Int) (r r' : List Int) : sumK f (r ++ r') = sumK f r + sumK f r' := by
  induction r with
  | nil => simp [sumK]
  | cons k r ih => simp [sumK, ih]; omega

theorem mu_eq (l : List Arr) : ∀ r : List Int, mu l r = sumK (todo l) r
  | [] => rfl
  | k :: r => by unfold mu sumK; rw [mu_eq l r]

/-- What an id takes. -/
def needK (l : List Arr) (k : Int) : Int := match l.find? (fun x => x.id == k) with
  | some x => x.n + 4
  | none => 0

theorem needK_some {l : List Arr} {x : Arr} (h : (l.map (·.id)).Nodup) (hx : x ∈ l) : needK l x.id = x.n + 4 := by
  unfold needK
  have : l.find? (fun y => y.id == x.id) = some x := by
    induction l with
    | nil => simp at hx
    | cons y l ih =>
      rw [List.map_cons, List.nodup_cons] at h
      rcases List.mem_cons.1 hx with e | hx'
      · subst e; simp
      · have : y.id ≠ x.id := fun e => h.1 (List.mem_map.2 ⟨x, hx', e.symm⟩)
        simp [this, ih h.2 hx']
  rw [this]

theorem sumK_ids (f : Int → Int) (p : Arr → Int) : ∀ l : List Arr, (∀ x ∈ l, f x.id = p x) → sumK f (l.map (·.id)) = (l.map p).foldr (· + ·) 0
  | [], _ => rfl
  | x :: l, h => by
    simp only [List.map_cons, sumK, List.foldr_cons]
    rw [h x (by simp), sumK_ids f p l (fun y hy => h y (by simp [hy]))]

theorem need_fold : ∀ l : List Arr, need l = (l.map fun x => x.n + 4).foldr (· + ·) 0
  | [] => rfl
  | x :: l => by simp only [need, List.map_cons, List.foldr_cons]; rw [need_fold l]

theorem fold_le {p q : Arr → Int} : ∀ l : List Arr, (∀ x ∈ l, p x ≤ q x) → (l.map p).foldr (· + ·) 0 ≤ (l.map q).foldr (· + ·) 0
  | [], _ => Int.le_refl _
  | x :: l, h => by
    simp only [List.map_cons, List.foldr_cons]
    have := h x (by simp)
    have := fold_le l (fun y hy => h y (by simp [hy]))
    omega

def core (x : Arr) : Int × Nat × Nat × Int × Int × List Int := (x.id, x.b, x.st, x.n, x.pl, x.vs)

theorem core_mem {l l' : List Arr} (h : l'.map core = l.map core) {x : Arr} (hx : x ∈ l') : ∃ y ∈ l, core y = core x := by
  have : core x ∈ l.map core := by rw [← h]; exact List.mem_map.2 ⟨x, hx, rfl⟩
  exact List.mem_map.1 this
theorem core_map {β : Type} {l l' : List Arr} (h : l'.map core = l.map core) (f : Arr → β) (p : Int × Nat × Nat × Int × Int × List Int → β) (hf : ∀ x, f x = p (core x)) : l'.map f = l.map f := by
  have e : f = p ∘ core := by funext x; exact hf x
  rw [e, ← List.map_map, ← List.map_map, h]

section
variable {g : SG} {l l' : List Arr} {ws : List Int}

theorem core_eq {x y : Arr} (h : core y = core x) : y.id = x.id ∧ y.b = x.b ∧ y.st = x.st ∧ y.n = x.n ∧ y.pl = x.pl ∧ y.vs = x.vs := by
  unfold core at h
  simp only [Prod.mk.injEq] at h
  exact h

/-- All that is there has a place in the other half. -/
theorem SInv.begins (h : SInv g l ws) (ha : g.act = false) (hc : l'.map core = l.map core) {left : List Int} (nd : left.Nodup) (hl : ∀ k ∈ left, ∃ x ∈ l', x.id = k)
    (hm : ∀ x ∈ l', x.mv = false ∧ x.id ∈ left ∧ x.cp = 0 ∧ hb g (!g.other) ≤ x.to ∧ x.to + x.n + 4 ≤ hb g (!g.other) + sumK (needK l) left)
    (hd : ∀ x ∈ l', ∀ y ∈ l', x.id ≠ y.id → x.to + x.n + 4 ≤ y.to ∨ y.to + y.n + 4 ≤ x.to) :
    SInv { g with act := true, top := sumK (needK l) left, late := 0, left := left } l' ws ∧ mu l' left ≤ need l ∧ sumK (needK l) left = need l := by
  have ei : l'.map (·.id) = l.map (·.id) := core_map hc _ (fun p => p.1) (fun _ => rfl)
  have en : l'.map (·.n) = l.map (·.n) := core_map hc _ (fun p => p.2.2.2.1) (fun _ => rfl)
  have ids' : (l'.map (·.id)).Nodup := by rw [ei]; exact h.ids
  have pm : left.Perm (l.map (·.id)) := perm_of_mem nd h.ids fun k => by
    rw [← ei]
    constructor
    · intro hk
      obtain ⟨x, hx, e⟩ := hl k hk
      exact List.mem_map.2 ⟨x, hx, e⟩
    · intro hk
      obtain ⟨x, hx, e⟩ := List.mem_map.1 hk
      rw [← e]; exact (hm x hx).2.1
  have esum : sumK (needK l) left = need l := by
    rw [sumK_perm _ pm, sumK_ids _ (fun x => x.n + 4) l (fun x hx => needK_some h.ids hx), need_fold]
  have emu : mu l' left ≤ need l := by
    rw [mu_eq, sumK_perm _ pm, ← ei, sumK_ids _ (fun x => x.n - x.cp + 1) l' (fun x hx => todo_some ids' hx), ← need_map l l' en, need_fold]
    exact fold_le l' fun x hx => by have := (hm x hx).2.2.1; omega
  refine ⟨?_, emu, esum⟩
  have ho := h.ow
  have hr := h.rm
  have htl := h.top_le
  have hcur : cur g = g.other := (hb_two g true).2.2.2.1 ha
  have old : ∀ x ∈ l', ∃ y ∈ l, y.id = x.id ∧ y.n = x.n ∧ y.pl = x.pl ∧ y.vs = x.vs := fun x hx => by
    obtain ⟨y, hy, e⟩ := core_mem hc hx
    obtain ⟨q1, _, _, q2, q3, q4⟩ := core_eq e
    exact ⟨y, hy, q1, q2, q3, q4⟩
  have enp : ∀ x ∈ l', np true x = x.to := fun x hx => (np_t true x).2.2 rfl (hm x hx).1
  have hA : ∀ x ∈ l', hb g g.other ≤ x.pl ∧ x.pl + x.n + 4 ≤ hb g g.other + g.half := fun x hx => by
    obtain ⟨y, hy, _, q2, q3, _⟩ := old x hx
    have h1 := h.A y hy
    rw [(np_t _ y).1 ha, hcur] at h1
    omega
  refine ⟨h.geo, ⟨Int.le_refl 0, by show 0 ≤ g.owed; omega⟩, ?_, by rw [need_map l l' en]; exact hr, ids', fun x hx => ?_, h.l0, fun x hx => ?_, fun x hx => ?_, fun x hx y hy hn => ?_, fun _ x hx _ => hA x hx, fun _ x hx y hy _ _ hn => ?_,
    fun _ x hx _ => ⟨by have := (hm x hx).2.2.1; omega, ?_, (hm x hx).2.1⟩, fun _ => ⟨nd, fun x hx _ => (hm x hx).1, fun k hk => ?_⟩, fun x hx j j0 j1 => ?_, fun _ x hx _ j j0 j1 => ?_⟩
  · dsimp only
    rw [need_map l l' en, esum]; simp
  · obtain ⟨y, hy, q1, _⟩ := old x hx
    have := h.lst y hy
    dsimp only
    omega
  · obtain ⟨y, hy, _, q2, _, q4⟩ := old x hx
    have := h.sz y hy
    rw [q4, q2] at this
    exact this
  · show hb g (!g.other) ≤ np true x ∧ np true x + x.n + 4 ≤ hb g (!g.other) + sumK (needK l) left
    rw [enp x hx]
    exact (hm x hx).2.2.2
  · show np true x + x.n + 4 ≤ np true y ∨ np true y + y.n + 4 ≤ np true x
    rw [enp x hx, enp y hy]
    exact hd x hx y hy hn
  · obtain ⟨x', hx', q1, q2, q3, _⟩ := old x hx
    obtain ⟨y', hy', r1, r2, r3, _⟩ := old y hy
    have := h.B x' hx' y' hy' (by rw [q1, r1]; exact hn)
    rw [(np_t _ x').1 ha, (np_t _ y').1 ha] at this
    omega
  · obtain ⟨y, hy, _, q2, _⟩ := old x hx
    have := h.sz y hy
    have := (hm x hx).2.2.1
    omega
  · obtain ⟨x, hx, e⟩ := hl k hk
    obtain ⟨y, hy, q1, _⟩ := old x hx
    have := h.lst y hy
    dsimp only
    omega
  · obtain ⟨y, hy, _, q2, q3, q4⟩ := old x hx
    rw [← q3, ← q4]
    exact h.W y hy j j0 (by omega)
  · have := (hm x hx).2.2.1; omega
end
end Go.Proofs.Ytfpghcdjfiggiaa.V
