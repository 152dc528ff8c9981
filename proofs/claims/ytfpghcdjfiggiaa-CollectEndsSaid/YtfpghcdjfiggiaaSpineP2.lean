/- Arrays that move: the steps, in plain words. No condition. -/
import Derived.Test.YtfpghcdjfiggiaaSpineP
namespace Go.Proofs.Ytfpghcdjfiggiaa.V
open Go Go.RowKit

def vw (l : List Arr) : List (Int × List Int) := l.map fun x => (x.id, x.vs)
def todo (l : List Arr) (k : Int) : Int := match l.find? (fun x => x.id == k) with
  | some x => x.n - x.cp + 1
  | none => 1
def mu (l : List Arr) : List Int → Int
  | [] => 0
  | k :: r => todo l k + mu l r

theorem todo_none {l : List Arr} {k : Int} (h : ∀ x ∈ l, x.id ≠ k) : todo l k = 1 := by
  unfold todo
  rw [List.find?_eq_none.2 (fun x hx => by simpa using h x hx)]

section
variable {g : SG} {l : List Arr} {ws : List Int} {x y : Arr}

theorem todo_some (h : (l.map (·.id)).Nodup) (hx : x ∈ l) : todo l x.id = x.n - x.cp + 1 := by
  unfold todo
  have : l.find? (fun y => y.id == x.id) = some x := by
    induction l with
    | nil => simp at hx
    | cons y l ih =>
      rw [List.map_cons, List.nodup_cons] at h
      rcases List.mem_cons.1 hx with e | hx'
      · subst e; simp
      · have : y.id ≠ x.id := fun e => h.1 (List.mem_map.2 ⟨x, hx', e.symm⟩)
        simp [this, ih h.2 hx']
  rw [this]

theorem mu_congr {l' : List Arr} : ∀ (r : List Int), (∀ k ∈ r, todo l' k = todo l k) → mu l' r = mu l r
  | [], _ => rfl
  | k :: r, h => by
    unfold mu
    rw [h k (by simp), mu_congr r (fun k hk => h k (by simp [hk]))]

/-- A record is another in l: what holds of all. -/
theorem rep_all {x' : Arr} {P : Arr → Prop} (hx : P x') (hl : ∀ y ∈ l, P y) : ∀ y ∈ rep l x', P y := fun y hy => by
  rcases mem_rep hy with rfl | ⟨hy, _⟩
  · exact hx
  · exact hl y hy
theorem rep_two {x' : Arr} {P : Arr → Arr → Prop} (hs : ∀ y z, P y z → P z y) (hx : ∀ y ∈ l, y.id ≠ x'.id → P x' y) (hl : ∀ y ∈ l, ∀ z ∈ l, y.id ≠ z.id → P y z) : ∀ y ∈ rep l x', ∀ z ∈ rep l x', y.id ≠ z.id → P y z := fun y hy z hz hn => by
  rcases mem_rep hy with e1 | ⟨hy1, h1⟩
  · rcases mem_rep hz with e2 | ⟨hz1, h2⟩
    · exact absurd (by rw [e1, e2]) hn
    · rw [e1]; exact hx z hz1 h2
  · rcases mem_rep hz with e2 | ⟨hz1, h2⟩
    · rw [e2]; exact hs _ _ (hx y hy1 h1)
    · exact hl y hy1 z hz1 hn

theorem SInv.dead (h : SInv g l ws) {k : Int} {r : List Int} (hl : g.left = k :: r) (hk : ∀ x ∈ l, x.id ≠ k) : SInv { g with left := r } l ws := by
  have hd := h.Lf
  rw [hl] at hd
  refine ⟨h.geo, h.ow, h.tp, h.rm, h.ids, h.lst, h.l0, h.sz, h.A, h.B, h.C, h.D, fun ha x hx hm => ?_, fun ha => ?_, h.W, h.X⟩
  · have h1 := h.E ha x hx hm
    rw [hl] at h1
    refine ⟨h1.1, h1.2.1, ?_⟩
    rcases List.mem_cons.1 h1.2.2 with e | e
    · exact absurd e (hk x hx)
    · exact e
  · obtain ⟨h1, h2, h3⟩ := hd ha
    exact ⟨(List.nodup_cons.1 h1).2, fun x hx hm => h2 x hx (by simp only at hm; simp [hm]), fun k hk => h3 k (by simp only at hk; simp [hk])⟩

/-- A word is copied. -/
theorem SInv.copy (h : SInv g l ws) (ha : g.act = true) (hx : x ∈ l) (hm : x.mv = false) (hc : x.cp < x.n) :
    SInv g (rep l { x with cp := x.cp + 1 }) (ws.set (x.to + 4 + x.cp).toNat (ws.getD (x.pl + 4 + x.cp).toNat 0)) := by
  have hsz := h.sz x hx
  have hin := h.inn hx
  have hin2 := h.inn2 ha hx hm
  have hE := h.E ha x hx hm
  have e1 : ∀ {β : Type} (f : Arr → β), f { x with cp := x.cp + 1 } = f x → (rep l { x with cp := x.cp + 1 }).map f = l.map f := fun f hf => rep_map f fun y hy e => by
    rw [hf, h.same hy hx e]
  have rd : ∀ q : Int, 0 ≤ q → (ws.set (x.to + 4 + x.cp).toNat (ws.getD (x.pl + 4 + x.cp).toNat 0)).getD q.toNat 0 = if x.to + 4 + x.cp = q then x.vs.getD x.cp.toNat 0 else ws.getD q.toNat 0 := by
    intro q hq
    rw [getZ_set _ _ (by omega) (by omega) hq, h.W x hx x.cp hE.1 hc]
  refine ⟨by simpa using h.geo, h.ow, by rw [h.tp, need_map l _ (e1 (·.n) rfl)], by rw [need_map l _ (e1 (·.n) rfl)]; exact h.rm, by rw [e1 (·.id) rfl]; exact h.ids,
    rep_all (h.lst x hx) h.lst, h.l0, rep_all (h.sz x hx) h.sz, rep_all (h.A x hx) h.A, rep_two (P := fun y z => np g.act y + y.n + 4 ≤ np g.act z ∨ np g.act z + z.n + 4 ≤ np g.act y) (fun _ _ h => h.symm) (fun y hy hn => h.B x hx y hy (fun e => hn e.symm)) h.B,
    fun ha => rep_all (h.C ha x hx) (h.C ha),
    fun ha y hy z hz h1 h2 h3 => rep_two (x' := { x with cp := x.cp + 1 }) (P := fun y z => y.mv = false → z.mv = false → y.pl + y.n + 4 ≤ z.pl ∨ z.pl + z.n + 4 ≤ y.pl) (fun _ _ h a b => (h b a).symm) (fun y hy hn a b => h.D ha x hx y hy a b (fun e => hn e.symm)) (fun y hy z hz hn a b => h.D ha y hy z hz a b hn) y hy z hz h3 h1 h2,
    fun _ => rep_all (fun _ => ⟨by show 0 ≤ x.cp + 1; omega, by show x.cp + 1 ≤ x.n; omega, hE.2.2⟩) (h.E ha), fun ha => ⟨(h.Lf ha).1, rep_all ((h.Lf ha).2.1 x hx) (h.Lf ha).2.1, (h.Lf ha).2.2⟩, fun y hy j j0 j1 => ?_, fun _ y hy hym j j0 j1 => ?_⟩
  · have main : ∀ y ∈ l, j < y.n → (ws.set (x.to + 4 + x.cp).toNat (ws.getD (x.pl + 4 + x.cp).toNat 0)).getD (y.pl + 4 + j).toNat 0 = y.vs.getD j.toNat 0 := fun y hy j1 => by
      have := h.copy_main ha hx hm hy
      have := h.inn hy
      rw [rd _ (by omega), if_neg (by omega)]
      exact h.W y hy j j0 j1
    rcases mem_rep hy with rfl | ⟨hy, hne⟩
    · exact main x hx j1
    · exact main y hy j1
  · rcases mem_rep hy with rfl | ⟨hy, hne⟩
    · dsimp only at j1 ⊢
      rw [rd _ (by omega)]
      by_cases e : j = x.cp
      · subst e; rw [if_pos rfl]
      · rw [if_neg (by omega)]
        exact h.X ha x hx hm j j0 (by omega)
    · have hE2 := h.E ha y hy hym
      have := h.copy_copy ha hx hm hy hym (fun e => hne e.symm)
      have := h.inn2 ha hy hym
      rw [rd _ (by omega), if_neg (by omega)]
      exact h.X ha y hy hym j j0 j1

/-- All its words are copied: it has moved. -/
theorem SInv.move (h : SInv g l ws) (ha : g.act = true) (hx : x ∈ l) (hm : x.mv = false) (hc : ¬ x.cp < x.n) {r : List Int} (hl : g.left = x.id :: r) :
    SInv { g with left := r } (rep l { x with pl := x.to, mv := true }) ws := by
  have hsz := h.sz x hx
  have hE := h.E ha x hx hm
  have hd := h.Lf ha
  rw [hl] at hd
  have nd := List.nodup_cons.1 hd.1
  have e1 : ∀ {β : Type} (f : Arr → β), f { x with pl := x.to, mv := true } = f x → (rep l { x with pl := x.to, mv := true }).map f = l.map f := fun f hf => rep_map f fun y hy e => by
    rw [hf, h.same hy hx e]
  have enp : np g.act { x with pl := x.to, mv := true } = np g.act x := by rw [(np_t g.act _).2.1 rfl, (np_t g.act x).2.2 ha hm]
  refine ⟨h.geo, h.ow, by rw [need_map l _ (e1 (·.n) rfl)]; exact h.tp, by rw [need_map l _ (e1 (·.n) rfl)]; exact h.rm, by rw [e1 (·.id) rfl]; exact h.ids,
    rep_all (h.lst x hx) h.lst, h.l0, rep_all (h.sz x hx) h.sz, rep_all (by rw [enp]; exact h.A x hx) h.A,
    rep_two (P := fun y z => np g.act y + y.n + 4 ≤ np g.act z ∨ np g.act z + z.n + 4 ≤ np g.act y) (fun _ _ h => h.symm) (fun y hy hn => by rw [enp]; exact h.B x hx y hy (fun e => hn e.symm)) h.B,
    fun ha => rep_all (fun h => by cases h) (h.C ha),
    fun ha y hy z hz h1 h2 h3 => rep_two (x' := { x with pl := x.to, mv := true }) (P := fun y z => y.mv = false → z.mv = false → y.pl + y.n + 4 ≤ z.pl ∨ z.pl + z.n + 4 ≤ y.pl) (fun _ _ h a b => (h b a).symm) (fun y hy hn a b => by cases a) (fun y hy z hz hn a b => h.D ha y hy z hz a b hn) y hy z hz h3 h1 h2,
    fun _ y hy hym => ?_, fun _ => ⟨nd.2, fun y hy hym => ?_, fun k hk => hd.2.2 k (List.mem_cons_of_mem _ hk)⟩, fun y hy j j0 j1 => ?_, fun _ y hy hym j j0 j1 => ?_⟩
  · rcases mem_rep hy with rfl | ⟨hy, hne⟩
    · cases hym
    · have h1 := h.E ha y hy hym
      rw [hl] at h1
      refine ⟨h1.1, h1.2.1, ?_⟩
      rcases List.mem_cons.1 h1.2.2 with e | e
      · exact absurd e hne
      · exact e
  · rcases mem_rep hy with rfl | ⟨hy, hne⟩
    · exact absurd hym nd.1
    · exact hd.2.1 y hy (List.mem_cons_of_mem _ hym)
  · rcases mem_rep hy with rfl | ⟨hy, hne⟩
    · exact h.X ha x hx hm j j0 (by dsimp only at j1; omega)
    · exact h.W y hy j j0 j1
  · rcases mem_rep hy with rfl | ⟨hy, hne⟩
    · cases hym
    · exact h.X ha y hy hym j j0 j1

/-- A cycle is over. -/
theorem SInv.finish (h : SInv g l ws) (ha : g.act = true) (hl : g.left = []) : SInv { g with act := false, other := !g.other, owed := g.late, late := 0 } l ws := by
  have hmv : ∀ x ∈ l, x.mv = true := fun x hx => by
    cases hm : x.mv with
    | true => rfl
    | false =>
      have := (h.E ha x hx hm).2.2
      rw [hl] at this
      simp at this
  have enp : ∀ x ∈ l, np false x = np g.act x := fun x hx => by rw [(np_t false x).1 rfl, (np_t g.act x).2.1 (hmv x hx)]
  have ho := h.ow
  have hc : cur g = !g.other := (hb_two g true).2.2.1 ha
  have hr := h.rm
  refine ⟨h.geo, ⟨Int.le_refl 0, ho.1⟩, ?_, by show need l + g.late ≤ g.half; omega, h.ids, h.lst, h.l0, h.sz, fun x hx => ?_, fun x hx y hy hn => ?_, (fun h => by cases h), (fun h => by cases h), (fun h => by cases h), (fun h => by cases h), h.W, (fun h => by cases h)⟩
  · have := h.tp
    rw [if_pos ha] at this
    exact this
  · have h1 := h.A x hx
    rw [hc] at h1
    show hb g (!g.other) ≤ np false x ∧ np false x + x.n + 4 ≤ hb g (!g.other) + g.top
    rw [enp x hx]
    exact h1
  · show np false x + x.n + 4 ≤ np false y ∨ np false y + y.n + 4 ≤ np false x
    rw [enp x hx, enp y hy]
    exact h.B x hx y hy hn

/-- An array is let go. -/
theorem SInv.drop (h : SInv g l ws) (hx : x ∈ l) :
    SInv { g with owed := g.owed + (x.n + 4), late := if g.act = true then g.late + (x.n + 4) else g.late } (l.filter fun y => !(x.id == y.id)) ws := by
  have hn := need_filter l hx h.ids
  have hsz := h.sz x hx
  have ho := h.ow
  have sub : ∀ y ∈ l.filter (fun y => !(x.id == y.id)), y ∈ l := fun y hy => (List.mem_filter.1 hy).1
  have htp := h.tp
  have hrm := h.rm
  refine ⟨h.geo, ?_, ?_, ?_, h.ids.sublist (List.Sublist.map _ List.filter_sublist), fun y hy => h.lst y (sub y hy), h.l0, fun y hy => h.sz y (sub y hy), fun y hy => h.A y (sub y hy), fun y hy z hz => h.B y (sub y hy) z (sub z hz),
    fun ha y hy => h.C ha y (sub y hy), fun ha y hy z hz => h.D ha y (sub y hy) z (sub z hz), fun ha y hy => h.E ha y (sub y hy), fun ha => ⟨(h.Lf ha).1, fun y hy => (h.Lf ha).2.1 y (sub y hy), (h.Lf ha).2.2⟩, fun y hy => h.W y (sub y hy), fun ha y hy => h.X ha y (sub y hy)⟩
  · cases hact : g.act <;> simp [hact] <;> omega
  · dsimp only
    rw [hn]
    cases hact : g.act <;> rw [hact] at htp <;> simp at htp ⊢ <;> omega
  · dsimp only
    rw [hn]; omega

/-- An array is made; q: where. -/
theorem SInv.make (h : SInv g l ws) {ws' : List Int} {n : Int} {b st : Nat} (h0 : 0 ≤ n) (h1 : n ≤ 1000) (hr : n + 4 + need l + g.owed ≤ g.half)
    (hl : ws'.length = ws.length) (hz : ∀ i : Int, 0 ≤ i → i < n → ws'.getD (hb g (cur g) + g.top + 4 + i).toNat 0 = 0)
    (hs : ∀ q : Int, 0 ≤ q → q < hb g (cur g) + g.top + 4 ∨ hb g (cur g) + g.top + 4 + n ≤ q → ws'.getD q.toNat 0 = ws.getD q.toNat 0) :
    SInv { g with last := g.last + 1, top := g.top + (n + 4) } (l ++ [⟨g.last + 1, b, st, n, hb g (cur g) + g.top, 0, 0, g.act, List.replicate n.toNat 0⟩]) ws' := by
  have htl := h.top_le
  have hg := h.geo
  have enp : np g.act ⟨g.last + 1, b, st, n, hb g (cur g) + g.top, 0, 0, g.act, List.replicate n.toNat 0⟩ = hb g (cur g) + g.top := by
    cases hact : g.act with
    | false => exact (np_t _ _).1 rfl
    | true => exact (np_t _ _).2.1 rfl
  have one : ∀ {P : Arr → Prop}, (∀ y ∈ l, P y) → P ⟨g.last + 1, b, st, n, hb g (cur g) + g.top, 0, 0, g.act, List.replicate n.toNat 0⟩ → ∀ y ∈ l ++ [⟨g.last + 1, b, st, n, hb g (cur g) + g.top, 0, 0, g.act, List.replicate n.toNat 0⟩], P y := fun hp hq y hy => by
    rcases List.mem_append.1 hy with hy | hy
    · exact hp y hy
    · simp at hy; subst hy; exact hq
  have hnew : ∀ y ∈ l, y.id ≠ g.last + 1 := fun y hy e => by have := h.lst y hy; omega
  have two : ∀ {P : Arr → Arr → Prop}, (∀ y z, P y z → P z y) → (∀ y ∈ l, ∀ z ∈ l, y.id ≠ z.id → P y z) → (∀ y ∈ l, P y ⟨g.last + 1, b, st, n, hb g (cur g) + g.top, 0, 0, g.act, List.replicate n.toNat 0⟩) →
      ∀ y ∈ l ++ [⟨g.last + 1, b, st, n, hb g (cur g) + g.top, 0, 0, g.act, List.replicate n.toNat 0⟩], ∀ z ∈ l ++ [⟨g.last + 1, b, st, n, hb g (cur g) + g.top, 0, 0, g.act, List.replicate n.toNat 0⟩], y.id ≠ z.id → P y z := fun hs hp hq y hy z hz hn => by
    rcases List.mem_append.1 hy with hy | hy
    · rcases List.mem_append.1 hz with hz | hz
      · exact hp y hy z hz hn
      · simp at hz; subst hz; exact hq y hy
    · rcases List.mem_append.1 hz with hz | hz
      · simp at hy; subst hy; exact hs _ _ (hq z hz)
      · simp at hy hz; subst hy; subst hz; exact absurd rfl hn
  have hneed : need (l ++ [⟨g.last + 1, b, st, n, hb g (cur g) + g.top, 0, 0, g.act, List.replicate n.toNat 0⟩]) = need l + (n + 4) := by rw [need_app]; simp [need]
  have htp := h.tp
  have bb := hb_two g (cur g)
  have hbc : 0 ≤ hb g (cur g) ∧ hb g (cur g) + g.half ≤ ws.length := by
    rcases bb.2.2.2.2 with e | e <;> rw [e] <;> simp [hb] <;> omega
  -- the words of the arrays that are there are left alone
  have keepA : ∀ y ∈ l, y.pl + y.n + 4 ≤ hb g (cur g) + g.top ∨ hb g (cur g) + g.top + n + 4 ≤ y.pl := fun y hy => by
    by_cases hm : g.act = true ∧ y.mv = false
    · have h2 := h.old hm.1 hy hm.2
      rw [bb.2.2.1 hm.1] at hbc ⊢
      have ho := h.ow
      rw [if_pos hm.1] at htp
      exact hb_far g (by omega) g.other (c := y.n) (d := n) ⟨h2.1, h2.2.1⟩ ⟨by omega, by omega⟩
    · have h2 := h.A y hy
      have : np g.act y = y.pl := by unfold np; rw [if_neg hm]
      rw [this] at h2
      omega
  have keepX : g.act = true → ∀ y ∈ l, y.mv = false → y.to + y.n + 4 ≤ hb g (cur g) + g.top := fun ha y hy hm => by
    have h2 := h.A y hy
    rw [(np_t _ y).2.2 ha hm] at h2
    omega
  refine ⟨by simpa [hl] using hg, h.ow, ?_, ?_, ?_, one (fun y hy => by have := h.lst y hy; show 1 ≤ y.id ∧ y.id ≤ g.last + 1; omega) ⟨by show 1 ≤ g.last + 1; have := h.l0; omega, Int.le_refl _⟩, by show 0 ≤ g.last + 1; have := h.l0; omega,
    one h.sz ⟨h0, h1, by simp; omega⟩, one (fun y hy => ?_) ?_, two (P := fun y z => np g.act y + y.n + 4 ≤ np g.act z ∨ np g.act z + z.n + 4 ≤ np g.act y) (fun _ _ h => h.symm) h.B (fun y hy => ?_), fun ha => one (h.C ha) (fun hm => by dsimp only at hm; rw [ha] at hm; cases hm),
    fun ha y hy z hz h1 h2 h3 => two (P := fun y z => y.mv = false → z.mv = false → y.pl + y.n + 4 ≤ z.pl ∨ z.pl + z.n + 4 ≤ y.pl) (fun _ _ h a b => (h b a).symm) (fun y hy z hz hn a b => h.D ha y hy z hz a b hn) (fun y hy a b => by dsimp only at b; rw [ha] at b; cases b) y hy z hz h3 h1 h2,
    fun ha => one (h.E ha) (fun hm => by dsimp only at hm; rw [ha] at hm; cases hm), fun ha => ⟨(h.Lf ha).1, one (h.Lf ha).2.1 (fun hm => ?_), fun k hk => by have := (h.Lf ha).2.2 k hk; show k ≤ g.last + 1; omega⟩, one (fun y hy j j0 j1 => ?_) (fun j j0 j1 => ?_), fun ha => one (fun y hy hm j j0 j1 => ?_) (fun hm => by dsimp only at hm; rw [ha] at hm; cases hm)⟩
  · dsimp only; rw [hneed]; cases hact : g.act <;> rw [hact] at htp <;> simp at htp ⊢ <;> omega
  · rw [hneed]; show need l + (n + 4) + g.owed ≤ g.half; omega
  · rw [List.map_append, List.nodup_append]
    refine ⟨h.ids, by simp, fun k hk m hm e => ?_⟩
    simp at hm
    obtain ⟨y, hy, e2⟩ := List.mem_map.1 hk
    exact hnew y hy (by rw [e2, e, hm])
  · have := h.A y hy
    show hb g (cur g) ≤ np g.act y ∧ np g.act y + y.n + 4 ≤ hb g (cur g) + (g.top + (n + 4))
    omega
  · show hb g (cur g) ≤ np g.act _ ∧ np g.act _ + n + 4 ≤ hb g (cur g) + (g.top + (n + 4))
    rw [enp]; omega
  · have := h.A y hy
    rw [enp]
    exact .inl (by omega)
  · have := (h.Lf ha).2.2 _ hm
    dsimp only at this
    omega
  · have h2 := keepA y hy
    have h3 := h.inn hy
    rw [hs _ (by omega) (by omega)]
    exact h.W y hy j j0 j1
  · dsimp only at j1 ⊢
    rw [hz j j0 j1, List.getD_eq_getElem?_getD, List.getElem?_replicate, if_pos (by omega)]
    rfl
  · have h2 := keepX ha y hy hm
    have h3 := h.inn2 ha hy hm
    have h4 := h.E ha y hy hm
    rw [hs _ (by omega) (by omega)]
    exact h.X ha y hy hm j j0 j1
end
end Go.Proofs.Ytfpghcdjfiggiaa.V
