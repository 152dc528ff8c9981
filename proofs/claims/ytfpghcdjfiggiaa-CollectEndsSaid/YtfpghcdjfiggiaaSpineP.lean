/- Arrays that move: what they are, in plain words. No condition. -/
import Derived.Test.YtfpghcdjfiggiaaBase
namespace Go.Proofs.Ytfpghcdjfiggiaa.V
open Go Go.RowKit

/-- An array: its record, and what must be in it (vs). -/
structure Arr where
  id : Int
  b : Nat
  st : Nat
  n : Int
  pl : Int
  to : Int
  cp : Int
  mv : Bool
  vs : List Int

structure SG where
  base : Int
  half : Int
  other : Bool
  act : Bool
  top : Int
  last : Int
  owed : Int
  late : Int
  left : List Int

def hb (g : SG) (o : Bool) : Int := if o = true then g.base + g.half else g.base
def cur (g : SG) : Bool := if g.act = true then !g.other else g.other
def np (act : Bool) (x : Arr) : Int := if act = true ∧ x.mv = false then x.to else x.pl
def need : List Arr → Int
  | [] => 0
  | x :: l => x.n + 4 + need l
def rep (l : List Arr) (x : Arr) : List Arr := l.map fun y => if y.id = x.id then x else y

theorem mem_rep {l : List Arr} {x z : Arr} (h : z ∈ rep l x) : z = x ∨ (z ∈ l ∧ z.id ≠ x.id) := by
  obtain ⟨y, hy, e⟩ := List.mem_map.1 h
  split at e
  · exact .inl e.symm
  · subst e; exact .inr ⟨hy, by assumption⟩
theorem rep_mem {l : List Arr} {x z : Arr} (h : z ∈ l) (hn : z.id ≠ x.id) : z ∈ rep l x := List.mem_map.2 ⟨z, h, if_neg hn⟩
theorem rep_self {l : List Arr} {x z : Arr} (h : z ∈ l) (hn : z.id = x.id) : x ∈ rep l x := List.mem_map.2 ⟨z, h, if_pos hn⟩
theorem rep_map {β : Type} (f : Arr → β) {l : List Arr} {x : Arr} (h : ∀ y ∈ l, y.id = x.id → f y = f x) : (rep l x).map f = l.map f := by
  unfold rep
  rw [List.map_map]
  refine List.map_congr_left fun y hy => ?_
  simp only [Function.comp]
  split
  · exact (h y hy (by assumption)).symm
  · rfl
theorem need_map (l : List Arr) : ∀ l' : List Arr, l'.map (·.n) = l.map (·.n) → need l' = need l := by
  induction l with
  | nil => intro l' h; simp at h; subst h; rfl
  | cons x l ih =>
    intro l' h
    cases l' with
    | nil => simp at h
    | cons y l' => simp at h; simp [need, ih l' h.2, h.1]
theorem need_app (l l' : List Arr) : need (l ++ l') = need l + need l' := by
  induction l with
  | nil => simp [need]
  | cons x l ih => simp [need, ih]; omega
theorem need_filter (l : List Arr) {x : Arr} (hx : x ∈ l) (nd : (l.map (·.id)).Nodup) : need (l.filter fun y => !(x.id == y.id)) = need l - (x.n + 4) := by
  induction l with
  | nil => simp at hx
  | cons y l ih =>
    rw [List.map_cons, List.nodup_cons] at nd
    rcases List.mem_cons.1 hx with e | hx'
    · subst e
      have : l.filter (fun y => !(x.id == y.id)) = l := by
        rw [List.filter_eq_self]
        intro z hz
        have : x.id ≠ z.id := fun e => nd.1 (List.mem_map.2 ⟨z, hz, e.symm⟩)
        simp [this]
      simp [this, need]; omega
    · have hne : x.id ≠ y.id := fun e => nd.1 (List.mem_map.2 ⟨x, hx', e⟩)
      simp [hne, need, ih hx' nd.2]; omega
theorem need_pos (l : List Arr) (h : ∀ x ∈ l, 0 ≤ x.n) : 0 ≤ need l := by
  induction l with
  | nil => simp [need]
  | cons x l ih => have := h x (by simp); have := ih (fun y hy => h y (by simp [hy])); simp [need]; omega
theorem need_le (l : List Arr) (h : ∀ x ∈ l, 0 ≤ x.n) {x : Arr} (hx : x ∈ l) : x.n + 4 ≤ need l := by
  induction l with
  | nil => simp at hx
  | cons y l ih =>
    have h0 := need_pos l (fun z hz => h z (by simp [hz]))
    have hy := h y (by simp)
    rcases List.mem_cons.1 hx with e | hx
    · subst e; simp [need]; omega
    · have := ih (fun z hz => h z (by simp [hz])) hx; simp [need]; omega

structure SInv (g : SG) (l : List Arr) (ws : List Int) : Prop where
  geo : 0 ≤ g.base ∧ 16 ≤ g.half ∧ g.half ≤ 32768 ∧ g.base + 2 * g.half ≤ ws.length ∧ ws.length ≤ 65536
  ow : 0 ≤ g.late ∧ g.late ≤ g.owed
  tp : g.top = need l + (if g.act = true then g.late else g.owed)
  rm : need l + g.owed ≤ g.half
  ids : (l.map (·.id)).Nodup
  lst : ∀ x ∈ l, 1 ≤ x.id ∧ x.id ≤ g.last
  l0 : 0 ≤ g.last
  sz : ∀ x ∈ l, 0 ≤ x.n ∧ x.n ≤ 1000 ∧ (x.vs.length : Int) = x.n
  A : ∀ x ∈ l, hb g (cur g) ≤ np g.act x ∧ np g.act x + x.n + 4 ≤ hb g (cur g) + g.top
  B : ∀ x ∈ l, ∀ y ∈ l, x.id ≠ y.id → np g.act x + x.n + 4 ≤ np g.act y ∨ np g.act y + y.n + 4 ≤ np g.act x
  C : g.act = true → ∀ x ∈ l, x.mv = false → hb g g.other ≤ x.pl ∧ x.pl + x.n + 4 ≤ hb g g.other + g.half
  D : g.act = true → ∀ x ∈ l, ∀ y ∈ l, x.mv = false → y.mv = false → x.id ≠ y.id → x.pl + x.n + 4 ≤ y.pl ∨ y.pl + y.n + 4 ≤ x.pl
  E : g.act = true → ∀ x ∈ l, x.mv = false → 0 ≤ x.cp ∧ x.cp ≤ x.n ∧ x.id ∈ g.left
  Lf : g.act = true → g.left.Nodup ∧ (∀ x ∈ l, x.id ∈ g.left → x.mv = false) ∧ ∀ k ∈ g.left, k ≤ g.last
  W : ∀ x ∈ l, ∀ i : Int, 0 ≤ i → i < x.n → ws.getD (x.pl + 4 + i).toNat 0 = x.vs.getD i.toNat 0
  X : g.act = true → ∀ x ∈ l, x.mv = false → ∀ i : Int, 0 ≤ i → i < x.cp → ws.getD (x.to + 4 + i).toNat 0 = x.vs.getD i.toNat 0

section
variable {g : SG} {l : List Arr} {ws : List Int} {x y : Arr}

theorem SInv.same (h : SInv g l ws) (hx : x ∈ l) (hy : y ∈ l) (e : x.id = y.id) : x = y := by
  have nd := h.ids
  clear h
  induction l with
  | nil => simp at hx
  | cons z l ih =>
    rw [List.map_cons, List.nodup_cons] at nd
    rcases List.mem_cons.1 hx with e1 | h1
    · rcases List.mem_cons.1 hy with e2 | h2
      · rw [e1, e2]
      · subst e1; exact absurd (List.mem_map.2 ⟨y, h2, e.symm⟩) nd.1
    · rcases List.mem_cons.1 hy with e2 | h2
      · subst e2; exact absurd (List.mem_map.2 ⟨x, h1, e⟩) nd.1
      · exact ih h1 h2 nd.2

theorem SInv.top_le (h : SInv g l ws) : 0 ≤ need l ∧ 0 ≤ g.top ∧ g.top ≤ g.half := by
  have h1 := need_pos l (fun x hx => (h.sz x hx).1)
  have h2 := h.tp
  have h3 := h.ow
  have h4 := h.rm
  split at h2 <;> omega

theorem hb_two (g : SG) (o : Bool) : hb g false = g.base ∧ hb g true = g.base + g.half ∧ (g.act = true → cur g = !g.other) ∧ (g.act = false → cur g = g.other) ∧ (o = true ∨ o = false) := by
  refine ⟨rfl, rfl, fun h => by unfold cur; rw [if_pos h], fun h => by unfold cur; rw [h]; rfl, by cases o <;> simp⟩

theorem np_t (act : Bool) (x : Arr) : (act = false → np act x = x.pl) ∧ (x.mv = true → np act x = x.pl) ∧ (act = true → x.mv = false → np act x = x.to) := by
  refine ⟨fun h => by unfold np; rw [h]; simp, fun h => by unfold np; rw [h]; simp, fun h1 h2 => by unfold np; simp [h1, h2]⟩

/-- Where an array's words are: both halves. -/
theorem SInv.old (h : SInv g l ws) (ha : g.act = true) (hx : x ∈ l) (hm : x.mv = false) : hb g g.other ≤ x.pl ∧ x.pl + x.n + 4 ≤ hb g g.other + g.half ∧ hb g (!g.other) ≤ x.to ∧ x.to + x.n + 4 ≤ hb g (!g.other) + g.half := by
  have h1 := h.C ha x hx hm
  have h2 := h.A x hx
  have h3 := h.top_le
  rw [(np_t _ x).2.2 ha hm, (hb_two g true).2.2.1 ha] at h2
  omega
theorem SInv.new (h : SInv g l ws) (hx : x ∈ l) (hm : g.act = true → x.mv = true) : hb g (cur g) ≤ x.pl ∧ x.pl + x.n + 4 ≤ hb g (cur g) + g.half := by
  have h2 := h.A x hx
  have h3 := h.top_le
  have : np g.act x = x.pl := by
    cases ha : g.act with
    | false => exact (np_t _ x).1 rfl
    | true => exact (np_t _ x).2.1 (hm ha)
  rw [this] at h2
  omega
theorem hb_far (g : SG) (hh : 0 ≤ g.half) (o : Bool) {p q c d : Int} (h1 : hb g o ≤ p ∧ p + c + 4 ≤ hb g o + g.half) (h2 : hb g (!o) ≤ q ∧ q + d + 4 ≤ hb g (!o) + g.half) : p + c + 4 ≤ q ∨ q + d + 4 ≤ p := by
  cases o <;> simp [hb] at h1 h2 <;> omega

theorem SInv.main_main (h : SInv g l ws) (hx : x ∈ l) (hy : y ∈ l) (hn : x.id ≠ y.id) : x.pl + x.n + 4 ≤ y.pl ∨ y.pl + y.n + 4 ≤ x.pl := by
  have hg := h.geo
  cases ha : g.act with
  | false =>
    have := h.B x hx y hy hn
    rw [(np_t _ x).1 ha, (np_t _ y).1 ha] at this
    exact this
  | true =>
    have hc := (hb_two g true).2.2.1 ha
    cases hxm : x.mv with
    | false =>
      cases hym : y.mv with
      | false => exact h.D ha x hx y hy hxm hym hn
      | true =>
        have h1 := h.old ha hx hxm
        have h2 := h.new hy (fun _ => hym)
        rw [hc] at h2
        exact hb_far g (by omega) g.other ⟨h1.1, h1.2.1⟩ h2
    | true =>
      cases hym : y.mv with
      | false =>
        have h1 := h.old ha hy hym
        have h2 := h.new hx (fun _ => hxm)
        rw [hc] at h2
        exact (hb_far g (by omega) g.other ⟨h1.1, h1.2.1⟩ h2).symm
      | true =>
        have := h.B x hx y hy hn
        rw [(np_t _ x).2.1 hxm, (np_t _ y).2.1 hym] at this
        exact this

theorem SInv.copy_main (h : SInv g l ws) (ha : g.act = true) (hx : x ∈ l) (hxm : x.mv = false) (hy : y ∈ l) : x.to + x.n + 4 ≤ y.pl ∨ y.pl + y.n + 4 ≤ x.to := by
  have hg := h.geo
  have hc := (hb_two g true).2.2.1 ha
  have h1 := h.old ha hx hxm
  cases hym : y.mv with
  | false =>
    have h2 := h.old ha hy hym
    exact (hb_far g (by omega) g.other ⟨h2.1, h2.2.1⟩ ⟨h1.2.2.1, h1.2.2.2⟩).symm
  | true =>
    have hn : x.id ≠ y.id := fun e => by rw [h.same hx hy e, hym] at hxm; cases hxm
    have := h.B x hx y hy hn
    rw [(np_t _ x).2.2 ha hxm, (np_t _ y).2.1 hym] at this
    exact this

theorem SInv.copy_copy (h : SInv g l ws) (ha : g.act = true) (hx : x ∈ l) (hxm : x.mv = false) (hy : y ∈ l) (hym : y.mv = false) (hn : x.id ≠ y.id) : x.to + x.n + 4 ≤ y.to ∨ y.to + y.n + 4 ≤ x.to := by
  have := h.B x hx y hy hn
  rw [(np_t _ x).2.2 ha hxm, (np_t _ y).2.2 ha hym] at this
  exact this

/-- An array's words lie in the arena. -/
theorem SInv.inn (h : SInv g l ws) (hx : x ∈ l) : 0 ≤ x.pl ∧ x.pl + x.n + 4 ≤ ws.length := by
  have hg := h.geo
  have hs := h.sz x hx
  cases ha : g.act with
  | false =>
    have h2 := h.new hx (fun q => by rw [ha] at q; cases q)
    have := hb_two g (cur g)
    cases hc : cur g <;> rw [hc] at h2 <;> simp [hb] at h2 <;> omega
  | true =>
    cases hxm : x.mv with
    | false =>
      have h2 := h.old ha hx hxm
      cases hc : g.other <;> rw [hc] at h2 <;> simp [hb] at h2 <;> omega
    | true =>
      have h2 := h.new hx (fun _ => hxm)
      cases hc : cur g <;> rw [hc] at h2 <;> simp [hb] at h2 <;> omega
theorem SInv.inn2 (h : SInv g l ws) (ha : g.act = true) (hx : x ∈ l) (hxm : x.mv = false) : 0 ≤ x.to ∧ x.to + x.n + 4 ≤ ws.length := by
  have hg := h.geo
  have hs := h.sz x hx
  have h2 := h.old ha hx hxm
  cases hc : g.other <;> rw [hc] at h2 <;> simp [hb] at h2 <;> omega

theorem getZ_set (ws : List Int) {p q : Int} (v : Int) (hp : 0 ≤ p) (hp2 : p < ws.length) (hq : 0 ≤ q) : (ws.set p.toNat v).getD q.toNat 0 = if p = q then v else ws.getD q.toNat 0 := by
  rw [getI_set' _ _ _ _ (by omega)]
  by_cases e : p = q
  · subst e; simp
  · rw [if_neg e, if_neg (by omega)]

theorem vs_set (vs : List Int) {i j : Int} (v : Int) (hi : 0 ≤ i) (hi2 : i < vs.length) (hj : 0 ≤ j) : (vs.set i.toNat v).getD j.toNat 0 = if i = j then v else vs.getD j.toNat 0 := getZ_set vs v hi hi2 hj

/-- A word is written in both places, if it was copied. -/
theorem SInv.set (h : SInv g l ws) (hx : x ∈ l) {i : Int} (h0 : 0 ≤ i) (h1 : i < x.n) (v : Int) {ws2 : List Int}
    (h2 : (g.act = true ∧ x.mv = false ∧ i < x.cp ∧ ws2 = ws.set (x.to + 4 + i).toNat v) ∨ (¬ (g.act = true ∧ x.mv = false ∧ i < x.cp) ∧ ws2 = ws)) :
    SInv g (rep l { x with vs := x.vs.set i.toNat v }) (ws2.set (x.pl + 4 + i).toNat v) := by
  have hsz := h.sz x hx
  have hin := h.inn hx
  have e1 : ∀ {β : Type} (f : Arr → β), f { x with vs := x.vs.set i.toNat v } = f x → (rep l { x with vs := x.vs.set i.toNat v }).map f = l.map f := fun f hf => rep_map f fun y hy e => by
    rw [hf, h.same hy hx e]
  have hl2 : ws2.length = ws.length := by
    rcases h2 with ⟨_, _, _, e⟩ | ⟨_, e⟩ <;> simp [e]
  have all : ∀ {P : Arr → Prop}, P x → (∀ y ∈ l, P y) → (P x → P { x with vs := x.vs.set i.toNat v }) → ∀ y ∈ rep l { x with vs := x.vs.set i.toNat v }, P y := fun hp hq hr y hy => by
    rcases mem_rep hy with rfl | ⟨hy, _⟩
    · exact hr hp
    · exact hq y hy
  have tw : ∀ {P : Arr → Arr → Prop}, (∀ y ∈ l, ∀ z ∈ l, P y z) → (∀ y, P y x → P y { x with vs := x.vs.set i.toNat v }) → (∀ y, P x y → P { x with vs := x.vs.set i.toNat v } y) → ∀ y ∈ rep l { x with vs := x.vs.set i.toNat v }, ∀ z ∈ rep l { x with vs := x.vs.set i.toNat v }, P y z := fun hp hq hr y hy z hz => by
    rcases mem_rep hy with rfl | ⟨hy, _⟩
    · rcases mem_rep hz with rfl | ⟨hz, _⟩
      · exact hr _ (hq _ (hp x hx x hx))
      · exact hr _ (hp x hx z hz)
    · rcases mem_rep hz with rfl | ⟨hz, _⟩
      · exact hq _ (hp y hy x hx)
      · exact hp y hy z hz
  -- what the words are
  have rd : ∀ q : Int, 0 ≤ q → (ws2.set (x.pl + 4 + i).toNat v).getD q.toNat 0 = if x.pl + 4 + i = q then v else if (g.act = true ∧ x.mv = false ∧ i < x.cp) ∧ x.to + 4 + i = q then v else ws.getD q.toNat 0 := by
    intro q hq
    rw [getZ_set _ _ (by omega) (by omega) hq]
    rcases h2 with ⟨p1, p2, p3, e⟩ | ⟨p, e⟩
    · have := h.inn2 p1 hx p2
      have := h.E p1 x hx p2
      rw [e, getZ_set _ _ (by omega) (by omega) hq]
      simp only [p1, p2, p3, true_and]
    · rw [e]
      simp only [p, false_and, if_false]
  refine ⟨by simpa [hl2] using h.geo, h.ow, by rw [h.tp, need_map l _ (e1 (·.n) rfl)], by rw [need_map l _ (e1 (·.n) rfl)]; exact h.rm, by rw [e1 (·.id) rfl]; exact h.ids,
    all (h.lst x hx) h.lst id, h.l0, all (h.sz x hx) h.sz (fun h => ⟨h.1, h.2.1, by simpa using h.2.2⟩), all (h.A x hx) h.A id, tw h.B (fun _ h => h) (fun _ h => h), fun ha => all (h.C ha x hx) (h.C ha) id, fun ha => tw (h.D ha) (fun _ h => h) (fun _ h => h),
    fun ha => all (h.E ha x hx) (h.E ha) id, fun ha => ⟨(h.Lf ha).1, all ((h.Lf ha).2.1 x hx) (h.Lf ha).2.1 id, (h.Lf ha).2.2⟩, fun y hy j j0 j1 => ?_, fun ha y hy hm j j0 j1 => ?_⟩
  · rcases mem_rep hy with rfl | ⟨hy, hne⟩
    · dsimp only at j1 ⊢
      rw [rd _ (by omega), vs_set _ _ h0 (by omega) j0]
      by_cases e : i = j
      · subst e; rw [if_pos rfl, if_pos rfl]
      · rw [if_neg (by omega), if_neg e, if_neg (fun p => ?_)]
        · exact h.W x hx j j0 j1
        · have := h.copy_main p.1.1 hx p.1.2.1 hx
          omega
    · have hiny := h.inn hy
      have hmm := h.main_main hx hy (fun e => hne e.symm)
      rw [rd _ (by omega), if_neg (by omega), if_neg (fun p => ?_)]
      · exact h.W y hy j j0 j1
      · have := h.copy_main p.1.1 hx p.1.2.1 hy
        omega
  · rcases mem_rep hy with rfl | ⟨hy, hne⟩
    · dsimp only at j1 hm ⊢
      have hcp := h.E ha x hx hm
      have hcm := h.copy_main ha hx hm hx
      have hi2 := h.inn2 ha hx hm
      rw [rd _ (by omega), vs_set _ _ h0 (by omega) j0, if_neg (by omega)]
      by_cases e : i = j
      · subst e; rw [if_pos ⟨⟨ha, hm, j1⟩, rfl⟩, if_pos rfl]
      · rw [if_neg e, if_neg (by omega)]
        exact h.X ha x hx hm j j0 j1
    · have hcp := h.E ha y hy hm
      have hcm := h.copy_main ha hy hm hx
      have hi2 := h.inn2 ha hy hm
      rw [rd _ (by omega), if_neg (by omega), if_neg (fun p => ?_)]
      · exact h.X ha y hy hm j j0 j1
      · have := h.copy_copy ha hx p.1.2.1 hy hm (fun e => hne e.symm)
        have := (h.E ha x hx p.1.2.1)
        omega
end
end Go.Proofs.Ytfpghcdjfiggiaa.V
