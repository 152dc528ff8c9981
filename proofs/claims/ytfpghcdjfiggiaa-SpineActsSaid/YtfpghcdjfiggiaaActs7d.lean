/- The law SpineActs: a call. No condition. -/
import Derived.Test.YtfpghcdjfiggiaaActs7c
namespace Go.Proofs.Ytfpghcdjfiggiaa.V
open Go Go.RowKit

section
variable {W w w' : World} {F F' S : List Nat} {s ab y : Nat} {g g' : SG} {l l' : List Arr} {ss ss' : List Int} {aa : Option Addr} {ac : Nat} {rs : List PR} {beg n : Int} {und : Bool}

theorem set_map {r r' : PR} : ∀ {rs : List PR} {i : Nat}, (rs.map (·.id)).Nodup → rs[i]? = some r → rs.set i r' = rs.map fun q => if q.id = r.id then r' else q
  | [], i, _, h => by simp at h
  | x :: rs, 0, nd, h => by
    simp only [List.getElem?_cons_zero, Option.some.injEq] at h
    subst h
    rw [List.map_cons, List.nodup_cons] at nd
    rw [List.set_cons_zero, List.map_cons, if_pos rfl]
    congr 1
    conv => lhs; rw [← List.map_id rs]
    refine List.map_congr_left fun q hq => ?_
    rw [if_neg (fun e => nd.1 (List.mem_map.2 ⟨q, hq, e⟩))]; rfl
  | x :: rs, i + 1, nd, h => by
    rw [List.getElem?_cons_succ] at h
    rw [List.map_cons, List.nodup_cons] at nd
    rw [List.set_cons_succ, List.map_cons, set_map nd.2 h, if_neg (fun e => nd.1 (List.mem_map.2 ⟨r, List.mem_of_getElem? h, e.symm⟩))]

theorem gsum_set (p : PR → Bool) {r r' : PR} : ∀ {rs : List PR} {i : Nat}, rs[i]? = some r → gsum p (rs.set i r') = gsum p rs - (if p r = true then (r.ws.length : Int) + 4 else 0) + (if p r' = true then (r'.ws.length : Int) + 4 else 0)
  | [], i, h => by simp at h
  | x :: rs, 0, h => by
    simp only [List.getElem?_cons_zero, Option.some.injEq] at h
    subst h
    rw [List.set_cons_zero]; unfold gsum; omega
  | x :: rs, i + 1, h => by
    rw [List.getElem?_cons_succ] at h
    rw [List.set_cons_succ]; unfold gsum; rw [gsum_set p h]; omega

theorem rel_map (φ : Int × List Int → Int × List Int) (f : PR → PR) : ∀ (rs : List PR), (∀ q ∈ rs, (f q).gone = q.gone) → (∀ q ∈ rs, ((f q).id, (f q).ws) = φ (q.id, q.ws)) →
    ((rs.map f).filter fun r => !r.gone).map (fun r => (r.id, r.ws)) = ((rs.filter fun r => !r.gone).map fun r => (r.id, r.ws)).map φ
  | [], _, _ => rfl
  | q :: rs, h1, h2 => by
    have ih := rel_map φ f rs (fun q hq => h1 q (by simp [hq])) (fun q hq => h2 q (by simp [hq]))
    rw [List.map_cons, List.filter_cons, List.filter_cons, h1 q (by simp)]
    split
    · rw [List.map_cons, List.map_cons, List.map_cons, ih, h2 q (by simp)]
    · exact ih

theorem rel_drop (k : Int) (f : PR → PR) : ∀ (rs : List PR), (∀ q ∈ rs, q.id = k → (f q).gone = true) → (∀ q ∈ rs, q.id ≠ k → f q = q) →
    ((rs.map f).filter fun r => !r.gone).map (fun r => (r.id, r.ws)) = ((rs.filter fun r => !r.gone).map fun r => (r.id, r.ws)).filter fun e => !(k == e.1)
  | [], _, _ => rfl
  | q :: rs, h1, h2 => by
    have ih := rel_drop k f rs (fun q hq => h1 q (by simp [hq])) (fun q hq => h2 q (by simp [hq]))
    rw [List.map_cons, List.filter_cons, List.filter_cons]
    by_cases e : q.id = k
    · rw [h1 q (by simp) e]
      simp only [Bool.not_true, Bool.false_eq_true, if_false]
      rw [ih]
      split
      · rw [List.map_cons, List.filter_cons]
        have : (!(k == q.id)) = false := by simp [e]
        rw [this, if_neg (by simp)]
      · rfl
    · rw [h2 q (by simp) e]
      split
      · rw [List.map_cons, List.map_cons, List.filter_cons, ih]
        have : (!(k == q.id)) = true := by simp; exact fun h => e h.symm
        rw [this, if_pos rfl]
      · exact ih

theorem ids_set {i : Nat} {r r' : PR} (nd : (rs.map (·.id)).Nodup) (hr : rs[i]? = some r) (e : r'.id = r.id) : (rs.set i r').map (·.id) = rs.map (·.id) := by
  rw [set_map nd hr, List.map_map]
  refine List.map_congr_left fun q hq => ?_
  simp only [Function.comp]
  split
  · rw [e]; exact (by assumption : q.id = r.id).symm
  · rfl

theorem mem_setR {i : Nat} {r r' : PR} (nd : (rs.map (·.id)).Nodup) (hr : rs[i]? = some r) {q : PR} (hq : q ∈ rs.set i r') : q = r' ∨ (q ∈ rs ∧ q.id ≠ r.id) := by
  rw [set_map nd hr] at hq
  obtain ⟨p, hp, e⟩ := List.mem_map.1 hq
  split at e
  · exact .inl e.symm
  · subst e; exact .inr ⟨hp, by assumption⟩

/-- Its words are others. -/
theorem B17.words (b : B17 g l ss rs beg n) {i : Nat} {r : PR} (hr : rs[i]? = some r) {x : Arr} (hx : x.id = r.id) (ws' : List Int) (hl : ws'.length = r.ws.length) :
    B17 g (rep l { x with vs := ws' }) ss (rs.set i { r with ws := ws' }) beg n := by
  have hm := List.mem_of_getElem? hr
  have same : ∀ q ∈ rs, q.id = r.id → q = r := fun q hq e => map_inj_of_nodup (·.id) b.nd hq hm e
  have gs : ∀ p : PR → Bool, p { r with ws := ws' } = p r → gsum p (rs.set i { r with ws := ws' }) = gsum p rs := fun p hp => by
    rw [gsum_set p hr, hp, hl]; omega
  refine ⟨?_, by rw [gs _ rfl]; exact b.ow, fun ha => by rw [gs _ rfl]; exact b.lt ha, fun q hq => ?_, by rw [ids_set (r' := { r with ws := ws' }) b.nd hr rfl]; exact b.nd, fun q hq => ?_, b.nn, b.tk⟩
  · rw [set_map b.nd hr, rel_map (fun e => if e.1 = r.id then (r.id, ws') else e) _ rs (fun q hq => ?_) (fun q hq => ?_), b.rel]
    · unfold vw rep
      rw [List.map_map, List.map_map]
      refine List.map_congr_left fun z _ => ?_
      simp only [Function.comp, hx]
      split <;> simp [hx]
    · split
      · rw [same q hq (by assumption)]
      · rfl
    · split <;> rfl
  · rcases mem_setR b.nd hr hq with rfl | ⟨hq, _⟩
    · exact b.by_ r hm
    · exact b.by_ q hq
  · rcases mem_setR b.nd hr hq with rfl | ⟨hq, _⟩
    · exact b.ids r hm
    · exact b.ids q hq

/-- It is gone. -/
theorem B17.drop (b : B17 g l ss rs beg n) {i : Nat} {r : PR} (hr : rs[i]? = some r) (hg : r.gone = false) {x : Arr} (hx : x.id = r.id) (hn : x.n = r.ws.length) :
    B17 { g with owed := g.owed + (x.n + 4), late := if g.act = true then g.late + (x.n + 4) else g.late } (l.filter fun y => !(x.id == y.id)) ss (rs.set i { r with gone := true, by_ := beg }) beg n := by
  have hm := List.mem_of_getElem? hr
  refine ⟨?_, ?_, fun ha => ?_, fun q hq => ?_, by rw [ids_set (r' := { r with gone := true, by_ := beg }) b.nd hr rfl]; exact b.nd, fun q hq => ?_, b.nn, b.tk⟩
  · rw [set_map b.nd hr, rel_drop r.id _ rs (fun q hq e => ?_) (fun q hq e => ?_), b.rel]
    · unfold vw
      rw [List.filter_map]
      rw [← hx]
      rfl
    · rw [if_pos e]
    · rw [if_neg e]
  · rw [gsum_set _ hr, b.ow, hg]; simp [hn]
  · have ha : g.act = true := ha
    rw [gsum_set _ hr, b.lt ha, hg]
    simp [hn, ha]
  · rcases mem_setR b.nd hr hq with rfl | ⟨hq, _⟩
    · exact Int.le_refl _
    · exact b.by_ q hq
  · rcases mem_setR b.nd hr hq with rfl | ⟨hq, _⟩
    · exact b.ids r hm
    · exact b.ids q hq

/-- The array of an id: it is there, or not. -/
theorem at7_c (h : Y17 W w F s ab y g l ss aa ac rs beg und) (b : B17 g l ss rs beg n) (hl : rs.length ≤ 1000000) (id : Int) {K : Int → World → Prop}
    (hK : ∀ k : Int, (∃ (i : Nat) (r : PR) (x : Arr), k = i ∧ rs[i]? = some r ∧ r.gone = false ∧ r.id = id ∧ x ∈ l ∧ x.id = id ∧ x.vs = r.ws ∧ x.n = r.ws.length) ∨ (k = -1 ∧ ∀ x ∈ l, x.id ≠ id) → K k w) : C149 (some ⟨y, 0, none⟩) id w K := by
  obtain ⟨mb, wb, sb, ws, la, lc, clk, H, I⟩ := h.S
  refine at149_c h hl id (fun i r h1 h2 h3 => hK i (.inl ?_)) (fun h1 => hK (-1) (.inr ⟨rfl, fun x hx e => ?_⟩))
  · obtain ⟨x, hx, e1, e2⟩ := b.toL (List.mem_of_getElem? h1) h3
    have := (I.sz x hx).2.2
    exact ⟨i, r, x, rfl, h1, h3, h2, hx, e1.trans h2, e2, by rw [← this, e2]⟩
  · obtain ⟨r, hr, h2, e1, _⟩ := b.ofL hx
    rw [h1 r hr (e1.trans e)] at h2
    cases h2
end
end Go.Proofs.Ytfpghcdjfiggiaa.V
