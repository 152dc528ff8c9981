/- The heap, by its cells alone. No condition. -/
import Derived.Test.YtfpghcdjfiggiaaHeapF
namespace Go.Proofs.Ytfpghcdjfiggiaa.V
open Go Go.RowKit

/-- A cell and its words. -/
structure XC where
  ref : Int
  kind : Int
  cls : Int
  n : Int
  vs : List Int

def hc4 (c : HC) : Int × Int × Int × Int := (c.ref, c.kind, c.cls, c.n)
def xc4 (x : XC) : Int × Int × Int × Int := (x.ref, x.kind, x.cls, x.n)
def xsum : List XC → Int
  | [] => 0
  | x :: l => x.n + 16 + xsum l
/-- A cell's words are others. -/
def xput (xs : List XC) (ref : Int) (i v : Int) : List XC := xs.map fun x => if x.ref = ref then { x with vs := x.vs.set i.toNat v } else x

/-- A heap at block hb, in blocks G: its steps, its last ref, its cells. -/
def Hx (w : World) (G : List Nat) (hb : Nat) (ss : List Int) (words last : Int) (xs : List XC) : Prop :=
  ∃ F hm s mb ab wb sb g l ws la lc clk2 clk cs,
    Hp w F hb hm s mb ab wb sb g l ws ss la lc clk2 clk last ((words + 3) / 4) words cs ∧ G = hb :: hm :: F ∧ g.last = last ∧
    cs.map hc4 = xs.map xc4 ∧ l.map (·.vs) = xs.map (·.vs) ∧ (xs.map (·.ref)).Pairwise (· < ·)

theorem map_fst {α β γ δ : Type} {f : α → γ} {h : β → γ} (q : γ → δ) {l : List α} {m : List β} (e : l.map f = m.map h) : l.map (fun x => q (f x)) = m.map (fun x => q (h x)) := by
  have := congrArg (List.map q) e
  simpa [List.map_map, Function.comp_def] using this

/-- Two rows of one length, place by place. -/
theorem zip_get {α β γ : Type} {f : α → γ} {h : β → γ} : ∀ {l : List α} {m : List β}, l.map f = m.map h → ∀ {x : α}, x ∈ l → ∃ (i : Nat) (y : β), l[i]? = some x ∧ m[i]? = some y ∧ f x = h y
  | [], _, _, _, hx => by simp at hx
  | a :: l, [], e, _, _ => by simp at e
  | a :: l, b :: m, e, x, hx => by
    simp only [List.map_cons, List.cons.injEq] at e
    rcases List.mem_cons.1 hx with rfl | hx
    · exact ⟨0, b, rfl, rfl, e.1⟩
    · obtain ⟨i, y, h1, h2, h3⟩ := zip_get e.2 hx
      exact ⟨i + 1, y, by simpa using h1, by simpa using h2, h3⟩
theorem zip_at {α β γ : Type} {f : α → γ} {h : β → γ} {l : List α} {m : List β} (e : l.map f = m.map h) {i : Nat} {x : α} (hx : l[i]? = some x) : ∃ y, m[i]? = some y ∧ f x = h y := by
  have h1 : (l.map f)[i]? = some (f x) := by simp [hx]
  rw [e, List.getElem?_map] at h1
  cases hm : m[i]? with
  | none => rw [hm] at h1; simp at h1
  | some y => rw [hm] at h1; simp at h1; exact ⟨y, rfl, h1.symm⟩

theorem pw_same {α : Type} {f : α → Int} : ∀ {l : List α}, (l.map f).Pairwise (· < ·) → ∀ {x y : α}, x ∈ l → y ∈ l → f x = f y → x = y
  | [], _, _, _, hx, _, _ => by simp at hx
  | a :: l, h, x, y, hx, hy, e => by
    rw [List.map_cons, List.pairwise_cons] at h
    rcases List.mem_cons.1 hx with e1 | h1
    · rcases List.mem_cons.1 hy with e2 | h2
      · rw [e1, e2]
      · have := h.1 (f y) (List.mem_map.2 ⟨y, h2, rfl⟩); subst e1; omega
    · rcases List.mem_cons.1 hy with e2 | h2
      · have := h.1 (f x) (List.mem_map.2 ⟨x, h1, rfl⟩); subst e2; omega
      · exact pw_same h.2 h1 h2 e

section
variable {w w' : World} {F G S : List Nat} {hb hm s mb ab wb sb clk clk2 lc : Nat} {last room words : Int} {cs : List HC} {g : SG} {l : List Arr} {ws ss : List Int} {la : Option Addr} {xs : List XC}

/-- A cell of the heap, its array and its words. -/
theorem hx_trip (h : Hp w F hb hm s mb ab wb sb g l ws ss la lc clk2 clk last room words cs) (e1 : cs.map hc4 = xs.map xc4) (e2 : l.map (·.vs) = xs.map (·.vs)) {i : Nat} {x : XC} (hx : xs[i]? = some x) :
    ∃ c a, cs[i]? = some c ∧ l[i]? = some a ∧ hc4 c = xc4 x ∧ a.id = c.id ∧ a.n = c.n ∧ a.vs = x.vs := by
  obtain ⟨c, h1, h2⟩ := zip_at e1.symm hx
  obtain ⟨a, h3, h4⟩ := zip_at h.J.rel h1
  obtain ⟨y, h5, h6⟩ := zip_at e2 h3
  rw [hx] at h5
  cases h5
  exact ⟨c, a, h1, h3, h2.symm, (Prod.mk.inj h4).1.symm, (Prod.mk.inj h4).2.symm, h6⟩

theorem csum_x : ∀ {cs : List HC} {xs : List XC}, cs.map hc4 = xs.map xc4 → csum cs = xsum xs
  | [], [], _ => rfl
  | [], _ :: _, h => by simp at h
  | _ :: _, [], h => by simp at h
  | c :: cs, x :: xs, h => by
    simp only [List.map_cons, List.cons.injEq, hc4, xc4, Prod.mk.injEq] at h
    simp only [csum, xsum, csum_x h.2]
    omega

theorem Hx.facts (h : Hx w G hb ss words last xs) : Low G w.heap.size ∧ hb ∈ G ∧ (∀ x ∈ xs, 1 ≤ x.ref ∧ x.ref ≤ last) ∧ (∀ x ∈ xs, 0 ≤ x.n ∧ x.n ≤ 1000 ∧ (x.vs.length : Int) = x.n) ∧ xsum xs ≤ (words + 3) / 4 ∧ (xs.map (·.ref)).Pairwise (· < ·) ∧ 512 ≤ words ∧ words ≤ 65536 ∧ 0 ≤ last := by
  obtain ⟨F, hm, s, mb, ab, wb, sb, g, l, ws, la, lc, clk2, clk, cs, h, rfl, e0, e1, e2, e3⟩ := h
  have hg := h.J.geo
  refine ⟨?_, by simp, fun x hx => ?_, fun x hx => ?_, by rw [← csum_x e1]; exact h.J.fit, e3, hg.2.2.1, hg.2.2.2, h.J.l0⟩
  · intro b hb
    rcases List.mem_cons.1 hb with rfl | hb
    · exact h.H.hd.lt
    · rcases List.mem_cons.1 hb with rfl | hb
      · exact heap_lt h.H.mi.heap
      · exact h.S.low b hb
  · obtain ⟨i, c, h1, h2, h3⟩ := zip_get e1.symm hx
    have := h.J.ids c (List.mem_of_getElem? h2)
    simp only [xc4, hc4, Prod.mk.injEq] at h3
    omega
  · obtain ⟨i, hi⟩ := List.getElem?_of_mem hx
    obtain ⟨c, a, h1, h2, h3, h4, h5, h6⟩ := hx_trip h e1 e2 hi
    have := h.I.sz a (List.mem_of_getElem? h2)
    simp only [xc4, hc4, Prod.mk.injEq] at h3
    rw [← h6]
    omega

theorem Hx.low (h : Hx w G hb ss words last xs) : Low G w.heap.size := h.facts.1
theorem Hx.same (h : Hx w G hb ss words last xs) {x y : XC} (hx : x ∈ xs) (hy : y ∈ xs) (e : x.ref = y.ref) : x = y := pw_same h.facts.2.2.2.2.2.1 hx hy e

theorem Hp.frame (h : Hp w F hb hm s mb ab wb sb g l ws ss la lc clk2 clk last room words cs) (f : Fr S w w') (hS : Apart (hb :: hm :: F) S) : Hp w' F hb hm s mb ab wb sb g l ws ss la lc clk2 clk last room words cs :=
  ⟨h.H.fr f (hS _ (by simp)) (hS _ (by simp)), h.S.frame f (fun b hb => hS b (by simp [hb])), h.I, h.J⟩

theorem Hx.frame (h : Hx w G hb ss words last xs) (f : Fr S w w') (hS : Apart G S) : Hx w' G hb ss words last xs := by
  obtain ⟨F, hm, s, mb, ab, wb, sb, g, l, ws, la, lc, clk2, clk, cs, h, rfl, e⟩ := h
  exact ⟨F, hm, s, mb, ab, wb, sb, g, l, ws, la, lc, clk2, clk, cs, h.frame f hS, rfl, e⟩
theorem Hx.fr0 (h : Hx w G hb ss words last xs) (f : ∀ S, Fr S w w') : Hx w' G hb ss words last xs := h.frame (f []) (fun _ _ => by simp)

theorem hx_in (e1 : cs.map hc4 = xs.map xc4) {ref : Int} (h : ∃ x ∈ xs, x.ref = ref) : ∃ c ∈ cs, c.ref = ref := by
  obtain ⟨x, hx, rfl⟩ := h
  obtain ⟨i, c, h1, h2, h3⟩ := zip_get e1.symm hx
  exact ⟨c, List.mem_of_getElem? h2, by simp only [xc4, hc4, Prod.mk.injEq] at h3; omega⟩
theorem hx_of (e1 : cs.map hc4 = xs.map xc4) {c : HC} (h : c ∈ cs) : ∃ x ∈ xs, x.ref = c.ref ∧ x.kind = c.kind ∧ x.cls = c.cls ∧ x.n = c.n := by
  obtain ⟨i, x, h1, h2, h3⟩ := zip_get e1 h
  exact ⟨x, List.mem_of_getElem? h2, by simp only [xc4, hc4, Prod.mk.injEq] at h3; omega⟩

/-- The cell of an array. -/
theorem hx_arr (h : Hp w F hb hm s mb ab wb sb g l ws ss la lc clk2 clk last room words cs) (e1 : cs.map hc4 = xs.map xc4) (e2 : l.map (·.vs) = xs.map (·.vs)) {c : HC} (hc : c ∈ cs) {a : Arr} (ha : a ∈ l) (ea : a.id = c.id) :
    ∃ x ∈ xs, x.ref = c.ref ∧ x.n = c.n ∧ a.vs = x.vs := by
  obtain ⟨i, hi⟩ := List.getElem?_of_mem hc
  obtain ⟨x, h1, h2⟩ := zip_at e1 hi
  obtain ⟨c', a', h3, h4, h5, h6, h7, h8⟩ := hx_trip h e1 e2 h1
  rw [hi] at h3
  cases h3
  have : a = a' := h.I.same ha (List.mem_of_getElem? h4) (ea.trans h6.symm)
  subst this
  simp only [xc4, hc4, Prod.mk.injEq] at h5
  exact ⟨x, List.mem_of_getElem? h1, by omega, by omega, h8⟩

/-- A word is read. -/
theorem xload_c (h : Hx w G hb ss words last xs) (agent ref i : Int) {K : Int → Int → World → Prop}
    (hno : ¬ ((0 ≤ agent ∧ agent < ss.length) ∧ ∃ x ∈ xs, x.ref = ref) → ∀ w', (∀ S, Fr S w w') → K 0 904 w')
    (hbad : ∀ x ∈ xs, x.ref = ref → (0 ≤ agent ∧ agent < ss.length) → ¬ (0 ≤ i ∧ i < x.n) → ∀ w', (∀ S, Fr S w w') → K 0 903 w')
    (hok : ∀ x ∈ xs, x.ref = ref → (0 ≤ agent ∧ agent < ss.length) → 0 ≤ i → i < x.n → ∀ w', Hx w' G hb (tickA ss agent) words last xs → Fr G w w' → K (x.vs.getD i.toNat 0) 0 w') :
    C84 (some ⟨hb, 0, none⟩) agent ref i w K := by
  obtain ⟨F, hm, s, mb, ab, wb, sb, g, l, ws, la, lc, clk2, clk, cs, h, rfl, e0, e1, e2, e3⟩ := h
  refine hload_c h agent ref i (fun hn => hno fun p => hn ⟨p.1, hx_in e1 p.2⟩) (fun c hc e ha hi => ?_) (fun c hc e ha a hx ex en h0 h1 w' h' f' => ?_)
  · obtain ⟨x, hx, q1, q2, q3, q4⟩ := hx_of e1 hc
    exact hbad x hx (q1.trans e) ha (by omega)
  · obtain ⟨x, hxx, q1, q2, q3⟩ := hx_arr h e1 e2 hc hx ex
    rw [q3]
    exact hok x hxx (q1.trans e) ha h0 (by omega) w' ⟨F, hm, s, mb, ab, wb, sb, g, l, ws, la, lc, clk2, clk, cs, h', rfl, e0, e1, e2, e3⟩ (f'.mono fun k hk => .inl (by simp [hk]))

theorem xput_map {β : Type} (f : XC → β) (hf : ∀ x vs, f { x with vs := vs } = f x) (xs : List XC) (ref i v : Int) : (xput xs ref i v).map f = xs.map f := by
  unfold xput
  rw [List.map_map]
  refine List.map_congr_left fun x _ => ?_
  simp only [Function.comp]
  split
  · rw [hf]
  · rfl

/-- A word is written. -/
theorem xput_c (h : Hx w G hb ss words last xs) (agent ref i v : Int) {K : Int → World → Prop}
    (hno : ¬ ((0 ≤ agent ∧ agent < ss.length) ∧ ∃ x ∈ xs, x.ref = ref) → ∀ w', (∀ S, Fr S w w') → K 904 w')
    (hbad : ∀ x ∈ xs, x.ref = ref → (0 ≤ agent ∧ agent < ss.length) → ¬ (0 ≤ i ∧ i < x.n) → ∀ w', (∀ S, Fr S w w') → K 903 w')
    (hok : ∀ x ∈ xs, x.ref = ref → (0 ≤ agent ∧ agent < ss.length) → 0 ≤ i → i < x.n → ∀ w' ss', Hx w' G hb ss' words last (xput xs ref i v) → Tk 2 ss ss' → Fr G w w' → K 0 w') :
    C83 (some ⟨hb, 0, none⟩) agent ref i v w K := by
  obtain ⟨F, hm, s, mb, ab, wb, sb, g, l, ws, la, lc, clk2, clk, cs, h, rfl, e0, e1, e2, e3⟩ := h
  refine hput_c h agent ref i v (fun hn => hno fun p => hn ⟨p.1, hx_in e1 p.2⟩) (fun c hc e ha hi => ?_) (fun c hc e ha a hx ex en h0 h1 w' ws' ss' h' t' f' => ?_)
  · obtain ⟨x, hx, q1, q2, q3, q4⟩ := hx_of e1 hc
    exact hbad x hx (q1.trans e) ha (by omega)
  · obtain ⟨x, hxx, q1, q2, q3⟩ := hx_arr h e1 e2 hc hx ex
    refine hok x hxx (q1.trans e) ha h0 (by omega) w' ss' ⟨F, hm, s, mb, ab, wb, sb, g, _, ws', la, lc, clk2, clk, cs, h', rfl, e0, by rw [xput_map xc4 (fun _ _ => rfl)]; exact e1, ?_, by rw [xput_map (·.ref) (fun _ _ => rfl)]; exact e3⟩ t' (f'.mono fun k hk => .inl (by simp [hk]))
    apply List.ext_getElem?
    intro j
    rw [List.getElem?_map, List.getElem?_map]
    unfold rep xput
    rw [List.getElem?_map, List.getElem?_map]
    cases hj : xs[j]? with
    | none =>
      have : l[j]? = none := by
        have q := congrArg List.length e2
        simp only [List.length_map] at q
        rw [List.getElem?_eq_none_iff] at hj ⊢
        omega
      rw [this]; rfl
    | some y =>
      obtain ⟨c', a', r1, r2, r3, r4, r5, r6⟩ := hx_trip h e1 e2 hj
      rw [r2]
      simp only [xc4, hc4, Prod.mk.injEq] at r3
      simp only [Option.map_some]
      congr 1
      by_cases hy : y.ref = ref
      · rw [if_pos hy]
        have hc' : c' = c := by
          have := h.H.nd
          exact map_inj_of_nodup (·.ref) this (List.mem_of_getElem? r1) hc (by omega)
        rw [if_pos (by rw [r4, hc', ex])]
        have : a' = a := h.I.same (List.mem_of_getElem? r2) hx (by rw [r4, hc', ex])
        rw [← r6, this]
      · rw [if_neg hy, if_neg, r6]
        intro e4
        apply hy
        have hc' : c'.ref = c.ref := by
          have nd : (cs.map (·.id)).Nodup := by
            have q := map_fst Prod.fst h.J.rel
            dsimp only at q
            rw [q]; exact h.I.ids
          have := map_inj_of_nodup (·.id) nd (List.mem_of_getElem? r1) hc (by rw [← r4, e4, ex])
          rw [this]
        omega

/-- What a cell is. -/
theorem xcell_c (h : Hx w G hb ss words last xs) (ref : Int) {K : Int → Int → Int → Int → World → Prop}
    (hno : (∀ x ∈ xs, x.ref ≠ ref) → ∀ w', (∀ S, Fr S w w') → K 0 0 0 904 w') (hok : ∀ x ∈ xs, x.ref = ref → ∀ w', (∀ S, Fr S w w') → K x.kind x.cls x.n 0 w') : C94 (some ⟨hb, 0, none⟩) ref w K := by
  obtain ⟨F, hm, s, mb, ab, wb, sb, g, l, ws, la, lc, clk2, clk, cs, h, rfl, e0, e1, e2, e3⟩ := h
  refine hcell_c h ref (fun hn => hno fun x hx e => ?_) (fun c hc e => ?_)
  · obtain ⟨c, hc, e'⟩ := hx_in e1 ⟨x, hx, e⟩
    exact hn c hc e'
  · obtain ⟨x, hx, q1, q2, q3, q4⟩ := hx_of e1 hc
    rw [← q2, ← q3, ← q4]
    exact hok x hx (q1.trans e)

theorem xsteps_c (h : Hx w G hb ss words last xs) (agent : Int) {K : Int → World → Prop} (hK : K (if 0 ≤ agent ∧ agent < (ss.length : Int) then ss.getD agent.toNat 0 else 0) w) : C82 (some ⟨hb, 0, none⟩) agent w K := by
  obtain ⟨F, hm, s, mb, ab, wb, sb, g, l, ws, la, lc, clk2, clk, cs, h, rfl, e0, e1, e2, e3⟩ := h
  exact hsteps_c h agent hK

theorem xroom_c (h : Hx w G hb ss words last xs) {K : Int → World → Prop} (hK : ∀ w', (∀ S, Fr S w w') → K ((words + 3) / 4 - xsum xs) w') : C98 (some ⟨hb, 0, none⟩) w K := by
  obtain ⟨F, hm, s, mb, ab, wb, sb, g, l, ws, la, lc, clk2, clk, cs, h, rfl, e0, e1, e2, e3⟩ := h
  have hg := h.J.geo
  rw [← csum_x e1] at hK
  exact hroom_c h.H h.J.sz ⟨h.J.fit, by omega⟩ hK

/-- A cell is made. -/
theorem xmake_c (h : Hx w G hb ss words last xs) (hl : last ≤ 100000) (agent kind cls n : Int) {K : Int → Int → World → Prop}
    (hag : ¬ (0 ≤ agent ∧ agent < ss.length) → ∀ w', (∀ S, Fr S w w') → K 0 904 w')
    (hform : (0 ≤ agent ∧ agent < ss.length) → formE kind cls n ≠ 0 → ∀ w', (∀ S, Fr S w w') → K 0 (formE kind cls n) w')
    (hfull : (0 ≤ agent ∧ agent < ss.length) → formE kind cls n = 0 → (words + 3) / 4 - xsum xs < n + 16 → ∀ w', (∀ S, Fr S w w') → K 0 901 w')
    (hok : (0 ≤ agent ∧ agent < ss.length) → formE kind cls n = 0 → n + 16 ≤ (words + 3) / 4 - xsum xs → ∀ w' G' ss', Hx w' G' hb ss' words (last + 1) (xs ++ [⟨last + 1, kind, cls, n, List.replicate n.toNat 0⟩]) → Fr G w w' → Grw G G' w.heap.size → Tk 100000 ss ss' → K (last + 1) 0 w') :
    C81 (some ⟨hb, 0, none⟩) agent kind cls n w K := by
  have hids := (Hx.facts h).2.2.1
  obtain ⟨F, hm, s, mb, ab, wb, sb, g, l, ws, la, lc, clk2, clk, cs, h, rfl, e0, e1, e2, e3⟩ := h
  rw [← csum_x e1] at hfull hok
  refine hmake_c h ⟨hl, by omega⟩ agent kind cls n hag hform hfull fun ha hf hr w' F' g' l2 x ws' ss' la' lc' ck2' ck' x1 x2 x3 x4 ev h' f' gr t' => ?_
  refine hok ha hf (by omega) w' (hb :: hm :: F') ss' ⟨F', hm, s, mb, ab, wb, sb, g', _, ws', la', lc', ck2', ck', _, h', rfl, by omega, ?_, ?_, ?_⟩ f' ?_ t'
  · rw [List.map_append, List.map_append, e1]; rfl
  · have q := map_fst Prod.snd ev
    dsimp only at q
    rw [List.map_append, List.map_append, ← e2]
    rw [q]
    simp [x4]
  · rw [List.map_append, List.pairwise_append]
    refine ⟨e3, by simp, fun a ha b hb => ?_⟩
    obtain ⟨y, hy, rfl⟩ := List.mem_map.1 ha
    simp at hb
    subst hb
    have := hids y hy
    omega
  · intro k hk
    rcases List.mem_cons.1 hk with rfl | hk
    · exact .inl (by simp)
    · rcases List.mem_cons.1 hk with rfl | hk
      · exact .inl (by simp)
      · exact (gr k hk).imp (fun q => by simp [q]) id

/-- A new heap. -/
theorem xnew_c (words agents : Int) {w : World} {K : Option Addr → Int → World → Prop} (hbad : ¬ (512 ≤ words ∧ words ≤ 65536 ∧ 1 ≤ agents ∧ agents ≤ 12) → K none 900 w)
    (hok : (512 ≤ words ∧ words ≤ 65536 ∧ 1 ≤ agents ∧ agents ≤ 12) → ∀ w' G hb, Hx w' G hb (List.replicate agents.toNat 0) words 0 [] → (∀ S, Fr S w w') → (∀ k ∈ G, w.heap.size ≤ k) → K (some ⟨hb, 0, none⟩) 0 w') : C80 words agents w K :=
  hnew_c words agents hbad fun hr w' F hb hm s mb ab wb sb g h e f hF => hok hr w' (hb :: hm :: F) hb ⟨F, hm, s, mb, ab, wb, sb, g, [], _, none, 0, 0, 0, [], h, rfl, e, rfl, rfl, by simp⟩ f hF
end
end Go.Proofs.Ytfpghcdjfiggiaa.V
