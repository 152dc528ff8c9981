/- HeapActs: one act. No condition. -/
import Derived.Test.YtfpghcdjfiggiaaActsI
namespace Go.Proofs.Ytfpghcdjfiggiaa.V
open Go Go.RowKit

def r5 (r : YR) : Int × Int × Int × List Int := (r.ref, r.kind, r.cls, r.ws)
def x5 (x : XC) : Int × Int × Int × List Int := (x.ref, x.kind, x.cls, x.vs)
def Rel9 (rs : List YR) (xs : List XC) : Prop := rs.map r5 = xs.map x5
structure Bd (ss : List Int) (last n : Int) (rs : List YR) : Prop where
  n0 : 0 ≤ n
  n1 : n ≤ 250
  la : last ≤ n
  rl : (rs.length : Int) ≤ n
  tk : ∀ a : Nat, 0 ≤ ss.getD a 0 ∧ ss.getD a 0 ≤ 200000 * n
/-- The player's state after n acts. -/
def St9 (W w : World) (y hb : Nat) (words n : Int) : Prop := ∃ own G ss last xs a c rs, Yh W w own y hb words G ss last xs a c rs ∧ Rel9 rs xs ∧ Bd ss last n rs

theorem Bd.next {ss ss' : List Int} {last last' n : Int} {rs rs' : List YR} (b : Bd ss last n rs) (hn : n < 250) (hl : last' ≤ last + 1) (hr : rs'.length ≤ rs.length + 1) {k : Int} (t : Tk k ss ss') (hk : 0 ≤ k ∧ k ≤ 100000) : Bd ss' last' (n + 1) rs' := by
  obtain ⟨h1, h2, h3, h4, h5⟩ := b
  refine ⟨by omega, by omega, by omega, by omega, fun a => ?_⟩
  have := t.2 (200000 * n) (by omega) h5 a
  have := h5 a
  omega

theorem Rel9.len {rs : List YR} {xs : List XC} (h : Rel9 rs xs) : rs.length = xs.length := by
  have := congrArg List.length h; simpa using this
theorem Rel9.at {rs : List YR} {xs : List XC} (h : Rel9 rs xs) {i : Nat} {r : YR} (hr : rs[i]? = some r) : ∃ x, xs[i]? = some x ∧ r.ref = x.ref ∧ r.kind = x.kind ∧ r.cls = x.cls ∧ r.ws = x.vs := by
  obtain ⟨x, hx, e⟩ := zip_at h hr
  simp only [r5, x5, Prod.mk.injEq] at e
  exact ⟨x, hx, e.1, e.2.1, e.2.2.1, e.2.2.2⟩
theorem Rel9.of {rs : List YR} {xs : List XC} (h : Rel9 rs xs) {x : XC} (hx : x ∈ xs) : ∃ r ∈ rs, r.ref = x.ref := by
  obtain ⟨i, hi⟩ := List.getElem?_of_mem hx
  have := h.symm
  obtain ⟨r, hr, e⟩ := zip_at this hi
  simp only [r5, x5, Prod.mk.injEq] at e
  exact ⟨r, List.mem_of_getElem? hr, e.1.symm⟩

theorem pw_ne {rs : List YR} (pw : (rs.map (·.ref)).Pairwise (· < ·)) {i j : Nat} {r q : YR} (hr : rs[i]? = some r) (hq : rs[j]? = some q) (hne : i ≠ j) : q.ref ≠ r.ref := by
  obtain ⟨hi, ei⟩ := List.getElem?_eq_some_iff.1 hr
  obtain ⟨hj, ej⟩ := List.getElem?_eq_some_iff.1 hq
  have pw := List.pairwise_iff_getElem.1 pw
  rcases Nat.lt_or_gt_of_ne hne with q1 | q1
  · have := pw i j (by simpa using hi) (by simpa using hj) q1
    rw [List.getElem_map, List.getElem_map, ei, ej] at this; omega
  · have := pw j i (by simpa using hj) (by simpa using hi) q1
    rw [List.getElem_map, List.getElem_map, ei, ej] at this; omega

theorem Rel9.put {rs : List YR} {xs : List XC} (h : Rel9 rs xs) (pw : (rs.map (·.ref)).Pairwise (· < ·)) {i : Nat} {r : YR} (hr : rs[i]? = some r) (j v : Int) : Rel9 (rs.set i { r with ws := r.ws.set j.toNat v }) (xput xs r.ref j v) := by
  unfold Rel9 xput
  have hl := h.len
  apply List.ext_getElem?
  intro m
  simp only [List.getElem?_map, List.getElem?_set]
  by_cases e : i = m
  · subst e
    obtain ⟨x, hx, e1, e2, e3, e4⟩ := h.at hr
    have hi := (List.getElem?_eq_some_iff.1 hr).1
    rw [if_pos rfl, if_pos hi, hx]
    simp [r5, x5, e1.symm, e2, e3, e4]
  · rw [if_neg e]
    cases hq : rs[m]? with
    | none =>
      have : xs[m]? = none := by rw [List.getElem?_eq_none_iff] at hq ⊢; omega
      rw [this]; rfl
    | some q =>
      obtain ⟨x, hx, e1, e2, e3, e4⟩ := h.at hq
      have hne := pw_ne pw hr hq e
      rw [hx]
      have : ¬ x.ref = r.ref := by rw [← e1]; exact hne
      simp [r5, x5, this, e1, e2, e3, e4]

theorem take_drop_filter {rs : List YR} (pw : (rs.map (·.ref)).Pairwise (· < ·)) {i : Nat} {r : YR} (hr : rs[i]? = some r) : rs.filter (fun q => !(r.ref == q.ref)) = rs.take i ++ rs.drop (i + 1) := by
  have hi := (List.getElem?_eq_some_iff.1 hr).1
  have e : rs = rs.take i ++ r :: rs.drop (i + 1) := by
    have := (List.getElem?_eq_some_iff.1 hr).2
    rw [← this, List.getElem_cons_drop, List.take_append_drop]
  have side : ∀ (m : Nat) q, rs[m]? = some q → m ≠ i → (!(r.ref == q.ref)) = true := fun m q hq hne => by
    have := pw_ne pw hr hq (Ne.symm hne)
    simp; exact fun e => this e.symm
  have hL : (rs.take i).filter (fun q => !(r.ref == q.ref)) = rs.take i := List.filter_eq_self.2 fun q hq => by
    obtain ⟨m, hm⟩ := List.getElem?_of_mem hq
    have hlt := (List.getElem?_eq_some_iff.1 hm).1
    rw [List.length_take] at hlt
    rw [List.getElem?_take_of_lt (by omega)] at hm
    exact side m q hm (by omega)
  have hR : (rs.drop (i + 1)).filter (fun q => !(r.ref == q.ref)) = rs.drop (i + 1) := List.filter_eq_self.2 fun q hq => by
    obtain ⟨m, hm⟩ := List.getElem?_of_mem hq
    rw [List.getElem?_drop] at hm
    exact side _ q hm (by omega)
  conv => lhs; rw [e]
  rw [List.filter_append, List.filter_cons, hL, hR]
  simp

theorem Rel9.free {rs : List YR} {xs : List XC} (h : Rel9 rs xs) (pw : (rs.map (·.ref)).Pairwise (· < ·)) {i : Nat} {r : YR} (hr : rs[i]? = some r) : Rel9 (rs.take i ++ rs.drop (i + 1)) (xs.filter fun x => !(r.ref == x.ref)) := by
  rw [← take_drop_filter pw hr]
  refine filter_two h ?_
  have : ∀ (f : Int → Bool), rs.map (fun q => f q.ref) = xs.map (fun x => f x.ref) := fun f => by
    have := congrArg (List.map fun p : Int × Int × Int × List Int => f p.1) h
    simpa [r5, x5, Function.comp_def] using this
  exact this fun z => !(r.ref == z)

theorem form179_c (kind k : Int) {w : World} {K : Bool → World → Prop} (hK : ∀ b : Bool, (b = true ↔ (kind = 1 ∧ 0 ≤ k ∧ k ≤ 64) ∨ (kind = 4 ∧ k = 1) ∨ (kind ≠ 1 ∧ kind ≠ 4 ∧ 0 ≤ k ∧ k ≤ 1000)) → K b w) : C179 kind k w K := by
  refine r_f179 _ _ _ _ (IfB.dec (fun h1 => IfB.dec (fun h2 => hK _ ?_) (fun h2 => hK _ ?_)) (fun h1 => IfB.dec (fun h2 => hK _ ?_) (fun h2 => IfB.dec (fun h3 => hK _ ?_) (fun h3 => hK _ ?_))))
  · rw [decide_eq_true_iff]; omega
  · simp; omega
  · rw [decide_eq_true_iff]; omega
  · rw [decide_eq_true_iff]; omega
  · simp; omega

section
variable {W w w' : World} {own own' : Nat → Nat} {y hb b1 : Nat} {words n : Int} {G G' S : List Nat} {ss ss' : List Int} {last last' : Int} {xs xs' : List XC} {a : Option Addr} {c : Nat} {rs : List YR}

/-- The act's copy. -/
theorem Yh.copy (h : Yh W w own y hb words G ss last xs a c rs) {cs : Array Value} {T : TypeId} {b1 : Nat} (n1 : NewAt w w' b1 cs T) : Yh W w' (ext own w.heap.size 4) y hb words G ss last xs a c rs ∧ Blk w' b1 cs.toList ∧ ext own w.heap.size 4 b1 = 4 := by
  refine ⟨(h.new n1.fr 4).1, n1.blk, ?_⟩
  have := n1.ge
  unfold ext; rw [if_neg (by omega)]

theorem make164_c (h : Yh W w own y hb words G ss last xs a c rs) (re : Rel9 rs xs) (bd : Bd ss last n rs) (hn : n < 250) (xa xb xc xd xe xf : Int) {K : Bool → World → Prop} (hK : ∀ w', St9 W w' y hb words (n + 1) → K true w') : C164 (some ⟨y, 0, none⟩) xa xb xc xd xe xf w K := by
  refine r_f164 _ _ _ _ _ _ _ _ _ fun b1 w2 n1 => ?_
  obtain ⟨h2, B2, o2⟩ := h.copy n1
  generalize ext own w.heap.size 4 = own2 at h2 o2
  have hfail : ∀ w' own', Yh W w' own' y hb words G ss last xs a c rs → St9 W w' y hb words (n + 1) := fun w' own' hh => ⟨own', G, ss, last, xs, a, c, rs, hh, re, bd.next hn (by omega) (by omega) (Tk.refl ss) (by decide)⟩
  refine ⟨_, h2.hd.cell rfl, xroom_c h2.H fun w5 f5 => ?_⟩
  have h5 := h2.still f5
  have B5 := B2.fr (f5 []) (by simp)
  generalize hroom : (words + 3) / 4 - xsum xs = room
  have hb0 := bd.n0; have hb1 := bd.n1; have hla := bd.la; have hrl := bd.rl
  refine ⟨fun n7 n8 w' => ∃ own', own' b1 = 4 ∧ Blk w' b1 [.int .i64 xa, .int .i64 xb, .int .i64 xc, .int .i64 xd, .int .i64 xe, .int .i64 xf] ∧
      ((n7 = 0 ∧ Yh W w' own' y hb words G ss last xs a c rs ∧ ((¬ (0 ≤ xb ∧ xb < ss.length) ∧ n8 = 904) ∨ ((0 ≤ xb ∧ xb < ss.length) ∧ formE xd xe xf ≠ 0 ∧ n8 = formE xd xe xf) ∨ ((0 ≤ xb ∧ xb < ss.length) ∧ formE xd xe xf = 0 ∧ room < xf + 16 ∧ n8 = 901))) ∨
       (n7 = last + 1 ∧ n8 = 0 ∧ (0 ≤ xb ∧ xb < ss.length) ∧ formE xd xe xf = 0 ∧ xf + 16 ≤ room ∧ ∃ G' ss', ss'.length = ss.length ∧ Tk 100000 ss ss' ∧ Yh W w' own' y hb words G' ss' (last + 1) (xs ++ [⟨last + 1, xd, xe, xf, List.replicate xf.toNat 0⟩]) a c rs)), fun w10 d10 => ?_, ?_⟩
  · have h10 := h5.still d10.fr
    have B10 := B5.fr (d10.fr []) (by simp)
    refine ⟨_, h10.hd.cell rfl, _, B10.cell rfl, _, B10.cell rfl, _, B10.cell rfl, _, B10.cell rfl, ?_⟩
    refine xmake_c h10.H (by omega) _ _ _ _ (fun hno w' f' => ?_) (fun ha hf w' f' => ?_) (fun ha hf hr w' f' => ?_) (fun ha hf hr w' G' ss' H' f' g' t' => ?_)
    · exact ⟨own2, o2, B10.fr (f' []) (by simp), .inl ⟨rfl, h10.still f', .inl ⟨hno, rfl⟩⟩⟩
    · exact ⟨own2, o2, B10.fr (f' []) (by simp), .inl ⟨rfl, h10.still f', .inr (.inl ⟨ha, hf, rfl⟩)⟩⟩
    · exact ⟨own2, o2, B10.fr (f' []) (by simp), .inl ⟨rfl, h10.still f', .inr (.inr ⟨ha, hf, by omega, rfl⟩)⟩⟩
    · obtain ⟨Y', st'⟩ := h10.heap H' f' g' t'.1 (by omega)
      obtain ⟨B', o'⟩ := st'.blk B10 o2
      exact ⟨_, o', B', .inr ⟨rfl, rfl, ha, hf, by omega, G', ss', t'.1, t', Y'⟩⟩
  rintro - n7 n8 w9 ⟨own9, o9, B9, hc⟩
  have hhd : ∀ {w : World} {ow : Nat → Nat}, own9 b1 = 4 → True := fun _ => trivial
  -- the checks, for any outcome
  have fe : (formE xd xe xf ≠ 0 → (formE xd xe xf = 902 ∧ (xd < 1 ∨ 4 < xd)) ∨ (formE xd xe xf = 900 ∧ 1 ≤ xd ∧ xd ≤ 4 ∧ ¬ (((xd = 1 ∧ 0 ≤ xf ∧ xf ≤ 64) ∨ (xd = 4 ∧ xf = 1) ∨ (xd ≠ 1 ∧ xd ≠ 4 ∧ 0 ≤ xf ∧ xf ≤ 1000)) ∧ 0 ≤ xe))) ∧
      (formE xd xe xf = 0 → 1 ≤ xd ∧ xd ≤ 4 ∧ ((xd = 1 ∧ 0 ≤ xf ∧ xf ≤ 64) ∨ (xd = 4 ∧ xf = 1) ∨ (xd ≠ 1 ∧ xd ≠ 4 ∧ 0 ≤ xf ∧ xf ≤ 1000)) ∧ 0 ≤ xe) := by
    unfold formE
    by_cases h1 : xd = 1
    · rw [if_pos h1]; split <;> omega
    · rw [if_neg h1]
      by_cases h2 : xd = 2 ∨ xd = 3
      · rw [if_pos h2]; split <;> omega
      · rw [if_neg h2]
        by_cases h3 : xd = 4
        · rw [if_pos h3]; split <;> omega
        · rw [if_neg h3]; omega
  refine ⟨fun w' => n7 = last + 1 ∧ n8 = 0 ∧ (0 ≤ xf ∧ xf ≤ 1000) ∧ ∃ own' G' ss', own' b1 = 4 ∧ Blk w' b1 [.int .i64 xa, .int .i64 xb, .int .i64 xc, .int .i64 xd, .int .i64 xe, .int .i64 xf] ∧ ss'.length = ss.length ∧ Tk 100000 ss ss' ∧ Yh W w' own' y hb words G' ss' (last + 1) (xs ++ [⟨last + 1, xd, xe, xf, List.replicate xf.toNat 0⟩]) a c rs, fun w21 d21 => ?_, ?_⟩
  · have B21 := B9.fr (d21.fr []) (by simp)
    refine ⟨_, B21.cell rfl, ?_⟩
    rcases hc with ⟨rfl, hy, hc⟩ | ⟨rfl, rfl, ha, hf, hr, G', ss', e', t', hy⟩
    · have h21 := hy.still d21.fr
      have fin : ∀ {e : Int}, n8 = e → IfB (decide (n8 = e)) (K (decide ((0 : Int) = 0)) w21) (K false w21) := fun e => ifb_yes (decide_eq_true e) (hK _ (hfail _ _ h21))
      refine IfB.dec (fun q1 => ?_) (fun q1 => ⟨_, B21.cell rfl, _, h21.hd.cell rfl, IfB.dec (fun q2 => ?_) (fun q2 => ?_)⟩)
      · rcases hc with ⟨_, e⟩ | ⟨ha, _⟩ | ⟨ha, _⟩
        · exact fin e
        · omega
        · omega
      · rcases hc with ⟨_, e⟩ | ⟨ha, _⟩ | ⟨ha, _⟩
        · exact fin e
        · omega
        · omega
      · refine ⟨_, B21.cell rfl, IfB.dec (fun q3 => ?_) (fun q3 => ⟨_, B21.cell rfl, IfB.dec (fun q4 => ?_) (fun q4 => ⟨_, B21.cell rfl, _, B21.cell rfl, form179_c _ _ fun b hb => ?_⟩)⟩)⟩
        · rcases hc with ⟨hn', _⟩ | ⟨ha, hf, e⟩ | ⟨ha, hf, _⟩
          · omega
          · rcases fe.1 hf with ⟨e2, _⟩ | ⟨e2, q, _⟩
            · exact fin (e.trans e2)
            · omega
          · have := fe.2 hf; omega
        · rcases hc with ⟨hn', _⟩ | ⟨ha, hf, e⟩ | ⟨ha, hf, _⟩
          · omega
          · rcases fe.1 hf with ⟨e2, _⟩ | ⟨e2, q, _⟩
            · exact fin (e.trans e2)
            · omega
          · have := fe.2 hf; omega
        · cases b with
          | false =>
            refine ifb_t ?_
            rcases hc with ⟨hn', _⟩ | ⟨ha, hf, e⟩ | ⟨ha, hf, _⟩
            · omega
            · rcases fe.1 hf with ⟨e2, q⟩ | ⟨e2, q, _⟩
              · omega
              · exact fin (e.trans e2)
            · have := hb.2 (fe.2 hf).2.2.1
              cases this
          | true =>
            have hb := hb.1 rfl
            refine ifb_f ⟨_, B21.cell rfl, IfB.dec (fun q5 => ?_) (fun q5 => ⟨_, B21.cell rfl, fit64 (by omega) (by omega), IfB.dec (fun q6 => ?_) (fun q6 => ?_)⟩)⟩
            · rcases hc with ⟨hn', _⟩ | ⟨ha, hf, e⟩ | ⟨ha, hf, _⟩
              · omega
              · rcases fe.1 hf with ⟨e2, q⟩ | ⟨e2, q, _⟩
                · omega
                · exact fin (e.trans e2)
              · have := (fe.2 hf).2.2.2; omega
            · rcases hc with ⟨hn', _⟩ | ⟨ha, hf, e⟩ | ⟨ha, hf, hr, e⟩
              · omega
              · rcases fe.1 hf with ⟨e2, q⟩ | ⟨e2, q, _, q2⟩
                · omega
                · exact absurd ⟨hb, by omega⟩ q2
              · exact fin e
            · rcases hc with ⟨hn', _⟩ | ⟨ha, hf, e⟩ | ⟨ha, hf, hr, e⟩
              · omega
              · rcases fe.1 hf with ⟨e2, q⟩ | ⟨e2, q, _, q2⟩
                · omega
                · exact absurd ⟨hb, by omega⟩ q2
              · omega
    · have h21 := hy.still d21.fr
      have hz := fe.2 hf
      refine ifb_no (decide_eq_false (by omega)) ⟨_, B21.cell rfl, _, h21.hd.cell rfl, ifb_no (decide_eq_false (by omega)) ⟨_, B21.cell rfl, ifb_no (decide_eq_false (by omega)) ⟨_, B21.cell rfl, ifb_no (decide_eq_false (by omega)) ⟨_, B21.cell rfl, _, B21.cell rfl, form179_c _ _ fun b hb => ?_⟩⟩⟩⟩
      rw [hb.2 hz.2.2.1]
      refine ifb_f ⟨_, B21.cell rfl, ifb_no (decide_eq_false (by omega)) ⟨_, B21.cell rfl, fit64 (by omega) (by omega), ifb_no (decide_eq_false (by omega)) ⟨rfl, rfl, by omega, own9, G', ss', o9, B21, e', t', h21⟩⟩⟩
  · rintro - w20 ⟨rfl, rfl, hf, own20, G20, ss20, o20, B20, e20, t20, h20⟩
    refine ⟨fun w' => w' = w20, ifb_nyes rfl (ifb_no (decide_eq_false (by have := h.H.facts.2.2.2.2.2.2.2.2; omega)) (at100_c h20 (by omega) _ (fun hno => ifb_no rfl rfl) (fun i r hr er => ?_))), ?_⟩
    · have := (h.pos r (List.mem_of_getElem? hr)).2; omega
    rintro - w34 rfl
    intro w37 d37
    have h37 := h20.still d37.fr
    have B37 := B20.fr (d37.fr []) (by simp)
    have l0 := h.H.facts.2.2.2.2.2.2.2.2
    refine addrec_c (F := fun w => K true w) h37 B37 hf (by omega) (ref := last + 1) (by omega) (fun r hr => by have := (h.pos r hr).2; omega) fun w' own' a' c' wa wc Y' st' => hK w' ⟨own', G20, ss20, last + 1, _, a', c', _, Y', ?_, bd.next hn (by omega) (by simp) t20 (by decide)⟩
    unfold Rel9 at re ⊢
    rw [List.map_append, List.map_append, re]; rfl
end
end Go.Proofs.Ytfpghcdjfiggiaa.V
