/- The law SpineActs: its own record. No condition. -/
import Derived.Test.YtfpghcdjfiggiaaLaws7
import Derived.Test.YtfpghcdjfiggiaaRec
import Derived.Test.YtfpghcdjfiggiaaGSpineA
namespace Go.Proofs.Ytfpghcdjfiggiaa.V
open Go Go.RowKit

/-- What the record says of an array; its words are told beside. -/
structure PR where
  id : Int
  wa : Option Addr
  wc : Nat
  gone : Bool
  by_ : Int
  ws : List Int

def encPR : Enc PR := ⟨4, fun r => [.int .i64 r.id, .slice r.wa r.ws.length r.wc, .bool r.gone, .int .i64 r.by_], fun _ => rfl, by decide⟩

def gsum (p : PR → Bool) : List PR → Int
  | [] => 0
  | r :: rs => (if p r = true then (r.ws.length : Int) + 4 else 0) + gsum p rs

theorem gsum_app (p : PR → Bool) (a b : List PR) : gsum p (a ++ b) = gsum p a + gsum p b := by
  induction a with
  | nil => simp [gsum]
  | cons r a ih => simp [gsum, ih]; omega
theorem gsum_pos (p : PR → Bool) (a : List PR) : 0 ≤ gsum p a := by
  induction a with
  | nil => simp [gsum]
  | cons r a ih => unfold gsum; split <;> omega
theorem gsum_split (p : PR → Bool) (a : List PR) : gsum (fun _ => true) a = gsum p a + gsum (fun r => !p r) a := by
  induction a with
  | nil => simp [gsum]
  | cons r a ih => unfold gsum; rw [ih]; cases p r <;> simp <;> omega
theorem gsum_congr {p q : PR → Bool} (a : List PR) (h : ∀ r ∈ a, p r = q r) : gsum p a = gsum q a := by
  induction a with
  | nil => rfl
  | cons r a ih => unfold gsum; rw [h r (by simp), ih (fun r hr => h r (by simp [hr]))]
theorem gsum_filter (p q : PR → Bool) (a : List PR) : gsum p (a.filter q) = gsum (fun r => q r && p r) a := by
  induction a with
  | nil => rfl
  | cons r a ih =>
    rw [List.filter_cons]
    cases hq : q r with
    | true => rw [if_pos rfl]; simp only [gsum, ih, hq, Bool.true_and]
    | false => rw [if_neg (by simp)]; simp only [gsum, ih, hq, Bool.false_and]; simp

theorem gsum_need : ∀ (rs : List PR) (l : List Arr), (∀ x ∈ l, (x.vs.length : Int) = x.n) → (rs.filter fun r => !r.gone).map (fun r => (r.id, r.ws)) = vw l → gsum (fun r => !r.gone) rs = need l
  | [], l, _, h => by
    have : l = [] := by
      cases l with
      | nil => rfl
      | cons x l => simp [vw] at h
    subst this; rfl
  | r :: rs, l, hs, h => by
    rw [List.filter_cons] at h
    cases hg : r.gone with
    | true =>
      rw [hg] at h
      simp only [Bool.not_true, Bool.false_eq_true, if_false] at h
      unfold gsum
      rw [gsum_need rs l hs h, hg]; simp
    | false =>
      rw [hg] at h
      simp only [Bool.not_false, if_true, List.map_cons] at h
      cases l with
      | nil => simp [vw] at h
      | cons x l =>
        simp only [vw, List.map_cons, List.cons.injEq, Prod.mk.injEq] at h
        unfold gsum
        rw [gsum_need rs l (fun y hy => hs y (by simp [hy])) h.2, hg]
        have := hs x (by simp)
        rw [← h.1.2] at this
        simp [need]; omega

structure Y17 (W w : World) (F : List Nat) (s ab y : Nat) (g : SG) (l : List Arr) (ss : List Int) (aa : Option Addr) (ac : Nat) (rs : List PR) (beg : Int) (und : Bool) : Prop where
  S : ∃ mb wb sb ws la lc clk, SpAt w F s mb ab wb sb g l ws ss la lc clk ∧ SInv g l ws
  Y : Blk w y [ptrV s, ptrV ab, .int .i64 g.half, .slice aa rs.length ac, .int .i64 beg, .bool und]
  R : SR encPR w aa ac rs
  V : ∀ r ∈ rs, SI w r.wa r.wc r.ws
  fw : Fr [] W w
  s3 : ss.length = 3
  sep : y ∉ F ∧ y ∉ ablk aa ∧ Apart (ablk aa) F
  sv : ∀ r ∈ rs, Apart (ablk r.wa) F ∧ y ∉ ablk r.wa ∧ Apart (ablk r.wa) (ablk aa)
  sw : ∀ r ∈ rs, ∀ q ∈ rs, r.id ≠ q.id → Apart (ablk r.wa) (ablk q.wa)
  up : W.heap.size ≤ y ∧ (∀ b ∈ ablk aa, W.heap.size ≤ b) ∧ (∀ r ∈ rs, ∀ b ∈ ablk r.wa, W.heap.size ≤ b) ∧ ∀ k ∈ F, W.heap.size ≤ k

structure B17 (g : SG) (l : List Arr) (ss : List Int) (rs : List PR) (beg n : Int) : Prop where
  rel : (rs.filter fun r => !r.gone).map (fun r => (r.id, r.ws)) = vw l
  ow : gsum (fun r => r.gone) rs = g.owed
  lt : g.act = true → gsum (fun r => r.gone && decide (beg ≤ r.by_)) rs = g.late
  by_ : ∀ r ∈ rs, r.by_ ≤ beg
  nd : (rs.map (·.id)).Nodup
  ids : ∀ r ∈ rs, 1 ≤ r.id ∧ r.id ≤ g.last
  nn : 0 ≤ n ∧ n ≤ 400 ∧ g.last ≤ n ∧ 0 ≤ beg ∧ beg ≤ n ∧ g.half ≤ 800
  tk : ∀ a : Nat, 0 ≤ ss.getD a 0 ∧ ss.getD a 0 ≤ 1100 * n

section
variable {W w w' : World} {F F' S : List Nat} {s ab y : Nat} {g g' : SG} {l l' : List Arr} {ss ss' : List Int} {aa : Option Addr} {ac : Nat} {rs : List PR} {beg n : Int} {und : Bool}

theorem Y17.lowF (h : Y17 W w F s ab y g l ss aa ac rs beg und) : Low F w.heap.size := by
  obtain ⟨mb, wb, sb, ws, la, lc, clk, H, I⟩ := h.S
  exact H.low

theorem Y17.stk (h : Y17 W w F s ab y g l ss aa ac rs beg und) (S' : ∃ mb wb sb ws la lc clk, SpAt w' F' s mb ab wb sb g' l' ws ss' la lc clk ∧ SInv g' l' ws) (eh : g'.half = g.half) (e3 : ss'.length = 3) (f : Fr F w w') (gr : Grw F F' w.heap.size) :
    Y17 W w' F' s ab y g' l' ss' aa ac rs beg und := by
  obtain ⟨s1, s2, s3⟩ := h.sep
  obtain ⟨u1, u2, u3, u4⟩ := h.up
  have yl := h.Y.lt
  refine ⟨S', by rw [eh]; exact h.Y.fr f s1, h.R.fr f s3, fun r hr => (h.V r hr).fr f (h.sv r hr).1, h.fw.trans f (fun k hk => .inr (u4 k hk)), e3, ⟨fun hy => ?_, s2, s3.growr h.R.low gr⟩, fun r hr => ⟨(h.sv r hr).1.growr (h.V r hr).low gr, (h.sv r hr).2⟩, h.sw, u1, u2, u3, gr.up u4 h.fw.size⟩
  rcases gr y hy with q | q
  · exact s1 q
  · omega

theorem Y17.fr0 (h : Y17 W w F s ab y g l ss aa ac rs beg und) (f : ∀ S, Fr S w w') : Y17 W w' F s ab y g l ss aa ac rs beg und := by
  obtain ⟨mb, wb, sb, ws, la, lc, clk, H, I⟩ := h.S
  exact h.stk ⟨mb, wb, sb, ws, la, lc, clk, H.fr0 (f []), I⟩ rfl h.s3 (f F) (fun b hb => .inl hb)

/-- The record's own cells are others: how many cycles began, and whether one is under way. -/
theorem Y17.head (h : Y17 W w F s ab y g l ss aa ac rs beg und) {beg' : Int} {und' : Bool} (B : Blk w' y [ptrV s, ptrV ab, .int .i64 g.half, .slice aa rs.length ac, .int .i64 beg', .bool und']) (f : Fr [y] w w') : Y17 W w' F s ab y g l ss aa ac rs beg' und' := by
  obtain ⟨mb, wb, sb, ws, la, lc, clk, H, I⟩ := h.S
  obtain ⟨s1, s2, s3⟩ := h.sep
  have hy : ∀ {G : List Nat}, y ∉ G → Apart G [y] := fun hG b hb hb2 => by simp at hb2; subst hb2; exact hG hb
  exact ⟨⟨mb, wb, sb, ws, la, lc, clk, H.frame f (hy s1), I⟩, B, h.R.fr f (hy s2), fun r hr => (h.V r hr).fr f (hy (h.sv r hr).2.1), h.fw.trans f (by simp; exact h.up.1), h.s3, h.sep, h.sv, h.sw, h.up⟩

theorem flat_same {r r' : PR} (e : encPR.f r' = encPR.f r) : ∀ {rs : List PR} {i : Nat}, rs[i]? = some r → (rs.set i r').flatMap encPR.f = rs.flatMap encPR.f
  | [], i, h => by simp at h
  | x :: rs, 0, h => by
    simp only [List.getElem?_cons_zero, Option.some.injEq] at h
    subst h
    rw [List.set_cons_zero, List.flatMap_cons, List.flatMap_cons, e]
  | x :: rs, i + 1, h => by
    rw [List.getElem?_cons_succ] at h
    rw [List.set_cons_succ, List.flatMap_cons, List.flatMap_cons, flat_same e h]

/-- A record is another, of the same array. -/
theorem Y17.put (h : Y17 W w F s ab y g l ss aa ac rs beg und) (nd : (rs.map (·.id)).Nodup) {i : Nat} {r r' : PR} (hr : rs[i]? = some r) (e1 : r'.id = r.id) (e2 : r'.wa = r.wa) (e3 : r'.wc = r.wc) {S : List Nat} (f : Fr S w w')
    (hS : S = ablk aa ∨ S = ablk r.wa) (R' : SR encPR w' aa ac (rs.set i r')) (V' : SI w' r.wa r.wc r'.ws) : Y17 W w' F s ab y g l ss aa ac (rs.set i r') beg und := by
  obtain ⟨mb, wb, sb, ws, la, lc, clk, H, I⟩ := h.S
  obtain ⟨s1, s2, s3⟩ := h.sep
  obtain ⟨u1, u2, u3, u4⟩ := h.up
  have hm := List.mem_of_getElem? hr
  have sr := h.sv r hm
  have hF : Apart F S := by
    rcases hS with rfl | rfl
    · exact s3.symm
    · exact sr.1.symm
  have hy : y ∉ S := by
    rcases hS with rfl | rfl
    · exact s2
    · exact sr.2.1
  have mem : ∀ q ∈ rs.set i r', q = r' ∨ (q ∈ rs ∧ q.id ≠ r.id) := fun q hq => by
    obtain ⟨j, hj, e⟩ := List.mem_iff_getElem.1 hq
    rw [List.getElem_set] at e
    by_cases ij : i = j
    · rw [if_pos ij] at e; exact .inl e.symm
    · rw [if_neg ij] at e
      have hj' : j < rs.length := by simpa using hj
      refine .inr ⟨by rw [← e]; exact List.getElem_mem hj', fun e4 => ij ?_⟩
      have hi := (List.getElem?_eq_some_iff.1 hr)
      obtain ⟨hi1, hi2⟩ := hi
      rw [← e, ← hi2] at e4
      have pw := List.pairwise_iff_getElem.1 nd
      rcases Nat.lt_trichotomy i j with q | q | q
      · exact absurd (by rw [List.getElem_map, List.getElem_map]; exact e4.symm) (pw i j (by simpa using hi1) (by simpa using hj') q)
      · exact q
      · exact absurd (by rw [List.getElem_map, List.getElem_map]; exact e4) (pw j i (by simpa using hj') (by simpa using hi1) q)
  refine ⟨⟨mb, wb, sb, ws, la, lc, clk, H.frame f hF, I⟩, by simpa using h.Y.fr f hy, R', fun q hq => ?_, h.fw.trans f (fun k hk => .inr ?_), h.s3, h.sep, fun q hq => ?_, fun q hq p hp hn => ?_, u1, u2, fun q hq => ?_, u4⟩
  · rcases mem q hq with rfl | ⟨hq, hn⟩
    · rw [e2, e3]; exact V'
    · refine (h.V q hq).fr f ?_
      rcases hS with rfl | rfl
      · exact (h.sv q hq).2.2
      · exact h.sw q hq r hm hn
  · rcases hS with rfl | rfl
    · exact u2 k hk
    · exact u3 r hm k hk
  · rcases mem q hq with rfl | ⟨hq, hn⟩
    · rw [e2]; exact sr
    · exact h.sv q hq
  · rcases mem q hq with eq1 | ⟨hq1, hq2⟩
    · rcases mem p hp with ep1 | ⟨hp1, hp2⟩
      · exact absurd (by rw [eq1, ep1]) hn
      · rw [eq1, e2]; exact h.sw r hm p hp1 (fun e => hp2 e.symm)
    · rcases mem p hp with ep1 | ⟨hp1, hp2⟩
      · rw [ep1, e2]; exact h.sw q hq1 r hm hq2
      · exact h.sw q hq1 p hp1 hn
  · rcases mem q hq with rfl | ⟨hq, hn⟩
    · rw [e2]; exact u3 r hm
    · exact u3 q hq

theorem B17.toL (b : B17 g l ss rs beg n) {r : PR} (hr : r ∈ rs) (hg : r.gone = false) : ∃ x ∈ l, x.id = r.id ∧ x.vs = r.ws := by
  have : (r.id, r.ws) ∈ vw l := by
    rw [← b.rel]
    exact List.mem_map.2 ⟨r, List.mem_filter.2 ⟨hr, by simp [hg]⟩, rfl⟩
  obtain ⟨x, hx, e⟩ := List.mem_map.1 this
  exact ⟨x, hx, (Prod.mk.inj e).1, (Prod.mk.inj e).2⟩
theorem B17.ofL (b : B17 g l ss rs beg n) {x : Arr} (hx : x ∈ l) : ∃ r ∈ rs, r.gone = false ∧ r.id = x.id ∧ r.ws = x.vs := by
  have : (x.id, x.vs) ∈ (rs.filter fun r => !r.gone).map (fun r => (r.id, r.ws)) := by
    rw [b.rel]
    exact List.mem_map.2 ⟨x, hx, rfl⟩
  obtain ⟨r, hr, e⟩ := List.mem_map.1 this
  obtain ⟨h1, h2⟩ := List.mem_filter.1 hr
  exact ⟨r, h1, by simpa using h2, (Prod.mk.inj e).1, (Prod.mk.inj e).2⟩

/-- What must be free. -/
theorem room78_c (h : Y17 W w F s ab y g l ss aa ac rs beg und) (b : B17 g l ss rs beg n) {K : Int → World → Prop} (hK : K (g.half - g.owed - need l) w) : C78 (some ⟨y, 0, none⟩) w K := by
  obtain ⟨mb, wb, sb, ws, la, lc, clk, H, I⟩ := h.S
  have hs := gsum_split (fun r => r.gone) rs
  rw [gsum_need rs l (fun x hx => (I.sz x hx).2.2) b.rel, b.ow] at hs
  have hrm := I.rm
  have hge := I.geo
  have hnn := b.nn
  have len : (rs.length : Int) ≤ gsum (fun _ => true) rs := by
    have : ∀ rs : List PR, (rs.length : Int) ≤ gsum (fun _ => true) rs := fun rs => by
      induction rs with
      | nil => simp [gsum]
      | cons r rs ih => simp [gsum]; omega
    exact this rs
  refine r_f78 _ _ _ ⟨_, h.Y.cell rfl, fun v i w' => 0 ≤ i ∧ i ≤ rs.length ∧ v = g.half - gsum (fun _ => true) (rs.take i.toNat) ∧ w' = w, fun _ i _ => (rs.length - i).toNat, ⟨by decide, by omega, by simp [gsum], rfl⟩, ?_⟩
  rintro - v i w1 ⟨hi0, hi1, rfl, rfl⟩
  refine ⟨_, _, _, h.Y.cell rfl, IfB.dec (fun hlt => ⟨_, _, _, h.Y.cell rfl, ?_⟩) (fun hge => ?_)⟩
  · refine h.R.get hi0 hlt fun r p hr hc _ _ _ => ⟨⟨hi0, hlt⟩, _, _, _, hc 1 (by decide), ?_⟩
    have hil := (List.getElem?_eq_some_iff.1 hr).1
    have he := (List.getElem?_eq_some_iff.1 hr).2
    have ei : (i + 1).toNat = i.toNat + 1 := by omega
    have e2 : gsum (fun _ => true) (rs.take (i + 1).toNat) = gsum (fun _ => true) (rs.take i.toNat) + (r.ws.length + 4) := by
      rw [ei, List.take_succ_eq_append_getElem hil, gsum_app, he]; simp [gsum]
    have e3 : gsum (fun _ => true) rs = gsum (fun _ => true) (rs.take (i + 1).toNat) + gsum (fun _ => true) (rs.drop (i + 1).toNat) := by rw [← gsum_app, List.take_append_drop]
    have p1 := gsum_pos (fun _ => true) (rs.take i.toNat)
    have p2 := gsum_pos (fun _ => true) (rs.drop (i + 1).toNat)
    exact ⟨fit64 (by omega) (by omega), fit64 (by omega) (by omega), fit64 (by omega) (by omega), ⟨by omega, by omega, by rw [e2]; omega, rfl⟩, by dsimp only; omega⟩
  · rw [List.take_of_length_le (by omega), hs]
    have : g.half - (g.owed + need l) = g.half - g.owed - need l := by omega
    rw [this]; exact hK

/-- The array of an id that is there. -/
theorem at149_c (h : Y17 W w F s ab y g l ss aa ac rs beg und) (hl : rs.length ≤ 1000000) (id : Int) {K : Int → World → Prop} (hyes : ∀ (i : Nat) r, rs[i]? = some r → r.id = id → r.gone = false → K i w) (hno : (∀ r ∈ rs, r.id = id → r.gone = true) → K (-1) w) :
    C149 (some ⟨y, 0, none⟩) id w K := by
  refine r_f149 _ _ _ _ ⟨fun i w' => 0 ≤ i ∧ i ≤ rs.length ∧ w' = w ∧ ∀ j : Nat, j < i → ∀ r, rs[j]? = some r → r.id = id → r.gone = true, fun i _ => (rs.length - i).toNat, ⟨by decide, by omega, rfl, fun j hj => by omega⟩, ?_⟩
  rintro - i w1 ⟨hi0, hi1, rfl, hp⟩
  refine ⟨_, _, _, h.Y.cell rfl, IfB.dec (fun hlt => ⟨_, _, _, h.Y.cell rfl, ?_⟩) (fun hge => hno fun r hr e => ?_)⟩
  · refine h.R.get hi0 hlt fun r p hr hc _ _ _ => ⟨⟨hi0, hlt⟩, _, hc 0 (by decide), ?_⟩
    have next : (r.id = id → r.gone = true) → Fit .i64 (i + 1) ∧ ((0 ≤ i + 1 ∧ i + 1 ≤ rs.length ∧ w1 = w1 ∧ ∀ j : Nat, j < i + 1 → ∀ r, rs[j]? = some r → r.id = id → r.gone = true) ∧ (rs.length - (i + 1)).toNat < (rs.length - i).toNat) := fun hg => ⟨fit64 (by omega) (by omega), ⟨by omega, by omega, rfl, fun j hj q hq e => by
      by_cases ej : j = i.toNat
      · subst ej; rw [hr] at hq; cases hq; exact hg e
      · exact hp j (by omega) q hq e⟩, by omega⟩
    refine IfB.dec (fun e => ⟨_, _, _, h.Y.cell rfl, ?_⟩) (fun e => next fun e2 => absurd e2 e)
    refine h.R.get hi0 hlt fun r2 p2 hr2 hc2 _ _ _ => ⟨⟨hi0, hlt⟩, _, hc2 2 (by decide), ?_⟩
    rw [hr] at hr2
    cases hr2
    cases hg : r.gone with
    | true => exact ifb_f (next fun _ => hg)
    | false =>
      refine ifb_t ?_
      have := hyes i.toNat r hr e hg
      rwa [Int.toNat_of_nonneg hi0] at this
  · obtain ⟨j, hj, e2⟩ := List.mem_iff_getElem.1 hr
    exact hp j (by omega) r (by rw [List.getElem?_eq_getElem hj, e2]) e
end
end Go.Proofs.Ytfpghcdjfiggiaa.V
