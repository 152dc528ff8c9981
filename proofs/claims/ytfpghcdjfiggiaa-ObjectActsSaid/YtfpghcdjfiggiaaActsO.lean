/- ObjectActs: the player's words beside the store. No condition. -/
import Derived.Test.YtfpghcdjfiggiaaObjE
import Derived.Test.YtfpghcdjfiggiaaSVApp
import Derived.Test.YtfpghcdjfiggiaaTag
import Derived.Test.YtfpghcdjfiggiaaGObjectA
namespace Go.Proofs.Ytfpghcdjfiggiaa.V
open Go Go.RowKit

/-- The player's object. -/
structure YO where
  ref : Int
  wa : Option Addr
  wc : Nat
  ws : List Int
def encYO : Enc YO := ⟨1, fun r => [.slice r.wa r.ws.length r.wc], fun _ => rfl, by decide⟩
def ytag (r : YO) : Nat := 10 + r.ref.toNat

/-- The store, its pool and its arena. -/
def Oz (w : World) (G : List Nat) (s pb ab : Nat) (count : Int) (fr : Nat) (ss : List Int) (os : List Ob) (last : Int) : Prop :=
  ∃ om F wb sb free ws clk, Ox w F s om pb ab wb sb count free ws ss clk os last ∧ G = s :: om :: F ∧ free.length = fr

structure Yo (W w : World) (own : Nat → Nat) (y s pb ab : Nat) (count : Int) (G : List Nat) (fr : Nat) (ss : List Int) (last : Int) (os : List Ob) (a : Option Addr) (c : Nat) (refs : List Int) (qa : Option Addr) (qc : Nat) (rs : List YO) : Prop where
  H : Oz w G s pb ab count fr ss os last
  hd : Blk w y [.pointer (some ⟨s, 0, none⟩), .pointer (some ⟨pb, 0, none⟩), .pointer (some ⟨ab, 0, none⟩), .int .i64 count, .slice a refs.length c, .slice qa rs.length qc]
  R : SI w a c refs
  T : SR encYO w qa qc rs
  V : ∀ r ∈ rs, SI w r.wa r.wc r.ws
  o1 : Tag own G 1
  o2 : Tag own [y] 2
  o3 : Tag own (ablk a) 3
  o5 : Tag own (ablk qa) 5
  o4 : ∀ r ∈ rs, Tag own (ablk r.wa) (ytag r)
  pos : ∀ r ∈ rs, 1 ≤ r.ref ∧ r.ref ≤ last
  pw : (rs.map (·.ref)).Pairwise (· < ·)
  base : ∀ b, b < W.heap.size → own b = 0
  fw : Fr [] W w

/-- What a step leaves alone: blocks of tags 0 and 4. -/
structure Stp (w w' : World) (own own' : Nat → Nat) : Prop where
  fr : ∃ S, Fr S w w' ∧ ∀ b ∈ S, own b ≠ 0 ∧ own b ≠ 4
  ag : ∀ b, b < w.heap.size → own' b = own b

theorem Stp.still {w w' : World} {own : Nat → Nat} (f : ∀ S, Fr S w w') : Stp w w' own own := ⟨⟨[], f [], by simp⟩, fun _ _ => rfl⟩
theorem Stp.of {w w' : World} {own : Nat → Nat} {S : List Nat} {k : Nat} (f : Fr S w w') (t : Tag own S k) (hk : k ≠ 0 ∧ k ≠ 4) (j : Nat) : Stp w w' own (ext own w.heap.size j) :=
  ⟨⟨S, f, fun b hb => by rw [t b hb]; exact hk⟩, fun b hb => by unfold ext; rw [if_pos hb]⟩
theorem Stp.size {w w' : World} {own own' : Nat → Nat} (s : Stp w w' own own') : w.heap.size ≤ w'.heap.size := by obtain ⟨⟨S, f, _⟩, _⟩ := s; exact f.size
theorem Stp.trans {w w1 w2 : World} {own own1 own2 : Nat → Nat} (s : Stp w w1 own own1) (s' : Stp w1 w2 own1 own2) : Stp w w2 own own2 := by
  obtain ⟨⟨S, f, hS⟩, a⟩ := s
  obtain ⟨⟨S', f', hS'⟩, a'⟩ := s'
  refine ⟨⟨S ++ S'.filter (· < w.heap.size), ?_, fun b hb => ?_⟩, fun b hb => by rw [a' b (Nat.lt_of_lt_of_le hb f.size), a b hb]⟩
  · refine (f.mono (fun k hk => .inl (by simp [hk]))).trans f' (fun k hk => ?_)
    by_cases h : k < w.heap.size
    · exact .inl (by simp [hk, h])
    · exact .inr (by omega)
  · rcases List.mem_append.1 hb with h | h
    · exact hS b h
    · obtain ⟨h1, h2⟩ := List.mem_filter.1 h
      simp at h2
      have := hS' b h1
      rw [a b h2] at this
      exact this
/-- The act's own copy. -/
theorem Stp.blk {w w' : World} {own own' : Nat → Nat} {b : Nat} {cs : List Value} (s : Stp w w' own own') (h : Blk w b cs) (e : own b = 4) : Blk w' b cs ∧ own' b = 4 := by
  have hl := h.lt
  refine ⟨?_, by rw [s.ag b hl]; exact e⟩
  obtain ⟨⟨S, f, hS⟩, _⟩ := s
  exact h.fr f (fun hb => (hS b hb).2 e)

section
variable {W w w' : World} {own own' : Nat → Nat} {y s pb ab : Nat} {count : Int} {G G' S : List Nat} {fr fr' : Nat} {ss ss' : List Int} {last last' : Int} {os os' : List Ob} {a qa : Option Addr} {c qc : Nat} {refs : List Int} {rs : List YO}

theorem Oz.frame (h : Oz w G s pb ab count fr ss os last) (f : Fr S w w') (hS : Apart G S) : Oz w' G s pb ab count fr ss os last := by
  obtain ⟨om, F, wb, sb, free, ws, clk, O, rfl, e⟩ := h
  exact ⟨om, F, wb, sb, free, ws, clk, O.frame f hS, rfl, e⟩
theorem Oz.fr0 (h : Oz w G s pb ab count fr ss os last) (f : ∀ S, Fr S w w') : Oz w' G s pb ab count fr ss os last := h.frame (f []) (by intro b _; simp)
theorem Oz.low (h : Oz w G s pb ab count fr ss os last) : Low G w.heap.size := by
  obtain ⟨om, F, wb, sb, free, ws, clk, O, rfl, e⟩ := h
  exact O.low
theorem Oz.inv (h : Oz w G s pb ab count fr ss os last) : ∃ ws free, OInv ws 0 count free os last := by
  obtain ⟨om, F, wb, sb, free, ws, clk, O, rfl, e⟩ := h
  exact ⟨ws, free, O.I⟩

theorem Yo.lows (h : Yo W w own y s pb ab count G fr ss last os a c refs qa qc rs) : Low G w.heap.size ∧ Low [y] w.heap.size ∧ Low (ablk a) w.heap.size ∧ Low (ablk qa) w.heap.size ∧ ∀ r ∈ rs, Low (ablk r.wa) w.heap.size :=
  ⟨h.H.low, fun b hb => by simp at hb; subst hb; exact h.hd.lt, h.R.low, h.T.low, fun r hr => (h.V r hr).low⟩

theorem fw_step (f0 : Fr [] W w) (base : ∀ b, b < W.heap.size → own b = 0) (f : Fr S w w') {k : Nat} (t : Tag own S k) (hk : k ≠ 0) : Fr [] W w' :=
  f0.trans f fun b hb => by
    rcases Nat.lt_or_ge b W.heap.size with q | q
    · exact absurd ((t b hb).symm.trans (base b q)) hk
    · exact .inr q
theorem base_step (f0 : Fr [] W w) (base : ∀ b, b < W.heap.size → own b = 0) (k : Nat) : ∀ b, b < W.heap.size → ext own w.heap.size k b = 0 := fun b hb => by
  have := f0.size
  unfold ext; rw [if_pos (by omega)]; exact base b hb

theorem Yo.still (h : Yo W w own y s pb ab count G fr ss last os a c refs qa qc rs) (f : ∀ S, Fr S w w') : Yo W w' own y s pb ab count G fr ss last os a c refs qa qc rs :=
  ⟨h.H.fr0 f, h.hd.fr (f []) (by simp), h.R.fr (f []) (by intro b _; simp), h.T.fr0 (f []), fun r hr => (h.V r hr).fr (f []) (by intro b _; simp), h.o1, h.o2, h.o3, h.o5, h.o4, h.pos, h.pw, h.base, h.fw.more (f [])⟩

/-- New blocks are there. -/
theorem Yo.new (h : Yo W w own y s pb ab count G fr ss last os a c refs qa qc rs) (f : ∀ S, Fr S w w') (k : Nat) : Yo W w' (ext own w.heap.size k) y s pb ab count G fr ss last os a c refs qa qc rs ∧ Stp w w' own (ext own w.heap.size k) := by
  obtain ⟨l1, l2, l3, l5, l4⟩ := h.lows
  have q := h.still f
  exact ⟨⟨q.H, q.hd, q.R, q.T, q.V, h.o1.keep l1 k, h.o2.keep l2 k, h.o3.keep l3 k, h.o5.keep l5 k, fun r hr => (h.o4 r hr).keep (l4 r hr) k, h.pos, h.pw, base_step h.fw h.base k, q.fw⟩, ⟨⟨[], f [], by simp⟩, fun b hb => by unfold ext; rw [if_pos hb]⟩⟩

/-- Blocks of a tag of their own turn. -/
theorem Yo.other (h : Yo W w own y s pb ab count G fr ss last os a c refs qa qc rs) {k : Nat} (f : Fr S w w') (t : Tag own S k) (hk : k = 4 ∨ (6 ≤ k ∧ k < 10)) : Yo W w' own y s pb ab count G fr ss last os a c refs qa qc rs :=
  ⟨h.H.frame f (h.o1.apart t (by omega)), h.hd.fr f (h.o2.apart t (by omega) y (by simp)), h.R.fr f (h.o3.apart t (by omega)), h.T.fr f (h.o5.apart t (by omega)), fun r hr => (h.V r hr).fr f ((h.o4 r hr).apart t (by unfold ytag; omega)), h.o1, h.o2, h.o3, h.o5, h.o4, h.pos, h.pw, h.base, fw_step h.fw h.base f t (by omega)⟩

/-- The store turns. -/
theorem Yo.store (h : Yo W w own y s pb ab count G fr ss last os a c refs qa qc rs) (H' : Oz w' G' s pb ab count fr' ss' os' last') (f : Fr G w w') (g : Grw G G' w.heap.size) (hl : last ≤ last') :
    Yo W w' (ext own w.heap.size 1) y s pb ab count G' fr' ss' last' os' a c refs qa qc rs ∧ Stp w w' own (ext own w.heap.size 1) := by
  obtain ⟨l1, l2, l3, l5, l4⟩ := h.lows
  have ap : ∀ {F : List Nat} {i : Nat}, Tag own F i → i ≠ 1 → Apart F G := fun t hi => t.apart h.o1 hi
  refine ⟨⟨H', h.hd.fr f (ap h.o2 (by decide) y (by simp)), h.R.fr f (ap h.o3 (by decide)), h.T.fr f (ap h.o5 (by decide)), fun r hr => (h.V r hr).fr f (ap (h.o4 r hr) (by unfold ytag; omega)), h.o1.grow l1 g, h.o2.keep l2 1, h.o3.keep l3 1, h.o5.keep l5 1, fun r hr => (h.o4 r hr).keep (l4 r hr) 1, fun r hr => ⟨(h.pos r hr).1, by have := (h.pos r hr).2; omega⟩, h.pw, base_step h.fw h.base 1, fw_step h.fw h.base f h.o1 (by decide)⟩, Stp.of f h.o1 (by decide) 1⟩

theorem flat_same8 {r r' : YO} (e : encYO.f r' = encYO.f r) : ∀ {rs : List YO} {i : Nat}, rs[i]? = some r → (rs.set i r').flatMap encYO.f = rs.flatMap encYO.f
  | [], _, h => by simp at h
  | x :: rs, 0, h => by
    simp at h; subst h
    simp only [List.set_cons_zero, List.flatMap_cons, e]
  | x :: rs, i + 1, h => by
    simp only [List.set_cons_succ, List.flatMap_cons]
    rw [flat_same8 e (by simpa using h)]

theorem pw_ne {rs : List YO} (pw : (rs.map (·.ref)).Pairwise (· < ·)) {i j : Nat} {r q : YO} (hr : rs[i]? = some r) (hq : rs[j]? = some q) (hne : i ≠ j) : q.ref ≠ r.ref := by
  obtain ⟨hi, ei⟩ := List.getElem?_eq_some_iff.1 hr
  obtain ⟨hj, ej⟩ := List.getElem?_eq_some_iff.1 hq
  have pw := List.pairwise_iff_getElem.1 pw
  rcases Nat.lt_or_gt_of_ne hne with q1 | q1
  · have := pw i j (by simpa using hi) (by simpa using hj) q1
    rw [List.getElem_map, List.getElem_map, ei, ej] at this; omega
  · have := pw j i (by simpa using hj) (by simpa using hi) q1
    rw [List.getElem_map, List.getElem_map, ei, ej] at this; omega

/-- An object's word turns. -/
theorem Yo.word (h : Yo W w own y s pb ab count G fr ss last os a c refs qa qc rs) {i : Nat} {r : YO} (hr : rs[i]? = some r) {ws' : List Int} (hl : ws'.length = r.ws.length) (S' : SI w' r.wa r.wc ws') (f : Fr (ablk r.wa) w w') :
    Yo W w' own y s pb ab count G fr ss last os a c refs qa qc (rs.set i { r with ws := ws' }) ∧ Stp w w' own own := by
  have hm := List.mem_of_getElem? hr
  have t := h.o4 r hm
  have ap : ∀ {F : List Nat} {k : Nat}, Tag own F k → k ≠ ytag r → Apart F (ablk r.wa) := fun q hk => q.apart t hk
  have er : (rs.set i { r with ws := ws' }).map (·.ref) = rs.map (·.ref) := by
    rw [List.map_set]
    refine List.ext_getElem (by simp) fun j h1 h2 => ?_
    rw [List.getElem_set]
    split
    · rename_i e; subst e
      rw [List.getElem_map]
      have := List.getElem?_eq_some_iff.1 hr
      rw [this.2]
    · rfl
  have mem : ∀ q ∈ rs.set i { r with ws := ws' }, q = { r with ws := ws' } ∨ (q ∈ rs ∧ q.ref ≠ r.ref) := fun q hq => by
    obtain ⟨j, hj⟩ := List.getElem?_of_mem hq
    rw [List.getElem?_set] at hj
    split at hj
    · split at hj
      · exact .inl (by simpa using hj.symm)
      · cases hj
    · rename_i hne
      exact .inr ⟨List.mem_of_getElem? hj, pw_ne h.pw hr hj hne⟩
  have tne : ∀ q ∈ rs, q.ref ≠ r.ref → ytag q ≠ ytag r := fun q hq hne => by
    have := (h.pos q hq).1; have := (h.pos r hm).1
    unfold ytag; omega
  refine ⟨⟨h.H.frame f (ap h.o1 (by unfold ytag; omega)), by rw [List.length_set]; exact h.hd.fr f (ap h.o2 (by unfold ytag; omega) y (by simp)), h.R.fr f (ap h.o3 (by unfold ytag; omega)), ?_, fun q hq => ?_, h.o1, h.o2, h.o3, h.o5, fun q hq => ?_, fun q hq => ?_, by rw [er]; exact h.pw, h.base, fw_step h.fw h.base f t (by unfold ytag; omega)⟩, ⟨⟨_, f, fun b hb => by rw [t b hb]; unfold ytag; omega⟩, fun _ _ => rfl⟩⟩
  · have T' := h.T.fr f (ap h.o5 (by unfold ytag; omega))
    unfold SR at T' ⊢
    rw [List.length_set, flat_same8 (r := r) (by simp [encYO, hl]) hr]; exact T'
  · rcases mem q hq with rfl | ⟨q1, q2⟩
    · exact S'
    · exact (h.V q q1).fr f (ap (h.o4 q q1) (tne q q1 q2))
  · rcases mem q hq with rfl | ⟨q1, q2⟩
    · exact t
    · exact h.o4 q q1
  · rcases mem q hq with rfl | ⟨q1, q2⟩
    · exact h.pos r hm
    · exact h.pos q q1

/-- Where a ref stands. -/
theorem at93_c {w : World} {y : Nat} {a qa : Option Addr} {c qc : Nat} {k : Value} {s pb ab : Value} {rs : List Int} {l5 : Nat} (hd : Blk w y [s, pb, ab, k, .slice a rs.length c, .slice qa l5 qc]) (R : SI w a c rs) (hl : rs.length ≤ 1000) (ref : Int) {K : Int → World → Prop}
    (hK : ∀ n : Int, ((n = -1 ∧ ref ∉ rs) ∨ ∃ i : Nat, n = i ∧ rs[i]? = some ref) → K n w) : C93 (some ⟨y, 0, none⟩) ref w K := by
  refine r_f93 _ _ _ _ ⟨fun i w' => w' = w ∧ 0 ≤ i ∧ i ≤ rs.length ∧ ∀ j : Nat, j < i → rs[j]? ≠ some ref, fun i _ => (rs.length - i).toNat, ⟨rfl, by decide, by omega, fun j hj => by omega⟩, ?_⟩
  rintro - i _ ⟨rfl, h0, h1, hn⟩
  refine ⟨_, _, _, hd.cell rfl, IfB.dec (fun hlt => ⟨_, _, _, hd.cell rfl, R.get h0 hlt fun p hp => ⟨⟨h0, hlt⟩, _, hp, ?_⟩⟩) (fun hge => ?_)⟩
  · have e1 : rs[i.toNat]? = some (rs.getD i.toNat 0) := by rw [List.getD_eq_getElem?_getD, List.getElem?_eq_getElem (by omega)]; rfl
    refine IfB.dec (fun he => ?_) (fun he => ⟨fit64 (by omega) (by omega), ⟨rfl, by omega, by omega, fun j hj hq => ?_⟩, by dsimp only; omega⟩)
    · exact hK i (.inr ⟨i.toNat, by omega, by rw [e1, he]⟩)
    · by_cases e : j = i.toNat
      · subst e; rw [e1] at hq; simp at hq; exact he hq
      · exact hn j (by omega) hq
  · refine hK (-1) (.inl ⟨rfl, fun hr => ?_⟩)
    obtain ⟨j, hj⟩ := List.getElem?_of_mem hr
    have := (List.getElem?_eq_some_iff.1 hj).1
    exact hn j (by omega) hj

theorem Yo.at (h : Yo W w own y s pb ab count G fr ss last os a c refs qa qc rs) (re : refs = rs.map (·.ref)) (hl : rs.length ≤ 1000) (ref : Int) {K : Int → World → Prop}
    (hK : ∀ n : Int, ((n = -1 ∧ ∀ r ∈ rs, r.ref ≠ ref) ∨ ∃ (i : Nat) (r : YO), n = i ∧ rs[i]? = some r ∧ r.ref = ref) → K n w) : C93 (some ⟨y, 0, none⟩) ref w K := by
  have e : refs.length = rs.length := by rw [re]; simp
  refine at93_c h.hd h.R (by omega) ref fun n hn => hK n ?_
  rw [re] at hn
  rcases hn with ⟨e1, e2⟩ | ⟨i, e1, e2⟩
  · exact .inl ⟨e1, fun r hr er => e2 (er ▸ List.mem_map_of_mem hr)⟩
  · rw [List.getElem?_map] at e2
    cases hr : rs[i]? with
    | none => rw [hr] at e2; cases e2
    | some r => rw [hr] at e2; exact .inr ⟨i, r, e1, hr, by simpa using e2⟩

/-- The refs and the header turn. -/
theorem Yo.turn (h : Yo W w own y s pb ab count G fr ss last os a c refs qa qc rs) {w1 w2 : World} {a' : Option Addr} {c' : Nat} {refs' : List Int} (f1 : Fr (ablk a) w w1) (R' : SI w1 a' c' refs') (g : ∀ b ∈ ablk a', b ∈ ablk a ∨ w.heap.size ≤ b)
    (B : Blk w2 y [.pointer (some ⟨s, 0, none⟩), .pointer (some ⟨pb, 0, none⟩), .pointer (some ⟨ab, 0, none⟩), .int .i64 count, .slice a' refs'.length c', .slice qa rs.length qc]) (f2 : Fr [y] w1 w2) :
    Yo W w2 (ext own w.heap.size 3) y s pb ab count G fr ss last os a' c' refs' qa qc rs ∧ Stp w w2 own (ext own w.heap.size 3) := by
  obtain ⟨l1, l2, l3, l5, l4⟩ := h.lows
  have ly : y < w.heap.size := h.hd.lt
  have k1 := h.o1.keep l1 3
  have k2 := h.o2.keep l2 3
  have k3 : Tag (ext own w.heap.size 3) (ablk a') 3 := fun b hb => by
    unfold ext
    rcases g b hb with q | q
    · rw [if_pos (l3 b q)]; exact h.o3 b q
    · rw [if_neg (by omega)]
  have k5 := h.o5.keep l5 3
  have s1 := Stp.of f1 h.o3 (by decide) 3
  have s2 : Stp w1 w2 (ext own w.heap.size 3) (ext own w.heap.size 3) := ⟨⟨_, f2, fun b hb => by rw [k2 b hb]; decide⟩, fun _ _ => rfl⟩
  have b1 := base_step h.fw h.base 3
  have fw1 := fw_step h.fw h.base f1 h.o3 (by decide)
  exact ⟨⟨(h.H.frame f1 (h.o1.apart h.o3 (by decide))).frame f2 (k1.apart k2 (by decide)), B, R'.fr f2 (k3.apart k2 (by decide)), (h.T.fr f1 (h.o5.apart h.o3 (by decide))).fr f2 (k5.apart k2 (by decide)),
    fun r hr => ((h.V r hr).fr f1 ((h.o4 r hr).apart h.o3 (by unfold ytag; omega))).fr f2 (((h.o4 r hr).keep (l4 r hr) 3).apart k2 (by unfold ytag; omega)), k1, k2, k3, k5, fun r hr => (h.o4 r hr).keep (l4 r hr) 3, h.pos, h.pw, b1, fw_step fw1 b1 f2 k2 (by decide)⟩, s1.trans s2⟩

/-- The row of words and the header turn. -/
theorem Yo.row (h : Yo W w own y s pb ab count G fr ss last os a c refs qa qc rs) {w1 w2 : World} {qa' : Option Addr} {qc' : Nat} {rs' : List YO} (f1 : Fr (ablk qa) w w1) (T' : SR encYO w1 qa' qc' rs') (V' : ∀ r ∈ rs', SI w1 r.wa r.wc r.ws)
    (B : Blk w2 y [.pointer (some ⟨s, 0, none⟩), .pointer (some ⟨pb, 0, none⟩), .pointer (some ⟨ab, 0, none⟩), .int .i64 count, .slice a refs.length c, .slice qa' rs'.length qc']) (f2 : Fr [y] w1 w2) {own1 : Nat → Nat} (ag : ∀ b, b < w.heap.size → own1 b = own b) (o5' : Tag own1 (ablk qa') 5) (o4' : ∀ r ∈ rs', Tag own1 (ablk r.wa) (ytag r)) (pos' : ∀ r ∈ rs', 1 ≤ r.ref ∧ r.ref ≤ last) (pw' : (rs'.map (·.ref)).Pairwise (· < ·)) :
    Yo W w2 own1 y s pb ab count G fr ss last os a c refs qa' qc' rs' ∧ Stp w w2 own own1 := by
  obtain ⟨l1, l2, l3, l5, l4⟩ := h.lows
  have ly : y < w.heap.size := h.hd.lt
  have o1' : Tag own1 G 1 := fun b hb => (ag b (l1 b hb)).trans (h.o1 b hb)
  have o2' : Tag own1 [y] 2 := fun b hb => (ag b (l2 b hb)).trans (h.o2 b hb)
  have o3' : Tag own1 (ablk a) 3 := fun b hb => (ag b (l3 b hb)).trans (h.o3 b hb)
  have s1 : Stp w w1 own own1 := ⟨⟨_, f1, fun b hb => by rw [h.o5 b hb]; decide⟩, ag⟩
  have s2 : Stp w1 w2 own1 own1 := ⟨⟨_, f2, fun b hb => by rw [o2' b hb]; decide⟩, fun _ _ => rfl⟩
  have b1 : ∀ b, b < W.heap.size → own1 b = 0 := fun b hb => by
    have := h.fw.size
    rw [ag b (by omega)]; exact h.base b hb
  have fw1 := fw_step h.fw h.base f1 h.o5 (by decide)
  exact ⟨⟨(h.H.frame f1 (h.o1.apart h.o5 (by decide))).frame f2 (o1'.apart o2' (by decide)), B, (h.R.fr f1 (h.o3.apart h.o5 (by decide))).fr f2 (o3'.apart o2' (by decide)), T'.fr f2 (o5'.apart o2' (by decide)), fun r hr => (V' r hr).fr f2 ((o4' r hr).apart o2' (by unfold ytag; omega)), o1', o2', o3', o5', o4', pos', pw', b1, fw_step fw1 b1 f2 o2' (by decide)⟩, s1.trans s2⟩
end
end Go.Proofs.Ytfpghcdjfiggiaa.V
