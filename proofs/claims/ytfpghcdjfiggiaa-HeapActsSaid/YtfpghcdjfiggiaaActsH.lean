/- HeapActs: the player's cells beside the heap. No condition. -/
import Derived.Test.YtfpghcdjfiggiaaLaws9
import Derived.Test.YtfpghcdjfiggiaaSVApp
import Derived.Test.YtfpghcdjfiggiaaTag
import Derived.Test.YtfpghcdjfiggiaaGHeapA
namespace Go.Proofs.Ytfpghcdjfiggiaa.V
open Go Go.RowKit

/-- The player's cell. -/
structure YR where
  ref : Int
  kind : Int
  cls : Int
  wa : Option Addr
  wc : Nat
  ws : List Int
def encYR : Enc YR := ⟨4, fun r => [.int .i64 r.ref, .int .i64 r.kind, .int .i64 r.cls, .slice r.wa r.ws.length r.wc], fun _ => rfl, by decide⟩
def ytag (r : YR) : Nat := 10 + r.ref.toNat

structure Yh (W w : World) (own : Nat → Nat) (y hb : Nat) (words : Int) (G : List Nat) (ss : List Int) (last : Int) (xs : List XC) (a : Option Addr) (c : Nat) (rs : List YR) : Prop where
  H : Hx w G hb ss words last xs
  hd : Blk w y [ptrV hb, .int .i64 words, .int .i64 ss.length, .slice a rs.length c]
  T : SR encYR w a c rs
  V : ∀ r ∈ rs, SI w r.wa r.wc r.ws
  o1 : Tag own G 1
  o2 : Tag own [y] 2
  o3 : Tag own (ablk a) 3
  o4 : ∀ r ∈ rs, Tag own (ablk r.wa) (ytag r)
  pos : ∀ r ∈ rs, 1 ≤ r.ref ∧ r.ref ≤ last
  pw : (rs.map (·.ref)).Pairwise (· < ·)
  base : ∀ b, b < W.heap.size → own b = 0
  fw : Fr [] W w

/-- What a step leaves alone: blocks of tags 0 and 4. -/
structure Stp (w w' : World) (own own' : Nat → Nat) : Prop where
  fr : ∃ S, Fr S w w' ∧ ∀ b ∈ S, own b ≠ 0 ∧ own b ≠ 4
  ag : ∀ b, b < w.heap.size → own' b = own b

theorem Stp.still {w w' : World} {own : Nat → Nat} (f : ∀ S, Fr S w w') : Stp w w' own own := ⟨⟨[], f [], by simp⟩, fun _ _ => rfl⟩
theorem Stp.of {w w' : World} {own : Nat → Nat} {S : List Nat} {k : Nat} (f : Fr S w w') (t : Tag own S k) (hk : k ≠ 0 ∧ k ≠ 4) (j : Nat) : Stp w w' own (ext own w.heap.size j) :=
  ⟨⟨S, f, fun b hb => by rw [t b hb]; exact hk⟩, fun b hb => by unfold ext; rw [if_pos hb]⟩
theorem Stp.size {w w' : World} {own own' : Nat → Nat} (s : Stp w w' own own') : w.heap.size ≤ w'.heap.size := by obtain ⟨⟨S, f, _⟩, _⟩ := s; exact f.size
theorem Stp.trans {w w1 w2 : World} {own own1 own2 : Nat → Nat} (s : Stp w w1 own own1) (s' : Stp w1 w2 own1 own2) : Stp w w2 own own2 := by
  obtain ⟨⟨S, f, hS⟩, a⟩ := s
  obtain ⟨⟨S', f', hS'⟩, a'⟩ := s'
  refine ⟨⟨S ++ S'.filter (· < w.heap.size), ?_, fun b hb => ?_⟩, fun b hb => by rw [a' b (Nat.lt_of_lt_of_le hb f.size), a b hb]⟩
  · refine (f.mono (fun k hk => .inl (by simp [hk]))).trans f' (fun k hk => ?_)
    by_cases h : k < w.heap.size
    · exact .inl (by simp [hk, h])
    · exact .inr (by omega)
  · rcases List.mem_append.1 hb with h | h
    · exact hS b h
    · obtain ⟨h1, h2⟩ := List.mem_filter.1 h
      simp at h2
      have := hS' b h1
      rw [a b h2] at this
      exact this
/-- The act's own copy. -/
theorem Stp.blk {w w' : World} {own own' : Nat → Nat} {b : Nat} {cs : List Value} (s : Stp w w' own own') (h : Blk w b cs) (e : own b = 4) : Blk w' b cs ∧ own' b = 4 := by
  have hl := h.lt
  refine ⟨?_, by rw [s.ag b hl]; exact e⟩
  obtain ⟨⟨S, f, hS⟩, _⟩ := s
  exact h.fr f (fun hb => (hS b hb).2 e)

section
variable {W w w' : World} {own own' : Nat → Nat} {y hb : Nat} {words : Int} {G G' S : List Nat} {ss ss' : List Int} {last last' : Int} {xs xs' : List XC} {a : Option Addr} {c : Nat} {rs : List YR}

theorem Yh.lows (h : Yh W w own y hb words G ss last xs a c rs) : Low G w.heap.size ∧ Low [y] w.heap.size ∧ Low (ablk a) w.heap.size ∧ ∀ r ∈ rs, Low (ablk r.wa) w.heap.size :=
  ⟨h.H.low, fun b hb => by simp at hb; subst hb; exact h.hd.lt, h.T.low, fun r hr => (h.V r hr).low⟩

theorem fw_step (f0 : Fr [] W w) (base : ∀ b, b < W.heap.size → own b = 0) (f : Fr S w w') {k : Nat} (t : Tag own S k) (hk : k ≠ 0) : Fr [] W w' :=
  f0.trans f fun b hb => by
    rcases Nat.lt_or_ge b W.heap.size with q | q
    · exact absurd ((t b hb).symm.trans (base b q)) hk
    · exact .inr q
theorem base_step (f0 : Fr [] W w) (base : ∀ b, b < W.heap.size → own b = 0) (k : Nat) : ∀ b, b < W.heap.size → ext own w.heap.size k b = 0 := fun b hb => by
  have := f0.size
  unfold ext; rw [if_pos (by omega)]; exact base b hb

theorem Yh.still (h : Yh W w own y hb words G ss last xs a c rs) (f : ∀ S, Fr S w w') : Yh W w' own y hb words G ss last xs a c rs :=
  ⟨h.H.fr0 f, h.hd.fr (f []) (by simp), h.T.fr0 (f []), fun r hr => (h.V r hr).fr (f []) (by intro b _; simp), h.o1, h.o2, h.o3, h.o4, h.pos, h.pw, h.base, h.fw.more (f [])⟩

/-- New blocks are there. -/
theorem Yh.new (h : Yh W w own y hb words G ss last xs a c rs) (f : ∀ S, Fr S w w') (k : Nat) : Yh W w' (ext own w.heap.size k) y hb words G ss last xs a c rs ∧ Stp w w' own (ext own w.heap.size k) := by
  obtain ⟨l1, l2, l3, l4⟩ := h.lows
  have s := h.still f
  exact ⟨⟨s.H, s.hd, s.T, s.V, h.o1.keep l1 k, h.o2.keep l2 k, h.o3.keep l3 k, fun r hr => (h.o4 r hr).keep (l4 r hr) k, h.pos, h.pw, base_step h.fw h.base k, s.fw⟩, ⟨⟨[], f [], by simp⟩, fun b hb => by unfold ext; rw [if_pos hb]⟩⟩

/-- The heap turns. -/
theorem Yh.heap (h : Yh W w own y hb words G ss last xs a c rs) (H' : Hx w' G' hb ss' words last' xs') (f : Fr G w w') (g : Grw G G' w.heap.size) (es : ss'.length = ss.length) (hl : last ≤ last') :
    Yh W w' (ext own w.heap.size 1) y hb words G' ss' last' xs' a c rs ∧ Stp w w' own (ext own w.heap.size 1) := by
  obtain ⟨l1, l2, l3, l4⟩ := h.lows
  have ap : ∀ {F : List Nat} {i : Nat}, Tag own F i → i ≠ 1 → Apart F G := fun t hi => t.apart h.o1 hi
  refine ⟨⟨H', by rw [es]; exact h.hd.fr f (ap h.o2 (by decide) y (by simp)), h.T.fr f (ap h.o3 (by decide)), fun r hr => (h.V r hr).fr f (ap (h.o4 r hr) (by unfold ytag; omega)), h.o1.grow l1 g, h.o2.keep l2 1, h.o3.keep l3 1, fun r hr => (h.o4 r hr).keep (l4 r hr) 1, fun r hr => ⟨(h.pos r hr).1, by have := (h.pos r hr).2; omega⟩, h.pw, base_step h.fw h.base 1, fw_step h.fw h.base f h.o1 (by decide)⟩, Stp.of f h.o1 (by decide) 1⟩

/-- The row of cells and the header turn. -/
theorem Yh.row (h : Yh W w own y hb words G ss last xs a c rs) {w1 w2 : World} {a' : Option Addr} {c' : Nat} {rs' : List YR} (f1 : Fr (ablk a) w w1) (T' : SR encYR w1 a' c' rs') (g : ∀ b ∈ ablk a', b ∈ ablk a ∨ w.heap.size ≤ b) (V' : ∀ r ∈ rs', SI w1 r.wa r.wc r.ws)
    (B : Blk w2 y [ptrV hb, .int .i64 words, .int .i64 ss.length, .slice a' rs'.length c']) (f2 : Fr [y] w1 w2) {own1 : Nat → Nat} (ag : ∀ b, b < w.heap.size → own1 b = own b) (o3' : Tag own1 (ablk a') 3) (o4' : ∀ r ∈ rs', Tag own1 (ablk r.wa) (ytag r)) (pos' : ∀ r ∈ rs', 1 ≤ r.ref ∧ r.ref ≤ last) (pw' : (rs'.map (·.ref)).Pairwise (· < ·)) :
    Yh W w2 own1 y hb words G ss last xs a' c' rs' ∧ Stp w w2 own own1 := by
  obtain ⟨l1, l2, l3, l4⟩ := h.lows
  have ly : y < w.heap.size := h.hd.lt
  have ey : own y = 2 := h.o2.one
  have ey1 : own1 y = 2 := (ag y ly).trans ey
  have o1' : Tag own1 G 1 := fun b hb => (ag b (l1 b hb)).trans (h.o1 b hb)
  have o2' : Tag own1 [y] 2 := fun b hb => by simp at hb; subst hb; exact ey1
  have s1 : Stp w w1 own own1 := ⟨⟨_, f1, fun b hb => by rw [h.o3 b hb]; decide⟩, ag⟩
  have s2 : Stp w1 w2 own1 own1 := ⟨⟨_, f2, fun b hb => by rw [o2' b hb]; decide⟩, fun _ _ => rfl⟩
  have b1 : ∀ b, b < W.heap.size → own1 b = 0 := fun b hb => by
    have := h.fw.size
    rw [ag b (by omega)]; exact h.base b hb
  have fw1 := fw_step h.fw h.base f1 h.o3 (by decide)
  exact ⟨⟨(h.H.frame f1 (h.o1.apart h.o3 (by decide))).frame f2 (o1'.apart o2' (by decide)), B, T'.fr f2 (o3'.apart o2' (by decide)), fun r hr => (V' r hr).fr f2 ((o4' r hr).apart o2' (by unfold ytag; omega)), o1', o2', o3', o4', pos', pw', b1, fw_step fw1 b1 f2 o2' (by decide)⟩, s1.trans s2⟩

/-- A cell's word turns. -/
theorem flat_same9 {r r' : YR} (e : encYR.f r' = encYR.f r) : ∀ {rs : List YR} {i : Nat}, rs[i]? = some r → (rs.set i r').flatMap encYR.f = rs.flatMap encYR.f
  | [], _, h => by simp at h
  | x :: rs, 0, h => by
    simp at h; subst h
    simp only [List.set_cons_zero, List.flatMap_cons, e]
  | x :: rs, i + 1, h => by
    simp only [List.set_cons_succ, List.flatMap_cons]
    rw [flat_same9 e (by simpa using h)]

theorem Yh.word (h : Yh W w own y hb words G ss last xs a c rs) {i : Nat} {r : YR} (hr : rs[i]? = some r) {ws' : List Int} (hl : ws'.length = r.ws.length) (S' : SI w' r.wa r.wc ws') (f : Fr (ablk r.wa) w w') :
    Yh W w' own y hb words G ss last xs a c (rs.set i { r with ws := ws' }) ∧ Stp w w' own own := by
  have hm := List.mem_of_getElem? hr
  have t := h.o4 r hm
  have ap : ∀ {F : List Nat} {k : Nat}, Tag own F k → k ≠ ytag r → Apart F (ablk r.wa) := fun q hk => q.apart t hk
  have er : (rs.set i { r with ws := ws' }).map (·.ref) = rs.map (·.ref) := by
    rw [List.map_set]
    refine List.ext_getElem (by simp) fun j h1 h2 => ?_
    rw [List.getElem_set]
    split
    · rename_i e; subst e
      rw [List.getElem_map]
      have := List.getElem?_eq_some_iff.1 hr
      rw [this.2]
    · rfl
  have mem : ∀ q ∈ rs.set i { r with ws := ws' }, q = { r with ws := ws' } ∨ (q ∈ rs ∧ q.ref ≠ r.ref) := fun q hq => by
    obtain ⟨j, hj, ej⟩ := List.getElem_of_mem hq
    rw [List.getElem_set] at ej
    split at ej
    · exact .inl ej.symm
    · rename_i hne
      have hj2 : j < rs.length := by simpa using hj
      have hi2 := (List.getElem?_eq_some_iff.1 hr).1
      have ei := (List.getElem?_eq_some_iff.1 hr).2
      refine .inr ⟨ej ▸ List.getElem_mem hj2, ?_⟩
      have pw := List.pairwise_iff_getElem.1 h.pw
      rcases Nat.lt_or_gt_of_ne hne with q1 | q1
      · have := pw i j (by simpa using hi2) (by simpa using hj2) q1
        rw [List.getElem_map, List.getElem_map, ei, ej] at this; omega
      · have := pw j i (by simpa using hj2) (by simpa using hi2) q1
        rw [List.getElem_map, List.getElem_map, ei, ej] at this; omega
  have tne : ∀ q ∈ rs, q.ref ≠ r.ref → ytag q ≠ ytag r := fun q hq hne => by
    have := (h.pos q hq).1; have := (h.pos r hm).1
    unfold ytag; omega
  refine ⟨⟨h.H.frame f (ap h.o1 (by unfold ytag; omega)), by rw [List.length_set]; exact h.hd.fr f (ap h.o2 (by unfold ytag; omega) y (by simp)), ?_, fun q hq => ?_, h.o1, h.o2, h.o3, fun q hq => ?_, fun q hq => ?_, by rw [er]; exact h.pw, h.base, fw_step h.fw h.base f t (by unfold ytag; omega)⟩, ⟨⟨_, f, fun b hb => by rw [t b hb]; unfold ytag; omega⟩, fun _ _ => rfl⟩⟩
  · have T' := h.T.fr f (ap h.o3 (by unfold ytag; omega))
    unfold SR at T' ⊢
    rw [List.length_set, flat_same9 (r := r) (by simp [encYR, hl]) hr]; exact T'
  · rcases mem q hq with rfl | ⟨q1, q2⟩
    · exact S'
    · exact (h.V q q1).fr f (ap (h.o4 q q1) (tne q q1 q2))
  · rcases mem q hq with rfl | ⟨q1, q2⟩
    · exact t
    · exact h.o4 q q1
  · rcases mem q hq with rfl | ⟨q1, q2⟩
    · exact h.pos r hm
    · exact h.pos q q1

/-- Where a ref stands. -/
theorem at100_c (h : Yh W w own y hb words G ss last xs a c rs) (hl : rs.length ≤ 1000) (ref : Int) {K : Int → World → Prop}
    (hno : (∀ r ∈ rs, r.ref ≠ ref) → K (-1) w) (hyes : ∀ (i : Nat) r, rs[i]? = some r → r.ref = ref → K i w) : C100 (some ⟨y, 0, none⟩) ref w K := by
  refine r_f100 _ _ _ _ ⟨fun i w' => w' = w ∧ 0 ≤ i ∧ i ≤ rs.length ∧ ∀ (j : Nat) r, j < i → rs[j]? = some r → r.ref ≠ ref, fun i _ => (rs.length - i).toNat, ⟨rfl, by decide, by omega, fun j r hj => by omega⟩, ?_⟩
  rintro - i _ ⟨rfl, h0, h1, hn⟩
  refine ⟨_, _, _, h.hd.cell rfl, IfB.dec (fun hlt => ⟨_, _, _, h.hd.cell rfl, h.T.get h0 hlt fun r p hr hc _ _ _ => ⟨⟨h0, hlt⟩, _, hc 0 (by decide), ?_⟩⟩) (fun hge => ?_)⟩
  · refine IfB.dec (fun he => ?_) (fun he => ⟨fit64 (by omega) (by omega), ⟨rfl, by omega, by omega, fun j q hj hq => ?_⟩, by dsimp only; omega⟩)
    · have := hyes i.toNat r hr he
      rwa [Int.toNat_of_nonneg h0] at this
    · by_cases e : j = i.toNat
      · subst e; rw [hr] at hq; cases hq; exact he
      · exact hn j q (by omega) hq
  · refine hno fun r hr => ?_
    obtain ⟨j, hj⟩ := List.getElem?_of_mem hr
    have := (List.getElem?_eq_some_iff.1 hj).1
    exact hn j r (by omega) hj
end
end Go.Proofs.Ytfpghcdjfiggiaa.V
