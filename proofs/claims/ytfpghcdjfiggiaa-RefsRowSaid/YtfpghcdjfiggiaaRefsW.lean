/- Weak references and finalizers: the cells they lie in. No condition. -/
import Derived.Test.YtfpghcdjfiggiaaHeapG
import Derived.Test.YtfpghcdjfiggiaaCellEq
import Derived.Test.YtfpghcdjfiggiaaRec
import Derived.Test.YtfpghcdjfiggiaaTag
import Derived.Test.YtfpghcdjfiggiaaGRefs
namespace Go.Proofs.Ytfpghcdjfiggiaa.V
open Go Go.RowKit

/-- A thread's roots. -/
structure RT where
  a : Option Addr
  c : Nat
  rs : List Int
def encRT : Enc RT := ⟨1, fun t => [.slice t.a t.rs.length t.c], fun _ => rfl, by decide⟩

structure Rx (w : World) (own : Nat → Nat) (rb hb fm : Nat) (G : List Nat) (ra : Option Addr) (rc : Nat) (ts : List RT) (qa : Option Addr) (qc : Nat) (words taken last : Int) (ss : List Int) (xs : List XC) (fin queue : List Int) : Prop where
  H : Hx w G hb ss words last xs
  hd : Blk w rb [ptrV hb, .int .i64 words, .int .i64 taken, .slice ra ts.length rc, .map (some fm), .slice qa queue.length qc]
  T : SR encRT w ra rc ts
  V : ∀ t ∈ ts, SI w t.a t.c t.rs
  M : ∃ m clk, MI w fm m clk ∧ m.map (·.1) = fin ∧ ∀ e ∈ m, e.2.1 = .bool true
  Q : SI w qa qc queue
  o0 : Tag own [rb] 0
  o1 : Tag own G 1
  o2 : Tag own (ablk ra) 2
  o3 : Tag own [fm] 3
  o4 : Tag own (ablk qa) 4
  o5 : ∀ (i : Nat) t, ts[i]? = some t → Tag own (ablk t.a) (5 + i)
  o6 : ts.length ≤ 8

/-- What a step turns: blocks of tags below n. -/
structure StN (n : Nat) (w w' : World) (own own' : Nat → Nat) : Prop where
  fr : ∃ S, Fr S w w' ∧ ∀ b ∈ S, own b < n
  ag : ∀ b, b < w.heap.size → own' b = own b
/-- A step of the heap alone. -/
abbrev St := StN 13

theorem St.still {n : Nat} {w w' : World} {own : Nat → Nat} (f : ∀ S, Fr S w w') : StN n w w' own own := ⟨⟨[], f [], by simp⟩, fun _ _ => rfl⟩
theorem StN.up {n m : Nat} {w w' : World} {own own' : Nat → Nat} (s : StN n w w' own own') (h : n ≤ m) : StN m w w' own own' := by
  obtain ⟨⟨S, f, q⟩, a⟩ := s
  exact ⟨⟨S, f, fun b hb => Nat.lt_of_lt_of_le (q b hb) h⟩, a⟩
theorem StN.size {n : Nat} {w w' : World} {own own' : Nat → Nat} (s : StN n w w' own own') : w.heap.size ≤ w'.heap.size := by obtain ⟨⟨S, f, _⟩, _⟩ := s; exact f.size
theorem StN.trans {n : Nat} {w w1 w2 : World} {own own1 own2 : Nat → Nat} (s : StN n w w1 own own1) (s' : StN n w1 w2 own1 own2) : StN n w w2 own own2 := by
  obtain ⟨⟨S, f, hS⟩, a⟩ := s
  obtain ⟨⟨S', f', hS'⟩, a'⟩ := s'
  refine ⟨⟨S ++ S'.filter (· < w.heap.size), ?_, fun b hb => ?_⟩, fun b hb => by rw [a' b (Nat.lt_of_lt_of_le hb f.size), a b hb]⟩
  · refine (f.mono (fun k hk => .inl (by simp [hk]))).trans f' (fun k hk => ?_)
    by_cases h : k < w.heap.size
    · exact .inl (by simp [hk, h])
    · exact .inr (by omega)
  · rcases List.mem_append.1 hb with h | h
    · exact hS b h
    · obtain ⟨h1, h2⟩ := List.mem_filter.1 h
      simp at h2
      have := hS' b h1
      rw [a b h2] at this
      exact this
theorem St.of {n : Nat} {w w' : World} {own : Nat → Nat} {S : List Nat} {k : Nat} (f : Fr S w w') (t : Tag own S k) (hk : k < n) (j : Nat) : StN n w w' own (ext own w.heap.size j) :=
  ⟨⟨S, f, fun b hb => by rw [t b hb]; exact hk⟩, fun b hb => by unfold ext; rw [if_pos hb]⟩

/-- Blocks of other tags are as they were. -/
theorem StN.tag {n k : Nat} {w w' : World} {own own' : Nat → Nat} {F : List Nat} (s : StN n w w' own own') (t : Tag own F k) (l : Low F w.heap.size) : Tag own' F k := fun b hb => by rw [s.ag b (l b hb)]; exact t b hb
theorem StN.blk {n k b : Nat} {w w' : World} {own own' : Nat → Nat} {cs : List Value} (s : StN n w w' own own') (h : Blk w b cs) (t : Tag own [b] k) (hk : n ≤ k) : Blk w' b cs ∧ Tag own' [b] k := by
  have hl := h.lt
  refine ⟨?_, s.tag t (by intro c hc; simp at hc; subst hc; exact hl)⟩
  obtain ⟨⟨S, f, hS⟩, ag⟩ := s
  exact h.fr f (fun hb => by have := hS b hb; have := t.one; omega)
theorem StN.mi {n k b clk : Nat} {w w' : World} {own own' : Nat → Nat} {m : List Ent} (s : StN n w w' own own') (h : MI w b m clk) (t : Tag own [b] k) (hk : n ≤ k) : MI w' b m clk ∧ Tag own' [b] k := by
  have hl := heap_lt h.heap
  refine ⟨?_, s.tag t (by intro c hc; simp at hc; subst hc; exact hl)⟩
  obtain ⟨⟨S, f, hS⟩, ag⟩ := s
  exact h.fr f (fun hb => by have := hS b hb; have := t.one; omega)

/-- The caller's own blocks: a slice of ints of tag k. -/
structure Sd (w : World) (own : Nat → Nat) (a : Option Addr) (c k : Nat) (xs : List Int) : Prop where
  si : SI w a c xs
  tg : Tag own (ablk a) k
theorem Sd.nil (w : World) (own : Nat → Nat) (k : Nat) : Sd w own none 0 k [] := ⟨SI.nil w, by simp [Tag, ablk]⟩
theorem Sd.step {n : Nat} {w w' : World} {own own' : Nat → Nat} {a : Option Addr} {c k : Nat} {xs : List Int} (h : Sd w own a c k xs) (s : StN n w w' own own') (hk : n ≤ k) : Sd w' own' a c k xs := by
  have t := s.tag h.tg h.si.low
  obtain ⟨⟨S, f, hS⟩, ag⟩ := s
  exact ⟨h.si.fr f (fun b hb hb2 => by have := hS b hb2; have := h.tg b hb; omega), t⟩
/-- Blocks of tag j turn. -/
theorem Sd.other {w w' : World} {own : Nat → Nat} {a : Option Addr} {c k j : Nat} {xs : List Int} {S : List Nat} (h : Sd w own a c k xs) (f : Fr S w w') (t : Tag own S j) (hk : k ≠ j) (i : Nat) : Sd w' (ext own w.heap.size i) a c k xs :=
  ⟨h.si.fr f (h.tg.apart t hk), h.tg.keep h.si.low i⟩

/-- The call's own world: what was there before it has tag 2000. -/
structure Bs (W w : World) (own : Nat → Nat) : Prop where
  fr : Fr [] W w
  tg : ∀ b, b < W.heap.size → own b = 2000
theorem Bs.step {n : Nat} {W w w' : World} {own own' : Nat → Nat} (b : Bs W w own) (s : StN n w w' own own') (hn : n ≤ 2000) : Bs W w' own' := by
  obtain ⟨⟨S, f, hS⟩, ag⟩ := s
  refine ⟨b.fr.trans f (fun k hk => .inr ?_), fun k hk => by rw [ag k (Nat.lt_of_lt_of_le hk b.fr.size)]; exact b.tg k hk⟩
  have := hS k hk
  rcases Nat.lt_or_ge k W.heap.size with h | h
  · rw [b.tg k h] at this; omega
  · exact h

section
variable {w w' : World} {own own' : Nat → Nat} {rb hb fm rc qc k : Nat} {G G' S : List Nat} {ra qa : Option Addr} {ts : List RT} {words taken last : Int} {ss : List Int} {xs : List XC} {fin queue : List Int}

theorem Rx.lows (h : Rx w own rb hb fm G ra rc ts qa qc words taken last ss xs fin queue) : Low [rb] w.heap.size ∧ Low G w.heap.size ∧ Low (ablk ra) w.heap.size ∧ Low [fm] w.heap.size ∧ Low (ablk qa) w.heap.size ∧ ∀ t ∈ ts, Low (ablk t.a) w.heap.size := by
  obtain ⟨m, clk, hm, _⟩ := h.M
  refine ⟨fun b hb => ?_, h.H.low, h.T.low, fun b hb => ?_, h.Q.low, fun t ht => (h.V t ht).low⟩
  · simp at hb; subst hb; exact h.hd.lt
  · simp at hb; subst hb; exact heap_lt hm.heap

/-- Blocks of another tag have turned. -/
theorem Rx.other (h : Rx w own rb hb fm G ra rc ts qa qc words taken last ss xs fin queue) (f : Fr S w w') (hS : ∀ b ∈ S, 13 ≤ own b) (k : Nat) : Rx w' (ext own w.heap.size k) rb hb fm G ra rc ts qa qc words taken last ss xs fin queue := by
  obtain ⟨l0, l1, l2, l3, l4, l5⟩ := h.lows
  have ap : ∀ {F : List Nat} {i : Nat}, Tag own F i → i < 13 → Apart F S := fun t hi b hb hb2 => by have := hS b hb2; have := t b hb; omega
  have apb : ∀ {b i : Nat}, Tag own [b] i → i < 13 → b ∉ S := fun t hi hb2 => ap t hi _ (by simp) hb2
  obtain ⟨m, clk, hm, q⟩ := h.M
  have i8 : ∀ (i : Nat) t, ts[i]? = some t → 5 + i < 13 := fun i t hi => by have := (List.getElem?_eq_some_iff.1 hi).1; have := h.o6; omega
  refine ⟨h.H.frame f (ap h.o1 (by decide)), h.hd.fr f (apb h.o0 (by decide)), h.T.fr f (ap h.o2 (by decide)), fun t ht => ?_, ⟨m, clk, hm.fr f (apb h.o3 (by decide)), q⟩, h.Q.fr f (ap h.o4 (by decide)), h.o0.keep l0 k, h.o1.keep l1 k, h.o2.keep l2 k, h.o3.keep l3 k, h.o4.keep l4 k, fun i t ht => (h.o5 i t ht).keep (l5 t (List.mem_of_getElem? ht)) k, h.o6⟩
  obtain ⟨i, hi⟩ := List.getElem?_of_mem ht
  exact (h.V t ht).fr f (ap (h.o5 i t hi) (i8 i t hi))

theorem Rx.still (h : Rx w own rb hb fm G ra rc ts qa qc words taken last ss xs fin queue) (f : ∀ S, Fr S w w') : Rx w' own rb hb fm G ra rc ts qa qc words taken last ss xs fin queue := by
  obtain ⟨m, clk, hm, q⟩ := h.M
  exact ⟨h.H.fr0 f, h.hd.fr (f []) (by simp), h.T.fr0 (f []), fun t ht => (h.V t ht).fr (f []) (by intro b _; simp), ⟨m, clk, hm.fr (f []) (by simp), q⟩, h.Q.fr (f []) (by intro b _; simp), h.o0, h.o1, h.o2, h.o3, h.o4, h.o5, h.o6⟩

/-- The heap has turned. -/
theorem Rx.heap (h : Rx w own rb hb fm G ra rc ts qa qc words taken last ss xs fin queue) {last' : Int} {ss' : List Int} {xs' : List XC} (H' : Hx w' G' hb ss' words last' xs') (f : Fr G w w') (g : Grw G G' w.heap.size) :
    Rx w' (ext own w.heap.size 1) rb hb fm G' ra rc ts qa qc words taken last' ss' xs' fin queue ∧ St w w' own (ext own w.heap.size 1) := by
  obtain ⟨l0, l1, l2, l3, l4, l5⟩ := h.lows
  have ap : ∀ {F : List Nat} {i : Nat}, Tag own F i → i ≠ 1 → Apart F G := fun t hi => t.apart h.o1 hi
  have apb : ∀ {b i : Nat}, Tag own [b] i → i ≠ 1 → b ∉ G := fun t hi hb2 => ap t hi _ (by simp) hb2
  obtain ⟨m, clk, hm, q⟩ := h.M
  refine ⟨⟨H', h.hd.fr f (apb h.o0 (by decide)), h.T.fr f (ap h.o2 (by decide)), fun t ht => ?_, ⟨m, clk, hm.fr f (apb h.o3 (by decide)), q⟩, h.Q.fr f (ap h.o4 (by decide)), h.o0.keep l0 1, h.o1.grow l1 g, h.o2.keep l2 1, h.o3.keep l3 1, h.o4.keep l4 1, fun i t ht => (h.o5 i t ht).keep (l5 t (List.mem_of_getElem? ht)) 1, h.o6⟩, St.of f h.o1 (by decide) 1⟩
  obtain ⟨i, hi⟩ := List.getElem?_of_mem ht
  exact (h.V t ht).fr f (ap (h.o5 i t hi) (by omega))

/-- The header has turned. -/
theorem Rx.head (h : Rx w own rb hb fm G ra rc ts qa qc words taken last ss xs fin queue) {taken' : Int} (B : Blk w' rb [ptrV hb, .int .i64 words, .int .i64 taken', .slice ra ts.length rc, .map (some fm), .slice qa queue.length qc]) (f : Fr [rb] w w') :
    Rx w' (ext own w.heap.size 0) rb hb fm G ra rc ts qa qc words taken' last ss xs fin queue ∧ St w w' own (ext own w.heap.size 0) := by
  obtain ⟨l0, l1, l2, l3, l4, l5⟩ := h.lows
  have ap : ∀ {F : List Nat} {i : Nat}, Tag own F i → i ≠ 0 → Apart F [rb] := fun t hi => t.apart h.o0 hi
  have apb : ∀ {b i : Nat}, Tag own [b] i → i ≠ 0 → b ∉ [rb] := fun t hi hb2 => ap t hi _ (by simp) hb2
  obtain ⟨m, clk, hm, q⟩ := h.M
  refine ⟨⟨h.H.frame f (ap h.o1 (by decide)), B, h.T.fr f (ap h.o2 (by decide)), fun t ht => ?_, ⟨m, clk, hm.fr f (apb h.o3 (by decide)), q⟩, h.Q.fr f (ap h.o4 (by decide)), h.o0.keep l0 0, h.o1.keep l1 0, h.o2.keep l2 0, h.o3.keep l3 0, h.o4.keep l4 0, fun i t ht => (h.o5 i t ht).keep (l5 t (List.mem_of_getElem? ht)) 0, h.o6⟩, St.of f h.o0 (by decide) 0⟩
  obtain ⟨i, hi⟩ := List.getElem?_of_mem ht
  exact (h.V t ht).fr f (ap (h.o5 i t hi) (by omega))

/-- The map of what is finalizable has turned. -/
theorem Rx.final (h : Rx w own rb hb fm G ra rc ts qa qc words taken last ss xs fin queue) {fin' : List Int} (M' : ∃ m clk, MI w' fm m clk ∧ m.map (·.1) = fin' ∧ ∀ e ∈ m, e.2.1 = .bool true) (f : Fr [fm] w w') :
    Rx w' (ext own w.heap.size 3) rb hb fm G ra rc ts qa qc words taken last ss xs fin' queue ∧ St w w' own (ext own w.heap.size 3) := by
  obtain ⟨l0, l1, l2, l3, l4, l5⟩ := h.lows
  have ap : ∀ {F : List Nat} {i : Nat}, Tag own F i → i ≠ 3 → Apart F [fm] := fun t hi => t.apart h.o3 hi
  have apb : ∀ {b i : Nat}, Tag own [b] i → i ≠ 3 → b ∉ [fm] := fun t hi hb2 => ap t hi _ (by simp) hb2
  refine ⟨⟨h.H.frame f (ap h.o1 (by decide)), h.hd.fr f (apb h.o0 (by decide)), h.T.fr f (ap h.o2 (by decide)), fun t ht => ?_, M', h.Q.fr f (ap h.o4 (by decide)), h.o0.keep l0 3, h.o1.keep l1 3, h.o2.keep l2 3, h.o3.keep l3 3, h.o4.keep l4 3, fun i t ht => (h.o5 i t ht).keep (l5 t (List.mem_of_getElem? ht)) 3, h.o6⟩, St.of f h.o3 (by decide) 3⟩
  obtain ⟨i, hi⟩ := List.getElem?_of_mem ht
  exact (h.V t ht).fr f (ap (h.o5 i t hi) (by omega))

/-- The queue has turned, then the header. -/
theorem Rx.row (h : Rx w own rb hb fm G ra rc ts qa qc words taken last ss xs fin queue) {w1 : World} {qa' : Option Addr} {qc' : Nat} {queue' : List Int} (Q1 : SI w1 qa' qc' queue') (f1 : Fr (ablk qa) w w1) (g1 : Grw (ablk qa) (ablk qa') w.heap.size)
    (B : Blk w' rb [ptrV hb, .int .i64 words, .int .i64 taken, .slice ra ts.length rc, .map (some fm), .slice qa' queue'.length qc']) (f : Fr [rb] w1 w') :
    Rx w' (ext own w.heap.size 4) rb hb fm G ra rc ts qa' qc' words taken last ss xs fin queue' ∧ St w w' own (ext own w.heap.size 4) := by
  obtain ⟨l0, l1, l2, l3, l4, l5⟩ := h.lows
  have ap0 : ∀ {F : List Nat} {i : Nat}, Tag own F i → i ≠ 0 → Apart F [rb] := fun t hi => t.apart h.o0 hi
  have apb0 : ∀ {b i : Nat}, Tag own [b] i → i ≠ 0 → b ∉ [rb] := fun t hi hb2 => ap0 t hi _ (by simp) hb2
  have ap : ∀ {F : List Nat} {i : Nat}, Tag own F i → i ≠ 4 → Apart F (ablk qa) := fun t hi => t.apart h.o4 hi
  have apb : ∀ {b i : Nat}, Tag own [b] i → i ≠ 4 → b ∉ ablk qa := fun t hi hb2 => ap t hi _ (by simp) hb2
  obtain ⟨m, clk, hm, q⟩ := h.M
  have o4' := h.o4.grow l4 g1
  have o0' := h.o0.keep l0 4
  refine ⟨⟨(h.H.frame f1 (ap h.o1 (by decide))).frame f (ap0 h.o1 (by decide)), B, (h.T.fr f1 (ap h.o2 (by decide))).fr f (ap0 h.o2 (by decide)), fun t ht => ?_, ⟨m, clk, (hm.fr f1 (apb h.o3 (by decide))).fr f (apb0 h.o3 (by decide)), q⟩, Q1.fr f (o4'.apart o0' (by decide)), o0', h.o1.keep l1 4, h.o2.keep l2 4, h.o3.keep l3 4, o4', fun i t ht => (h.o5 i t ht).keep (l5 t (List.mem_of_getElem? ht)) 4, h.o6⟩, ⟨⟨rb :: ablk qa, ?_, fun b hb => ?_⟩, fun b hb => by unfold ext; rw [if_pos hb]⟩⟩
  · obtain ⟨i, hi⟩ := List.getElem?_of_mem ht
    exact ((h.V t ht).fr f1 (ap (h.o5 i t hi) (by omega))).fr f (ap0 (h.o5 i t hi) (by omega))
  · exact (f1.mono (fun k hk => .inl (by simp [hk]))).trans f (fun k hk => .inl (by simp at hk; simp [hk]))
  · rcases List.mem_cons.1 hb with rfl | hb
    · rw [h.o0.one]; decide
    · rw [h.o4 b hb]; decide

/-- A thread's roots have turned: first they, then the table. -/
theorem Rx.root (h : Rx w own rb hb fm G ra rc ts qa qc words taken last ss xs fin queue) {i : Nat} {t t' : RT} (ht : ts[i]? = some t) {w1 : World} (V1 : SI w1 t'.a t'.c t'.rs) (f1 : Fr (ablk t.a) w w1) (g1 : Grw (ablk t.a) (ablk t'.a) w.heap.size)
    (T' : SR encRT w' ra rc (ts.set i t')) (f : Fr (ablk ra) w1 w') :
    Rx w' (ext own w.heap.size (5 + i)) rb hb fm G ra rc (ts.set i t') qa qc words taken last ss xs fin queue ∧ St w w' own (ext own w.heap.size (5 + i)) := by
  obtain ⟨l0, l1, l2, l3, l4, l5⟩ := h.lows
  have oi := h.o5 i t ht
  have hil := (List.getElem?_eq_some_iff.1 ht).1
  have ap0 : ∀ {F : List Nat} {j : Nat}, Tag own F j → j ≠ 2 → Apart F (ablk ra) := fun t hi => t.apart h.o2 hi
  have apb0 : ∀ {b j : Nat}, Tag own [b] j → j ≠ 2 → b ∉ ablk ra := fun t hi hb2 => ap0 t hi _ (by simp) hb2
  have ap : ∀ {F : List Nat} {j : Nat}, Tag own F j → j ≠ 5 + i → Apart F (ablk t.a) := fun t hi => t.apart oi hi
  have apb : ∀ {b j : Nat}, Tag own [b] j → j ≠ 5 + i → b ∉ ablk t.a := fun t hi hb2 => ap t hi _ (by simp) hb2
  obtain ⟨m, clk, hm, q⟩ := h.M
  have oi' := oi.grow (l5 t (List.mem_of_getElem? ht)) g1
  have o2' := h.o2.keep l2 (5 + i)
  have get : ∀ (j : Nat) u, (ts.set i t')[j]? = some u → (j = i ∧ u = t') ∨ (j ≠ i ∧ ts[j]? = some u) := fun j u hu => by
    rw [List.getElem?_set] at hu
    by_cases e : i = j
    · rw [if_pos e, if_pos hil] at hu
      exact .inl ⟨e.symm, (Option.some.inj hu).symm⟩
    · rw [if_neg e] at hu
      exact .inr ⟨fun e2 => e e2.symm, hu⟩
  refine ⟨⟨(h.H.frame f1 (ap h.o1 (by omega))).frame f (ap0 h.o1 (by decide)), by rw [List.length_set]; exact (h.hd.fr f1 (apb h.o0 (by omega))).fr f (apb0 h.o0 (by decide)), T', fun u hu => ?_, ⟨m, clk, (hm.fr f1 (apb h.o3 (by omega))).fr f (apb0 h.o3 (by decide)), q⟩, (h.Q.fr f1 (ap h.o4 (by omega))).fr f (ap0 h.o4 (by decide)), h.o0.keep l0 _, h.o1.keep l1 _, o2', h.o3.keep l3 _, h.o4.keep l4 _, fun j u hu => ?_, by rw [List.length_set]; exact h.o6⟩, ⟨⟨ablk ra ++ ablk t.a, ?_, fun b hb => ?_⟩, fun b hb => by unfold ext; rw [if_pos hb]⟩⟩
  · obtain ⟨j, hj⟩ := List.getElem?_of_mem hu
    rcases get j u hj with ⟨rfl, rfl⟩ | ⟨hn, hj⟩
    · exact V1.fr f (oi'.apart o2' (by omega))
    · exact ((h.V u (List.mem_of_getElem? hj)).fr f1 (ap (h.o5 j u hj) (by omega))).fr f (ap0 (h.o5 j u hj) (by omega))
  · rcases get j u hu with ⟨rfl, rfl⟩ | ⟨hn, hj⟩
    · exact oi'
    · exact (h.o5 j u hj).keep (l5 u (List.mem_of_getElem? hj)) _
  · exact (f1.mono (fun k hk => .inl (by simp [hk]))).trans f (fun k hk => .inl (by simp [hk]))
  · rcases List.mem_append.1 hb with hb | hb
    · rw [h.o2 b hb]; decide
    · rw [oi b hb]; have := h.o6; omega
end
end Go.Proofs.Ytfpghcdjfiggiaa.V
