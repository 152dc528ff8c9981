/- The collector's heap: the cells it lies in. No condition. -/
import Derived.Test.YtfpghcdjfiggiaaHeapG
import Derived.Test.YtfpghcdjfiggiaaCellEq
import Derived.Test.YtfpghcdjfiggiaaShake
import Derived.Test.YtfpghcdjfiggiaaStN
import Derived.Test.YtfpghcdjfiggiaaRefsP
import Derived.Test.YtfpghcdjfiggiaaGCollect
namespace Go.Proofs.Ytfpghcdjfiggiaa.V
open Go Go.RowKit

/-- Where a collector's heap lies, and what it says. -/
structure CS where
  hb : Nat
  sb : Nat
  sm : Nat
  G : List Nat
  ra : Option Addr
  rc : Nat
  ts : List RT
  mo : Option Nat
  ta : Option Addr
  tc : Nat
  fa : Option Addr
  fc : Nat
  words : Int
  taken : Int
  phase : Int
  cycles : Int
  last : Int
  ss : List Int
  xs : List XC
  B : List Int
  todo : List Int
  free : List Int
  ks : List Int
  what : Int
  rounds : Int

def MO (w : World) (mo : Option Nat) (B : List Int) : Prop := ∀ mm, mo = some mm → ∃ m clk, MI w mm m clk ∧ m.map (·.1) = B ∧ ∀ e ∈ m, e.2.1 = .bool true

structure Cx (w : World) (own : Nat → Nat) (cb : Nat) (s : CS) : Prop where
  H : Hx w s.G s.hb s.ss s.words s.last s.xs
  hd : Blk w cb [ptrV s.hb, .int .i64 s.words, .int .i64 s.taken, .int .i64 s.ts.length, .slice s.ra s.ts.length s.rc, ptrV s.sb, .int .i64 s.phase, .map s.mo, .slice s.ta s.todo.length s.tc, .slice s.fa s.free.length s.fc, .int .i64 s.cycles]
  T : SR encRT w s.ra s.rc s.ts
  V : ∀ (i : Nat) t, s.ts[i]? = some t → SI w t.a t.c t.rs
  K : ShakeAt w s.sb s.sm s.ts.length s.ks s.what s.rounds
  M : MO w s.mo s.B
  D : SI w s.ta s.tc s.todo
  E : SI w s.fa s.fc s.free
  o0 : Tag own [cb] 0
  o1 : Tag own s.G 1
  o2 : Tag own (ablk s.ra) 2
  o3 : Tag own [s.sb, s.sm] 3
  o4 : Tag own (ablk s.ta) 4
  o5 : ∀ (i : Nat) t, s.ts[i]? = some t → Tag own (ablk t.a) (5 + i)
  o6 : s.ts.length ≤ 8
  o13 : ∀ mm, s.mo = some mm → Tag own [mm] 13
  o14 : Tag own (ablk s.fa) 14

/-- What has other tags is as it was. -/
structure Cfr (P : Nat → Prop) (w : World) (cb : Nat) (s : CS) : Prop where
  H : ¬ P 1 → Hx w s.G s.hb s.ss s.words s.last s.xs
  hd : ¬ P 0 → Blk w cb [ptrV s.hb, .int .i64 s.words, .int .i64 s.taken, .int .i64 s.ts.length, .slice s.ra s.ts.length s.rc, ptrV s.sb, .int .i64 s.phase, .map s.mo, .slice s.ta s.todo.length s.tc, .slice s.fa s.free.length s.fc, .int .i64 s.cycles]
  T : ¬ P 2 → SR encRT w s.ra s.rc s.ts
  V : ∀ (i : Nat) t, s.ts[i]? = some t → ¬ P (5 + i) → SI w t.a t.c t.rs
  K : ¬ P 3 → ShakeAt w s.sb s.sm s.ts.length s.ks s.what s.rounds
  M : ¬ P 13 → MO w s.mo s.B
  D : ¬ P 4 → SI w s.ta s.tc s.todo
  E : ¬ P 14 → SI w s.fa s.fc s.free

theorem MO.fr {w w' : World} {mo : Option Nat} {B : List Int} {S : List Nat} (h : MO w mo B) (f : Fr S w w') (hS : ∀ mm, mo = some mm → mm ∉ S) : MO w' mo B := fun mm e => by
  obtain ⟨m, clk, hm, q⟩ := h mm e
  exact ⟨m, clk, hm.fr f (hS mm e), q⟩

section
variable {w w' : World} {own own' : Nat → Nat} {cb : Nat} {s : CS} {S : List Nat}

theorem Cx.frame (h : Cx w own cb s) {P : Nat → Prop} (f : Fr S w w') (t : ∀ b ∈ S, P (own b)) : Cfr P w' cb s := by
  have ap : ∀ {F : List Nat} {k : Nat}, Tag own F k → ¬ P k → Apart F S := fun tg hk b hb hb2 => hk (by have := t b hb2; rwa [tg b hb] at this)
  refine ⟨fun n => h.H.frame f (ap h.o1 n), fun n => h.hd.fr f (ap h.o0 n cb (by simp)), fun n => h.T.fr f (ap h.o2 n), fun i u hu n => (h.V i u hu).fr f (ap (h.o5 i u hu) n), fun n => h.K.fr f (ap h.o3 n s.sb (by simp)) (ap h.o3 n s.sm (by simp)), fun n => h.M.fr f (fun mm e => ap (h.o13 mm e) n mm (by simp)), fun n => h.D.fr f (ap h.o4 n), fun n => h.E.fr f (ap h.o14 n)⟩

theorem Cx.lows (h : Cx w own cb s) : Low [cb] w.heap.size ∧ Low s.G w.heap.size ∧ Low (ablk s.ra) w.heap.size ∧ Low [s.sb, s.sm] w.heap.size ∧ Low (ablk s.ta) w.heap.size ∧ (∀ (i : Nat) t, s.ts[i]? = some t → Low (ablk t.a) w.heap.size) ∧ (∀ mm, s.mo = some mm → mm < w.heap.size) ∧ Low (ablk s.fa) w.heap.size := by
  obtain ⟨m, clk, hm, _⟩ := h.K.mp
  refine ⟨fun b hb => ?_, h.H.low, h.T.low, fun b hb => ?_, h.D.low, fun i t ht => (h.V i t ht).low, fun mm e => ?_, h.E.low⟩
  · simp at hb; subst hb; exact h.hd.lt
  · simp at hb
    rcases hb with rfl | rfl
    · exact h.K.hd.lt
    · exact heap_lt hm.heap
  · obtain ⟨m, clk, hm, _⟩ := h.M mm e
    exact heap_lt hm.heap

/-- The tags of old blocks stand. -/
structure Ctg (own : Nat → Nat) (cb : Nat) (s : CS) : Prop where
  o0 : Tag own [cb] 0
  o1 : Tag own s.G 1
  o2 : Tag own (ablk s.ra) 2
  o3 : Tag own [s.sb, s.sm] 3
  o4 : Tag own (ablk s.ta) 4
  o5 : ∀ (i : Nat) t, s.ts[i]? = some t → Tag own (ablk t.a) (5 + i)
  o13 : ∀ mm, s.mo = some mm → Tag own [mm] 13
  o14 : Tag own (ablk s.fa) 14
theorem Cx.tags (h : Cx w own cb s) (k : Nat) : Ctg (ext own w.heap.size k) cb s := by
  obtain ⟨l0, l1, l2, l3, l4, l5, l13, l14⟩ := h.lows
  exact ⟨h.o0.keep l0 k, h.o1.keep l1 k, h.o2.keep l2 k, h.o3.keep l3 k, h.o4.keep l4 k, fun i t ht => (h.o5 i t ht).keep (l5 i t ht) k, fun mm e => (h.o13 mm e).keep (by intro b hb; simp at hb; subst hb; exact l13 _ e) k, h.o14.keep l14 k⟩

theorem Cx.still (h : Cx w own cb s) (f : ∀ S, Fr S w w') : Cx w' own cb s := by
  have q := h.frame (P := fun _ => False) (f []) (by simp)
  exact ⟨q.H id, q.hd id, q.T id, fun i t ht => q.V i t ht id, q.K id, q.M id, q.D id, q.E id, h.o0, h.o1, h.o2, h.o3, h.o4, h.o5, h.o6, h.o13, h.o14⟩

/-- Blocks of another tag have turned. -/
theorem Cx.other (h : Cx w own cb s) (f : Fr S w w') (hS : ∀ b ∈ S, 15 ≤ own b) (k : Nat) : Cx w' (ext own w.heap.size k) cb s := by
  have q := h.frame (P := fun n => 15 ≤ n) f hS
  have t := h.tags k
  have o6 := h.o6
  exact ⟨q.H (by omega), q.hd (by omega), q.T (by omega), fun i t ht => q.V i t ht (by have : i < s.ts.length := (List.getElem?_eq_some_iff.1 ht).1; omega), q.K (by omega), q.M (by omega), q.D (by omega), q.E (by omega), t.o0, t.o1, t.o2, t.o3, t.o4, t.o5, h.o6, t.o13, t.o14⟩

/-- The heap has turned. -/
theorem Cx.heap (h : Cx w own cb s) {G' : List Nat} {last' : Int} {ss' : List Int} {xs' : List XC} (H' : Hx w' G' s.hb ss' s.words last' xs') (f : Fr s.G w w') (g : Grw s.G G' w.heap.size) :
    Cx w' (ext own w.heap.size 1) cb { s with G := G', ss := ss', last := last', xs := xs' } ∧ StN 15 w w' own (ext own w.heap.size 1) := by
  have q := h.frame (P := fun n => n = 1) f h.o1
  have t := h.tags 1
  exact ⟨⟨H', q.hd (by omega), q.T (by omega), fun i t ht => q.V i t ht (by omega), q.K (by omega), q.M (by omega), q.D (by omega), q.E (by omega), t.o0, h.o1.grow h.H.low g, t.o2, t.o3, t.o4, t.o5, h.o6, t.o13, t.o14⟩, StN.of f h.o1 (by decide) 1⟩

/-- The header has turned. -/
theorem Cx.head (h : Cx w own cb s) {taken' phase' cycles' : Int} (B : Blk w' cb [ptrV s.hb, .int .i64 s.words, .int .i64 taken', .int .i64 s.ts.length, .slice s.ra s.ts.length s.rc, ptrV s.sb, .int .i64 phase', .map s.mo, .slice s.ta s.todo.length s.tc, .slice s.fa s.free.length s.fc, .int .i64 cycles']) (f : Fr [cb] w w') :
    Cx w' (ext own w.heap.size 0) cb { s with taken := taken', phase := phase', cycles := cycles' } ∧ StN 15 w w' own (ext own w.heap.size 0) := by
  have q := h.frame (P := fun n => n = 0) f h.o0
  have t := h.tags 0
  exact ⟨⟨q.H (by omega), B, q.T (by omega), fun i t ht => q.V i t ht (by omega), q.K (by omega), q.M (by omega), q.D (by omega), q.E (by omega), t.o0, t.o1, t.o2, t.o3, t.o4, t.o5, h.o6, t.o13, t.o14⟩, StN.of f h.o0 (by decide) 0⟩

/-- The handshake has turned. -/
theorem Cx.shake (h : Cx w own cb s) {ks' : List Int} {what' rounds' : Int} (K' : ShakeAt w' s.sb s.sm s.ts.length ks' what' rounds') (f : Fr [s.sb, s.sm] w w') :
    Cx w' (ext own w.heap.size 3) cb { s with ks := ks', what := what', rounds := rounds' } ∧ StN 15 w w' own (ext own w.heap.size 3) := by
  have q := h.frame (P := fun n => n = 3) f h.o3
  have t := h.tags 3
  exact ⟨⟨q.H (by omega), q.hd (by omega), q.T (by omega), fun i t ht => q.V i t ht (by omega), K', q.M (by omega), q.D (by omega), q.E (by omega), t.o0, t.o1, t.o2, t.o3, t.o4, t.o5, h.o6, t.o13, t.o14⟩, StN.of f h.o3 (by decide) 3⟩

/-- What is marked has turned. -/
theorem Cx.marks (h : Cx w own cb s) {mm : Nat} (e : s.mo = some mm) {B' : List Int} (M' : ∃ m clk, MI w' mm m clk ∧ m.map (·.1) = B' ∧ ∀ e ∈ m, e.2.1 = .bool true) (f : Fr [mm] w w') :
    Cx w' (ext own w.heap.size 13) cb { s with B := B' } ∧ StN 15 w w' own (ext own w.heap.size 13) := by
  have o13 := h.o13 mm e
  have q := h.frame (P := fun n => n = 13) f o13
  have t := h.tags 13
  have o6 := h.o6
  exact ⟨⟨q.H (by omega), q.hd (by omega), q.T (by omega), fun i t ht => q.V i t ht (by have : i < s.ts.length := (List.getElem?_eq_some_iff.1 ht).1; omega), q.K (by omega), fun m2 e2 => by rw [e] at e2; cases e2; exact M', q.D (by omega), q.E (by omega), t.o0, t.o1, t.o2, t.o3, t.o4, t.o5, h.o6, t.o13, t.o14⟩, StN.of f o13 (by decide) 13⟩

/-- The row of what is to be looked at has turned, then the header. -/
theorem Cx.todo (h : Cx w own cb s) {w1 : World} {ta' : Option Addr} {tc' : Nat} {todo' : List Int} (Q1 : SI w1 ta' tc' todo') (f1 : Fr (ablk s.ta) w w1) (g1 : Grw (ablk s.ta) (ablk ta') w.heap.size)
    (B : Blk w' cb [ptrV s.hb, .int .i64 s.words, .int .i64 s.taken, .int .i64 s.ts.length, .slice s.ra s.ts.length s.rc, ptrV s.sb, .int .i64 s.phase, .map s.mo, .slice ta' todo'.length tc', .slice s.fa s.free.length s.fc, .int .i64 s.cycles]) (f : Fr [cb] w1 w') :
    Cx w' (ext own w.heap.size 4) cb { s with ta := ta', tc := tc', todo := todo' } ∧ StN 15 w w' own (ext own w.heap.size 4) := by
  have f2 : Fr (cb :: ablk s.ta) w w' := (f1.mono (fun k hk => .inl (by simp [hk]))).trans f (fun k hk => .inl (by simp at hk; simp [hk]))
  have q := h.frame (P := fun n => n = 0 ∨ n = 4) f2 (fun b hb => by
    rcases List.mem_cons.1 hb with rfl | hb
    · exact .inl h.o0.one
    · exact .inr (h.o4 b hb))
  have t := h.tags 4
  have o4' := h.o4.grow h.D.low g1
  exact ⟨⟨q.H (by omega), B, q.T (by omega), fun i t ht => q.V i t ht (by omega), q.K (by omega), q.M (by omega), Q1.fr f (o4'.apart t.o0 (by decide)), q.E (by omega), t.o0, t.o1, t.o2, t.o3, o4', t.o5, h.o6, t.o13, t.o14⟩, ⟨⟨_, f2, fun b hb => by
    rcases List.mem_cons.1 hb with rfl | hb
    · rw [h.o0.one]; decide
    · rw [h.o4 b hb]; decide⟩, ext_ag _ _ _⟩⟩

/-- The row of what is to be freed has turned, then the header. -/
theorem Cx.frees (h : Cx w own cb s) {w1 : World} {fa' : Option Addr} {fc' : Nat} {free' : List Int} (Q1 : SI w1 fa' fc' free') (f1 : Fr (ablk s.fa) w w1) (g1 : Grw (ablk s.fa) (ablk fa') w.heap.size)
    (B : Blk w' cb [ptrV s.hb, .int .i64 s.words, .int .i64 s.taken, .int .i64 s.ts.length, .slice s.ra s.ts.length s.rc, ptrV s.sb, .int .i64 s.phase, .map s.mo, .slice s.ta s.todo.length s.tc, .slice fa' free'.length fc', .int .i64 s.cycles]) (f : Fr [cb] w1 w') :
    Cx w' (ext own w.heap.size 14) cb { s with fa := fa', fc := fc', free := free' } ∧ StN 15 w w' own (ext own w.heap.size 14) := by
  have f2 : Fr (cb :: ablk s.fa) w w' := (f1.mono (fun k hk => .inl (by simp [hk]))).trans f (fun k hk => .inl (by simp at hk; simp [hk]))
  have q := h.frame (P := fun n => n = 0 ∨ n = 14) f2 (fun b hb => by
    rcases List.mem_cons.1 hb with rfl | hb
    · exact .inl h.o0.one
    · exact .inr (h.o14 b hb))
  have t := h.tags 14
  have o14' := h.o14.grow h.E.low g1
  have o6 := h.o6
  exact ⟨⟨q.H (by omega), B, q.T (by omega), fun i t ht => q.V i t ht (by have : i < s.ts.length := (List.getElem?_eq_some_iff.1 ht).1; omega), q.K (by omega), q.M (by omega), q.D (by omega), Q1.fr f (o14'.apart t.o0 (by decide)), t.o0, t.o1, t.o2, t.o3, t.o4, t.o5, h.o6, t.o13, o14'⟩, ⟨⟨_, f2, fun b hb => by
    rcases List.mem_cons.1 hb with rfl | hb
    · rw [h.o0.one]; decide
    · rw [h.o14 b hb]; decide⟩, ext_ag _ _ _⟩⟩

/-- A thread's roots have turned: first they, then the table. -/
theorem Cx.root (h : Cx w own cb s) {i : Nat} {t t' : RT} (ht : s.ts[i]? = some t) {w1 : World} (V1 : SI w1 t'.a t'.c t'.rs) (f1 : Fr (ablk t.a) w w1) (g1 : Grw (ablk t.a) (ablk t'.a) w.heap.size)
    (T' : SR encRT w' s.ra s.rc (s.ts.set i t')) (f : Fr (ablk s.ra) w1 w') :
    Cx w' (ext own w.heap.size (5 + i)) cb { s with ts := s.ts.set i t' } ∧ StN 15 w w' own (ext own w.heap.size (5 + i)) := by
  have oi := h.o5 i t ht
  have hil := (List.getElem?_eq_some_iff.1 ht).1
  have f2 : Fr (ablk s.ra ++ ablk t.a) w w' := (f1.mono (fun k hk => .inl (by simp [hk]))).trans f (fun k hk => .inl (by simp [hk]))
  have o6 := h.o6
  have q := h.frame (P := fun n => n = 2 ∨ n = 5 + i) f2 (fun b hb => by
    rcases List.mem_append.1 hb with hb | hb
    · exact .inl (h.o2 b hb)
    · exact .inr (oi b hb))
  have tg := h.tags (5 + i)
  have oi' := oi.grow (h.V i t ht).low g1
  have get : ∀ (j : Nat) u, (s.ts.set i t')[j]? = some u → (j = i ∧ u = t') ∨ (j ≠ i ∧ s.ts[j]? = some u) := fun j u hu => by
    rw [List.getElem?_set] at hu
    by_cases e : i = j
    · rw [if_pos e, if_pos hil] at hu
      exact .inl ⟨e.symm, (Option.some.inj hu).symm⟩
    · rw [if_neg e] at hu
      exact .inr ⟨fun e2 => e e2.symm, hu⟩
  have el : (s.ts.set i t').length = s.ts.length := List.length_set
  refine ⟨⟨q.H (by omega), ?_, T', fun j u hu => ?_, ?_, q.M (by omega), q.D (by omega), q.E (by omega), tg.o0, tg.o1, tg.o2, tg.o3, tg.o4, fun j u hu => ?_, by dsimp only; rw [el]; exact h.o6, tg.o13, tg.o14⟩, ⟨⟨_, f2, fun b hb => ?_⟩, ext_ag _ _ _⟩⟩
  · dsimp only; rw [el]; exact q.hd (by omega)
  · rcases get j u hu with ⟨rfl, rfl⟩ | ⟨hn, hj⟩
    · exact V1.fr f (oi'.apart tg.o2 (by omega))
    · exact q.V j u hj (by omega)
  · dsimp only; rw [el]; exact q.K (by omega)
  · rcases get j u hu with ⟨rfl, rfl⟩ | ⟨hn, hj⟩
    · exact oi'
    · exact tg.o5 j u hj
  · rcases List.mem_append.1 hb with hb | hb
    · rw [h.o2 b hb]; decide
    · rw [oi b hb]; omega
end
end Go.Proofs.Ytfpghcdjfiggiaa.V
