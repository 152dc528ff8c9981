/- The collector's heap: the cells it lies in. No condition. -/
import Derived.Test.YtfpghcdjfiggiaaHeapG
import Derived.Test.YtfpghcdjfiggiaaCellEq
import Derived.Test.YtfpghcdjfiggiaaShake
import Derived.Test.YtfpghcdjfiggiaaStN
import Derived.Test.YtfpghcdjfiggiaaRefsP
import Derived.Test.YtfpghcdjfiggiaaGCollect
namespace Go.Proofs.Ytfpghcdjfiggiaa.V
open Go Go.RowKit

/-- Where a collector's heap lies, and what it says. -/
structure CS where
  hb : Nat
  sb : Nat
  sm : Nat
  G : List Nat
  ra : Option Addr
  rc : Nat
  ts : List RT
  mo : Option Nat
  ta : Option Addr
  tc : Nat
  fa : Option Addr
  fc : Nat
  words : Int
  taken : Int
  phase : Int
  cycles : Int
  last : Int
  ss : List Int
  xs : List XC
  B : List Int
  todo : List Int
  free : List Int
  ks : List Int
  what : Int
  rounds : Int

def MO (w : World) (mo : Option Nat) (B : List Int) : Prop := ∀ mm, mo = some mm → ∃ m clk, MI w mm m clk ∧ m.map (·.1) = B ∧ ∀ e ∈ m, e.2.1 = .bool true

structure Cx (w : World) (own : Nat → Nat) (cb : Nat) (s : CS) : Prop where
  H : Hx w s.G s.hb s.ss s.words s.last s.xs
  hd : Blk w cb [ptrV s.hb, .int .i64 s.words, .int .i64 s.taken, .int .i64 s.ts.length, .slice s.ra s.ts.length s.rc, ptrV s.sb, .int .i64 s.phase, .map s.mo, .slice s.ta s.todo.length s.tc, .slice s.fa s.free.length s.fc, .int .i64 s.cycles]
  T : SR encRT w s.ra s.rc s.ts
  V : ∀ (i : Nat) t, s.ts[i]? = some t → SI w t.a t.c t.rs
  K : ShakeAt w s.sb s.sm s.ts.length s.ks s.what s.rounds
  M : MO w s.mo s.B
  D : SI w s.ta s.tc s.todo
  E : SI w s.fa s.fc s.free
  o0 : Tag own [cb] 0
  o1 : Tag own s.G 1
  o2 : Tag own (ablk s.ra) 2
  o3 : Tag own [s.sb, s.sm] 3
  o4 : Tag own (ablk s.ta) 4
  o5 : ∀ (i : Nat) t, s.ts[i]? = some t → Tag own (ablk t.a) (5 + i)
  o6 : s.ts.length ≤ 8
  o13 : ∀ mm, s.mo = some mm → Tag own [mm] 13
  o14 : Tag own (ablk s.fa) 14

/-- What has other tags is as it was. -/
structure Cfr (P : Nat → Prop) (w : World) (cb : Nat) (s : CS) : Prop where
  H : ¬ P 1 → Hx w s.G s.hb s.ss s.words s.last s.xs
  hd : ¬ P 0 → Blk w cb [ptrV s.hb, .int .i64 s.words, .int .i64 s.taken, .int .i64 s.ts.length, .slice s.ra s.ts.length s.rc, ptrV s.sb, .int .i64 s.phase, .map s.mo, .slice s.ta s.todo.length s.tc, .slice s.fa s.free.length s.fc, .int .i64 s.cycles]
  T : ¬ P 2 → SR encRT w s.ra s.rc s.ts
  V : ∀ (i : Nat) t, s.ts[i]? = some t → ¬ P (5 + i) → SI w t.a t.c t.rs
  K : ¬ P 3 → ShakeAt w s.sb s.sm s.ts.length s.ks s.what s.rounds
  M : ¬ P 13 → MO w s.mo s.B
  D : ¬ P 4 → SI w s.ta s.tc s.todo
  E : ¬ P 14 → SI w s.fa s.fc s.free

theorem MO.fr {w w' : World} {mo : Option Nat} {B : List Int} {S : List Nat} (h : MO w mo B) (f : Fr S w w') (hS : ∀ mm, mo = some mm → mm ∉ S) : MO w' mo B := fun mm e => by
  obtain ⟨m, clk, hm, q⟩ := h mm e
  exact ⟨m, clk, hm.fr f (hS mm e), q⟩

section
variable {w w' : World} {own own' : Nat → Nat} {cb : Nat} {s : CS} {S : List Nat}

theorem Cx.frame (h : Cx w own cb s) {P : Nat → Prop} (f : Fr S w w') (t : ∀ b ∈ S, P (own b)) : Cfr P w' cb s := by
  have ap : ∀ {F : List Nat} {k : Nat}, Tag own F k → ¬ P k → Apart F S := fun tg hk b hb hb2 => hk (by have := t b hb2; rwa [tg b hb] at this)
  refine ⟨fun n => h.H.frame f (ap h.o1 n), fun n => h.hd.fr f (ap h.o0 n cb (by simp)), fun n => h.T.fr f (ap h.o2 n), fun i u hu n => (h.V i u hu).fr f (ap (h.o5 i u hu) n), fun n => h.K.fr f (ap h.o3 n s.sb (by simp)) (ap h.o3 n s.sm (by simp)), fun n => h.M.fr f (fun mm e => ap (h.o13 mm e) n mm (by simp)), fun n => h.D.fr f (ap h.o4 n), fun n => h.E.fr f (ap h.o14 n)⟩

theorem Cx.lows (h : Cx w own cb s) : Low [cb] w.heap.size ∧ Low s.G w.heap.size ∧ Low (ablk s.ra) w.heap.size ∧ Low [s.sb, s.sm] w.heap.size ∧ Low (ablk s.ta) w.heap.size ∧ (∀ (i : Nat) t, s.ts[i]? = some t → Low (ablk t.a) w.heap.size) ∧ (∀ mm, s.mo = some mm → mm < w.heap.size) ∧ Low (ablk s.fa) w.heap.size := by
  obtain ⟨m, clk, hm, _⟩ := h.K.mp
  refine ⟨fun b hb => ?_, h.H.low, h.T.low, fun b hb => ?_, h.D.low, fun i t ht => (h.V i t ht).low, fun mm e => ?_, h.E.low⟩
  · simp at hb; subst hb; exact h.hd.lt
  · simp at hb
    rcases hb with rfl | rfl
    · exact h.K.hd.lt
    · exact heap_lt hm.heap
  · obtain ⟨m, clk, hm, _⟩ := h.M mm e
    exact heap_lt hm.heap

/-- The tags of old blocks stand. -/
structure Ctg (own : Nat → Nat) (cb : Nat) (s : CS) : Prop where
  o0 : Tag own [cb] 0
  o1 : Tag own s.G 1
  o2 : Tag own (ablk s.ra) 2
  o3 : Tag own [s.sb, s.sm] 3
  o4 : Tag own (ablk s.ta) 4
  o5 : ∀ (i : Nat) t, s.ts[i]? = some t → Tag own (ablk t.a) (5 + i)
  o13 : ∀ mm, s.mo = some mm → Tag own [mm] 13
  o14 : Tag own (ablk s.fa) 14
theorem Cx.tags (h : Cx w own cb s) (k : Nat) : Ctg (ext own w.heap.size k) cb s := by
  obtain ⟨l0, l1, l2, l3, l4, l5, l13, l14⟩ := h.lows
  exact ⟨h.o0.keep l0 k, h.o1.keep l1 k, h.o2.keep l2 k, h.o3.keep l3 k, h.o4.keep l4 k, fun i t ht => (h.o5 i t ht).keep (l5 i t ht) k, fun mm e => (h.o13 mm e).keep (by intro b hb; simp at hb; subst hb; exact l13 _ e) k, h.o14.keep l14 k⟩

theorem Cx.still (h : Cx w own cb s) (f : ∀ S, Fr S w w') : Cx w' own cb s := by
  have q := h.frame (P := fun _ => False) (f []) (by simp)
  exact ⟨q.H id, q.hd id, q.T id, fun i t ht => q.V i t ht id, q.K id, q.M id, q.D id, q.E id, h.o0, h.o1, h.o2, h.o3, h.o4, h.o5, h.o6, h.o13, h.o14⟩

/-- Blocks of another tag have turned. -/
theorem Cx.other (h : Cx w own cb s) (f : Fr S w w') (hS : ∀ b ∈ S, 15 ≤ own b) (k : Nat) : Cx w' (ext own w.heap.size k) cb s := by
  have q := h.frame (P := fun n => 15 ≤ n) f hS
  have t := h.tags k
  have o6 := h.o6
  exact ⟨q.H (by omega), q.hd (by omega), q.T (by omega), fun i t ht => q.V i t ht (by have : i < s.ts.length := (List.getElem?_eq_some_iff.1 ht).1; omega), q.K (by omega), q.M (by omega), q.D (by omega), q.E (by omega), t.o0, t.o1, t.o2, t.o3, t.o4, t.o5, h.o6, t.o13, t.o14⟩

/-- The heap has turned. -/
theorem Cx.heap (h : Cx w own cb s) {G' : List Nat} {last' : Int} {ss' : List Int} {xs' : List XC} (H' : Hx w' G' s.hb ss' s.words last' xs') (f : Fr s.G w w') (g : Grw s.G G' w.heap.size) :
    Cx w' (ext own w.heap.size 1) cb { s with G := G', ss := ss', last := last', xs := xs' } ∧ StN 15 w w' own (ext own w.heap.size 1) := by
  have q := h.frame (P := fun n => n = 1) f h.o1
  have t := h.tags 1
  exact ⟨⟨H', q.hd (by omega), q.T (by omega), fun i t ht => q.V i t ht (by omega), q.K (by omega), q.M (by omega), q.D (by omega), q.E (by omega), t.o0, h.o1.grow h.H.low g, t.o2, t.o3, t.o4, t.o5, h.o6, t.o13, t.o14⟩, StN.of f h.o1 (by decide) 1⟩

/-- The header has turned. -/
theorem Cx.head (h : Cx w own cb s) {taken' phase' cycles' : Int} (B : Blk w' cb [ptrV s.hb, .int .i64 s.words, .int .i64 taken', .int .i64 s.ts.length, .slice s.ra s.ts.length s.rc, ptrV s.sb, .int .i64 phase', .map s.mo, .slice s.ta s.todo.length s.tc, .slice s.fa s.free.length s.fc, .int .i64 cycles']) (f : Fr [cb] w w') :
    Cx w' (ext own w.heap.size 0) cb { s with taken := taken', phase := phase', cycles := cycles' } ∧ StN 15 w w' own (ext own w.heap.size 0) := by
  have q := h.frame (P := fun n => n = 0) f h.o0
  have t := h.tags 0
  exact ⟨⟨q.H (by omega), B, q.T (by omega), fun i t ht => q.V i t ht (by omega), q.K (by omega), q.M (by omega), q.D (by omega), q.E (by omega), t.o0, t.o1, t.o2, t.o3, t.o4, t.o5, h.o6, t.o13, t.o14⟩, StN.of f h.o0 (by decide) 0⟩

/-- The handshake has turned. -/
theorem Cx.shake (h : Cx w own cb s) {ks' : List Int} {what' rounds' : Int} (K' : ShakeAt w' s.sb s.sm s.ts.length ks' what' rounds') (f : Fr [s.sb, s.sm] w w') :
    Cx w' (ext own w.heap.size 3) cb { s with ks := ks', what := what', rounds := rounds' } ∧ StN 15 w w' own (ext own w.heap.size 3) := by
  have q := h.frame (P := fun n => n = 3) f h.o3
  have t := h.tags 3
  exact ⟨⟨q.H (by omega), q.hd (by omega), q.T (by omega), fun i t ht => q.V i t ht (by omega), K', q.M (by omega), q.D (by omega), q.E (by omega), t.o0, t.o1, t.o2, t.o3, t.o4, t.o5, h.o6, t.o13, t.o14⟩, StN.of f h.o3 (by decide) 3⟩

/-- What is marked has turned. -/
theorem Cx.marks (h : Cx w own cb s) {mm : Nat} (e : s.mo = some mm) {B' : List Int} (M' : ∃ m clk, MI w' mm m clk ∧ m.map (·.1) = B' ∧ ∀ e ∈ m, e.2.1 = .bool true) (f : Fr [mm] w w') :
    Cx w' (ext own w.heap.size 13) cb { s with B := B' } ∧ StN 15 w w' own (ext own w.heap.size 13) := by
  have o13 := h.o13 mm e
  have q := h.frame (P := fun n => n = 13) f o13
  have t := h.tags 13
  have o6 := h.o6
  exact ⟨⟨q.H (by omega), q.hd (by omega), q.T (by omega), fun i t ht => q.V i t ht (by have : i < s.ts.length := (List.getElem?_eq_some_iff.1 ht).1; omega), q.K (by omega), fun m2 e2 => by rw [e] at e2; cases e2; exact M', q.D (by omega), q.E (by omega), t.o0, t.o1, t.o2, t.o3, t.o4, t.o5, h.o6, t.o13, t.o14⟩, StN.of f o13 (by decide) 13⟩

/-- The row of what is to be looked at has turned, then the header. -/
theorem Cx.todo (h : Cx w own cb s) {w1 : World} {ta' : Option Addr} {tc' : Nat} {todo' : List Int} (Q1 : SI w1 ta' tc' todo') (f1 : Fr (ablk s.ta) w w1) (g1 : Grw (ablk s.ta) (ablk ta') w.heap.size)
    (B : Blk w' cb [ptrV s.hb, .int .i64 s.words, .int .i64 s.taken, .int .i64 s.ts.length, .slice s.ra s.ts.length s.rc, ptrV s.sb, .int .i64 s.phase, .map s.mo, .slice ta' todo'.length tc', .slice s.fa s.free.length s.fc, .int .i64 s.cycles]) (f : Fr [cb] w1 w') :
    Cx w' (ext own w.heap.size 4) cb { s with ta := ta', tc := tc', todo := todo' } ∧ StN 15 w w' own (ext own w.heap.size 4) := by
  have f2 : Fr (cb :: ablk s.ta) w w' := (f1.mono (fun k hk => .inl (by simp [hk]))).trans f (fun k hk => .inl (by simp at hk; simp [hk]))
  have q := h.frame (P := fun n => n = 0 ∨ n = 4) f2 (fun b hb => by
    rcases List.mem_cons.1 hb with rfl | hb
    · exact .inl h.o0.one
    · exact .inr (h.o4 b hb))
  have t := h.tags 4
  have o4' := h.o4.grow h.D.low g1
  exact ⟨⟨q.H (by omega), B, q.T (by omega), fun i t ht => q.V i t ht (by omega), q.K (by omega), q.M (by omega), Q1.fr f (o4'.apart t.o0 (by decide)), q.E (by omega), t.o0, t.o1, t.o2, t.o3, o4', t.o5, h.o6, t.o13, t.o14⟩, ⟨⟨_, f2, fun b hb => by
    rcases List.mem_cons.1 hb with rfl | hb
    · rw [h.o0.one]; decide
    · rw [h.o4 b hb]; decide⟩, ext_ag _ _ _⟩⟩

/-- The row of what is to be freed has turned, then the header. -/
theorem Cx.frees (h : Cx w own cb s) {w1 : World} {fa' : Option Addr} {fc' : Nat} {free' : List Int} (Q1 : SI w1 fa' fc' free') (f1 : Fr (ablk s.fa) w w1) (g1 : Grw (ablk s.fa) (ablk fa') w.heap.size)
    (B : Blk w' cb [ptrV s.hb, .int .i64 s.words, .int .i64 s.taken, .int .i64 s.ts.length, .slice s.ra s.ts.length s.rc, ptrV s.sb, .int .i64 s.phase, .map s.mo, .slice s.ta s.todo.length s.tc, .slice fa' free'.length fc', .int .i64 s.cycles]) (f : Fr [cb] w1 w') :
    Cx w' (ext own w.heap.size 14) cb { s with fa := fa', fc := fc', free := free' } ∧ StN 15 w w' own (ext own w.heap.size 14) := by
  have f2 : Fr (cb :: ablk s.fa) w w' := (f1.mono (fun k hk => .inl (by simp [hk]))).trans f (fun k hk => .inl (by simp at hk; simp [hk]))
  have q := h.frame (P := fun n => n = 0 ∨ n = 14) f2 (fun b hb => by
    rcases List.mem_cons.1 hb with rfl | hb
    · exact .inl h.o0.one
    · exact .inr (h.o14 b hb))
  have t := h.tags 14
  have o14' := h.o14.grow h.E.low g1
  have o6 := h.o6
  exact ⟨⟨q.H (by omega), B, q.T (by omega), fun i t ht => q.V i t ht (by have : i < s.ts.length := (List.getElem?_eq_some_iff.1 ht).1; omega), q.K (by omega), q.M (by omega), q.D (by omega), Q1.fr f (o14'.apart t.o0 (by decide)), t.o0, t.o1, t.o2, t.o3, t.o4, t.o5, h.o6, t.o13, o14'⟩, ⟨⟨_, f2, fun b hb => by
    rcases List.mem_cons.1 hb with rfl | hb
    · rw [h.o0.one]; decide
    · rw [h.o14 b hb]; decide⟩, ext_ag _ _ _⟩⟩

/-- A thread's roots have turned: first they, then the table. -/
theorem Cx.root (h : Cx w own cb s) {i : Nat} {t t' : RT} (ht : s.ts[i]? = some t) {w1 : World} (V1 : SI w1 t'.a t'.c t'.rs) (f1 : Fr (ablk t.a) w w1) (g1 : Grw (ablk t.a) (ablk t'.a) w.heap.size)
    (T' : SR encRT w' s.ra s.rc (s.ts.set i t')) (f : Fr (ablk s.ra) w1 w') :
    Cx w' (ext own w.heap.size (5 + i)) cb { s with ts := s.ts.set i t' } ∧ StN 15 w w' own (ext own w.heap.size (5 + i)) := by
  have oi := h.o5 i t ht
  have hil := (List.getElem?_eq_some_iff.1 ht).1
  have f2 : Fr (ablk s.ra ++ ablk t.a) w w' := (f1.mono (fun k hk => .inl (by simp [hk]))).trans f (fun k hk => .inl (by simp [hk]))
  have o6 := h.o6
  have q := h.frame (P := fun n => n = 2 ∨ n = 5 + i) f2 (fun b hb => by
    rcases List.mem_append.1 hb with hb | hb
    · exact .inl (h.o2 b hb)
    · exact .inr (oi b hb))
  have tg := h.tags (5 + i)
  have oi' := oi.grow (h.V i t ht).low g1
  have get : ∀ (j : Nat) u, (s.ts.set i t')[j]? = some u → (j = i ∧ u = t') ∨ (j ≠ i ∧ s.ts[j]? = some u) := fun j u hu => by
    rw [List.getElem?_set] at hu
    by_cases e : i = j
    · rw [if_pos e, if_pos hil] at hu
      exact .inl ⟨e.symm, (Option.some.inj hu).symm⟩
    · rw [if_neg e] at hu
      exact .inr ⟨fun e2 => e e2.symm, hu⟩
  have el : (s.ts.set i t').length = s.ts.length := List.length_set
  refine ⟨⟨q.H (by omega), ?_, T', fun j u hu => ?_, ?_, q.M (by omega), q.D (by omega), q.E (by omega), tg.o0, tg.o1, tg.o2, tg.o3, tg.o4, fun j u hu => ?_, by dsimp only; rw [el]; exact h.o6, tg.o13, tg.o14⟩, ⟨⟨_, f2, fun b hb => ?_⟩, ext_ag _ _ _⟩⟩
  · dsimp only; rw [el]; exact q.hd (by omega)
  · rcases get j u hu with ⟨rfl, rfl⟩ | ⟨hn, hj⟩
    · exact V1.fr f (oi'.apart tg.o2 (by omega))
    · exact q.V j u hj (by omega)
  · dsimp only; rw [el]; exact q.K (by omega)
  · rcases get j u hu with ⟨rfl, rfl⟩ | ⟨hn, hj⟩
    · exact oi'
    · exact tg.o5 j u hj
  · rcases List.mem_append.1 hb with hb | hb
    · rw [h.o2 b hb]; decide
    · rw [oi b hb]; omega
end

-- merged: CollectA

/-- The reading of roots[t].all = append(roots[t].all, v) behind its draw. -/
def AppAll (hV : Nat) (thread v : Int) (w0 : World) (F : World → Prop) : Prop :=
 (∃ (a8 : Option Addr) (l8 c8 : Nat), World.cell? w0 ⟨hV, 4, none⟩ = some (.slice a8 l8 c8) ∧
 (∃ (a9 : Option Addr) (l9 c9 : Nat), World.cell? w0 ⟨hV, 4, none⟩ = some (.slice a9 l9 c9) ∧
 PtrOK a9 fun (p10 : Addr) =>
 ((0 : Int) ≤ thread ∧ thread < (l9 : Int)) ∧
 (∃ (a11 : Option Addr) (l11 c11 : Nat), World.cell? w0 (Addr.add (Addr.add p10 (Int.toNat thread * 1)) 0) = some (.slice a11 l11 c11) ∧
 ∀ (b12 : Nat) (w13 : World), NewAt w0 w13 b12 #[.int .i64 v] 3 →
 RunF Try.prog (Builtin.append_ #[42, 42] 42 #[.slice a11 l11 c11, .slice (some ⟨b12, 0, none⟩) 1 1]) w13 [.leaf .slice] fun (a14 : Option Addr) (l14 c14 : Nat) (w15 : World) =>
 PtrOK a8 fun (p16 : Addr) =>
 ((0 : Int) ≤ thread ∧ thread < (l8 : Int)) ∧
 May w15 (Addr.add (Addr.add p16 (Int.toNat thread * 1)) 0) ∧ ∀ w17 : World, SetC w15 w17 (Addr.add (Addr.add p16 (Int.toNat thread * 1)) 0) (.slice a14 l14 c14) →
 F w17) ∧
 (∀ (b18 : Nat) (w19 : World), NewAt w0 w19 b18 #[.int .i64 v] 3 →
 ∃ (a20 : Option Addr) (l20 c20 : Nat), World.cell? w19 (Addr.add (Addr.add p10 (Int.toNat thread * 1)) 0) = some (.slice a20 l20 c20) ∧
 RunF Try.prog (Builtin.append_ #[42, 42] 42 #[.slice a20 l20 c20, .slice (some ⟨b18, 0, none⟩) 1 1]) w19 [.leaf .slice] fun (a21 : Option Addr) (l21 c21 : Nat) (w22 : World) =>
 PtrOK a8 fun (p23 : Addr) =>
 ((0 : Int) ≤ thread ∧ thread < (l8 : Int)) ∧
 May w22 (Addr.add (Addr.add p23 (Int.toNat thread * 1)) 0) ∧ ∀ w24 : World, SetC w22 w24 (Addr.add (Addr.add p23 (Int.toNat thread * 1)) 0) (.slice a21 l21 c21) →
 F w24)) ∧
 (∀ (b25 : Nat) (w26 : World), NewAt w0 w26 b25 #[.int .i64 v] 3 →
 ∃ (a27 : Option Addr) (l27 c27 : Nat), World.cell? w26 ⟨hV, 4, none⟩ = some (.slice a27 l27 c27) ∧
 PtrOK a27 fun (p28 : Addr) =>
 ((0 : Int) ≤ thread ∧ thread < (l27 : Int)) ∧
 ∃ (a29 : Option Addr) (l29 c29 : Nat), World.cell? w26 (Addr.add (Addr.add p28 (Int.toNat thread * 1)) 0) = some (.slice a29 l29 c29) ∧
 RunF Try.prog (Builtin.append_ #[42, 42] 42 #[.slice a29 l29 c29, .slice (some ⟨b25, 0, none⟩) 1 1]) w26 [.leaf .slice] fun (a30 : Option Addr) (l30 c30 : Nat) (w31 : World) =>
 PtrOK a8 fun (p32 : Addr) =>
 ((0 : Int) ≤ thread ∧ thread < (l8 : Int)) ∧
 May w31 (Addr.add (Addr.add p32 (Int.toNat thread * 1)) 0) ∧ ∀ w33 : World, SetC w31 w33 (Addr.add (Addr.add p32 (Int.toNat thread * 1)) 0) (.slice a30 l30 c30) →
 F w33)) ∧
 (∃ (a34 : Option Addr) (l34 c34 : Nat), World.cell? w0 ⟨hV, 4, none⟩ = some (.slice a34 l34 c34) ∧
 PtrOK a34 fun (p35 : Addr) =>
 ((0 : Int) ≤ thread ∧ thread < (l34 : Int)) ∧
 (∃ (a36 : Option Addr) (l36 c36 : Nat), World.cell? w0 ⟨hV, 4, none⟩ = some (.slice a36 l36 c36) ∧
 (∃ (a37 : Option Addr) (l37 c37 : Nat), World.cell? w0 (Addr.add (Addr.add p35 (Int.toNat thread * 1)) 0) = some (.slice a37 l37 c37) ∧
 ∀ (b38 : Nat) (w39 : World), NewAt w0 w39 b38 #[.int .i64 v] 3 →
 RunF Try.prog (Builtin.append_ #[42, 42] 42 #[.slice a37 l37 c37, .slice (some ⟨b38, 0, none⟩) 1 1]) w39 [.leaf .slice] fun (a40 : Option Addr) (l40 c40 : Nat) (w41 : World) =>
 PtrOK a36 fun (p42 : Addr) =>
 ((0 : Int) ≤ thread ∧ thread < (l36 : Int)) ∧
 May w41 (Addr.add (Addr.add p42 (Int.toNat thread * 1)) 0) ∧ ∀ w43 : World, SetC w41 w43 (Addr.add (Addr.add p42 (Int.toNat thread * 1)) 0) (.slice a40 l40 c40) →
 F w43) ∧
 (∀ (b44 : Nat) (w45 : World), NewAt w0 w45 b44 #[.int .i64 v] 3 →
 ∃ (a46 : Option Addr) (l46 c46 : Nat), World.cell? w45 (Addr.add (Addr.add p35 (Int.toNat thread * 1)) 0) = some (.slice a46 l46 c46) ∧
 RunF Try.prog (Builtin.append_ #[42, 42] 42 #[.slice a46 l46 c46, .slice (some ⟨b44, 0, none⟩) 1 1]) w45 [.leaf .slice] fun (a47 : Option Addr) (l47 c47 : Nat) (w48 : World) =>
 PtrOK a36 fun (p49 : Addr) =>
 ((0 : Int) ≤ thread ∧ thread < (l36 : Int)) ∧
 May w48 (Addr.add (Addr.add p49 (Int.toNat thread * 1)) 0) ∧ ∀ w50 : World, SetC w48 w50 (Addr.add (Addr.add p49 (Int.toNat thread * 1)) 0) (.slice a47 l47 c47) →
 F w50)) ∧
 (∃ (a51 : Option Addr) (l51 c51 : Nat), World.cell? w0 (Addr.add (Addr.add p35 (Int.toNat thread * 1)) 0) = some (.slice a51 l51 c51) ∧
 (∃ (a52 : Option Addr) (l52 c52 : Nat), World.cell? w0 ⟨hV, 4, none⟩ = some (.slice a52 l52 c52) ∧
 ∀ (b53 : Nat) (w54 : World), NewAt w0 w54 b53 #[.int .i64 v] 3 →
 RunF Try.prog (Builtin.append_ #[42, 42] 42 #[.slice a51 l51 c51, .slice (some ⟨b53, 0, none⟩) 1 1]) w54 [.leaf .slice] fun (a55 : Option Addr) (l55 c55 : Nat) (w56 : World) =>
 PtrOK a52 fun (p57 : Addr) =>
 ((0 : Int) ≤ thread ∧ thread < (l52 : Int)) ∧
 May w56 (Addr.add (Addr.add p57 (Int.toNat thread * 1)) 0) ∧ ∀ w58 : World, SetC w56 w58 (Addr.add (Addr.add p57 (Int.toNat thread * 1)) 0) (.slice a55 l55 c55) →
 F w58) ∧
 (∀ (b59 : Nat) (w60 : World), NewAt w0 w60 b59 #[.int .i64 v] 3 →
 (∃ (a61 : Option Addr) (l61 c61 : Nat), World.cell? w60 ⟨hV, 4, none⟩ = some (.slice a61 l61 c61) ∧
 RunF Try.prog (Builtin.append_ #[42, 42] 42 #[.slice a51 l51 c51, .slice (some ⟨b59, 0, none⟩) 1 1]) w60 [.leaf .slice] fun (a62 : Option Addr) (l62 c62 : Nat) (w63 : World) =>
 PtrOK a61 fun (p64 : Addr) =>
 ((0 : Int) ≤ thread ∧ thread < (l61 : Int)) ∧
 May w63 (Addr.add (Addr.add p64 (Int.toNat thread * 1)) 0) ∧ ∀ w65 : World, SetC w63 w65 (Addr.add (Addr.add p64 (Int.toNat thread * 1)) 0) (.slice a62 l62 c62) →
 F w65) ∧
 (RunF Try.prog (Builtin.append_ #[42, 42] 42 #[.slice a51 l51 c51, .slice (some ⟨b59, 0, none⟩) 1 1]) w60 [.leaf .slice] fun (a66 : Option Addr) (l66 c66 : Nat) (w67 : World) =>
 ∃ (a68 : Option Addr) (l68 c68 : Nat), World.cell? w67 ⟨hV, 4, none⟩ = some (.slice a68 l68 c68) ∧
 PtrOK a68 fun (p69 : Addr) =>
 ((0 : Int) ≤ thread ∧ thread < (l68 : Int)) ∧
 May w67 (Addr.add (Addr.add p69 (Int.toNat thread * 1)) 0) ∧ ∀ w70 : World, SetC w67 w70 (Addr.add (Addr.add p69 (Int.toNat thread * 1)) 0) (.slice a66 l66 c66) →
 F w70))) ∧
 (∀ (b71 : Nat) (w72 : World), NewAt w0 w72 b71 #[.int .i64 v] 3 →
 ∃ (a73 : Option Addr) (l73 c73 : Nat), World.cell? w72 (Addr.add (Addr.add p35 (Int.toNat thread * 1)) 0) = some (.slice a73 l73 c73) ∧
 (∃ (a74 : Option Addr) (l74 c74 : Nat), World.cell? w72 ⟨hV, 4, none⟩ = some (.slice a74 l74 c74) ∧
 RunF Try.prog (Builtin.append_ #[42, 42] 42 #[.slice a73 l73 c73, .slice (some ⟨b71, 0, none⟩) 1 1]) w72 [.leaf .slice] fun (a75 : Option Addr) (l75 c75 : Nat) (w76 : World) =>
 PtrOK a74 fun (p77 : Addr) =>
 ((0 : Int) ≤ thread ∧ thread < (l74 : Int)) ∧
 May w76 (Addr.add (Addr.add p77 (Int.toNat thread * 1)) 0) ∧ ∀ w78 : World, SetC w76 w78 (Addr.add (Addr.add p77 (Int.toNat thread * 1)) 0) (.slice a75 l75 c75) →
 F w78) ∧
 (RunF Try.prog (Builtin.append_ #[42, 42] 42 #[.slice a73 l73 c73, .slice (some ⟨b71, 0, none⟩) 1 1]) w72 [.leaf .slice] fun (a79 : Option Addr) (l79 c79 : Nat) (w80 : World) =>
 ∃ (a81 : Option Addr) (l81 c81 : Nat), World.cell? w80 ⟨hV, 4, none⟩ = some (.slice a81 l81 c81) ∧
 PtrOK a81 fun (p82 : Addr) =>
 ((0 : Int) ≤ thread ∧ thread < (l81 : Int)) ∧
 May w80 (Addr.add (Addr.add p82 (Int.toNat thread * 1)) 0) ∧ ∀ w83 : World, SetC w80 w83 (Addr.add (Addr.add p82 (Int.toNat thread * 1)) 0) (.slice a79 l79 c79) →
 F w83))) ∧
 (∀ (b84 : Nat) (w85 : World), NewAt w0 w85 b84 #[.int .i64 v] 3 →
 ∃ (a86 : Option Addr) (l86 c86 : Nat), World.cell? w85 ⟨hV, 4, none⟩ = some (.slice a86 l86 c86) ∧
 PtrOK a86 fun (p87 : Addr) =>
 ((0 : Int) ≤ thread ∧ thread < (l86 : Int)) ∧
 ∃ (a88 : Option Addr) (l88 c88 : Nat), World.cell? w85 (Addr.add (Addr.add p87 (Int.toNat thread * 1)) 0) = some (.slice a88 l88 c88) ∧
 (∃ (a89 : Option Addr) (l89 c89 : Nat), World.cell? w85 ⟨hV, 4, none⟩ = some (.slice a89 l89 c89) ∧
 RunF Try.prog (Builtin.append_ #[42, 42] 42 #[.slice a88 l88 c88, .slice (some ⟨b84, 0, none⟩) 1 1]) w85 [.leaf .slice] fun (a90 : Option Addr) (l90 c90 : Nat) (w91 : World) =>
 PtrOK a89 fun (p92 : Addr) =>
 ((0 : Int) ≤ thread ∧ thread < (l89 : Int)) ∧
 May w91 (Addr.add (Addr.add p92 (Int.toNat thread * 1)) 0) ∧ ∀ w93 : World, SetC w91 w93 (Addr.add (Addr.add p92 (Int.toNat thread * 1)) 0) (.slice a90 l90 c90) →
 F w93) ∧
 (RunF Try.prog (Builtin.append_ #[42, 42] 42 #[.slice a88 l88 c88, .slice (some ⟨b84, 0, none⟩) 1 1]) w85 [.leaf .slice] fun (a94 : Option Addr) (l94 c94 : Nat) (w95 : World) =>
 ∃ (a96 : Option Addr) (l96 c96 : Nat), World.cell? w95 ⟨hV, 4, none⟩ = some (.slice a96 l96 c96) ∧
 PtrOK a96 fun (p97 : Addr) =>
 ((0 : Int) ≤ thread ∧ thread < (l96 : Int)) ∧
 May w95 (Addr.add (Addr.add p97 (Int.toNat thread * 1)) 0) ∧ ∀ w98 : World, SetC w95 w98 (Addr.add (Addr.add p97 (Int.toNat thread * 1)) 0) (.slice a94 l94 c94) →
 F w98))

section
variable {w w' : World} {own own' : Nat → Nat} {cb : Nat} {s : CS} {S : List Nat}

theorem appall_c (h : Cx w own cb s) {thread : Int} {t : RT} (h0 : 0 ≤ thread) (ht : s.ts[thread.toNat]? = some t) (h64 : t.rs.length ≤ 1000) (v : Int) {F : World → Prop}
    (hK : ∀ w' own' t', t'.rs = t.rs ++ [v] → Cx w' own' cb { s with ts := s.ts.set thread.toNat t' } → StN 15 w w' own own' → F w') : AppAll cb thread v w F := by
  have hil := (List.getElem?_eq_some_iff.1 ht).1
  have hth : (0 : Int) ≤ thread ∧ thread < (s.ts.length : Int) := ⟨h0, by omega⟩
  obtain ⟨b, off, era, hcell⟩ := h.T.at ht
  have hV := h.V _ t ht
  have hp : ∀ w' : World, Fr (ablk t.a) w w' → ∀ (j : Nat), j < 1 → w'.cell? (Addr.add (Addr.add ⟨b, off, none⟩ (Int.toNat thread * 1)) j) = (encRT.f t)[j]? ∧ May w' (Addr.add (Addr.add ⟨b, off, none⟩ (Int.toNat thread * 1)) j) := by
    intro w' f
    have T' := h.T.fr f (h.o2.apart (h.o5 _ _ ht) (by omega))
    obtain ⟨b', off', e, q⟩ := T'.at ht
    rw [era] at e
    cases e
    exact q
  have HD : ∀ w' : World, Fr (ablk t.a) w w' → w'.cell? ⟨cb, 4, none⟩ = some (.slice (some ⟨b, off, none⟩) s.ts.length s.rc) := fun w' f => by
    rw [← era]
    exact (h.hd.fr f (fun hb2 => (h.o0.apart (h.o5 _ _ ht) (by omega)) cb (by simp) hb2)).cell rfl
  have TC : ∀ w' : World, Fr (ablk t.a) w w' → w'.cell? (Addr.add (Addr.add ⟨b, off, none⟩ (Int.toNat thread * 1)) 0) = some (.slice t.a t.rs.length t.c) := fun w' f => (hp w' f 0 (by decide)).1
  have MY : ∀ w' : World, Fr (ablk t.a) w w' → May w' (Addr.add (Addr.add ⟨b, off, none⟩ (Int.toNat thread * 1)) 0) := fun w' f => (hp w' f 0 (by decide)).2
  have AP : ∀ {b1 : Nat} {w1 : World}, NewAt w w1 b1 #[.int .i64 v] 3 → ∀ {K : Option Addr → Nat → Nat → World → Prop},
      (∀ a' c' w', SI w' a' c' (t.rs ++ [v]) → Fr (ablk t.a) w w' → Grw (ablk t.a) (ablk a') w.heap.size → K a' (t.rs.length + 1) c' w') →
      RunF Try.prog (Builtin.append_ #[42, 42] 42 #[.slice t.a t.rs.length t.c, .slice (some ⟨b1, 0, none⟩) 1 1]) w1 [.leaf .slice] K := fun n1 _ hK' => app_int hV n1 (by omega) hK'
  have FN : ∀ {a' : Option Addr} {c' : Nat} {w1 : World}, SI w1 a' c' (t.rs ++ [v]) → Fr (ablk t.a) w w1 → Grw (ablk t.a) (ablk a') w.heap.size → ∀ {w2 : World}, SetC w1 w2 (Addr.add (Addr.add ⟨b, off, none⟩ (Int.toNat thread * 1)) 0) (.slice a' (t.rs.length + 1) c') → F w2 := by
    intro a' c' w1 S1 f1 g1 w2 s2
    have T1 := h.T.fr f1 (h.o2.apart (h.o5 _ _ ht) (by omega))
    have s2' : SetC w1 w2 (Addr.add (Addr.add ⟨b, off, none⟩ (Int.toNat thread * encRT.k)) 0) (.slice a' (t.rs ++ [v]).length c') := by simpa [encRT] using s2
    obtain ⟨T2, f2⟩ := T1.set1 ht era (j := 0) (by decide) (r' := ⟨a', c', t.rs ++ [v]⟩) rfl s2'
    obtain ⟨R, st⟩ := h.root ht (t' := ⟨a', c', t.rs ++ [v]⟩) S1 f1 g1 T2 f2
    exact hK w2 _ ⟨a', c', t.rs ++ [v]⟩ rfl R st
  unfold AppAll
  clear hK hcell
  repeat' first
    | exact hth
    | exact Fr.refl _ _
    | exact f1
    | exact n1.fr _
    | with_reducible exact FN S1 f1 g1 s2
    | with_reducible exact MY _ f1
    | with_reducible refine PtrOK.of rfl ?_
    | with_reducible refine And.intro ?_ ?_
    | intro b1 w1 n1
    | intro w2 s2
    | with_reducible refine AP n1 (fun a' c' w1 S1 f1 g1 => ?_)
    | refine ⟨_, _, _, HD _ ?_, ?_⟩
    | refine ⟨_, _, _, TC _ ?_, ?_⟩
end

-- merged: CollectB

/-- A bool of a map of true ones is looked up. -/
theorem look_true {w : World} {m : List Ent} {clk mb : Nat} (hm : MI w mb m clk) (hv : ∀ e ∈ m, e.2.1 = .bool true) (k : Int) {K : Bool → World → Prop} (hK : K (decide (k ∈ m.map (·.1))) w) : RunF Try.prog (Instr.lookup 162 (.map (some mb)) (.int .i64 k) false) w [.leaf .bool] K := by
  have hr := run_lookup (P := Try.prog) hm (t := 162) (kt := 3) (et := 4) (by kernel_rfl) (by kernel_rfl) Try.t4 (.bool false) (by kernel_rfl) rfl k false
  by_cases hk : k ∈ m.map (·.1)
  · obtain ⟨e, he, rfl⟩ := List.mem_map.1 hk
    have hg : mget m e.1 = some (.bool true) := by
      have := mget_some hm.nodup (k := e.1) (v := e.2.1) (st := e.2.2) he
      rw [hv e he] at this; exact this
    rw [hg] at hr
    rw [decide_eq_true hk] at hK
    exact ⟨[.bool true], w, hr, hK⟩
  · have hg : mget m k = none := mget_no fun e he e2 => hk (List.mem_map.2 ⟨e, he, e2⟩)
    rw [hg] at hr
    rw [decide_eq_false hk] at hK
    exact ⟨[.bool false], w, hr, hK⟩

/-- A key is put in, of a map of true ones. -/
theorem put_true {w : World} {m : List Ent} {clk mb : Nat} (hm : MI w mb m clk) (hv : ∀ e ∈ m, e.2.1 = .bool true) (k : Int) : ∃ w' m' clk', Sem.run Try.prog (Instr.mapUpdate 162 (.map (some mb)) (.int .i64 k) (.bool true)) w = .ok () w' ∧ MI w' mb m' clk' ∧ Fr [mb] w w' ∧ (∀ e ∈ m', e.2.1 = .bool true) ∧
    m'.map (·.1) = if k ∈ m.map (·.1) then m.map (·.1) else m.map (·.1) ++ [k] := by
  obtain ⟨w1, m', clk', hrun, M1, f1, hm'⟩ := run_update (P := Try.prog) hm (t := 162) (kt := 3) (et := 4) (by kernel_rfl) (by kernel_rfl) k (.bool true)
  rcases hm' with ⟨hn, rfl, rfl⟩ | ⟨hn, rfl, rfl⟩
  · refine ⟨w1, _, _, hrun, M1, f1, fun e he => ?_, ?_⟩
    · obtain ⟨e0, h0, rfl⟩ := List.mem_map.1 he
      split
      · rfl
      · exact hv e0 h0
    · rw [mput_keys, if_pos]
      refine Classical.byContradiction fun hk => hn (mget_no fun e he e2 => hk (List.mem_map.2 ⟨e, he, e2⟩))
  · refine ⟨w1, _, _, hrun, M1, f1, fun e he => ?_, ?_⟩
    · rcases List.mem_append.1 he with h | h
      · exact hv e h
      · simp at h; subst h; rfl
    · rw [List.map_append, if_neg]
      · rfl
      · intro hk
        obtain ⟨e, he, rfl⟩ := List.mem_map.1 hk
        rw [mget_some hm.nodup (k := e.1) (v := e.2.1) (st := e.2.2) he] at hn
        cases hn


/-- A compared cell, in a new block. -/
theorem ctold_c {a b c : Int} {b1 : Nat} {w w1 : World} (n1 : NewAt w w1 b1 #[.int .i64 0, .int .i64 0, .int .i64 0] 133) {F : World → Prop} (hF : ∀ w2, Blk w2 b1 [.int .i64 a, .int .i64 b, .int .i64 c] → (∀ S, Fr S w w2) → w.heap.size ≤ b1 → F w2) :
    MayL w1 ⟨b1, 0, none⟩ 3 ∧ ∀ w2 : World, SetL w1 w2 ⟨b1, 0, none⟩ [.int .i64 a, .int .i64 b, .int .i64 c] → F w2 :=
  ⟨n1.blk.mayL (by simp), fun w2 s2 => by obtain ⟨X, f⟩ := newSet n1 s2 rfl; exact hF w2 X f n1.ge⟩

section
variable {w w' : World} {own own' : Nat → Nat} {cb : Nat} {s : CS} {S : List Nat}

theorem cxsum0 (h : Cx w own cb s) : 0 ≤ xsum s.xs ∧ xsum s.xs ≤ (s.words + 3) / 4 ∧ 512 ≤ s.words ∧ s.words ≤ 65536 := by
  have xf := h.H.facts
  have : ∀ ys : List XC, (∀ y ∈ ys, 0 ≤ y.n) → 0 ≤ xsum ys := fun ys => by
    induction ys with
    | nil => intro _; exact Int.le_refl 0
    | cons y ys ih => intro h; have := ih (fun z hz => h z (by simp [hz])); have := h y (by simp); simp only [xsum]; omega
  exact ⟨this s.xs (fun y hy => (xf.2.2.2.1 y hy).1), xf.2.2.2.2.1, xf.2.2.2.2.2.2.1, xf.2.2.2.2.2.2.2.1⟩

/-- A new heap. -/
theorem cnew_c (words threads : Int) (hr : 1024 ≤ words ∧ words ≤ 65536 ∧ 1 ≤ threads ∧ threads ≤ 8) (own : Nat → Nat) {K : Option Addr → Int → World → Prop}
    (hK : ∀ w' own' cb s, Cx w' own' cb s → s.words = words → s.taken = 0 → s.phase = 0 → s.cycles = 0 → s.last = 0 → s.ss.length = threads.toNat + 1 → s.xs = [] → s.todo = [] → s.free = [] → s.ks = [] → s.rounds = 0 → s.mo = none → s.ts.map (·.rs) = List.replicate threads.toNat [] → StN 15 w w' own own' → K (some ⟨cb, 0, none⟩) 0 w') : C112 words threads w K := by
  refine r_f112 _ _ _ _ (IfB.no (by omega) (IfB.no (by omega) (IfB.no (by omega) (IfB.no (by omega) ⟨fit64 (by omega) (by omega), ?_⟩))))
  refine xnew_c words (threads + 1) (fun h => absurd (by omega) h) (fun _ w1 G hb H1 f1 hG => ?_)
  refine shakeNew_c threads (fun h => absurd (by omega) h) (fun _ w2 sb sm K2 f2 g2 g2b => ?_)
  refine make_c 224 228 Try.t228 (.agg #[.slice none 0 0]) 1 (by kernel_rfl) (by kernel_rfl) rfl rfl rfl (by omega) (by omega) (by decide) (by omega) (by omega) _ (fun b3 w3 V3 f3 g3 => fun cb w4 n4 => ?_)
  have z1 := (f1 []).size
  have z2 := (f2 []).size
  have z3 := (f3 []).size
  have g4 := n4.ge
  have lG := H1.low
  have l3 := V3.low b3 (by simp [ablk])
  have lsb := K2.hd.lt
  obtain ⟨m, clk, hm, _⟩ := K2.mp
  have lsm := heap_lt hm.heap
  have f14 : ∀ S, Fr S w1 w4 := fun S => ((f2 S).more (f3 S)).more (n4.fr S)
  have eT : (List.replicate threads.toNat (Value.cells (.agg #[.slice none 0 0])).toList).flatten = (List.replicate threads.toNat (⟨none, 0, []⟩ : RT)).flatMap encRT.f := by
    have : ∀ n : Nat, (List.replicate n (Value.cells (.agg #[.slice none 0 0])).toList).flatten = (List.replicate n (⟨none, 0, []⟩ : RT)).flatMap encRT.f := fun n => by
      induction n with
      | zero => rfl
      | succ n ih => rw [List.replicate_succ, List.replicate_succ, List.flatten_cons, List.flatMap_cons, ih]; rfl
    exact this _
  have T3 : SR encRT w3 (some ⟨b3, 0, none⟩) threads.toNat (List.replicate threads.toNat (⟨none, 0, []⟩ : RT)) := by
    unfold SR
    rw [List.length_replicate, ← eT]
    exact V3
  have T4 := T3.fr0 (n4.fr [])
  have B4 := n4.blk
  have e8 : ((List.replicate threads.toNat (⟨none, 0, []⟩ : RT)).length : Int) = threads := by rw [List.length_replicate]; omega
  have eN : ∀ (i : Nat) t, (List.replicate threads.toNat (⟨none, 0, []⟩ : RT))[i]? = some t → t = ⟨none, 0, []⟩ := fun i t ht => (List.mem_replicate.1 (List.mem_of_getElem? ht)).2
  refine hK w4 (fun b => if b < w.heap.size then own b else if b = cb then 0 else if b = sb ∨ b = sm then 3 else if b = b3 then 2 else 1) cb
    ⟨hb, sb, sm, G, some ⟨b3, 0, none⟩, threads.toNat, List.replicate threads.toNat ⟨none, 0, []⟩, none, none, 0, none, 0, words, 0, 0, 0, 0, List.replicate (threads + 1).toNat 0, [], [], [], [], [], 0, 0⟩
    ⟨H1.fr0 f14, by dsimp only; rw [e8, List.length_replicate]; exact B4, T4, fun i t ht => by rw [eN i t ht]; exact SI.nil _, ?_, (fun mm e => by cases e), SI.nil _, SI.nil _, fun b hb2 => ?_, fun b hb2 => ?_, fun b hb2 => ?_, fun b hb2 => ?_, by simp [Tag, ablk], fun i t ht => by rw [eN i t ht]; simp [Tag, ablk], by simp; omega, (fun mm e => by cases e), by simp [Tag, ablk]⟩
    rfl rfl rfl rfl rfl (by simp; omega) rfl rfl rfl rfl rfl rfl (by simp) ⟨⟨[], (f1 []).more (f14 []), by simp⟩, fun b hb2 => by simp [hb2]⟩
  · have q := (K2.fr (f3 []) (by simp) (by simp)).fr (n4.fr []) (by simp) (by simp)
    dsimp only; rw [e8]; exact q
  · simp at hb2; subst hb2
    rw [if_neg (by omega), if_pos rfl]
  · have := hG b hb2
    have := lG b hb2
    rw [if_neg (by omega), if_neg (by omega), if_neg (by omega), if_neg (by omega)]
  · simp [ablk] at hb2; subst hb2
    rw [if_neg (by omega), if_neg (by omega), if_neg (by omega), if_pos rfl]
  · simp at hb2
    rcases hb2 with rfl | rfl
    · rw [if_neg (by omega), if_neg (by omega), if_pos (.inl rfl)]
    · rw [if_neg (by omega), if_neg (by omega), if_pos (.inr rfl)]

theorem cthread_c (h : Cx w own cb s) (t : Int) {K : Int → World → Prop} (hK : K (if 0 ≤ t ∧ t < (s.ts.length : Int) then 0 else 1202) w) : C169 (some ⟨cb, 0, none⟩) t w K := by
  refine r_f169 _ _ _ _ (IfB.dec (fun h1 => ?_) (fun h1 => ⟨_, h.hd.cell rfl, IfB.dec (fun h2 => ?_) (fun h2 => ?_)⟩))
  · rw [if_neg (by omega)] at hK; exact hK
  · rw [if_neg (by omega)] at hK; exact hK
  · rw [if_pos (by omega)] at hK; exact hK

theorem cts_at (h : Cx w own cb s) {i : Int} (h0 : 0 ≤ i) (h1 : i < (s.ts.length : Int)) {F : Addr → Prop}
    (hF : ∀ t p, s.ts[i.toNat]? = some t → w.cell? (Addr.add (Addr.add p (Int.toNat i * 1)) 0) = some (.slice t.a t.rs.length t.c) → May w (Addr.add (Addr.add p (Int.toNat i * 1)) 0) →
      (∀ t' w', SetC w w' (Addr.add (Addr.add p (Int.toNat i * 1)) 0) (.slice t'.a t'.rs.length t'.c) → SR encRT w' s.ra s.rc (s.ts.set i.toNat t') ∧ Fr (ablk s.ra) w w') → F p) : PtrOK s.ra F :=
  h.T.get h0 h1 fun t p ht hc hm hs _ => hF t p ht (hc 0 (by decide)) (hm 0 (by decide)) fun t' w' s' => hs t' 0 _ w' (by decide) rfl s'

/-- Nothing is marked outside a marking. -/
theorem cmark0_c (h : Cx w own cb s) (hp : s.phase ≠ 1) (ref : Int) {K : World → Prop} (hK : K w) : C170 (some ⟨cb, 0, none⟩) ref w K :=
  r_f170 _ _ _ _ ⟨_, h.hd.cell rfl, ifb_nno (decide_eq_false hp) hK⟩

theorem cmark1_c (h : Cx w own cb s) (hp : s.phase = 1) {mm : Nat} (hm : s.mo = some mm) (sn : Seen s.xs (s.B, s.todo)) (hxl : s.xs.length ≤ 100000) (ref : Int) {K : World → Prop}
    (hK : ∀ w' own' ta' tc', Cx w' own' cb { s with B := (see1 s.xs (s.B, s.todo) ref).1, todo := (see1 s.xs (s.B, s.todo) ref).2, ta := ta', tc := tc' } → StN 15 w w' own own' → K w') : C170 (some ⟨cb, 0, none⟩) ref w K := by
  obtain ⟨m, clk, hmi, hmk, hmv⟩ := h.M mm hm
  have hsame : see1 s.xs (s.B, s.todo) ref = (s.B, s.todo) → ∀ w1, (∀ S, Fr S w w1) → K w1 := fun e w1 f1 => by
    refine hK w1 own s.ta s.tc ?_ (StN.still f1)
    rw [e]; exact h.still f1
  have hl := sn.len
  have hle := sn.le
  dsimp only at hl hle
  refine r_f170 _ _ _ _ ⟨_, h.hd.cell rfl, ifb_nyes (decide_eq_true hp) ⟨_, h.hd.cell rfl, ?_⟩⟩
  rw [hm]
  refine look_true hmi hmv ref ?_
  rw [hmk]
  by_cases hB : ref ∈ s.B
  · rw [decide_eq_true hB]
    exact ifb_t (hsame (by unfold see1; rw [if_neg (by simp [hB])]) w (fun S => Fr.refl S w))
  rw [decide_eq_false hB]
  refine ifb_f ⟨_, h.hd.cell rfl, xcell_c h.H _ (fun hno w2 f2 => fun b3 w3 n3 => ctold_c n3 fun w4 X4 f4 _ => ?_) (fun x hx ex w2 f2 => fun b3 w3 n3 => ctold_c n3 fun w4 X4 f4 _ => ?_)⟩
  · refine ifb_nno rfl (hsame ?_ w4 (fun S => (f2 S).more (f4 S)))
    unfold see1
    rw [if_neg]
    rintro ⟨hi, _⟩
    obtain ⟨x, hx, ex⟩ := isref_iff.1 hi
    exact hno x hx ex
  · have e1 : see1 s.xs (s.B, s.todo) ref = (s.B ++ [ref], s.todo ++ [ref]) := by
      unfold see1; rw [if_pos ⟨isref_iff.2 ⟨x, hx, ex⟩, hB⟩]
    rw [e1] at hK
    have f24 : ∀ S, Fr S w w4 := fun S => (f2 S).more (f4 S)
    have h4 := h.still f24
    have hmi4 := hmi.fr (f24 []) (by simp)
    refine ifb_nyes rfl ⟨_, h4.hd.cell rfl, ?_⟩
    rw [hm]
    obtain ⟨w5, m5, clk5, hrun, M5, f5, hv5, hk5⟩ := put_true hmi4 hmv ref
    rw [hmk, if_neg hB] at hk5
    refine ⟨w5, hrun, ?_⟩
    obtain ⟨h5, st5⟩ := h4.marks hm ⟨m5, clk5, M5, hk5, hv5⟩ f5
    refine ⟨_, _, _, h5.hd.cell rfl, fun b6 w6 n6 => app_int h5.D n6 (by dsimp only; omega) fun a7 c7 w7 D7 f7 g7 => ?_⟩
    have hd7 := h5.hd.fr f7 (h5.o0.apart h5.o4 (by decide) cb (by simp))
    refine ⟨hd7.may (by simp), fun w8 s8 => ?_⟩
    have B8 := s8.blk hd7
    obtain ⟨h8, st8⟩ := h5.todo (w' := w8) (ta' := a7) (tc' := c7) (todo' := s.todo ++ [ref]) D7 f7 g7 (by rw [List.length_append]; simpa using B8) (s8.fr (by simp))
    exact hK w8 _ a7 c7 h8 (((StN.still f24).trans st5).trans st8)

/-- Make, outside a cycle. -/
theorem cmake_c (h : Cx w own cb s) (htk : s.taken = xsum s.xs) (hl : s.last ≤ 100000) (hss : s.ss.length = s.ts.length + 1) {t kind cls n : Int} (ht : 0 ≤ t ∧ t < (s.ts.length : Int)) {u : RT} (hu : s.ts[t.toNat]? = some u) (hkind : kind ≠ 4) (hf : formE kind cls n = 0)
    {K : Int → Int → World → Prop} (hphase : s.phase = 0)
    (hmany : 64 ≤ u.rs.length → ∀ w', (∀ S, Fr S w w') → K 0 1203 w')
    (hfull : u.rs.length < 64 → s.words < 4 * (s.taken + n + 16) → ∀ w', (∀ S, Fr S w w') → K 0 1201 w')
    (hok : u.rs.length < 64 → 4 * (s.taken + n + 16) ≤ s.words → ∀ w' own' G' ss' u', u'.rs = u.rs ++ [s.last + 1] → Cx w' own' cb { s with ts := s.ts.set t.toNat u', taken := s.taken + (n + 16), G := G', ss := ss', last := s.last + 1, xs := s.xs ++ [⟨s.last + 1, kind, cls, n, List.replicate n.toNat 0⟩] } → ss'.length = s.ss.length → StN 15 w w' own own' → K (s.last + 1) 0 w') :
    C113 (some ⟨cb, 0, none⟩) t kind cls n w K := by
  have hn := formE_ok hf
  have x0 := cxsum0 h
  refine r_f113 _ _ _ _ _ _ _ (cthread_c h t ?_)
  rw [if_pos ht]
  refine ifb_nyes rfl ⟨fun w' => u.rs.length < 64 ∧ 4 * (s.taken + n + 16) ≤ s.words ∧ ∀ S, Fr S w w', ifb_no (decide_eq_false hkind) (form_c kind cls n ?_), ?_⟩
  · rw [hf]
    refine ifb_nyes rfl ⟨_, _, _, h.hd.cell rfl, cts_at h ht.1 ht.2 fun u' p hu' hc _ _ => ⟨ht, _, _, _, hc, ?_⟩⟩
    rw [hu] at hu'; cases hu'
    refine IfB.dec (fun q => hmany (by omega) w (fun S => Fr.refl S w)) (fun q => fun w1 d1 => ?_)
    have h1 := h.still d1.fr
    refine ⟨_, h1.hd.cell rfl, fit64 (by omega) (by omega), fit64 (by omega) (by omega), fit64 (by omega) (by omega), _, h1.hd.cell rfl, IfB.dec (fun q2 => hfull (by omega) q2 w1 d1.fr) (fun q2 => ⟨by omega, by omega, d1.fr⟩)⟩
  · rintro - w1 ⟨q, q2, f1⟩
    have h1 := h.still f1
    refine ⟨_, h1.hd.cell rfl, ?_⟩
    refine xmake_c h1.H hl t kind cls n (fun hn2 => absurd (by omega) hn2) (fun _ hn2 => absurd hf hn2) (fun _ _ hn2 => absurd hn2 (by omega)) (fun _ _ _ w2 G2 ss2 H2 f2 g2 t2 => ?_)
    obtain ⟨h2, st2⟩ := h1.heap H2 f2 g2
    refine ⟨_, h2.hd.cell rfl, fit64 (by omega) (by omega), fit64 (by dsimp only; omega) (by dsimp only; omega), h2.hd.may (by simp), fun w3 s3 => ?_⟩
    obtain ⟨h3, st3⟩ := h2.head (taken' := s.taken + (n + 16)) (phase' := s.phase) (cycles' := s.cycles) (by simpa using s3.blk h2.hd) (s3.fr (by simp))
    refine ⟨fun w' => ∃ own' u', u'.rs = u.rs ++ [s.last + 1] ∧ Cx w' own' cb { s with ts := s.ts.set t.toNat u', taken := s.taken + (n + 16), G := G2, ss := ss2, last := s.last + 1, xs := s.xs ++ [⟨s.last + 1, kind, cls, n, List.replicate n.toNat 0⟩] } ∧ StN 15 w w' own own', fun w4 d4 => ?_, ?_⟩
    · have h4 := h3.still d4.fr
      exact appall_c h4 ht.1 hu (by omega) (s.last + 1) (F := fun w' => ∃ own' u', u'.rs = u.rs ++ [s.last + 1] ∧ Cx w' own' cb { s with ts := s.ts.set t.toNat u', taken := s.taken + (n + 16), G := G2, ss := ss2, last := s.last + 1, xs := s.xs ++ [⟨s.last + 1, kind, cls, n, List.replicate n.toNat 0⟩] } ∧ StN 15 w w' own own') fun w5 own5 u' e R st => ⟨own5, u', e, R, ((((StN.still f1).trans st2).trans st3).trans (StN.still d4.fr)).trans st⟩
    · rintro - w5 ⟨own5, u', e, R, st⟩
      exact ⟨_, R.hd.cell rfl, ifb_nyes (decide_eq_true hphase) (hok q q2 w5 own5 G2 ss2 u' e R t2.1 st)⟩
end
end Go.Proofs.Ytfpghcdjfiggiaa.V
