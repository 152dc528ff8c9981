/- The laws of the collector: the calls they make. No condition. -/
import Derived.Test.YtfpghcdjfiggiaaCollectC
import Derived.Test.YtfpghcdjfiggiaaGCollectL
namespace Go.Proofs.Ytfpghcdjfiggiaa.V
open Go Go.RowKit

theorem w64_c {z : Int} (h0 : -9223372036854775808 ≤ z) (h1 : z < 9223372036854775808) : IntKind.wrap .i64 z = z := by
  simp only [IntKind.wrap, IntKind.signed, IntKind.bits]
  simp
  omega
theorem croots_at {ts : List RT} {roots : List (List Int)} (e : ts.map (·.rs) = roots) {i : Nat} {rs : List Int} (h : roots[i]? = some rs) : ∃ u, ts[i]? = some u ∧ u.rs = rs ∧ i < ts.length := by
  subst e
  rw [List.getElem?_map] at h
  cases hu : ts[i]? with
  | none => rw [hu] at h; cases h
  | some u => rw [hu] at h; exact ⟨u, rfl, by simpa using h, (List.getElem?_eq_some_iff.1 hu).1⟩
theorem croots_set {ts : List RT} {roots : List (List Int)} (e : ts.map (·.rs) = roots) (i : Nat) (u : RT) : (ts.set i u).map (·.rs) = roots.set i u.rs := by
  subst e; rw [List.map_set]

/-- What stands whatever the phase. -/
structure Cc (W w : World) (own : Nat → Nat) (cb : Nat) (s : CS) (roots : List (List Int)) (words cycles last : Int) : Prop where
  C : Cx w own cb s
  wd : s.words = words
  tk : s.taken = xsum s.xs
  cy : s.cycles = cycles
  la : s.last = last
  ln : s.ss.length = s.ts.length + 1
  rt : s.ts.map (·.rs) = roots
  bs : Bs W w own

/-- A collector's heap of a law's own, between cycles. -/
def Cq (W w : World) (own : Nat → Nat) (cb : Nat) (roots : List (List Int)) (words cycles last : Int) (xs : List XC) : Prop :=
  ∃ s, Cc W w own cb s roots words cycles last ∧ s.phase = 0 ∧ s.xs = xs ∧ s.ks = [] ∧ s.rounds = cycles

theorem qcnew (words threads : Int) (hr : 1024 ≤ words ∧ words ≤ 65536 ∧ 1 ≤ threads ∧ threads ≤ 8) {w : World} {K : Option Addr → Int → World → Prop}
    (hK : ∀ w' own' cb, Cq w w' own' cb (List.replicate threads.toNat []) words 0 0 [] → K (some ⟨cb, 0, none⟩) 0 w') : C112 words threads w K :=
  cnew_c words threads hr (fun _ => 2000) fun w' own' cb s C e1 e2 e3 e4 e5 e6 e7 e8 e9 e10 e11 e12 e13 st => hK w' own' cb
    ⟨s, ⟨C, e1, by rw [e2, e7]; rfl, e4, e5, by rw [e6]; have := congrArg List.length e13; simp at this; omega, e13, Bs.step ⟨Fr.refl _ _, fun _ _ => rfl⟩ st (by decide)⟩, e3, e7, e10, e11⟩

section
variable {W w w' : World} {own own' : Nat → Nat} {cb : Nat} {roots : List (List Int)} {words cycles last : Int} {xs xs0 : List XC}

theorem Cq.bs (h : Cq W w own cb roots words cycles last xs) : Fr [] W w := by
  obtain ⟨s, c, _⟩ := h; exact c.bs.fr
theorem Cq.other (h : Cq W w own cb roots words cycles last xs) {S : List Nat} {k : Nat} (f : Fr S w w') (t : Tag own S k) (hk : 1000 ≤ k ∧ k < 2000) : Cq W w' (ext own w.heap.size k) cb roots words cycles last xs := by
  obtain ⟨s, c, e1, e2, e3, e4⟩ := h
  exact ⟨s, ⟨c.C.other f (fun b hb => by rw [t b hb]; omega) k, c.wd, c.tk, c.cy, c.la, c.ln, c.rt, c.bs.step (n := 2000) (StN.of f t hk.2 k) (by decide)⟩, e1, e2, e3, e4⟩
theorem Cq.srt (h : Cq W w own cb roots words cycles last xs) : (xs.map (·.ref)).Pairwise (· < ·) := by
  obtain ⟨s, c, _, rfl, _⟩ := h; exact c.C.H.facts.2.2.2.2.2.1

theorem qcmake (h : Cq W w own cb roots words cycles last xs) (hl : last ≤ 100000) {t kind cls n : Int} {rs : List Int} (ht : 0 ≤ t) (hrs : roots[t.toNat]? = some rs) (hkind : kind ≠ 4) (hf : formE kind cls n = 0) {K : Int → Int → World → Prop}
    (hmany : 64 ≤ rs.length → ∀ w', Cq W w' own cb roots words cycles last xs → (∀ S, Fr S w w') → K 0 1203 w')
    (hfull : rs.length < 64 → words < 4 * (xsum xs + n + 16) → ∀ w', Cq W w' own cb roots words cycles last xs → (∀ S, Fr S w w') → K 0 1201 w')
    (hok : rs.length < 64 → 4 * (xsum xs + n + 16) ≤ words → ∀ w' own', Cq W w' own' cb (roots.set t.toNat (rs ++ [last + 1])) words cycles (last + 1) (xs ++ [⟨last + 1, kind, cls, n, List.replicate n.toNat 0⟩]) → StN 15 w w' own own' → K (last + 1) 0 w') :
    C113 (some ⟨cb, 0, none⟩) t kind cls n w K := by
  obtain ⟨s, c, e1, rfl, e3, e4⟩ := h
  obtain ⟨u, hu, eu, hlt⟩ := croots_at c.rt hrs
  subst eu
  have still : ∀ w', (∀ S, Fr S w w') → Cq W w' own cb roots words cycles last s.xs := fun w' f => ⟨s, ⟨c.C.still f, c.wd, c.tk, c.cy, c.la, c.ln, c.rt, c.bs.step (n := 2000) (StN.still f) (by decide)⟩, e1, rfl, e3, e4⟩
  refine cmake_c c.C c.tk (by rw [c.la]; exact hl) c.ln ⟨ht, by omega⟩ hu hkind hf e1 (fun q w' f => hmany q w' (still w' f) f) (fun q q2 w' f => hfull q (by rw [c.tk, c.wd] at q2; exact q2) w' (still w' f) f) fun q q2 w' own' G' ss' u' e' C' es st => ?_
  have es3 : xsum (s.xs ++ [⟨last + 1, kind, cls, n, List.replicate n.toNat 0⟩]) = xsum s.xs + (n + 16) := by
    have : ∀ (a b : List XC), xsum (a ++ b) = xsum a + xsum b := fun a b => by
      induction a with
      | nil => simp [xsum]
      | cons x a ih => simp only [List.cons_append, xsum, ih]; omega
    rw [this]; simp [xsum]
  have ela := c.la
  subst ela
  refine hok q (by rw [c.tk, c.wd] at q2; exact q2) w' own' ⟨_, ⟨C', c.wd, ?_, c.cy, rfl, ?_, ?_, c.bs.step st (by decide)⟩, e1, rfl, e3, e4⟩ st
  · dsimp only; rw [es3, c.tk]
  · dsimp only; rw [es, List.length_set]; exact c.ln
  · dsimp only; rw [croots_set c.rt, e']

theorem qcpush (h : Cq W w own cb roots words cycles last xs) {t ref : Int} {rs : List Int} (ht : 0 ≤ t) (hrs : roots[t.toNat]? = some rs) (h64 : rs.length < 64) {K : Int → World → Prop}
    (hok : ∀ w' own', Cq W w' own' cb (roots.set t.toNat (rs ++ [ref])) words cycles last xs → StN 15 w w' own own' → K 0 w') : C114 (some ⟨cb, 0, none⟩) t ref w K := by
  obtain ⟨s, c, e1, e2, e3, e4⟩ := h
  obtain ⟨u, hu, eu, hlt⟩ := croots_at c.rt hrs
  subst eu
  refine cpush_c c.C (by omega) ⟨ht, by omega⟩ hu h64 fun w' own' u' e' C' st => hok w' own' ⟨_, ⟨C', c.wd, c.tk, c.cy, c.la, ?_, ?_, c.bs.step st (by decide)⟩, e1, e2, e3, e4⟩ st
  · dsimp only; rw [List.length_set]; exact c.ln
  · dsimp only; rw [croots_set c.rt, e']

theorem qcpop (h : Cq W w own cb roots words cycles last xs) {t : Int} {rs : List Int} (ht : 0 ≤ t) (hrs : roots[t.toNat]? = some rs) {K : Int → Int → World → Prop}
    (hno : rs = [] → K 0 1203 w)
    (hok : ∀ l f, rs = l ++ [f] → ∀ w' own', Cq W w' own' cb (roots.set t.toNat l) words cycles last xs → StN 15 w w' own own' → K f 0 w') : C115 (some ⟨cb, 0, none⟩) t w K := by
  obtain ⟨s, c, e1, e2, e3, e4⟩ := h
  obtain ⟨u, hu, eu, hlt⟩ := croots_at c.rt hrs
  subst eu
  refine cpop_c c.C ⟨ht, by omega⟩ hu hno fun l f e w' own' u' e' C' st => hok l f e w' own' ⟨_, ⟨C', c.wd, c.tk, c.cy, c.la, ?_, ?_, c.bs.step st (by decide)⟩, e1, e2, e3, e4⟩ st
  · dsimp only; rw [List.length_set]; exact c.ln
  · dsimp only; rw [croots_set c.rt, e']

theorem cxsum_map {f : XC → XC} (hf : ∀ x, (f x).n = x.n) : ∀ xs : List XC, xsum (xs.map f) = xsum xs
  | [] => rfl
  | x :: xs => by simp only [List.map_cons, xsum, hf, cxsum_map hf xs]

theorem qcput (h : Cq W w own cb roots words cycles last xs) {t ref i : Int} (v : Int) (ht : 0 ≤ t ∧ t < (roots.length : Int)) {x : XC} (hx : x ∈ xs) (ex : x.ref = ref) (hi : 0 ≤ i ∧ i < x.n) {K : Int → World → Prop}
    (hok : ∀ w' own', Cq W w' own' cb roots words cycles last (xput xs ref i v) → StN 15 w w' own own' → K 0 w') : C121 (some ⟨cb, 0, none⟩) t ref i v w K := by
  obtain ⟨s, c, e1, rfl, e3, e4⟩ := h
  have el : s.ts.length = roots.length := by rw [← c.rt, List.length_map]
  refine cput_c c.C (by omega) c.ln v ⟨ht.1, by omega⟩ hx ex hi fun w' own' ss' C' es st => hok w' own' ⟨_, ⟨C', c.wd, ?_, c.cy, c.la, es.trans c.ln, c.rt, c.bs.step st (by decide)⟩, e1, rfl, e3, e4⟩ st
  have : xsum (xput s.xs ref i v) = xsum s.xs := cxsum_map (fun x => by split <;> rfl) s.xs
  dsimp only; rw [this]; exact c.tk

theorem qcload (h : Cq W w own cb roots words cycles last xs) {t ref i : Int} (ht : 0 ≤ t ∧ t < (roots.length : Int)) {x : XC} (hx : x ∈ xs) (ex : x.ref = ref) (hi : 0 ≤ i ∧ i < x.n) {K : Int → Int → World → Prop}
    (hok : ∀ w' own', Cq W w' own' cb roots words cycles last xs → StN 15 w w' own own' → K (x.vs.getD i.toNat 0) 0 w') : C126 (some ⟨cb, 0, none⟩) t ref i w K := by
  obtain ⟨s, c, e1, rfl, e3, e4⟩ := h
  have el : s.ts.length = roots.length := by rw [← c.rt, List.length_map]
  exact cload_c c.C c.ln ⟨ht.1, by omega⟩ hx ex hi fun w' own' ss' C' es st => hok w' own' ⟨_, ⟨C', c.wd, c.tk, c.cy, c.la, es.trans c.ln, c.rt, c.bs.step st (by decide)⟩, e1, rfl, e3, e4⟩ st

theorem qcrefs (h : Cq W w own cb roots words cycles last xs) (hn : xs.length ≤ 100000) {K : Option Addr → Nat → Nat → World → Prop}
    (hK : ∀ a c w', Cq W w' own cb roots words cycles last xs → (∀ S, Fr S w w') → K a xs.length c w') : C120 (some ⟨cb, 0, none⟩) w K := by
  obtain ⟨s, c, e1, rfl, e3, e4⟩ := h
  exact crefs_c c.C hn fun a c' w' _ f _ => hK a c' w' ⟨s, ⟨c.C.still f, c.wd, c.tk, c.cy, c.la, c.ln, c.rt, c.bs.step (n := 2000) (StN.still f) (by decide)⟩, e1, rfl, e3, e4⟩ f

theorem qccycles (h : Cq W w own cb roots words cycles last xs) {K : Int → World → Prop} (hK : K cycles w) : C122 (some ⟨cb, 0, none⟩) w K := by
  obtain ⟨s, c, e1, rfl, e3, e4⟩ := h
  refine r_f122 _ _ _ ⟨_, c.C.hd.cell rfl, ?_⟩
  rw [c.cy]; exact hK
theorem qcphase (h : Cq W w own cb roots words cycles last xs) {K : Int → World → Prop} (hK : K 0 w) : C127 (some ⟨cb, 0, none⟩) w K := by
  obtain ⟨s, c, e1, rfl, e3, e4⟩ := h
  refine r_f127 _ _ _ ⟨_, c.C.hd.cell rfl, ?_⟩
  rw [e1]; exact hK

def leads (k : Int) : Bool := decide (k ≠ 2)

/-- A cycle under way: k threads have answered; m bounds what is left. -/
def Cm (W w : World) (own : Nat → Nat) (cb : Nat) (roots : List (List Int)) (words cycles last : Int) (xs0 : List XC) (k m : Nat) : Prop :=
  ∃ s, Cc W w own cb s roots words cycles last ∧ s.rounds = cycles + 1 ∧
    ((s.phase = 1 ∧ (∀ t : Int, t ∈ s.ks ↔ (k : Int) ≤ t ∧ t < roots.length) ∧ (∃ mm, s.mo = some mm) ∧ s.xs = xs0 ∧ Work leads xs0 (roots.take k).flatten (s.B, s.todo) ∧ 2 * (xs0.length - s.B.length) + s.todo.length + xs0.length + 3 = m) ∨
     (s.phase = 3 ∧ s.ks = [] ∧ ∃ B done, (∀ r, r ∈ B ↔ Rch leads xs0 roots.flatten r) ∧ lost B xs0 = done ++ s.free ∧ s.xs = xs0.filter (fun x => decide (x.ref ∉ done)) ∧ s.free.length + 2 = m))

theorem qcbegin (h : Cq W w own cb roots words cycles last xs) (hc : 0 ≤ cycles ∧ cycles ≤ 1000) {K : Int → World → Prop}
    (hok : ∀ w' own', Cm W w' own' cb roots words cycles last xs 0 (3 * xs.length + 3) → StN 15 w w' own own' → K 0 w') : C118 (some ⟨cb, 0, none⟩) w K := by
  obtain ⟨s, c, e1, rfl, e3, e4⟩ := h
  have el : s.ts.length = roots.length := by rw [← c.rt, List.length_map]
  refine cbegin_c c.C e1 e3 (by omega) fun w' own' mm C' st => hok w' own' ⟨_, ⟨C', c.wd, c.tk, c.cy, c.la, c.ln, c.rt, c.bs.step st (by decide)⟩, by dsimp only; omega, .inl ⟨rfl, fun t => ?_, ⟨mm, rfl⟩, rfl, Work.nil _ _, by simp; omega⟩⟩ st
  dsimp only; rw [mem_upTo, el]; simp

theorem qcanswer {k m : Nat} (h : Cm W w own cb roots words cycles last xs0 k m) (hxl : xs0.length ≤ 100000) (hul : ∀ rs ∈ roots, rs.length ≤ 1000) (hk : k < roots.length) {K : Int → World → Prop}
    (hok : ∀ w' own' m', m' ≤ m → Cm W w' own' cb roots words cycles last xs0 (k + 1) m' → StN 15 w w' own own' → K 0 w') : C125 (some ⟨cb, 0, none⟩) (k : Int) w K := by
  obtain ⟨s, c, er, hs⟩ := h
  obtain ⟨rs, hrs⟩ : ∃ rs, roots[k]? = some rs := ⟨_, List.getElem?_eq_getElem hk⟩
  obtain ⟨u, hu, eu, hlt⟩ := croots_at c.rt hrs
  have hul' := hul rs (List.mem_of_getElem? hrs)
  subst eu
  have ek : (k : Int).toNat = k := by omega
  rcases hs with ⟨hp, hks, ⟨mm, hmm⟩, rfl, wk, em⟩ | ⟨hp, hks, B, done, hB, hl, hx, em⟩
  · have hin : (k : Int) ∈ s.ks := (hks k).2 ⟨Int.le_refl _, by omega⟩
    refine canswer_c c.C ⟨by omega, by omega⟩ (by rw [ek]; exact hu) hxl hul' (fun hn => absurd hin hn) (fun _ => ⟨hp, ⟨mm, hmm⟩, wk.sn⟩) fun _ w' own' ta' tc' C' st => ?_
    have w2 := wk.more u.rs
    have et : (roots.take (k + 1)).flatten = (roots.take k).flatten ++ u.rs := by
      have := (List.getElem?_eq_some_iff.1 hrs).2
      rw [List.take_succ_eq_append_getElem hk, this]; simp
    obtain ⟨b1, b2, b3, b4, b5⟩ := seeL_sub s.xs u.rs (s.B, s.todo)
    have l1 := w2.sn.len
    have l0 := wk.sn.len
    have hle : s.B.length ≤ (seeL s.xs (s.B, s.todo) u.rs).1.length := by
      have : ∀ (rs : List Int) (q : List Int × List Int), q.1.length ≤ (seeL s.xs q rs).1.length := fun rs => by
        induction rs with
        | nil => intro q; exact Nat.le_refl _
        | cons r rs ih =>
          intro q
          refine Nat.le_trans ?_ (ih (see1 s.xs q r))
          unfold see1
          split
          · simp
          · exact Nat.le_refl _
      exact this u.rs (s.B, s.todo)
    dsimp only at b5 l1 l0
    refine hok w' own' _ ?_ ⟨_, ⟨C', c.wd, c.tk, c.cy, c.la, c.ln, c.rt, c.bs.step st (by decide)⟩, er, .inl ⟨hp, fun t => ?_, ⟨mm, hmm⟩, rfl, by rw [et]; exact w2, rfl⟩⟩ st
    · dsimp only; omega
    · dsimp only
      rw [List.mem_filter, hks]
      have : (!((k : Int) == t)) = true ↔ t ≠ (k : Int) := by simp; exact ⟨fun h e => h e.symm, fun h e => h e.symm⟩
      rw [this]
      omega
  · exact canswer_c c.C ⟨by omega, by omega⟩ (by rw [ek]; exact hu) (by
      rw [hx]; exact Nat.le_trans (List.length_filter_le _ _) hxl) hul' (fun _ => hok w own m (Nat.le_refl _) ⟨s, c, er, .inr ⟨hp, hks, B, done, hB, hl, hx, em⟩⟩ (StN.still fun S => Fr.refl S w)) (fun hin => by rw [hks] at hin; cases hin) (fun hin => by rw [hks] at hin; cases hin)
end

-- merged: CollectF

theorem xsum_free : ∀ {xs : List XC}, (xs.map (·.ref)).Pairwise (· < ·) → ∀ {x : XC}, x ∈ xs → xsum (xs.filter fun y => !(x.ref == y.ref)) = xsum xs - (x.n + 16)
  | [], _, _, hx => by simp at hx
  | y :: ys, pw, x, hx => by
    rw [List.map_cons, List.pairwise_cons] at pw
    rcases List.mem_cons.1 hx with rfl | hx
    · rw [List.filter_cons_of_neg (by simp), List.filter_eq_self.2 fun z hz => ?_]
      · simp only [xsum]; omega
      · have := pw.1 z.ref (List.mem_map_of_mem hz)
        simp; omega
    · have := pw.1 x.ref (List.mem_map_of_mem hx)
      rw [List.filter_cons_of_pos (by simp; omega)]
      simp only [xsum, xsum_free pw.2 hx]; omega

theorem mem_lost {B : List Int} {xs : List XC} {r : Int} : r ∈ lost B xs ↔ (∃ x ∈ xs, x.ref = r) ∧ r ∉ B := by
  unfold lost; rw [List.mem_filter, List.mem_map, decide_eq_true_iff]

section
variable {W w w' : World} {own own' : Nat → Nat} {cb : Nat} {roots : List (List Int)} {words cycles last : Int} {xs xs0 : List XC}

theorem qcstep {k m : Nat} (h : Cm W w own cb roots words cycles last xs0 k m) (hk : k ≤ roots.length) (pw : (xs0.map (·.ref)).Pairwise (· < ·)) (hxl : xs0.length ≤ 100000) (hc : 0 ≤ cycles ∧ cycles ≤ 1000) (A : List Int) (hA : ∀ r, Rch leads xs0 roots.flatten r ↔ r ∈ A) {K : Bool → Int → World → Prop}
    (hwait : k < roots.length → K true 0 w)
    (hgo : ∀ w' own' m', m' < m → Cm W w' own' cb roots words cycles last xs0 k m' → StN 15 w w' own own' → K true 0 w')
    (hend : ∀ w' own', Cq W w' own' cb roots words (cycles + 1) last (xs0.filter fun x => decide (x.ref ∈ A)) → StN 15 w w' own own' → K false 0 w') : C124 (some ⟨cb, 0, none⟩) w K := by
  obtain ⟨s, c, er, hs⟩ := h
  rcases hs with ⟨hp, hks, ⟨mm, hmm⟩, rfl, wk, em⟩ | ⟨hp, hks, B, done, hB, hl, hx, em⟩
  · by_cases hkr : k < roots.length
    · refine cstep_wait c.C hp (fun e => ?_) (hwait hkr)
      have : (k : Int) ∈ s.ks := (hks k).2 ⟨Int.le_refl _, by omega⟩
      rw [e] at this; cases this
    · have hk0 : s.ks = [] := by
        cases e : s.ks with
        | nil => rfl
        | cons t l =>
          have := (hks t).1 (by rw [e]; simp)
          omega
      have ef : (roots.take k).flatten = roots.flatten := by rw [List.take_of_length_le (by omega)]
      rw [ef] at wk
      cases ht : s.todo with
      | nil =>
        refine cstep_turn c.C hp hk0 hmm ht hxl fun w' own' fa' fc' C' st => ?_
        have hl : (lost s.B s.xs).length ≤ s.xs.length := by
          unfold lost
          have := List.length_filter_le (fun r => decide (r ∉ s.B)) (s.xs.map (·.ref))
          rwa [List.length_map] at this
        rw [ht] at wk em
        refine hgo w' own' ((lost s.B s.xs).length + 2) (by simp at em; omega) ⟨_, ⟨C', c.wd, c.tk, c.cy, c.la, c.ln, c.rt, c.bs.step st (by decide)⟩, er, .inr ⟨rfl, hk0, s.B, [], fun r => wk.done r, rfl, ?_, rfl⟩⟩ st
        exact (List.filter_eq_self.2 fun x _ => by simp).symm
      | cons q L =>
        rw [ht] at wk
        have hq : q ∈ s.B := wk.sn.sub q (by simp)
        obtain ⟨x, hx, ex⟩ := isref_iff.1 (wk.sn.is q hq)
        refine cstep_look c.C hp hk0 hmm ht (by rw [ht]; exact wk.sn) hxl c.ln hx ex fun w' own' ta' tc' ss' C' es st => ?_
        have w2 := wk.rot.next hx ex pw
        have hless := work_less (rs := if leads x.kind = true then x.vs else []) wk.rot.sn
        rw [ht] at em
        refine hgo w' own' _ ?_ ⟨_, ⟨C', c.wd, c.tk, c.cy, c.la, es.trans c.ln, c.rt, c.bs.step st (by decide)⟩, er, .inl ⟨hp, hks, ⟨mm, hmm⟩, rfl, by rw [ef]; exact w2, rfl⟩⟩ st
        have hless' : 2 * (s.xs.length - (seeL s.xs (s.B, L) (if decide (x.kind ≠ 2) = true then x.vs else [])).1.length) + (seeL s.xs (s.B, L) (if decide (x.kind ≠ 2) = true then x.vs else [])).2.length < 2 * (s.xs.length - s.B.length) + (L ++ [q]).length := hless
        dsimp only
        rw [List.length_append] at hless'
        simp only [List.length_cons, List.length_nil] at em hless'
        omega
  · have hlist : (lost B xs0).Nodup := by
      unfold lost
      exact List.Nodup.sublist List.filter_sublist (pw.imp fun h => by omega)
    cases hf : s.free with
    | nil =>
      refine cstep_end c.C hp hf (by have := c.cy; omega) fun w' own' C' st => hend w' own' ⟨_, ⟨C', c.wd, c.tk, ?_, c.la, c.ln, c.rt, c.bs.step st (by decide)⟩, rfl, ?_, hks, er⟩ st
      · dsimp only; rw [c.cy]
      · dsimp only
        rw [hx]
        rw [hf, List.append_nil] at hl
        refine List.filter_congr fun x hx0 => ?_
        rw [decide_eq_decide, ← hl, mem_lost, ← hA, ← hB]
        constructor
        · intro h1
          exact Classical.byContradiction fun h2 => h1 ⟨⟨x, hx0, rfl⟩, h2⟩
        · rintro h1 ⟨_, h2⟩; exact h2 h1
    | cons r L =>
      rw [hf] at hl em
      have hr : r ∈ lost B xs0 := by rw [hl]; simp
      obtain ⟨⟨x, hx0, ex⟩, hrB⟩ := mem_lost.1 hr
      have hrd : r ∉ done := by
        rw [hl, List.nodup_append] at hlist
        exact fun h1 => hlist.2.2 r h1 r (by simp) rfl
      have hxs : x ∈ s.xs := by
        rw [hx, List.mem_filter, decide_eq_true_iff, ex]; exact ⟨hx0, hrd⟩
      have pws : (s.xs.map (·.ref)).Pairwise (· < ·) := c.C.H.facts.2.2.2.2.2.1
      refine cstep_free c.C hp c.tk c.ln hf hxs ex fun w' own' G' fa' fc' C' st => hgo w' own' (L.length + 2) (by simp at em; omega) ⟨_, ⟨C', c.wd, ?_, c.cy, c.la, c.ln, c.rt, c.bs.step st (by decide)⟩, er, .inr ⟨hp, hks, B, done ++ [r], hB, by dsimp only; rw [hl]; simp, ?_, rfl⟩⟩ st
      · dsimp only
        rw [← ex, xsum_free pws hxs, c.tk]
      · dsimp only
        rw [hx, List.filter_filter]
        refine List.filter_congr fun y hy => ?_
        rw [Bool.eq_iff_iff]
        simp only [Bool.and_eq_true, decide_eq_true_iff, List.mem_append, List.mem_singleton, Bool.not_eq_true', beq_eq_false_iff_ne, ne_eq]
        constructor
        · rintro ⟨a, b⟩ (q | q)
          · exact b q
          · exact a q.symm
        · exact fun a => ⟨fun e => a (.inr e.symm), fun e => a (.inl e)⟩

/-- An answer that is not asked for. -/
theorem qcanswer_done {m : Nat} (h : Cm W w own cb roots words cycles last xs0 roots.length m) (hxl : xs0.length ≤ 100000) (hul : ∀ rs ∈ roots, rs.length ≤ 1000) {k : Nat} (hk : k < roots.length) {K : Int → World → Prop}
    (hok : K 0 w) : C125 (some ⟨cb, 0, none⟩) (k : Int) w K := by
  obtain ⟨s, c, er, hs⟩ := h
  obtain ⟨rs, hrs⟩ : ∃ rs, roots[k]? = some rs := ⟨_, List.getElem?_eq_getElem hk⟩
  obtain ⟨u, hu, eu, hlt⟩ := croots_at c.rt hrs
  have hul' := hul rs (List.mem_of_getElem? hrs)
  subst eu
  have ek : (k : Int).toNat = k := by omega
  have hlx : s.xs.length ≤ 100000 := by
    rcases hs with ⟨_, _, _, e, _⟩ | ⟨_, _, B, done, _, _, hx, _⟩
    · rw [e]; exact hxl
    · rw [hx]; exact Nat.le_trans (List.length_filter_le _ _) hxl
  have hn : (k : Int) ∉ s.ks := by
    rcases hs with ⟨_, hks, _⟩ | ⟨_, hks, _⟩
    · rw [hks]; omega
    · rw [hks]; simp
  exact canswer_c c.C ⟨by omega, by omega⟩ (by rw [ek]; exact hu) hlx hul' (fun _ => hok) (fun hin => absurd hin hn) (fun hin => absurd hin hn)
theorem qcanswer_idle (h : Cq W w own cb roots words cycles last xs) (hxl : xs.length ≤ 100000) (hul : ∀ rs ∈ roots, rs.length ≤ 1000) {k : Nat} (hk : k < roots.length) {K : Int → World → Prop}
    (hok : K 0 w) : C125 (some ⟨cb, 0, none⟩) (k : Int) w K := by
  obtain ⟨s, c, e1, rfl, hks, er⟩ := h
  obtain ⟨rs, hrs⟩ : ∃ rs, roots[k]? = some rs := ⟨_, List.getElem?_eq_getElem hk⟩
  obtain ⟨u, hu, eu, hlt⟩ := croots_at c.rt hrs
  have hul' := hul rs (List.mem_of_getElem? hrs)
  subst eu
  have ek : (k : Int).toNat = k := by omega
  exact canswer_c c.C ⟨by omega, by omega⟩ (by rw [ek]; exact hu) hxl hul' (fun _ => hok) (fun hin => by rw [hks] at hin; cases hin) (fun hin => by rw [hks] at hin; cases hin)

/-- A step, and all answer. -/
theorem turn119_c {k m : Nat} (h : Cm W w own cb roots words cycles last xs0 k m) (hk : k = 0 ∨ k = roots.length) (hT : 1 ≤ roots.length ∧ roots.length ≤ 8) (pw : (xs0.map (·.ref)).Pairwise (· < ·)) (hxl : xs0.length ≤ 100000) (hul : ∀ rs ∈ roots, rs.length ≤ 1000) (hc : 0 ≤ cycles ∧ cycles ≤ 1000) (A : List Int) (hA : ∀ r, Rch leads xs0 roots.flatten r ↔ r ∈ A) {K : Bool → World → Prop}
    (hgo : ∀ w' own' m', m' ≤ m → (k ≠ 0 → m' < m) → Cm W w' own' cb roots words cycles last xs0 roots.length m' → StN 15 w w' own own' → K true w')
    (hend : ∀ w' own', Cq W w' own' cb roots words (cycles + 1) last (xs0.filter fun x => decide (x.ref ∈ A)) → StN 15 w w' own own' → K false w') (threads : Int) (hth : threads = roots.length) : C119 (some ⟨cb, 0, none⟩) threads w K := by
  subst hth
  have ans : ∀ w1 own1 m1, m1 ≤ m → (k ≠ 0 → m1 < m) → Cm W w1 own1 cb roots words cycles last xs0 k m1 → StN 15 w w1 own own1 →
      ∃ (I4 : Int → World → Prop) (m5 : Int → World → Nat), I4 0 w1 ∧ ∀ (_ : Env) (n6 : Int) (w7 : World), I4 n6 w7 → IfB (decide ((n6 : Int) < (roots.length : Int))) (C125 (some ⟨cb, 0, none⟩) n6 w7 fun n8 w9 => Fit .i64 (n6 + 1) ∧ (I4 (n6 + 1) w9 ∧ m5 (n6 + 1) w9 < m5 n6 w7)) (K true w7) := by
    intro w1 own1 m1 hm1 hm2 h1 st1
    refine ⟨fun t w' => ∃ (j : Nat) (own' : Nat → Nat) (m' : Nat), t = (j : Int) ∧ j ≤ roots.length ∧ m' ≤ m ∧ (k ≠ 0 → m' < m) ∧ Cm W w' own' cb roots words cycles last xs0 (if k = 0 then j else k) m' ∧ StN 15 w w' own own', fun t _ => (roots.length - t).toNat, ⟨0, own1, m1, rfl, by omega, hm1, hm2, by rw [show (if k = 0 then 0 else k) = k by split <;> omega]; exact h1, st1⟩, ?_⟩
    rintro - _ w2 ⟨j, own2, m2, rfl, hj, hm3, hm4, h2, st2⟩
    refine IfB.dec (fun hlt => ?_) (fun hge => ?_)
    · by_cases e : k = 0
      · rw [if_pos e] at h2
        refine qcanswer h2 hxl hul (by omega) fun w3 own3 m3 hm5 h3 st3 => ⟨fit64 (by omega) (by omega), ⟨j + 1, own3, m3, rfl, by omega, by omega, fun q => absurd e q, by rw [if_pos e]; exact h3, st2.trans st3⟩, by dsimp only; omega⟩
      · rw [if_neg e] at h2
        have e2 : k = roots.length := by omega
        subst e2
        refine qcanswer_done h2 hxl hul (by omega) ⟨fit64 (by omega) (by omega), ⟨j + 1, own2, m2, rfl, by omega, hm3, hm4, by rw [if_neg e]; exact h2, st2⟩, by dsimp only; omega⟩
    · refine hgo w2 own2 m2 hm3 hm4 ?_ st2
      by_cases e : k = 0
      · rw [if_pos e] at h2
        rwa [show j = roots.length by omega] at h2
      · rw [if_neg e] at h2
        rwa [show k = roots.length by omega] at h2
  refine r_f119 _ _ _ _ (qcstep h (by omega) pw hxl hc A hA (fun hlt => ans w own m (Nat.le_refl _) (fun q => by omega) h (StN.still fun S => Fr.refl S w)) (fun w1 own1 m1 hm1 h1 st1 => ans w1 own1 m1 (by omega) (fun _ => hm1) h1 st1) (fun w1 own1 h1 st1 => ?_))
  have hxf : (xs0.filter fun x => decide (x.ref ∈ A)).length ≤ 100000 := Nat.le_trans (List.length_filter_le _ _) hxl
  refine ⟨fun t w' => ∃ (j : Nat), t = (j : Int) ∧ j ≤ roots.length ∧ w' = w1, fun t _ => (roots.length - t).toNat, ⟨0, rfl, by omega, rfl⟩, ?_⟩
  rintro - _ w9 ⟨j, rfl, hj, rfl⟩
  refine IfB.dec (fun hlt => ?_) (fun hge => hend w9 own1 h1 st1)
  exact qcanswer_idle h1 hxf hul (by omega) ⟨fit64 (by omega) (by omega), ⟨j + 1, rfl, by omega, rfl⟩, by dsimp only; omega⟩

/-- A cycle from its beginning to its end, by turns. -/
theorem run118_c (h : Cq W w own cb roots words cycles last xs) (hT : 1 ≤ roots.length ∧ roots.length ≤ 8) (hxl : xs.length ≤ 1000) (hul : ∀ rs ∈ roots, rs.length ≤ 1000) (hc : 0 ≤ cycles ∧ cycles ≤ 999) (A : List Int) (hA : ∀ r, Rch leads xs roots.flatten r ↔ r ∈ A) (threads : Int) (hth : threads = roots.length) {KF R : World → Prop}
    (hR : ∀ w' own', Cq W w' own' cb roots words (cycles + 1) last (xs.filter fun x => decide (x.ref ∈ A)) → StN 15 w w' own own' → R w') :
    C118 (some ⟨cb, 0, none⟩) w fun _ w27 => ∃ (I28 : Int → World → Prop) (m29 : Int → World → Nat), I28 0 w27 ∧ ∀ (_ : Env) (n30 : Int) (w31 : World), I28 n30 w31 →
      C119 (some ⟨cb, 0, none⟩) threads w31 fun b32 w33 => IfB b32 (IfB (decide ((8000 : Int) < n30)) (KF w33) (I28 (IntKind.wrap .i64 (n30 + 1)) w33 ∧ m29 (IntKind.wrap .i64 (n30 + 1)) w33 < m29 n30 w31)) (R w33) := by
  have pw := h.srt
  refine qcbegin h (by omega) fun w1 own1 h1 st1 => ?_
  refine ⟨fun n w' => 0 ≤ n ∧ ∃ (own' : Nat → Nat) (k m : Nat), (k = 0 ∨ k = roots.length) ∧ n + m + (if k = 0 then 1 else 0) ≤ 3 * xs.length + 4 ∧ Cm W w' own' cb roots words cycles last xs k m ∧ StN 15 w w' own own', fun n _ => (3 * xs.length + 5 - n).toNat, ⟨by decide, own1, 0, _, .inl rfl, by simp; omega, h1, st1⟩, ?_⟩
  rintro - n w2 ⟨hn0, own2, k, m, hk, hm, h2, st2⟩
  refine turn119_c h2 hk hT pw (by omega) hul (by omega) A hA (fun w3 own3 m3 hm3 hm4 h3 st3 => ?_) (fun w3 own3 h3 st3 => ifb_f (hR w3 own3 h3 (st2.trans st3))) threads hth
  have hb : n ≤ 3004 := by omega
  refine ifb_t (ifb_no (decide_eq_false (by omega)) ?_)
  rw [w64_c (z := n + 1) (by omega) (by omega)]
  refine ⟨⟨by omega, own3, roots.length, m3, .inr rfl, ?_, h3, st2.trans st3⟩, by dsimp only; omega⟩
  rw [if_neg (by omega)]
  by_cases e : k = 0
  · rw [if_pos e] at hm; omega
  · rw [if_neg e] at hm
    have := hm4 e
    omega
end
end Go.Proofs.Ytfpghcdjfiggiaa.V
