/- The collector's heap: roots, words, and a cycle's beginning. No condition. -/
import Derived.Test.YtfpghcdjfiggiaaCollectW
namespace Go.Proofs.Ytfpghcdjfiggiaa.V
open Go Go.RowKit

section
variable {w w' : World} {own own' : Nat → Nat} {cb : Nat} {s : CS} {S : List Nat}

theorem cpush_c (h : Cx w own cb s) (hp : s.phase ≠ 1) {t ref : Int} (ht : 0 ≤ t ∧ t < (s.ts.length : Int)) {u : RT} (hu : s.ts[t.toNat]? = some u) (h64 : u.rs.length < 64) {K : Int → World → Prop}
    (hok : ∀ w' own' u', u'.rs = u.rs ++ [ref] → Cx w' own' cb { s with ts := s.ts.set t.toNat u' } → StN 15 w w' own own' → K 0 w') : C114 (some ⟨cb, 0, none⟩) t ref w K := by
  refine r_f114 _ _ _ _ _ (cthread_c h t ?_)
  rw [if_pos ht]
  refine ifb_nyes rfl ⟨_, _, _, h.hd.cell rfl, cts_at h ht.1 ht.2 fun u' p hu' hc _ _ => ⟨ht, _, _, _, hc, ?_⟩⟩
  rw [hu] at hu'; cases hu'
  refine IfB.no (by omega) (cmark0_c h hp ref fun w1 d1 => ?_)
  exact appall_c (h.still d1.fr) ht.1 hu (by omega) ref (F := fun w => K 0 w) fun w2 own2 u' e R st => hok w2 own2 u' e R ((StN.still d1.fr).trans st)

theorem cpop_c (h : Cx w own cb s) {t : Int} (ht : 0 ≤ t ∧ t < (s.ts.length : Int)) {u : RT} (hu : s.ts[t.toNat]? = some u) {K : Int → Int → World → Prop}
    (hno : u.rs = [] → K 0 1203 w)
    (hok : ∀ l f, u.rs = l ++ [f] → ∀ w' own' u', u'.rs = l → Cx w' own' cb { s with ts := s.ts.set t.toNat u' } → StN 15 w w' own own' → K f 0 w') : C115 (some ⟨cb, 0, none⟩) t w K := by
  refine r_f115 _ _ _ _ (cthread_c h t ?_)
  rw [if_pos ht]
  obtain ⟨b, off, era, hcell⟩ := h.T.at hu
  refine ifb_nyes rfl ⟨_, _, _, h.hd.cell rfl, ?_⟩
  rw [era]
  have hc0 : ∀ w', (∀ S, Fr S w w') → w'.cell? (Addr.add (Addr.add ⟨b, off, none⟩ (Int.toNat t * 1)) 0) = some (.slice u.a u.rs.length u.c) ∧ May w' (Addr.add (Addr.add ⟨b, off, none⟩ (Int.toNat t * 1)) 0) := fun w' f => by
    obtain ⟨b', off', e, q⟩ := (h.T.fr0 (f [])).at hu
    rw [era] at e; cases e
    exact q 0 (by decide)
  refine PtrOK.of rfl ⟨ht, _, _, _, (hc0 w (fun S => Fr.refl S w)).1, IfB.dec (fun q => hno (List.eq_nil_of_length_eq_zero (by omega))) (fun q => fun w1 d1 => ?_)⟩
  rcases List.eq_nil_or_concat u.rs with e | ⟨l, f, e⟩
  · rw [e] at q; exact absurd rfl q
  rw [List.concat_eq_append] at e
  have h1 := h.still d1.fr
  have hV := h1.V _ u hu
  have hle := hV.le
  have hmx : maxLen < 9223372036854775808 := by decide
  have hlen : (u.rs.length : Int) = l.length + 1 := by rw [e]; simp
  have V' : SI w1 u.a u.c l := by rw [e] at hV; exact hV.pre
  refine ⟨_, _, _, (hc0 w1 d1.fr).1, _, _, _, (hc0 w1 d1.fr).1, fit64 (by omega) (by omega), hV.get (i := (u.rs.length : Int) - 1) (by omega) (by omega) fun p3 hp3 => ⟨⟨by omega, by omega⟩, _, hp3, fun w2 d2 => ?_⟩⟩
  have h2 := h1.still d2.fr
  have f12 : ∀ S, Fr S w w2 := fun S => (d1.fr S).more (d2.fr S)
  refine ⟨_, _, _, (hc0 w2 f12).1, _, _, _, (hc0 w2 f12).1, fit64 (by omega) (by omega), ⟨by omega, by omega⟩, (hc0 w2 f12).2, fun w3 s3 => ?_⟩
  have el : Int.toNat ((u.rs.length : Int) - 1) = l.length := by omega
  have ef : u.rs.getD (Int.toNat ((u.rs.length : Int) - 1)) 0 = f := by rw [el, e]; simp [List.getD_eq_getElem?_getD]
  rw [ef]
  rw [el] at s3
  have s3' : SetC w2 w3 (Addr.add (Addr.add ⟨b, off, none⟩ (Int.toNat t * encRT.k)) 0) (.slice u.a l.length u.c) := by simpa [encRT] using s3
  obtain ⟨T3, f3⟩ := h2.T.set1 hu era (j := 0) (by decide) (r' := ⟨u.a, u.c, l⟩) rfl s3'
  have V2 := V'.fr (d2.fr []) (by intro b _; simp)
  obtain ⟨R3, st3⟩ := h2.root hu (t' := ⟨u.a, u.c, l⟩) V2 (Fr.refl _ _) (fun b hb => .inl hb) T3 f3
  exact hok l f e w3 _ ⟨u.a, u.c, l⟩ rfl R3 ((StN.still f12).trans st3)

theorem told172_c {w : World} {K : Int → World → Prop} (hK : K 0 w) : C172 0 w K := r_f172 _ _ _ (ifb_yes rfl hK)

theorem cput_c (h : Cx w own cb s) (hp : s.phase ≠ 1) (hss : s.ss.length = s.ts.length + 1) {t ref i : Int} (v : Int) (ht : 0 ≤ t ∧ t < (s.ts.length : Int)) {x : XC} (hx : x ∈ s.xs) (ex : x.ref = ref) (hi : 0 ≤ i ∧ i < x.n) {K : Int → World → Prop}
    (hok : ∀ w' own' ss', Cx w' own' cb { s with ss := ss', xs := xput s.xs ref i v } → ss'.length = s.ss.length → StN 15 w w' own own' → K 0 w') : C121 (some ⟨cb, 0, none⟩) t ref i v w K := by
  refine r_f121 _ _ _ _ _ _ _ (cthread_c h t ?_)
  rw [if_pos ht]
  refine ifb_nyes rfl ⟨_, h.hd.cell rfl, xput_c h.H t ref i v (fun hn2 => absurd ⟨by omega, x, hx, ex⟩ hn2) (fun z hz e' _ hn2 => ?_) (fun z hz e' _ _ _ w4 ss4 H4 t4 f4 => told172_c ?_)⟩
  · have : z = x := h.H.same hz hx (e'.trans ex.symm)
    subst this
    omega
  · obtain ⟨R4, st4⟩ := h.heap H4 f4 (fun b hb => .inl hb)
    have fin : ∀ w', (∀ S, Fr S w4 w') → K 0 w' := fun w' f => hok w' _ _ (R4.still f) t4.1 (st4.trans (StN.still f))
    have mk : ∀ (kind : Int) (w' : World), (∀ S, Fr S w4 w') → IfB (decide (kind = 2)) (K 0 w') (C170 (some ⟨cb, 0, none⟩) v w' fun w18 => K 0 w18) := fun kind w' f => IfB.dec (fun _ => fin w' f) (fun _ => cmark0_c (R4.still f) hp v (fin w' f))
    refine ⟨_, R4.hd.cell rfl, xcell_c R4.H _ (fun hno w5 f5 => fun b6 w6 n6 => ctold_c n6 fun w7 X7 f7 _ => ?_) (fun y hy ey w5 f5 => fun b6 w6 n6 => ctold_c n6 fun w7 X7 f7 _ => ?_)⟩
    · have f47 : ∀ S, Fr S w4 w7 := fun S => (f5 S).more (f7 S)
      exact ifb_yes rfl ⟨_, X7.cell rfl, ifb_not (mk _ w7 f47)⟩
    · have f47 : ∀ S, Fr S w4 w7 := fun S => (f5 S).more (f7 S)
      exact ifb_yes rfl ⟨_, X7.cell rfl, ifb_not (mk _ w7 f47)⟩

theorem cload_c (h : Cx w own cb s) (hss : s.ss.length = s.ts.length + 1) {t ref i : Int} (ht : 0 ≤ t ∧ t < (s.ts.length : Int)) {x : XC} (hx : x ∈ s.xs) (ex : x.ref = ref) (hi : 0 ≤ i ∧ i < x.n) {K : Int → Int → World → Prop}
    (hok : ∀ w' own' ss', Cx w' own' cb { s with ss := ss' } → ss'.length = s.ss.length → StN 15 w w' own own' → K (x.vs.getD i.toNat 0) 0 w') : C126 (some ⟨cb, 0, none⟩) t ref i w K := by
  refine r_f126 _ _ _ _ _ _ (cthread_c h t ?_)
  rw [if_pos ht]
  refine ifb_nyes rfl ⟨_, h.hd.cell rfl, xload_c h.H t ref i (fun hn2 => absurd ⟨by omega, x, hx, ex⟩ hn2) (fun z hz e' _ hn2 => ?_) (fun z hz e' _ _ _ w4 H4 f4 => told172_c ?_)⟩
  · have : z = x := h.H.same hz hx (e'.trans ex.symm)
    subst this
    omega
  · have : z = x := h.H.same hz hx (e'.trans ex.symm)
    subst this
    obtain ⟨R4, st4⟩ := h.heap H4 f4 (fun b hb => .inl hb)
    exact hok w4 _ _ R4 (by simp [tickA]) st4

theorem crefs_c (h : Cx w own cb s) (hn : s.xs.length ≤ 100000) {K : Option Addr → Nat → Nat → World → Prop}
    (hK : ∀ a c w', SI w' a c (s.xs.map (·.ref)) → (∀ S, Fr S w w') → (∀ b ∈ ablk a, w.heap.size ≤ b) → K a s.xs.length c w') : C120 (some ⟨cb, 0, none⟩) w K :=
  r_f120 _ _ _ ⟨_, h.hd.cell rfl, xrefs_c h.H hn hK⟩

/-- A cycle begins. -/
theorem cbegin_c (h : Cx w own cb s) (hp : s.phase = 0) (hks : s.ks = []) (hr : 0 ≤ s.rounds ∧ s.rounds ≤ 1000000) {K : Int → World → Prop}
    (hok : ∀ w' own' mm, Cx w' own' cb { s with phase := 1, mo := some mm, B := [], ta := none, tc := 0, todo := [], ks := upTo s.ts.length, what := 1, rounds := s.rounds + 1 } → StN 15 w w' own own' → K 0 w') : C118 (some ⟨cb, 0, none⟩) w K := by
  refine r_f118 _ _ _ ⟨_, h.hd.cell rfl, ifb_yes (decide_eq_true hp) fun mm w3 n3 => ?_⟩
  have h3 := h.other (S := []) (n3.fr []) (by simp) 13
  have g3 := n3.ge
  have st3 : StN 15 w w3 own (ext own w.heap.size 13) := ⟨⟨[], n3.fr [], by simp⟩, ext_ag _ _ _⟩
  have t13 : ext own w.heap.size 13 mm = 13 := by unfold ext; rw [if_neg (by omega)]
  generalize ext own w.heap.size 13 = own3 at h3 st3 t13
  have hmi : MI w3 mm [] 0 := by
    have hm := n3.mp
    exact ⟨by unfold Mp at hm; simpa using hm, by simp, by simp, by simp⟩
  have lm := heap_lt hmi.heap
  have cne : mm ≠ cb := fun e => by have := h3.o0.one; rw [← e] at this; omega
  refine ⟨h3.hd.may (by simp), fun w4 s4 => ?_⟩
  have B4 := s4.blk h3.hd
  have f4 : Fr [cb] w3 w4 := s4.fr (by simp)
  refine ⟨B4.may (by simp), fun w5 s5 => ?_⟩
  have B5 := s5.blk B4
  have f5 : Fr [cb] w4 w5 := s5.fr (by simp)
  refine ⟨B5.may (by simp), fun w6 s6 => ?_⟩
  have B6 := s6.blk B5
  have f6 : Fr [cb] w5 w6 := s6.fr (by simp)
  have f36 : Fr [cb] w3 w6 := (f4.more f5).more f6
  have q := h3.frame (P := fun n => n = 0) f36 h3.o0
  have hmi6 := hmi.fr f36 (by simp; exact cne)
  have h6 : Cx w6 own3 cb { s with phase := 1, mo := some mm, B := [], ta := none, tc := 0, todo := [] } :=
    ⟨q.H (by omega), by simpa using B6, q.T (by omega), fun i t ht => q.V i t ht (by omega), q.K (by omega), fun m2 e2 => by cases e2; exact ⟨[], 0, hmi6, rfl, by simp⟩, SI.nil _, q.E (by omega), h3.o0, h3.o1, h3.o2, h3.o3, by simp [Tag, ablk], h3.o5, h3.o6, fun m2 e2 => by cases e2; intro b hb; simp at hb; subst hb; exact t13, h3.o14⟩
  have st6 : StN 15 w3 w6 own3 own3 := ⟨⟨_, f36, fun b hb => by rw [h3.o0 b hb]; decide⟩, fun _ _ => rfl⟩
  have o6 := h3.o6
  refine ⟨_, h6.hd.cell rfl, shakeAsk_c h6.K 1 (by dsimp only; omega) hr (fun hn => absurd hks hn) (fun _ w7 K7 f7 => ?_)⟩
  rw [Int.toNat_natCast] at K7
  obtain ⟨h7, st7⟩ := h6.shake K7 f7
  exact hok w7 _ mm h7 ((st3.trans st6).trans st7)

/-- A thread answers. -/
theorem canswer_c (h : Cx w own cb s) {t : Int} (ht : 0 ≤ t ∧ t < (s.ts.length : Int)) {u : RT} (hu : s.ts[t.toNat]? = some u) (hxl : s.xs.length ≤ 100000) (hul : u.rs.length ≤ 1000) {K : Int → World → Prop}
    (hno : t ∉ s.ks → K 0 w)
    (hyes : t ∈ s.ks → s.phase = 1 ∧ (∃ mm, s.mo = some mm) ∧ Seen s.xs (s.B, s.todo))
    (hok : t ∈ s.ks → ∀ w' own' ta' tc', Cx w' own' cb { s with B := (seeL s.xs (s.B, s.todo) u.rs).1, todo := (seeL s.xs (s.B, s.todo) u.rs).2, ta := ta', tc := tc', ks := s.ks.filter (fun x => !(t == x)) } → StN 15 w w' own own' → K 0 w') : C125 (some ⟨cb, 0, none⟩) t w K := by
  refine r_f125 _ _ _ _ (cthread_c h t ?_)
  rw [if_pos ht]
  refine ifb_nyes rfl ⟨_, h.hd.cell rfl, shakeSee_c h.K t ?_⟩
  by_cases hk : t ∈ s.ks
  · obtain ⟨hp, ⟨mm, hmm⟩, sn⟩ := hyes hk
    rw [decide_eq_true ⟨ht, hk⟩]
    refine ifb_t ⟨_, _, _, h.hd.cell rfl, cts_at h ht.1 ht.2 fun u' p hu' hc _ _ => ⟨ht, _, _, _, hc, ?_⟩⟩
    rw [hu] at hu'; cases hu'
    have e0 : seeL s.xs (s.B, s.todo) (u.rs.take 0) = (s.B, s.todo) := rfl
    refine ⟨fun i w' => 0 ≤ i ∧ i ≤ u.rs.length ∧ ∃ own' ta' tc', Cx w' own' cb { s with B := (seeL s.xs (s.B, s.todo) (u.rs.take i.toNat)).1, todo := (seeL s.xs (s.B, s.todo) (u.rs.take i.toNat)).2, ta := ta', tc := tc' } ∧ StN 15 w w' own own', fun i _ => (u.rs.length - i).toNat, ⟨by decide, by omega, own, s.ta, s.tc, h, StN.still fun S => Fr.refl S w⟩, ?_⟩
    rintro - i w1 ⟨hi0, hi1, own1, ta1, tc1, h1, st1⟩
    refine IfB.dec (fun hlt => ?_) (fun hge => ?_)
    · refine (h1.V _ u hu).get hi0 hlt fun p hp2 => ⟨⟨hi0, hlt⟩, _, hp2, cmark1_c h1 hp hmm (Seen.seeL _ sn) hxl _ fun w2 own2 ta2 tc2 h2 st2 => ⟨fit64 (by omega) (by omega), ⟨by omega, by omega, own2, ta2, tc2, ?_, st1.trans st2⟩, by dsimp only; omega⟩⟩
      have e2 := seeL_take s.xs (s.B, s.todo) u.rs (n := i.toNat) (by omega)
      rw [show (i + 1).toNat = i.toNat + 1 by omega, e2]
      exact h2
    · rw [List.take_of_length_le (by omega)] at h1
      refine ⟨_, h1.hd.cell rfl, shakeAnswer_c h1.K t (fun hn => absurd ht hn) (fun _ w2 K2 f2 => ?_)⟩
      have f2' : Fr [s.sb, s.sm] w1 w2 := f2.mono (by simp)
      obtain ⟨h2, st2⟩ := h1.shake K2 f2'
      exact hok hk w2 _ ta1 tc1 h2 (st1.trans st2)
  · rw [decide_eq_false (fun e => hk e.2)]
    exact ifb_f (hno hk)
end

-- merged: CollectD

theorem Rch.mono {p : Int → Bool} {xs : List XC} {S S' : List Int} (hs : ∀ r ∈ S, r ∈ S') {r : Int} (h : Rch p xs S r) : Rch p xs S' r := by
  induction h with
  | root r h1 h2 => exact .root r (hs r h1) h2
  | step q x r _ hx e hp hr hi ih => exact .step q x r ih hx e hp hr hi

theorem Work.nil (p : Int → Bool) (xs : List XC) : Work p xs [] ([], []) := ⟨⟨by simp, by simp, by simp, by simp, by simp⟩, by simp, by simp, by simp⟩

/-- More roots are seen. -/
theorem Work.more {p : Int → Bool} {xs : List XC} {S : List Int} {s : List Int × List Int} (h : Work p xs S s) (rs : List Int) : Work p xs (S ++ rs) (seeL xs s rs) := by
  obtain ⟨b1, b2, b3, b4, b5⟩ := seeL_sub xs rs s
  refine ⟨Seen.seeL rs h.sn, fun r hr => ?_, fun r hr hi => ?_, fun b hb hn y hy ey hp r hr hi => ?_⟩
  · rcases b4 r hr with h1 | ⟨h1, h2, _⟩
    · exact (h.in_ r h1).mono (fun q hq => by simp [hq])
    · exact .root r (by simp [h1]) h2
  · rcases List.mem_append.1 hr with q | q
    · exact b1 r (h.S r q hi)
    · exact b3 r q hi
  · rcases b4 b hb with h1 | ⟨_, _, h3⟩
    · exact b1 r (h.cl b h1 (fun hm => hn (b2 b hm)) y hy ey hp r hr hi)
    · exact absurd h3 hn

theorem Work.rot {p : Int → Bool} {xs : List XC} {S B L : List Int} {q : Int} (h : Work p xs S (B, q :: L)) : Work p xs S (B, L ++ [q]) := by
  have hm : ∀ r, r ∈ L ++ [q] ↔ r ∈ q :: L := fun r => by simp [or_comm]
  refine ⟨⟨h.sn.nd, h.sn.is, ?_, fun r hr => h.sn.sub r ((hm r).1 hr), by have := h.sn.le; simp at this ⊢; omega⟩, h.in_, h.S, fun b hb hn => h.cl b hb (fun q => hn ((hm b).2 q))⟩
  have := h.sn.nl
  dsimp only at this ⊢
  rw [List.nodup_cons] at this
  exact nodup_snoc this.2 this.1

/-- What is kept of a filter of refs. -/
def lost (B : List Int) (xs : List XC) : List Int := (xs.map (·.ref)).filter fun r => decide (r ∉ B)

section
variable {w w' : World} {own own' : Nat → Nat} {cb : Nat} {s : CS} {S : List Nat}

theorem cstep_idle (h : Cx w own cb s) (hp : s.phase = 0) {K : Bool → Int → World → Prop} (hK : K false 0 w) : C124 (some ⟨cb, 0, none⟩) w K :=
  r_f124 _ _ _ ⟨_, h.hd.cell rfl, ifb_yes (decide_eq_true hp) hK⟩

theorem cstep_wait (h : Cx w own cb s) (hp : s.phase = 1) (hks : s.ks ≠ []) {K : Bool → Int → World → Prop} (hK : K true 0 w) : C124 (some ⟨cb, 0, none⟩) w K := by
  refine r_f124 _ _ _ ⟨_, h.hd.cell rfl, ifb_no (decide_eq_false (by omega)) ⟨_, h.hd.cell rfl, ifb_yes (decide_eq_true hp) (r_f173 _ _ _ ⟨_, h.hd.cell rfl, shakeDone_c h.K ?_⟩)⟩⟩
  rw [decide_eq_false hks]
  exact ifb_nno rfl hK

theorem cstep_look (h : Cx w own cb s) (hp : s.phase = 1) (hks : s.ks = []) {mm : Nat} (hmm : s.mo = some mm) {q : Int} {L : List Int} (ht : s.todo = q :: L) (sn : Seen s.xs (s.B, s.todo)) (hxl : s.xs.length ≤ 100000) (hss : s.ss.length = s.ts.length + 1)
    {x : XC} (hx : x ∈ s.xs) (ex : x.ref = q) {K : Bool → Int → World → Prop}
    (hok : ∀ w' own' ta' tc' ss', Cx w' own' cb { s with B := (seeL s.xs (s.B, L) (if decide (x.kind ≠ 2) = true then x.vs else [])).1, todo := (seeL s.xs (s.B, L) (if decide (x.kind ≠ 2) = true then x.vs else [])).2, ta := ta', tc := tc', ss := ss' } → ss'.length = s.ss.length → StN 15 w w' own own' → K true 0 w') : C124 (some ⟨cb, 0, none⟩) w K := by
  have hxf := h.H.facts.2.2.2.1 x hx
  have sl : Seen s.xs (s.B, L) := by
    have nl := sn.nl
    dsimp only at nl
    rw [ht, List.nodup_cons] at nl
    refine ⟨sn.nd, sn.is, nl.2, fun r hr => sn.sub r (by rw [ht]; simp [hr]), ?_⟩
    have := sn.le
    rw [ht] at this; simp at this ⊢; omega
  have hle := h.D.le
  have hlen : s.todo.length = L.length + 1 := by rw [ht]; simp
  refine r_f124 _ _ _ ⟨_, h.hd.cell rfl, ifb_no (decide_eq_false (by omega)) ⟨_, h.hd.cell rfl, ifb_yes (decide_eq_true hp) (r_f173 _ _ _ ⟨_, h.hd.cell rfl, shakeDone_c h.K ?_⟩)⟩⟩
  rw [decide_eq_true hks]
  have e0 : s.todo.getD (Int.toNat 0) 0 = q := by rw [ht]; rfl
  refine ifb_nyes rfl ⟨_, _, _, h.hd.cell rfl, ifb_yes (decide_eq_true (by omega)) ⟨_, _, _, h.hd.cell rfl, h.D.get (i := 0) (by decide) (by omega) fun p hp2 => ⟨⟨by omega, by omega⟩, _, hp2, _, _, _, h.hd.cell rfl, ⟨by omega, by omega⟩, h.hd.may (by simp), fun w1 s1 => ?_⟩⟩⟩
  rw [e0]
  obtain ⟨C1, ea⟩ := h.D.cut (lo := 1) (hi := s.todo.length) (by omega) (Nat.le_refl _)
  have e1 : (s.todo.drop 1).take (s.todo.length - 1) = L := by rw [ht]; simp
  rw [e1] at C1
  have B1 := s1.blk h.hd
  have t1 : Int.toNat 1 = 1 := rfl
  obtain ⟨h1, st1⟩ := h.todo (w' := w1) (todo' := L) C1 (Fr.refl _ _) (by rw [ea]; exact fun b hb => .inl hb) (by
    have : s.todo.length - 1 = L.length := by omega
    simpa [t1, this] using B1) (s1.fr (by simp))
  clear B1 C1
  refine ⟨_, h1.hd.cell rfl, xcell_c h1.H q (fun hno => absurd ex (hno x hx)) (fun x' hx' ex' w2 f2 => fun b3 w3 n3 => ctold_c n3 fun w4 X4 f4 g4 => ?_)⟩
  have : x' = x := h.H.same hx' hx (ex'.trans ex.symm)
  subst this
  have f24 : ∀ S, Fr S w1 w4 := fun S => (f2 S).more (f4 S)
  have lo := (f2 []).size
  have h4 := h1.other (S := []) (f24 []) (by simp) 62
  have st4 : StN 15 w1 w4 (ext own w.heap.size 4) (ext (ext own w.heap.size 4) w1.heap.size 62) := ⟨⟨[], f24 [], by simp⟩, ext_ag _ _ _⟩
  have X4t : Tag (ext (ext own w.heap.size 4) w1.heap.size 62) [b3] 62 := Tag.fresh _ (by simp; omega)
  generalize ext own w.heap.size 4 = own1 at h4 st4 X4t st1 h1
  generalize ext own1 w1.heap.size 62 = own4 at h4 st4 X4t
  refine ⟨fun i w' => 0 ≤ i ∧ i ≤ x'.n ∧ (x'.kind = 2 → i = 0) ∧ ∃ own' ta' tc' ss', Cx w' own' cb { s with B := (seeL s.xs (s.B, L) (x'.vs.take i.toNat)).1, todo := (seeL s.xs (s.B, L) (x'.vs.take i.toNat)).2, ta := ta', tc := tc', ss := ss' } ∧ ss'.length = s.ss.length ∧ StN 15 w w' own own' ∧ Blk w' b3 [.int .i64 x'.kind, .int .i64 x'.cls, .int .i64 x'.n] ∧ Tag own' [b3] 62,
    fun i _ => (x'.n - i).toNat, ⟨by decide, hxf.1, fun _ => rfl, own4, _, _, s.ss, h4, rfl, st1.trans st4, X4, X4t⟩, ?_⟩
  rintro - i w5 ⟨hi0, hi1, hi2, own5, ta5, tc5, ss5, h5, e5, st5, X5, T5⟩
  refine ⟨_, X5.cell rfl, ?_⟩
  have done : (x'.kind = 2 ∨ i = x'.n) → K true 0 w5 := fun hd => by
    refine hok w5 own5 ta5 tc5 ss5 ?_ e5 st5
    by_cases hk : x'.kind = 2
    · rw [hi2 hk] at h5
      rw [if_neg (by simp [hk])]
      exact h5
    · rcases hd with hd | hd
      · exact absurd hd hk
      · rw [if_pos (by simp [hk])]
        rw [List.take_of_length_le (by omega)] at h5
        exact h5
  by_cases hk : x'.kind = 2
  · exact ifb_nyes (decide_eq_true hk) (done (.inl hk))
  · refine ifb_nno (decide_eq_false hk) ⟨_, X5.cell rfl, IfB.dec (fun hlt => fun w6 d6 => ?_) (fun hge => done (.inr (by omega)))⟩
    have h6 := h5.still d6.fr
    have X6 := X5.fr (d6.fr []) (by simp)
    refine ⟨_, h6.hd.cell rfl, _, h6.hd.cell rfl, xload_c h6.H _ _ _ (fun hn2 => absurd ⟨by dsimp only; omega, x', hx, ex⟩ hn2) (fun z hz e' _ hn2 => ?_) (fun z hz e' _ _ _ w7 H7 f7 => ?_)⟩
    · have : z = x' := h.H.same hz hx (e'.trans ex.symm)
      subst this
      omega
    · have : z = x' := h.H.same hz hx (e'.trans ex.symm)
      subst this
      obtain ⟨h7, st7⟩ := h6.heap H7 f7 (fun b hb => .inl hb)
      obtain ⟨X7, T7⟩ := st7.blk X6 T5 (by decide)
      refine cmark1_c h7 hp hmm (Seen.seeL _ sl) hxl _ fun w8 own8 ta8 tc8 h8 st8 => ?_
      obtain ⟨X8, T8⟩ := st8.blk X7 T7 (by decide)
      have e2 := seeL_take s.xs (s.B, L) z.vs (n := i.toNat) (by omega)
      refine ⟨fit64 (by omega) (by omega), ⟨by omega, by omega, fun q => absurd q hk, own8, ta8, tc8, tickA ss5 (s.ts.length : Int), ?_, by simp [tickA, e5], ((st5.trans (StN.still d6.fr)).trans st7).trans st8, X8, T8⟩, by dsimp only; omega⟩
      rw [show (i + 1).toNat = i.toNat + 1 by omega, e2]
      exact h8

/-- All is marked: what is not marked is to be freed. -/
theorem cstep_turn (h : Cx w own cb s) (hp : s.phase = 1) (hks : s.ks = []) {mm : Nat} (hmm : s.mo = some mm) (ht : s.todo = []) (hxl : s.xs.length ≤ 100000) {K : Bool → Int → World → Prop}
    (hok : ∀ w' own' fa' fc', Cx w' own' cb { s with phase := 3, free := lost s.B s.xs, fa := fa', fc := fc' } → StN 15 w w' own own' → K true 0 w') : C124 (some ⟨cb, 0, none⟩) w K := by
  refine r_f124 _ _ _ ⟨_, h.hd.cell rfl, ifb_no (decide_eq_false (by omega)) ⟨_, h.hd.cell rfl, ifb_yes (decide_eq_true hp) (r_f173 _ _ _ ⟨_, h.hd.cell rfl, shakeDone_c h.K ?_⟩)⟩⟩
  rw [decide_eq_true hks]
  refine ifb_nyes rfl ⟨_, _, _, h.hd.cell rfl, ifb_no (decide_eq_false (by rw [ht]; simp)) ⟨h.hd.may (by simp), fun w1 s1 => ?_⟩⟩
  obtain ⟨h1, st1⟩ := h.head (w' := w1) (taken' := s.taken) (phase' := 3) (cycles' := s.cycles) (by simpa using s1.blk h.hd) (s1.fr (by simp))
  refine ⟨h1.hd.may (by simp), fun w2 s2 => ?_⟩
  obtain ⟨h2, st2⟩ := h1.frees (w' := w2) (fa' := none) (fc' := 0) (free' := []) (SI.nil _) (Fr.refl _ _) (by intro b hb; simp [ablk] at hb) (by simpa using s2.blk h1.hd) (s2.fr (by simp))
  have lr : (s.xs.map (·.ref)).length = s.xs.length := by simp
  refine ⟨_, h2.hd.cell rfl, xrefs_c h2.H hxl fun a3 c3 w3 R3 f3 g3 => ?_⟩
  have h3 := h2.other (S := []) (f3 []) (by simp) 62
  have st3 : StN 15 w2 w3 (ext (ext own w.heap.size 0) w1.heap.size 14) (ext (ext (ext own w.heap.size 0) w1.heap.size 14) w2.heap.size 62) := ⟨⟨[], f3 [], by simp⟩, ext_ag _ _ _⟩
  have R3d : Sd w3 (ext (ext (ext own w.heap.size 0) w1.heap.size 14) w2.heap.size 62) a3 c3 62 (s.xs.map (·.ref)) := ⟨R3, Tag.fresh _ g3⟩
  have st13 := (st1.trans st2).trans st3
  generalize ext (ext (ext own w.heap.size 0) w1.heap.size 14) w2.heap.size 62 = own3 at h3 R3d st13
  refine ⟨fun i w' => 0 ≤ i ∧ i ≤ s.xs.length ∧ ∃ own' fa' fc', Cx w' own' cb { s with phase := 3, free := lost s.B (s.xs.take i.toNat), fa := fa', fc := fc' } ∧ Sd w' own' a3 c3 62 (s.xs.map (·.ref)) ∧ StN 15 w w' own own', fun i _ => (s.xs.length - i).toNat,
    ⟨by decide, by omega, own3, none, 0, h3, R3d, st13⟩, ?_⟩
  rintro - i w4 ⟨hi0, hi1, own4, fa4, fc4, h4, R4, st4⟩
  refine IfB.dec (fun hlt => ?_) (fun hge => ?_)
  · have hlt : i < (s.xs.length : Int) := hlt
    obtain ⟨x, hx⟩ : ∃ x, s.xs[i.toNat]? = some x := ⟨_, List.getElem?_eq_getElem (show i.toNat < s.xs.length by omega)⟩
    have eg : (s.xs.map (·.ref)).getD i.toNat 0 = x.ref := by rw [List.getD_eq_getElem?_getD, List.getElem?_map, hx]; rfl
    have el : lost s.B (s.xs.take (i + 1).toNat) = lost s.B (s.xs.take i.toNat) ++ (if x.ref ∈ s.B then [] else [x.ref]) := by
      have := (List.getElem?_eq_some_iff.1 hx).2
      unfold lost
      rw [show (i + 1).toNat = i.toNat + 1 by omega, List.take_succ_eq_append_getElem (by omega), this, List.map_append, List.filter_append]
      congr 1
      simp only [List.map_cons, List.map_nil, List.filter_cons, List.filter_nil]
      by_cases hb : x.ref ∈ s.B
      · rw [if_neg (by simpa using hb), if_pos hb]
      · rw [if_pos (by simpa using hb), if_neg hb]
    refine R4.si.get hi0 (by omega) fun p hp2 => ⟨⟨hi0, hlt⟩, x.ref, (by rw [eg] at hp2; exact hp2), _, h4.hd.cell rfl, ?_⟩
    rw [show ({ s with phase := 3, free := lost s.B (s.xs.take i.toNat), fa := fa4, fc := fc4 } : CS).mo = some mm from hmm]
    obtain ⟨m, clk, hmi, hmk, hmv⟩ := h4.M mm hmm
    refine look_true hmi hmv x.ref ?_
    rw [hmk]
    by_cases hb : x.ref ∈ s.B
    · rw [decide_eq_true hb]
      refine ifb_f ⟨fit64 (by omega) (by omega), ⟨by omega, by omega, own4, fa4, fc4, ?_, R4, st4⟩, by dsimp only; omega⟩
      rw [el, if_pos hb, List.append_nil, ← hmm]; exact h4
    · rw [decide_eq_false hb]
      refine ifb_t ⟨_, _, _, h4.hd.cell rfl, fun b5 w5 n5 => ?_⟩
      have hll : (lost s.B (s.xs.take i.toNat)).length ≤ 100000 := by
        unfold lost
        have := List.length_filter_le (fun r => decide (r ∉ s.B)) ((s.xs.take i.toNat).map (·.ref))
        rw [List.length_map, List.length_take] at this
        omega
      refine app_int h4.E n5 (by dsimp only; omega) fun a6 c6 w6 E6 f6 g6 => ?_
      have hd6 := h4.hd.fr f6 (h4.o0.apart h4.o14 (by decide) cb (by simp))
      refine ⟨hd6.may (by simp), fun w7 s7 => ?_⟩
      have B7 := s7.blk hd6
      obtain ⟨h7, st7⟩ := h4.frees (w' := w7) (fa' := a6) (fc' := c6) (free' := lost s.B (s.xs.take i.toNat) ++ [x.ref]) E6 f6 g6 (by rw [List.length_append]; simpa using B7) (s7.fr (by simp))
      refine ⟨fit64 (by omega) (by omega), ⟨by omega, by omega, _, a6, c6, ?_, R4.step st7 (by decide), st4.trans st7⟩, by dsimp only; omega⟩
      rw [el, if_neg hb, ← hmm]; exact h7
  · have hge : ¬ i < (s.xs.length : Int) := hge
    rw [List.take_of_length_le (by omega)] at h4
    exact hok w4 own4 fa4 fc4 h4 st4

/-- One is freed. -/
theorem cstep_free (h : Cx w own cb s) (hp : s.phase = 3) (htk : s.taken = xsum s.xs) (hss : s.ss.length = s.ts.length + 1) {r : Int} {L : List Int} (hf : s.free = r :: L) {x : XC} (hx : x ∈ s.xs) (ex : x.ref = r) {K : Bool → Int → World → Prop}
    (hok : ∀ w' own' G' fa' fc', Cx w' own' cb { s with free := L, fa := fa', fc := fc', taken := s.taken - (x.n + 16), G := G', xs := s.xs.filter (fun y => !(r == y.ref)) } → StN 15 w w' own own' → K true 0 w') : C124 (some ⟨cb, 0, none⟩) w K := by
  have hxf := h.H.facts.2.2.2.1 x hx
  have x0 := cxsum0 h
  have hlen : s.free.length = L.length + 1 := by rw [hf]; simp
  have e0 : s.free.getD (Int.toNat 0) 0 = r := by rw [hf]; rfl
  refine r_f124 _ _ _ ⟨_, h.hd.cell rfl, ifb_no (decide_eq_false (by omega)) ⟨_, h.hd.cell rfl, ifb_no (decide_eq_false (by omega)) ⟨_, _, _, h.hd.cell rfl, ifb_yes (decide_eq_true (by omega)) ⟨_, _, _, h.hd.cell rfl, h.E.get (i := 0) (by decide) (by omega) fun p hp2 => ⟨⟨by omega, by omega⟩, _, hp2, _, _, _, h.hd.cell rfl, ⟨by omega, by omega⟩, h.hd.may (by simp), fun w1 s1 => ?_⟩⟩⟩⟩⟩
  rw [e0]
  obtain ⟨C1, ea⟩ := h.E.cut (lo := 1) (hi := s.free.length) (by omega) (Nat.le_refl _)
  have e1 : (s.free.drop 1).take (s.free.length - 1) = L := by rw [hf]; simp
  rw [e1] at C1
  have B1 := s1.blk h.hd
  have t1 : Int.toNat 1 = 1 := rfl
  obtain ⟨h1, st1⟩ := h.frees (w' := w1) (free' := L) C1 (Fr.refl _ _) (by rw [ea]; exact fun b hb => .inl hb) (by
    have : s.free.length - 1 = L.length := by omega
    simpa [t1, this] using B1) (s1.fr (by simp))
  clear B1 C1
  refine ⟨_, h1.hd.cell rfl, xcell_c h1.H r (fun hno => absurd ex (hno x hx)) (fun x' hx' ex' w2 f2 => fun b3 w3 n3 => ctold_c n3 fun w4 X4 f4 g4 => fun w5 d5 => ?_)⟩
  have : x' = x := h.H.same hx' hx (ex'.trans ex.symm)
  subst this
  have f15 : ∀ S, Fr S w1 w5 := fun S => ((f2 S).more (f4 S)).more (d5.fr S)
  have h5 := h1.still f15
  have X5 := X4.fr (d5.fr []) (by simp)
  refine ⟨_, h5.hd.cell rfl, _, X5.cell rfl, fit64 (by omega) (by omega), fit64 (by dsimp only; omega) (by dsimp only; omega), h5.hd.may (by simp), fun w6 s6 => fun w7 d7 => ?_⟩
  obtain ⟨h6, st6⟩ := h5.head (w' := w6) (taken' := s.taken - (x'.n + 16)) (phase' := s.phase) (cycles' := s.cycles) (by simpa using s6.blk h5.hd) (s6.fr (by simp))
  have h7 := h6.still d7.fr
  refine ⟨_, h7.hd.cell rfl, _, h7.hd.cell rfl, xfree_c h7.H _ _ (fun hn2 => absurd ⟨by dsimp only; omega, x', hx, ex⟩ hn2) (fun _ _ w8 G8 H8 f8 g8 => ?_)⟩
  obtain ⟨h8, st8⟩ := h7.heap H8 f8 (fun b hb => .inl (g8 b hb))
  exact hok w8 _ G8 _ _ h8 ((((st1.trans (StN.still f15)).trans st6).trans (StN.still d7.fr)).trans st8)

/-- The cycle is over. -/
theorem cstep_end (h : Cx w own cb s) (hp : s.phase = 3) (hf : s.free = []) (hc : 0 ≤ s.cycles ∧ s.cycles ≤ 1000000) {K : Bool → Int → World → Prop}
    (hok : ∀ w' own', Cx w' own' cb { s with phase := 0, cycles := s.cycles + 1 } → StN 15 w w' own own' → K false 0 w') : C124 (some ⟨cb, 0, none⟩) w K := by
  refine r_f124 _ _ _ ⟨_, h.hd.cell rfl, ifb_no (decide_eq_false (by omega)) ⟨_, h.hd.cell rfl, ifb_no (decide_eq_false (by omega)) ⟨_, _, _, h.hd.cell rfl, ifb_no (decide_eq_false (by rw [hf]; simp)) ⟨h.hd.may (by simp), fun w1 s1 => ?_⟩⟩⟩⟩
  obtain ⟨h1, st1⟩ := h.head (w' := w1) (taken' := s.taken) (phase' := 0) (cycles' := s.cycles) (by simpa using s1.blk h.hd) (s1.fr (by simp))
  refine ⟨_, h1.hd.cell rfl, fit64 (by dsimp only; omega) (by dsimp only; omega), h1.hd.may (by simp), fun w2 s2 => ?_⟩
  obtain ⟨h2, st2⟩ := h1.head (w' := w2) (taken' := s.taken) (phase' := 0) (cycles' := s.cycles + 1) (by simpa using s2.blk h1.hd) (s2.fr (by simp))
  exact hok w2 _ h2 (st1.trans st2)
end
end Go.Proofs.Ytfpghcdjfiggiaa.V
