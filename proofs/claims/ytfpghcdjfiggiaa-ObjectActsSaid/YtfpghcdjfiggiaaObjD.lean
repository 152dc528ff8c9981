/- Objects over fragments: new ones, and those let go. No condition. -/
import Derived.Test.YtfpghcdjfiggiaaObjC
namespace Go.Proofs.Ytfpghcdjfiggiaa.V
open Go Go.RowKit

section
variable {w w' : World} {F S : List Nat} {s om pb ab wb sb clk : Nat} {count last : Int} {free ws ss : List Int} {os : List Ob}

/-- Fragments are being taken for an object. -/
structure Taking (ws ws' : List Int) (count : Int) (free l fs : List Int) : Prop where
  us : ∀ g, usedF ws' 0 count g ↔ usedF ws 0 count g ∨ g ∈ fs
  nw : ∀ g ∈ fs, ¬ usedF ws 0 count g
  old : ∀ g i, usedF ws 0 count g → 0 ≤ i → i < 8 → wrdF ws' 0 count g i = wrdF ws 0 count g i
  ch : Chain (wrdF ws' 0 count) fs
  zr : ∀ g ∈ fs, ∀ i, 0 ≤ i → i < 7 → wrdF ws' 0 count g i = 0
  nd : fs.Nodup
  len : l.length + fs.length = free.length

theorem Taking.nil (ws : List Int) (count : Int) (free : List Int) : Taking ws ws count free free [] :=
  ⟨by simp, by simp, fun _ _ _ _ _ => rfl, trivial, by simp, List.nodup_nil, by simp⟩

theorem Taking.next {ws' ws1 : List Int} {l fs : List Int} {f : Int} (h : Taking ws ws' count free (l ++ [f]) fs) (hl : 0 ≤ (0 : Int) ∧ 0 + (14 * count + 64) ≤ (ws1.length : Int)) (hf : 0 ≤ f ∧ f < count) (h0 : colF ws' 0 f = 0)
    (hc : ∀ g, 0 ≤ g → g < count → colF ws1 0 g = if g = f then 1 else colF ws' 0 g) (hw : ∀ g i, 0 ≤ g → g < count → 0 ≤ i → i < 8 → wrdF ws1 0 count g i = if g = f then 0 else wrdF ws' 0 count g i) :
    Taking ws (ws1.set (0 + count + f * 8 + 7).toNat (nx fs)) count free l (f :: fs) := by
  have nf : ¬ usedF ws' 0 count f := fun h => h.2.2 h0
  have hcol : ∀ g, 0 ≤ g → g < count → colF (ws1.set (0 + count + f * 8 + 7).toNat (nx fs)) 0 g = colF ws1 0 g := fun g g0 g1 => col_set hl hf ⟨by decide, by decide⟩ _ g ⟨g0, g1⟩
  have hwrd : ∀ g j, 0 ≤ g → g < count → 0 ≤ j → j < 8 → wrdF (ws1.set (0 + count + f * 8 + 7).toNat (nx fs)) 0 count g j = if g = f ∧ j = 7 then nx fs else wrdF ws1 0 count g j := fun g j g0 g1 j0 j1 => wrd_set hl hf ⟨by decide, by decide⟩ _ g j ⟨g0, g1⟩ ⟨j0, j1⟩
  have hus : ∀ g, usedF (ws1.set (0 + count + f * 8 + 7).toNat (nx fs)) 0 count g ↔ usedF ws' 0 count g ∨ g = f := fun g => by
    unfold usedF
    constructor
    · rintro ⟨a, b, c⟩
      rw [hcol g a b, hc g a b] at c
      by_cases e : g = f
      · exact .inr e
      · rw [if_neg e] at c; exact .inl ⟨a, b, c⟩
    · rintro (⟨a, b, c⟩ | rfl)
      · refine ⟨a, b, ?_⟩
        rw [hcol g a b, hc g a b]
        split
        · omega
        · exact c
      · refine ⟨hf.1, hf.2, ?_⟩
        rw [hcol _ hf.1 hf.2, hc _ hf.1 hf.2, if_pos rfl]; omega
  have fnew : f ∉ fs := fun hm => nf ((h.us f).2 (.inr hm))
  have fold : ¬ usedF ws 0 count f := fun hu => nf ((h.us f).2 (.inl hu))
  have rng : ∀ g, usedF ws 0 count g ∨ g ∈ fs → 0 ≤ g ∧ g < count ∧ g ≠ f := fun g hg => by
    have := (h.us g).2 hg
    refine ⟨this.1, this.2.1, fun e => nf (e ▸ this)⟩
  refine ⟨fun g => ?_, fun g hg => ?_, fun g i hg i0 i1 => ?_, ⟨?_, h.ch.congr fun g hg => ?_⟩, fun g hg i i0 i1 => ?_, ?_, ?_⟩
  · rw [hus, h.us, List.mem_cons]
    constructor
    · rintro ((q | q) | q)
      · exact .inl q
      · exact .inr (.inr q)
      · exact .inr (.inl q)
    · rintro (q | q | q)
      · exact .inl (.inl q)
      · exact .inr q
      · exact .inl (.inr q)
  · rcases List.mem_cons.1 hg with rfl | hg
    · exact fold
    · exact h.nw g hg
  · obtain ⟨a, b, c⟩ := rng g (.inl hg)
    rw [hwrd g i a b i0 i1, if_neg (fun q => c q.1), hw g i a b i0 i1, if_neg c, h.old g i hg i0 i1]
  · rw [hwrd f 7 hf.1 hf.2 (by decide) (by decide), if_pos ⟨rfl, rfl⟩]
  · obtain ⟨a, b, c⟩ := rng g (.inr hg)
    rw [hwrd g 7 a b (by decide) (by decide), if_neg (fun q => c q.1), hw g 7 a b (by decide) (by decide), if_neg c]
  · rcases List.mem_cons.1 hg with rfl | hg
    · rw [hwrd _ i hf.1 hf.2 i0 (by omega), if_neg (by omega), hw _ i hf.1 hf.2 i0 (by omega), if_pos rfl]
    · obtain ⟨a, b, c⟩ := rng g (.inr hg)
      rw [hwrd g i a b i0 (by omega), if_neg (fun q => c q.1), hw g i a b i0 (by omega), if_neg c, h.zr g hg i i0 i1]
  · exact List.nodup_cons.2 ⟨fnew, h.nd⟩
  · have := h.len
    simp at this ⊢
    omega

/-- The object is there. -/
theorem Taking.done {ws' : List Int} {l fs : List Int} {free' : List Int} (h : Taking ws ws' count free l fs) (I : OInv ws 0 count free os last) {n : Int} (hn : 0 ≤ n ∧ n ≤ 64) (hfs : fs.length = fcnt n) (st : Nat) :
    OInv ws' 0 count free' (os ++ [⟨last + 1, n, st, fs, List.replicate n.toNat 0⟩]) (last + 1) := by
  have hl0 := I.l0
  have mem : ∀ o ∈ os ++ [⟨last + 1, n, st, fs, List.replicate n.toNat 0⟩], o ∈ os ∨ o = ⟨last + 1, n, st, fs, List.replicate n.toNat 0⟩ := fun o ho => by simpa using ho
  refine ⟨fun o ho => ?_, by omega, ?_, fun o ho => ?_, fun o ho f hf => ?_, ?_, fun o ho => ?_, fun o ho j hj f hf => ?_, fun f hf => ?_⟩
  · rcases mem o ho with q | rfl
    · have := I.ids o q; omega
    · dsimp only; omega
  · rw [List.map_append, List.pairwise_append]
    refine ⟨I.srt, by simp, fun a ha b hb => ?_⟩
    obtain ⟨y, hy, rfl⟩ := List.mem_map.1 ha
    simp at hb
    subst hb
    have := I.ids y hy
    omega
  · rcases mem o ho with q | rfl
    · exact I.sz o q
    · exact ⟨hn.1, hn.2, by simp; omega, hfs⟩
  · rcases mem o ho with q | rfl
    · exact (h.us f).2 (.inl (I.us o q f hf))
    · exact (h.us f).2 (.inr hf)
  · rw [List.flatMap_append, List.nodup_append]
    refine ⟨I.nd, by simpa using h.nd, fun a ha b hb e => ?_⟩
    simp at hb
    subst e
    obtain ⟨o, ho, hm⟩ := List.mem_flatMap.1 ha
    exact h.nw a hb (I.us o ho a hm)
  · rcases mem o ho with q | rfl
    · exact (I.ch o q).congr fun f hf => h.old f 7 (I.us o q f hf) (by decide) (by decide)
    · exact h.ch
  · rcases mem o ho with q | rfl
    · rw [h.old f _ (I.us o q f (List.mem_of_getElem? hf)) (by omega) (by omega)]
      exact I.wd o q j hj f hf
    · rw [h.zr f (List.mem_of_getElem? hf) _ (by omega) (by omega)]
      simp [List.getD_eq_getElem?_getD, List.getElem?_replicate]
      split <;> rfl
  · rcases (h.us f).1 hf with q | q
    · obtain ⟨o, ho, hm⟩ := I.all f q
      exact ⟨o, by simp [ho], hm⟩
    · exact ⟨_, List.mem_append.2 (.inr (List.mem_singleton.2 rfl)), q⟩

/-- An object is made. -/
theorem omake_c (h : Ox w F s om pb ab wb sb count free ws ss clk os last) (hl : last ≤ 1000000) (agent n : Int) {K : Int → Int → World → Prop}
    (hag : ¬ (0 ≤ agent ∧ agent < ss.length) → ∀ w', (∀ S, Fr S w w') → K 0 803 w')
    (hsize : (0 ≤ agent ∧ agent < ss.length) → ¬ (0 ≤ n ∧ n ≤ 64) → ∀ w', (∀ S, Fr S w w') → K 0 800 w')
    (hnone : (0 ≤ agent ∧ agent < ss.length) → 0 ≤ n ∧ n ≤ 64 → (free.length : Int) < 1 + (n + 5) / 6 → ∀ w', (∀ S, Fr S w w') → K 0 801 w')
    (hok : (0 ≤ agent ∧ agent < ss.length) → 0 ≤ n ∧ n ≤ 64 → 1 + (n + 5) / 6 ≤ (free.length : Int) → ∀ w' l ws' ss' clk' fs, Ox w' F s om pb ab wb sb count l ws' ss' clk' (os ++ [⟨last + 1, n, clk, fs, List.replicate n.toNat 0⟩]) (last + 1) →
      l.length + fcnt n = free.length → Tk 64 ss ss' → Fr (s :: om :: F) w w' → K (last + 1) 0 w') : C87 (some ⟨s, 0, none⟩) agent n w K := by
  have still : ∀ S, Fr S w w := fun S => Fr.refl S w
  obtain ⟨n1, n2, n3⟩ := h.ne
  have l0 := h.I.l0
  refine r_f87 _ _ _ _ _ ⟨fun w' => w' = w ∧ (0 ≤ agent ∧ agent < ss.length) ∧ (0 ≤ n ∧ n ≤ 64) ∧ 1 + (n + 5) / 6 ≤ (free.length : Int), ⟨_, h.hd.cell rfl, farena_c h.P (agent_c h.P.ar agent (IfB.nd (fun ha => IfB.dec (fun h1 => hsize ha (by omega) w still) (fun h1 => IfB.dec (fun h2 => hsize ha (by omega) w still) (fun h2 => ⟨_, h.hd.cell rfl, froom_c h.P ?_⟩))) (fun ha => hag ha w still)))⟩, ?_⟩
  · have e6 : Int.tdiv (n + 5) 6 = (n + 5) / 6 := Int.tdiv_eq_ediv_of_nonneg (by omega)
    rw [e6]
    exact ⟨fit64 (by omega) (by omega), by decide, fit64 (by omega) (by omega), fit64 (by omega) (by omega), IfB.dec (fun h3 => hnone ha ⟨by omega, by omega⟩ (by omega) w still) (fun h3 => ⟨rfl, ha, ⟨by omega, by omega⟩, by omega⟩)⟩
  rintro - w0 ⟨rfl, ha, hn, hr⟩
  have e7 : Int.tdiv (n + 7 - 1) 7 = (n + 6) / 7 := by rw [Int.tdiv_eq_ediv_of_nonneg (by omega)]; congr 1; omega
  rw [e7]
  have emax : max 1 ((n + 6) / 7) = (fcnt n : Int) := by unfold fcnt; omega
  rw [emax]
  have hfc := fcnt_le hn.1
  have hfp := fcnt_pos n
  refine ⟨fit64 (by omega) (by omega), fit64 (by omega) (by omega), by decide, fit64 (by omega) (by omega), fun next j w' => 0 ≤ j ∧ j ≤ fcnt n ∧ ∃ l ws' ss' fs, next = nx fs ∧ (fs.length : Int) = j ∧ Pool w' F pb ab wb sb 0 count l ws' ss' ∧ Taking ws ws' count free l fs ∧ Tk j ss ss' ∧ Fr F w0 w', fun _ j _ => ((fcnt n : Int) - j).toNat,
    ⟨by decide, by omega, free, ws, ss, [], rfl, rfl, h.P, Taking.nil ws count free, Tk.refl ss, Fr.refl _ _⟩, ?_⟩
  rintro - next j w1 ⟨hj0, hj1, l1, ws1, ss1, fs1, rfl, hjl, P1, T1, t1, f1⟩
  have hd1 := h.hd.fr f1 n2
  refine IfB.dec (fun hlt => ⟨_, hd1.cell rfl, ?_⟩) (fun hge => ⟨_, hd1.cell rfl, ?_⟩)
  · have hag1 : 0 ≤ agent ∧ agent < ss1.length := by rw [t1.1]; exact ha
    have hlen := T1.len
    refine falloc_c P1 agent (fun hn2 => absurd hag1 hn2) (fun _ he => by rw [he] at hlen; simp at hlen; omega) (fun _ l2 f hl2 w2 ws2 P2 hw2 hc2 hr2 _ f2 => ?_)
    subst hl2
    have hfm := (P1.fr f).1 (by simp)
    have hd2 := hd1.fr f2 n2
    have rg := P2.rg
    have T2 := T1.next (ws1 := ws2) ⟨by decide, rg.2.2.2.1⟩ ⟨hfm.1, hfm.2.1⟩ hfm.2.2 hc2 hr2
    have hu2 : usedF ws2 0 count f := ⟨hfm.1, hfm.2.1, by rw [hc2 f hfm.1 hfm.2.1, if_pos rfl]; omega⟩
    refine ⟨_, hd2.cell rfl, fstore_c P2 agent f 7 (nx fs1) (fun hn2 => absurd ⟨⟨hag1, hu2⟩, by decide, by decide⟩ hn2) (fun _ _ _ w3 P3 f3 => ?_)⟩
    exact ⟨fit64 (by omega) (by omega), fit64 (by omega) (by omega), ⟨by omega, by omega, l2, _, _, f :: fs1, rfl, by simp; omega, P3, T2, t1.trans (Tk.tick ss1 hag1.1 hag1.2) (by omega) (by decide), (f1.more f2).more f3⟩, by dsimp only; omega⟩
  · have hjn : j = fcnt n := by omega
    have hd2 := hd1
    refine ⟨fit64 (by omega) (by omega), hd1.may (by simp), fun w2 s2 => fun w3 d3 => ?_⟩
    have B3 := (s2.blk hd1).fr (d3.fr []) (by simp)
    have f3 : Fr [s] w1 w3 := (s2.fr (by simp)).more (d3.fr _)
    have M1 := h.mi.fr f1 n3
    have M3 := M1.fr f3 (by simp; exact fun e => n1 e.symm)
    have P3 := P1.frame f3 (fun k hk hk2 => by simp at hk2; subst hk2; exact n2 hk)
    have I3 := T1.done (free' := l1) h.I hn (by omega) clk
    have hnone' : mget (os.map oent) (last + 1) = none := oget_no fun e he => by
      obtain ⟨c, hc, rfl⟩ := List.mem_map.1 he
      have := h.I.ids c hc
      show c.ref ≠ last + 1
      omega
    obtain ⟨w4, m', clk', hrun, M4, f4, hm'⟩ := run_update (P := Try.prog) M3 (t := 205) (kt := 3) (et := 210) (by kernel_rfl) (by kernel_rfl) (last + 1) (.agg #[.int .i64 n, .int .i64 (nx fs1 - 1)])
    rcases hm' with ⟨hm', _⟩ | ⟨_, rfl, rfl⟩
    · exact absurd hnone' hm'
    have B4 := B3.fr f4 (by simpa using n1)
    have P4 := P3.frame f4 (fun k hk hk2 => by simp at hk2; subst hk2; exact n3 hk)
    have hf0 : ∀ f ∈ fs1, 0 ≤ f ∧ f < 2000 := fun f hf => by
      have := (T1.us f).2 (.inr hf)
      have := P1.rg
      unfold usedF at *
      omega
    have hnx : 0 ≤ nx fs1 ∧ nx fs1 ≤ 2000 := by
      cases hfs : fs1 with
      | nil => simp [nx]
      | cons f fs => have := hf0 f (by rw [hfs]; simp); simp [nx]; omega
    refine ⟨_, B3.cell rfl, _, B3.cell rfl, fit64 (by omega) (by omega), w4, hrun, _, B4.cell rfl, ?_⟩
    refine hok ha hn hr w4 l1 ws1 ss1 _ fs1 ⟨P4, by simpa using B4, by rw [List.map_append]; exact M4, I3, n1, n2, n3⟩ (by have := T1.len; omega) (t1.up (by omega)) ?_
    have a1 : Fr (s :: om :: F) w0 w1 := f1.mono (fun k hk => .inl (by simp [hk]))
    have a2 := a1.trans f3 (fun k hk => .inl (by simp at hk; simp [hk]))
    exact a2.trans f4 (fun k hk => .inl (by simp at hk; simp [hk]))

/-- Fragments are being given back. -/
structure Giving (ws ws' : List Int) (count : Int) (free free' done : List Int) : Prop where
  us : ∀ g, usedF ws' 0 count g ↔ usedF ws 0 count g ∧ g ∉ done
  wd : ∀ g i, 0 ≤ g → g < count → 0 ≤ i → i < 8 → wrdF ws' 0 count g i = wrdF ws 0 count g i
  len : free'.length = free.length + done.length

theorem Giving.next {ws' free' done : List Int} {f : Int} (h : Giving ws ws' count free free' done) (hl : 0 ≤ (0 : Int) ∧ 0 + (14 * count + 64) ≤ (ws'.length : Int)) (hf : 0 ≤ f ∧ f < count) : Giving ws (ws'.set (0 + f).toNat 0) count free (free' ++ [f]) (done ++ [f]) := by
  have hcol : ∀ g, 0 ≤ g → g < count → colF (ws'.set (0 + f).toNat 0) 0 g = if g = f then 0 else colF ws' 0 g := fun g g0 g1 => colSet_col hl hf 0 g ⟨g0, g1⟩
  refine ⟨fun g => ?_, fun g i g0 g1 i0 i1 => ?_, ?_⟩
  · have := h.us g
    unfold usedF at this ⊢
    rw [List.mem_append, List.mem_singleton]
    constructor
    · rintro ⟨a, b, c⟩
      rw [hcol g a b] at c
      by_cases e : g = f
      · rw [if_pos e] at c; exact absurd rfl c
      · rw [if_neg e] at c
        obtain ⟨p, q⟩ := this.1 ⟨a, b, c⟩
        exact ⟨p, fun q2 => q2.elim q e⟩
    · rintro ⟨p, q⟩
      obtain ⟨a, b, c⟩ := this.2 ⟨p, fun q2 => q (.inl q2)⟩
      refine ⟨a, b, ?_⟩
      rw [hcol g a b, if_neg (fun e => q (.inr e))]
      exact c
  · rw [colSet_wrd hl hf 0 g i ⟨g0, g1⟩ ⟨i0, i1⟩]
    exact h.wd g i g0 g1 i0 i1
  · have := h.len; simp; omega

theorem Giving.done {ws' free' free2 : List Int} {o : Ob} (h : Giving ws ws' count free free' o.fs) (I : OInv ws 0 count free os last) (ho : o ∈ os) : OInv ws' 0 count free2 (os.filter fun y => !(o.ref == y.ref)) last := by
  have sub : ∀ y ∈ os.filter (fun y => !(o.ref == y.ref)), y ∈ os ∧ y.ref ≠ o.ref := fun y hy => by
    obtain ⟨h1, h2⟩ := List.mem_filter.1 hy
    exact ⟨h1, fun e => by simp [e] at h2⟩
  have other : ∀ y ∈ os, y.ref ≠ o.ref → ∀ f ∈ y.fs, f ∉ o.fs := fun y hy hne f h1 h2 => by
    have : ∀ l : List Ob, y ∈ l → o ∈ l → (l.flatMap (·.fs)).Nodup → False := fun l => by
      induction l with
      | nil => intro h; simp at h
      | cons a l ih =>
        intro a1 a2 nd
        rw [List.flatMap_cons, List.nodup_append] at nd
        rcases List.mem_cons.1 a1 with q1 | q1
        · rcases List.mem_cons.1 a2 with q2 | q2
          · exact hne (by rw [q1, q2])
          · exact nd.2.2 f (by rw [← q1]; exact h1) f (List.mem_flatMap.2 ⟨o, q2, h2⟩) rfl
        · rcases List.mem_cons.1 a2 with q2 | q2
          · exact nd.2.2 f (by rw [← q2]; exact h2) f (List.mem_flatMap.2 ⟨y, q1, h1⟩) rfl
          · exact ih q1 q2 nd.2.1
    exact this os hy ho I.nd
  refine ⟨fun y hy => I.ids y (sub y hy).1, I.l0, I.srt.sublist (List.Sublist.map _ List.filter_sublist), fun y hy => I.sz y (sub y hy).1, fun y hy f hf => ?_, ?_, fun y hy => ?_, fun y hy j hj f hf => ?_, fun f hf => ?_⟩
  · obtain ⟨h1, h2⟩ := sub y hy
    exact (h.us f).2 ⟨I.us y h1 f hf, other y h1 h2 f hf⟩
  · have : ∀ l : List Ob, ((l.filter fun y => !(o.ref == y.ref)).flatMap (·.fs)).Sublist (l.flatMap (·.fs)) := fun l => by
      induction l with
      | nil => simp
      | cons a l ih =>
        rw [List.filter_cons]
        split
        · rw [List.flatMap_cons, List.flatMap_cons]; exact List.Sublist.append (List.Sublist.refl _) ih
        · rw [List.flatMap_cons]; exact ih.trans (List.sublist_append_right _ _)
    exact I.nd.sublist (this os)
  · obtain ⟨h1, h2⟩ := sub y hy
    refine (I.ch y h1).congr fun f hf => ?_
    have := I.us y h1 f hf
    exact h.wd f 7 this.1 this.2.1 (by decide) (by decide)
  · obtain ⟨h1, h2⟩ := sub y hy
    have := I.us y h1 f (List.mem_of_getElem? hf)
    rw [h.wd f _ this.1 this.2.1 (by omega) (by omega)]
    exact I.wd y h1 j hj f hf
  · obtain ⟨hu, hn⟩ := (h.us f).1 hf
    obtain ⟨y, hy, hm⟩ := I.all f hu
    exact ⟨y, List.mem_filter.2 ⟨hy, by
      have : o.ref ≠ y.ref := fun e => hn (by rw [I.same ho hy e]; exact hm)
      simp [this]⟩, hm⟩

/-- An object is let go. -/
theorem ofree_c (h : Ox w F s om pb ab wb sb count free ws ss clk os last) (agent ref : Int) {K : Int → World → Prop}
    (hno : ¬ ((0 ≤ agent ∧ agent < ss.length) ∧ ∃ o ∈ os, o.ref = ref) → ∀ w', (∀ S, Fr S w w') → K 803 w')
    (hok : ∀ o ∈ os, o.ref = ref → (0 ≤ agent ∧ agent < ss.length) → ∀ w' F' free' ws' ss', Ox w' F' s om pb ab wb sb count free' ws' ss' clk (os.filter fun y => !(ref == y.ref)) last → free'.length = free.length + fcnt o.n → Tk 64 ss ss' →
      Fr (s :: om :: F) w w' → Grw F F' w.heap.size → K 0 w') : C90 (some ⟨s, 0, none⟩) agent ref w K := by
  obtain ⟨n1, n2, n3⟩ := h.ne
  have tail : ∀ (n f0 : Int) (is : Bool), (is = true → ∃ o ∈ os, o.ref = ref ∧ n = o.n ∧ f0 = nx o.fs - 1) → (is = false → ∀ o ∈ os, o.ref ≠ ref) → ∀ (b6 : Nat) (w7 : World), NewAt w w7 b6 #[.int .i64 0, .int .i64 0] 210 →
      MayL w7 ⟨b6, 0, none⟩ 2 ∧ ∀ w8 : World, SetL w7 w8 ⟨b6, 0, none⟩ [.int .i64 n, .int .i64 f0] →
      ∃ M9 : World → Prop,
      (∃ (q11 : Option Addr), World.cell? w8 ⟨s, 0, none⟩ = some (.pointer q11) ∧
      C156 q11 w8 fun q12 w13 =>
      C135 q12 agent w13 fun b14 w15 =>
      IfB (!b14)
      (K 803 w15)
      (IfB (!is)
      (K 803 w15)
      (M9 w15))) ∧
      ∀ (_ : Env) (w10 : World), M9 w10 →
      ∃ (m16 : Option Nat), World.cell? w10 ⟨s, 1, none⟩ = some (.map m16) ∧
      RunF Try.prog (Builtin.delete_ #[205, 3] 0 #[.map m16, .int .i64 ref]) w10 [] fun (w17 : World) =>
      ∃ (n18 : Int), World.cell? w17 ⟨b6, 1, none⟩ = some (.int .i64 n18) ∧
      ∃ (I19 : Int → World → Prop) (m20 : Int → World → Nat),
      I19 n18 w17 ∧
      ∀ (_ : Env) (n21 : Int) (w22 : World), I19 n21 w22 →
      IfB (decide ((0 : Int) ≤ n21))
      (∃ (q23 : Option Addr), World.cell? w22 ⟨s, 0, none⟩ = some (.pointer q23) ∧
      C52 q23 agent n21 7 w22 fun n24 n25 w26 =>
      ∃ (q27 : Option Addr), World.cell? w26 ⟨s, 0, none⟩ = some (.pointer q27) ∧
      C54 q27 agent n21 w26 fun n28 w29 =>
      Fit .i64 (n24 - 1) ∧
      (I19 (n24 - 1) w29 ∧
      m20 (n24 - 1) w29 < m20 n21 w22))
      (K 0 w22) := by
    intro n f0 is hy hn b6 w7 n7
    refine ⟨n7.blk.mayL (by simp), fun w8 s8 => ?_⟩
    obtain ⟨X8, f8⟩ := newSet n7 s8 rfl
    have h8 := h.fr0 f8
    have g6 := n7.ge
    refine ⟨fun w' => w' = w8 ∧ ∃ o ∈ os, o.ref = ref ∧ f0 = nx o.fs - 1 ∧ (0 ≤ agent ∧ agent < ss.length), ⟨_, h8.hd.cell rfl, farena_c h8.P (agent_c h8.P.ar agent (IfB.nd (fun ha => ?_) (fun ha => hno (fun p => ha p.1) w8 f8)))⟩, ?_⟩
    · cases is with
      | false => exact ifb_nno rfl (hno (fun p => by obtain ⟨o, ho, e⟩ := p.2; exact hn rfl o ho e) w8 f8)
      | true =>
        obtain ⟨o, ho, e, _, e2⟩ := hy rfl
        exact ifb_nyes rfl ⟨rfl, o, ho, e, e2, ha⟩
    rintro - w10 ⟨rfl, o, ho, e, rfl, ha⟩
    obtain ⟨w11, hrun, M11, f11⟩ := run_delete (P := Try.prog) h8.mi (t := 205) (kt := 3) (et := 210) (by kernel_rfl) (by kernel_rfl) ref 0
    have l2 := heap_lt h.mi.heap
    have hd11 := h8.hd.fr f11 (by simpa using n1)
    have X11 := X8.fr f11 (by simp; omega)
    have P11 := h8.P.frame f11 (fun k hk hk2 => by simp at hk2; subst hk2; exact n3 hk)
    have ed : mdel (os.map oent) ref = (os.filter fun y => !(ref == y.ref)).map oent := by
      unfold mdel
      rw [List.filter_map]
      rfl
    rw [ed] at M11
    have hsz := h.I.sz o ho
    have hfc := fcnt_le hsz.1
    refine ⟨_, h8.hd.cell rfl, [], w11, hrun, _, X11.cell rfl, fun f w' => ∃ rs done F' free' ws' ss', f = nx rs - 1 ∧ o.fs = done ++ rs ∧ Pool w' F' pb ab wb sb 0 count free' ws' ss' ∧ Giving ws ws' count free free' done ∧ Tk done.length ss ss' ∧ Fr F w11 w' ∧ Grw F F' w11.heap.size,
      fun f w' => leastN fun k => ∃ rs done F' free' ws' ss', f = nx rs - 1 ∧ o.fs = done ++ rs ∧ Pool w' F' pb ab wb sb 0 count free' ws' ss' ∧ Giving ws ws' count free free' done ∧ Tk done.length ss ss' ∧ Fr F w11 w' ∧ Grw F F' w11.heap.size ∧ k = rs.length, ?_, ?_⟩
    · exact ⟨o.fs, [], F, free, ws, ss, rfl, by simp, P11, ⟨by simp, fun _ _ _ _ _ _ => rfl, by simp⟩, Tk.refl ss, Fr.refl _ _, fun b hb => .inl hb⟩
    rintro - f w12 hex
    obtain ⟨k, hkk⟩ : ∃ k, k = leastN fun k => ∃ rs done F' free' ws' ss', f = nx rs - 1 ∧ o.fs = done ++ rs ∧ Pool w12 F' pb ab wb sb 0 count free' ws' ss' ∧ Giving ws ws' count free free' done ∧ Tk done.length ss ss' ∧ Fr F w11 w12 ∧ Grw F F' w11.heap.size ∧ k = rs.length := ⟨_, rfl⟩
    have hsp := leastN_spec (P := fun k => ∃ rs done F' free' ws' ss', f = nx rs - 1 ∧ o.fs = done ++ rs ∧ Pool w12 F' pb ab wb sb 0 count free' ws' ss' ∧ Giving ws ws' count free free' done ∧ Tk done.length ss ss' ∧ Fr F w11 w12 ∧ Grw F F' w11.heap.size ∧ k = rs.length)
      (by obtain ⟨rs, done, F', free', ws', ss', q⟩ := hex; exact ⟨rs.length, rs, done, F', free', ws', ss', q.1, q.2.1, q.2.2.1, q.2.2.2.1, q.2.2.2.2.1, q.2.2.2.2.2.1, q.2.2.2.2.2.2, rfl⟩)
    rw [← hkk] at hsp
    obtain ⟨⟨rs, done, F2, free2, ws2, ss2, rfl, ers, P2, G2, t2, f2, g2, hk⟩, _⟩ := hsp
    have hd2 := hd11.fr f2 n2
    have hag2 : 0 ≤ agent ∧ agent < ss2.length := by rw [t2.1]; exact ha
    have hnd := flat_nodup h.I.nd ho
    have hdl : done.length + rs.length = fcnt o.n := by rw [← hsz.2.2.2, ers, List.length_append]
    cases hrs : rs with
    | nil =>
      subst hrs
      refine IfB.no (by simp [nx]) ?_
      have ed2 : done = o.fs := by rw [ers]; simp
      subst ed2
      have z8 := (f8 []).size
      have z11 := f11.size
      have l1 := h.hd.lt
      have M2 := M11.fr f2 n3
      refine hok o ho e ha w12 F2 free2 ws2 ss2 ⟨P2, hd2, M2, by have := G2.done (free2 := free2) h.I ho; rw [e] at this; exact this, n1, fun hb => ?_, fun hb => ?_⟩ (by have := G2.len; omega) (t2.up (by omega)) ?_ ?_
      · rcases g2 _ hb with q | q
        · exact n2 q
        · omega
      · rcases g2 _ hb with q | q
        · exact n3 q
        · omega
      · have a1 : Fr (s :: om :: F) w w11 := (f8 _).trans f11 (fun k hk => .inl (by simp at hk; simp [hk]))
        exact a1.trans f2 (fun k hk => .inl (by simp [hk]))
      · intro b hb
        rcases g2 b hb with q | q
        · exact .inl q
        · exact .inr (by omega)
    | cons g rs2 =>
      subst hrs
      have hg : g ∈ o.fs := by rw [ers]; simp
      have hus := h.I.us o ho g hg
      have hgd : g ∉ done := fun hm => by
        rw [ers, List.nodup_append] at hnd
        exact hnd.2.2 g hm g (by simp) rfl
      have hus2 := (G2.us g).2 ⟨hus, hgd⟩
      have e1 : nx (g :: rs2) - 1 = g := by simp [nx]
      rw [e1]
      have g0 := hus.1
      have g1 := hus.2.1
      have rg := P2.rg
      refine IfB.yes g0 ⟨_, hd2.cell rfl, fload_c P2 agent g 7 (fun hn2 => absurd ⟨⟨hag2, hus2⟩, by decide, by decide⟩ hn2) (fun _ _ _ w13 P13 f13 => ?_)⟩
      have hd13 := hd2.fr f13 (fun hb => by
        rcases g2 _ hb with q | q
        · exact n2 q
        · have := h.hd.lt; have := (f8 []).size; have := f11.size; omega)
      have t13 := t2.trans (Tk.tick ss2 hag2.1 hag2.2) (by omega) (by decide)
      refine ⟨_, hd13.cell rfl, ffree_c P13 agent g (fun hn2 => absurd ⟨by rw [t13.1]; exact ha, hus2⟩ hn2) (fun _ w14 F14 P14 f14 g14 => ?_)⟩
      have hch : wrdF ws2 0 count g 7 = nx rs2 := by
        rw [G2.wd g 7 g0 g1 (by decide) (by decide)]
        have hc := (h.I.ch o ho).at (k := done.length) (f := g) (by rw [ers]; simp)
        rw [hc, ers, List.drop_length_add_append]
        rfl
      rw [hch]
      have hnx : 0 ≤ nx rs2 ∧ nx rs2 ≤ 2000 := by
        cases hrs2 : rs2 with
        | nil => simp [nx]
        | cons q qs =>
          have := h.I.us o ho q (by rw [ers, hrs2]; simp)
          unfold usedF at this
          simp [nx]; omega
      have G3 := G2.next (f := g) ⟨by decide, rg.2.2.2.1⟩ ⟨g0, g1⟩
      have z2 := f2.size
      have z13 := f13.size
      have f14' : Fr F w11 w14 := (f2.trans f13 (fun k hk => (g2 k hk).imp id id)).trans f14 (fun k hk => (g2 k hk).imp id id)
      have g14' : Grw F F14 w11.heap.size := fun b hb => by
        rcases g14 b hb with q | q
        · exact g2 b q
        · exact .inr (by omega)
      have t14 : Tk ((done ++ [g]).length : Int) ss (tickA ss2 agent) := t13.up (by simp)
      have er2 : o.fs = (done ++ [g]) ++ rs2 := by rw [ers]; simp
      refine ⟨fit64 (by omega) (by omega), ⟨rs2, done ++ [g], F14, _, _, _, rfl, er2, P14, G3, t14, f14', g14'⟩, ?_⟩
      have := (leastN_spec (P := fun k => ∃ rs done F' free' ws' ss', nx rs2 - 1 = nx rs - 1 ∧ o.fs = done ++ rs ∧ Pool w14 F' pb ab wb sb 0 count free' ws' ss' ∧ Giving ws ws' count free free' done ∧ Tk done.length ss ss' ∧ Fr F w11 w14 ∧ Grw F F' w11.heap.size ∧ k = rs.length)
        ⟨rs2.length, rs2, done ++ [g], F14, _, _, _, rfl, er2, P14, G3, t14, f14', g14', rfl⟩).2 rs2.length ⟨rs2, done ++ [g], F14, _, _, _, rfl, er2, P14, G3, t14, f14', g14', rfl⟩
      dsimp only
      rw [e1] at hkk
      rw [← hkk]
      refine Nat.lt_of_le_of_lt this ?_
      rw [hk]; simp
  exact r_f90 _ _ _ _ _ ⟨_, h.hd.cell rfl, h.look ref (fun o ho e => tail _ _ true (fun _ => ⟨o, ho, e, rfl, rfl⟩) (fun h => by cases h)) (fun hn => tail 0 0 false (fun h => by cases h) (fun _ => hn))⟩
end
end Go.Proofs.Ytfpghcdjfiggiaa.V
