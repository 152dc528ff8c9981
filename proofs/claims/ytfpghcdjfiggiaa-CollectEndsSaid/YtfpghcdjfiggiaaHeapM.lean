/- The heap: a new cell is made. No condition. -/
import Derived.Test.YtfpghcdjfiggiaaHeapE
namespace Go.Proofs.Ytfpghcdjfiggiaa.V
open Go Go.RowKit

theorem mu_pos {g : SG} {l : List Arr} {ws : List Int} (I : SInv g l ws) (ha : g.act = true) : 0 ≤ mu l g.left := by
  have mu0 : ∀ r' : List Int, (∀ q ∈ r', q ∈ g.left) → 0 ≤ mu l r' := fun r' => by
    induction r' with
    | nil => intro _; exact Int.le_refl 0
    | cons q r' ih =>
      intro hq
      have h1 := ih (fun z hz => hq z (by simp [hz]))
      have h2 : 0 ≤ todo l q := by
        by_cases hx : ∃ x ∈ l, x.id = q
        · obtain ⟨x, hx, rfl⟩ := hx
          rw [todo_some I.ids hx]
          have := I.E ha x hx ((I.Lf ha).2.1 x hx (hq _ (by simp)))
          omega
        · rw [todo_none fun x hx' e => hx ⟨x, hx', e⟩]; omega
      unfold mu; omega
  exact mu0 _ (fun _ h => h)

theorem csum_app (a b : List HC) : csum (a ++ b) = csum a + csum b := by
  induction a with
  | nil => simp [csum]
  | cons c a ih => simp [csum, ih]; omega

theorem least_ex {P : Nat → Prop} (h : ∃ k, P k) : ∃ k, P k ∧ ∀ j, P j → k ≤ j := by
  obtain ⟨k, hk⟩ := h
  induction k using Nat.strongRecOn with
  | _ k ih =>
    by_cases q : ∃ j, j < k ∧ P j
    · obtain ⟨j, hj, hp⟩ := q
      exact ih j hj hp
    · refine ⟨k, hk, fun j hj => ?_⟩
      rcases Nat.lt_or_ge j k with q2 | q2
      · exact absurd ⟨j, q2, hj⟩ q
      · exact q2
/-- The least of what holds. -/
noncomputable def leastN (P : Nat → Prop) : Nat := by
  classical
  exact if h : ∃ k, P k then Classical.choose (least_ex h) else 0
theorem leastN_spec {P : Nat → Prop} (h : ∃ k, P k) : P (leastN P) ∧ ∀ j, P j → leastN P ≤ j := by
  classical
  unfold leastN
  rw [dif_pos h]
  exact Classical.choose_spec (least_ex h)

section
variable {w w' : World} {F S : List Nat} {hb hm s mb ab wb sb clk clk2 lc : Nat} {last room words : Int} {cs : List HC} {g : SG} {l : List Arr} {ws ss : List Int} {la : Option Addr}

theorem hmake_c (h : Hp w F hb hm s mb ab wb sb g l ws ss la lc clk2 clk last room words cs) (hl : last ≤ 100000 ∧ g.last ≤ 100000) (agent kind cls n : Int) {K : Int → Int → World → Prop}
    (hag : ¬ (0 ≤ agent ∧ agent < ss.length) → ∀ w', (∀ S, Fr S w w') → K 0 904 w')
    (hform : (0 ≤ agent ∧ agent < ss.length) → formE kind cls n ≠ 0 → ∀ w', (∀ S, Fr S w w') → K 0 (formE kind cls n) w')
    (hfull : (0 ≤ agent ∧ agent < ss.length) → formE kind cls n = 0 → room - csum cs < n + 16 → ∀ w', (∀ S, Fr S w w') → K 0 901 w')
    (hok : (0 ≤ agent ∧ agent < ss.length) → formE kind cls n = 0 → ¬ room - csum cs < n + 16 → ∀ w' F' g' l2 x ws' ss' la' lc' clk2' clk', x.id = g'.last → g'.last = g.last + 1 → x.n = n → x.vs = List.replicate n.toNat 0 → vw l2 = vw l →
      Hp w' F' hb hm s mb ab wb sb g' (l2 ++ [x]) ws' ss' la' lc' clk2' clk' (last + 1) room words (cs ++ [⟨last + 1, kind, cls, n, x.id, clk⟩]) → Fr (hb :: hm :: F) w w' → Grw F F' w.heap.size → Tk 100000 ss ss' → K (last + 1) 0 w') :
    C81 (some ⟨hb, 0, none⟩) agent kind cls n w K := by
  have hsz : ∀ c ∈ cs, 0 ≤ c.n := h.J.sz
  have hfit := h.J.fit
  have hgeo := h.J.geo
  have hl0 := h.J.l0
  obtain ⟨e1, e2, e3⟩ := h.H.ne
  have refl : ∀ S, Fr S w w := fun S => Fr.refl S w
  refine r_f81 _ _ _ _ _ _ _ ⟨_, h.H.hd.cell rfl, agent_c h.S.ar agent (IfB.nd (fun ha => ?_) (fun ha => hag ha w refl))⟩
  refine form_c kind cls n (IfB.nd (fun hf => ?_) (fun hf => hform ha hf w refl))
  have hn := formE_ok hf
  refine ⟨fit64 (by omega) (by omega), hroom_c h.H hsz ⟨hfit, by omega⟩ fun w1 f1 => ?_⟩
  refine IfB.dec (fun hr => hfull ha hf hr w1 f1) (fun hr => ?_)
  have hcn := csum_need h.J.rel
  have hneed0 := need_pos l (fun x hx => (h.I.sz x hx).1)
  refine ⟨fun i w' => ((i = 0) ∨ (i = 1)) ∧ ∃ F' g' l' ws' ss' la' lc' clk2', Hp w' F' hb hm s mb ab wb sb g' l' ws' ss' la' lc' clk2' clk last room words cs ∧ vw l' = vw l ∧ (i = 1 → g'.owed = 0) ∧ g'.last = g.last ∧ Tk (80000 * i) ss ss' ∧ Fr F w w' ∧ Grw F F' w.heap.size, fun i _ => (2 - i).toNat,
    ⟨.inl rfl, F, g, l, ws, ss, la, lc, clk2, h.fr0 f1, rfl, fun h => by omega, rfl, Tk.refl ss, f1 F, fun b hb => .inl hb⟩, ?_⟩
  rintro - i w2 ⟨hi, F2, g2, l2, ws2, ss2, la2, lc2, ck2, h2, ev, how, hlast, t2, f2, g2'⟩
  have hs2 := t2.1
  have hg2 := h2.J.geo
  have hcn2 := csum_need h2.J.rel
  have z2 := f2.size
  refine IfB.yes (by omega) ⟨_, h2.H.hd.cell rfl, spmake_c h2.S h2.I (by omega) agent n (fun hb => absurd (by omega) hb) (fun _ hb => absurd hn hb) (fun _ _ hfl w3 f3 => ?_) (fun _ _ hfl w3 F3 x ws3 ss3 x1 x2 x3 S3 I3 f3 g3 t3 => ?_)⟩
  · -- full: a whole cycle
    have hi0 : i = 0 := by
      rcases hi with q | q
      · exact q
      · have := how q; omega
    subst hi0
    have h3 := h2.fr0 f3
    refine IfB.no (by omega) ⟨_, h3.H.hd.cell rfl, spcycle_c h3.S h3.I (by omega) (fun hon => by rw [h3.J.act] at hon; cases hon) (fun _ w4 F4 l4 left4 la4 lc4 tt S4 I4 ec mu4 f4 g4 => ?_)⟩
    have hnl := h3.I.rm
    have hng := h3.I.geo
    have how3 := h3.I.ow
    have ev4 : vw l4 = vw l2 := core_map ec _ (fun p => (p.1, p.2.2.2.2.2)) (fun _ => rfl)
    have en4 : l4.map (·.n) = l2.map (·.n) := core_map ec _ (fun p => p.2.2.2.1) (fun _ => rfl)
    let Q := fun (b : Bool) (w' : World) (k : Nat) => ∃ F' g' l' ws' ss' la' lc' ck, HpAt w' F' hb hm s ab last room cs clk ∧ SpAt w' F' s mb ab wb sb g' l' ws' ss' la' lc' ck ∧ SInv g' l' ws' ∧ vw l' = vw l2 ∧ l'.map (·.n) = l2.map (·.n) ∧ g'.half = g2.half ∧ g'.last = g2.last ∧ Fr F2 w3 w' ∧ Grw F2 F' w3.heap.size ∧
        ((b = true ∧ g'.act = true ∧ g'.late = 0 ∧ (k : Int) = mu l' g'.left + 1 ∧ ∃ m : Int, 0 ≤ m ∧ mu l' g'.left + m ≤ need l2 ∧ Tk (2 * m) ss2 ss') ∨ (b = false ∧ g'.act = false ∧ g'.owed = 0 ∧ k = 0 ∧ Tk (2 * need l2) ss2 ss'))
    refine ⟨fun b w' => ∃ k, Q b w' k, fun b w' => leastN (Q b w'), ?_, ?_⟩
    · have mp := mu_pos I4 rfl
      exact ⟨(mu l4 left4 + 1).toNat, F4, _, l4, ws2, ss2, la4, lc4, ck2, h3.H.sp f4 g4, S4, I4, ev4, en4, rfl, rfl, f4, g4, .inl ⟨rfl, rfl, rfl, by dsimp only at mp ⊢; omega, 0, by decide, by simpa using mu4, Tk.refl ss2⟩⟩
    · rintro - b w5 hQ
      obtain ⟨hq, hmin⟩ := leastN_spec hQ
      obtain ⟨k, hkk⟩ : ∃ k, k = leastN (Q b w5) := ⟨_, rfl⟩
      rw [← hkk] at hq hmin
      obtain ⟨F5, g5, l5, ws5, ss5, la5, lc5, ck5, H5, S5, I5, ev5, en5, eh5, el5, f5, gr5, hc⟩ := hq
      have next : ∀ (b' : Bool) (w' : World) (k' : Nat), Q b' w' k' → k' < k → (∃ k, Q b' w' k) ∧ leastN (Q b' w') < leastN (Q b w5) := fun b' w' k' hq' hk' => ⟨⟨k', hq'⟩, by rw [← hkk]; exact Nat.lt_of_le_of_lt ((leastN_spec ⟨k', hq'⟩).2 k' hq') hk'⟩
      rcases hc with ⟨rfl, a5, t5, hk, m, hm0, hm1, tk5⟩ | ⟨rfl, a5, o5, hk, tk5⟩
      · refine ifb_t ⟨_, H5.hd.cell rfl, spstep_c S5 I5 agent (fun hx => absurd ⟨ha.1, by rw [tk5.1, hs2]; exact ha.2⟩ hx) (fun _ hoff => by rw [a5] at hoff; cases hoff) (fun _ _ hmu w6 S6 I6 f6 => ?_) (fun _ _ hmu w6 left6 l6 ws6 ss6 la6 lc6 S6 I6 f6 v6 n6 mu6 tk6 eb => ?_)⟩
        · exact next false w6 0 ⟨F5, _, l5, ws5, ss5, la5, lc5, ck5, H5.sp f6 (fun b hb => .inl hb), S6, I6, ev5, en5, eh5, el5, f5.trans f6 (fun b hb => gr5 b hb), gr5, .inr ⟨rfl, rfl, t5, rfl, tk5.up (by omega)⟩⟩ (by omega)
        · exact next true w6 (k - 1) ⟨F5, _, l6, ws6, ss6, la6, lc6, ck5, H5.sp f6 (fun b hb => .inl hb), S6, I6, v6.trans ev5, n6.trans en5, eh5, el5, f5.trans f6 (fun b hb => gr5 b hb), gr5, .inl ⟨rfl, a5, t5, by dsimp only; omega, m + 1, by omega, by dsimp only; omega, (tk5.trans tk6 (by omega) (by decide)).up (by omega)⟩⟩ (by omega)
      · have J5 : HInv g5 l5 last room words cs := ⟨h2.J.rel.trans (pair_map (vw_ids ev5) en5).symm, h.J.ids, h.J.l0, h.J.sz, h.J.fit, ⟨hgeo.1, eh5.trans hg2.2.1, hgeo.2.2⟩, a5⟩
        have z3 := (f3 []).size
        have hn2 := need_pos l2 (fun x hx => (h3.I.sz x hx).1)
        exact ifb_f ⟨fit64 (by omega) (by omega), ⟨.inr rfl, F5, g5, l5, ws5, ss5, la5, lc5, ck5, ⟨H5, S5, I5, J5⟩, ev5.trans ev, fun _ => o5, el5.trans hlast, (t2.trans tk5 (by decide) (by omega)).up (by omega), (f2.more (f3 F)).trans f5 (fun k hk => g2' k hk), fun k hk => by
          rcases gr5 k hk with q | q
          · exact g2' k q
          · exact .inr (by omega)⟩, by dsimp only; omega⟩
  · -- there is room
    obtain ⟨m1, m2, m3, m4, m5, m6, m7⟩ := h2.S.mem
    have h3 := h2.H.sp f3 g3
    obtain ⟨q1, q2, q3⟩ := h3.ne
    refine IfB.yes rfl ⟨_, h3.hd.cell rfl, fit64 (by omega) (by omega), h3.hd.may (by simp), fun w4 s4 => fun w5 d5 => ?_⟩
    have B5 := (s4.blk h3.hd).fr (d5.fr []) (by simp)
    have f5 : Fr [hb] w3 w5 := (s4.fr (by simp)).more (d5.fr _)
    have M5 := h3.mi.fr f5 (by simp; exact fun e => q1 e.symm)
    have S5 := S3.frame f5 (fun k hk hk2 => by simp at hk2; subst hk2; exact q2 hk)
    have hnone : mget (cs.map hent) (last + 1) = none := mget_no fun e he => by
      obtain ⟨c, hc, rfl⟩ := List.mem_map.1 he
      have := h.J.ids c hc
      show c.ref ≠ last + 1
      omega
    obtain ⟨w6, m', clk', hrun, M6, f6, hm'⟩ := run_update (P := Try.prog) M5 (t := 195) (kt := 3) (et := 199) (by kernel_rfl) (by kernel_rfl) (last + 1) (.agg #[.int .i64 kind, .int .i64 cls, .int .i64 n, .int .i64 (g2.last + 1)])
    rcases hm' with ⟨hm', _⟩ | ⟨_, rfl, rfl⟩
    · exact absurd hnone hm'
    have B6 := B5.fr f6 (by simpa using q1)
    have S6 := S5.frame f6 (fun k hk hk2 => by simp at hk2; subst hk2; exact q3 hk)
    refine ⟨_, B5.cell rfl, _, B5.cell rfl, w6, hrun, _, B6.cell rfl, ?_⟩
    refine hok ha hf hr w6 F3 _ l2 x ws3 ss3 la2 lc2 _ _ x1 (by dsimp only; omega) x2 x3 ev ⟨⟨by simpa using B6, by rw [List.map_append]; rw [x1]; exact M6, q1, q2, q3⟩, S6, I3, ⟨by rw [List.map_append, List.map_append, h2.J.rel]; simp [x2], ?_, by omega, ?_, ?_, hg2, h2.J.act⟩⟩ ?_ ?_ ((t2.trans t3 (by omega) (by omega)).up (by omega))
    · intro c hc
      rcases List.mem_append.1 hc with hc | hc
      · have := h.J.ids c hc; omega
      · simp at hc; subst hc; dsimp only; omega
    · intro c hc
      rcases List.mem_append.1 hc with hc | hc
      · exact hsz c hc
      · simp at hc; subst hc; exact hn.1
    · rw [csum_app]
      simp only [csum]
      omega
    · have a1 : Fr (hb :: hm :: F) w w2 := f2.mono (fun k hk => .inl (by simp [hk]))
      have a2 := a1.trans f3 (fun k hk => (g2' k hk).imp (fun q => by simp [q]) id)
      have a3 := a2.trans f5 (fun k hk => .inl (by simp at hk; simp [hk]))
      exact a3.trans f6 (fun k hk => .inl (by simp at hk; simp [hk]))
    · intro k hk
      rcases g3 k hk with q | q
      · exact g2' k q
      · exact .inr (by omega)
end
end Go.Proofs.Ytfpghcdjfiggiaa.V
