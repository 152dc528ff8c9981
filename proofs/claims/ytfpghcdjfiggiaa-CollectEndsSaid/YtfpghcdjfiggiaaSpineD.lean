/- Arrays that move: a step, and a new array. No condition. -/
import Derived.Test.YtfpghcdjfiggiaaSpineC
namespace Go.Proofs.Ytfpghcdjfiggiaa.V
open Go Go.RowKit

section
variable {w w' : World} {F S : List Nat} {s mb ab wb sb clk lc : Nat} {g : SG} {l : List Arr} {ws ss : List Int} {la : Option Addr}

theorem rep_vw {x x' : Arr} (I : SInv g l ws) (hx : x ∈ l) (e1 : x'.id = x.id) (e2 : x'.vs = x.vs) : vw (rep l x') = vw l := rep_map _ fun y hy e => by rw [I.same hy hx (e.trans e1), e1, e2]

theorem todo_rep {x x' : Arr} (I : SInv g l ws) (hx : x ∈ l) (e1 : x'.id = x.id) {k : Int} (hk : k ≠ x.id) : todo (rep l x') k = todo l k := by
  have nd' : ((rep l x').map (·.id)).Nodup := by rw [rep_map (·.id) fun y hy e => e]; exact I.ids
  by_cases h : ∃ y ∈ l, y.id = k
  · obtain ⟨y, hy, rfl⟩ := h
    rw [todo_some nd' (rep_mem hy (by rw [e1]; exact hk)), todo_some I.ids hy]
  · have h : ∀ y ∈ l, y.id ≠ k := fun y hy e => h ⟨y, hy, e⟩
    rw [todo_none h, todo_none fun y hy => by
      rcases mem_rep hy with rfl | ⟨hy, _⟩
      · rw [e1]; exact fun e => hk e.symm
      · exact h y hy]

/-- A step of a cycle. -/
theorem spstep_c (h : SpAt w F s mb ab wb sb g l ws ss la lc clk) (I : SInv g l ws) (agent : Int) {K : Bool → Int → World → Prop}
    (hag : ¬ (0 ≤ agent ∧ agent < ss.length) → K false 704 w) (hoff : (0 ≤ agent ∧ agent < ss.length) → g.act = false → K false 0 w)
    (hend : (0 ≤ agent ∧ agent < ss.length) → g.act = true → mu l g.left = 0 → ∀ w', SpAt w' F s mb ab wb sb { g with act := false, other := !g.other, owed := g.late, late := 0 } l ws ss la lc clk → SInv { g with act := false, other := !g.other, owed := g.late, late := 0 } l ws → Fr F w w' → K false 0 w')
    (hgo : (0 ≤ agent ∧ agent < ss.length) → g.act = true → 1 ≤ mu l g.left → ∀ w' left' l' ws' ss' la' lc', SpAt w' F s mb ab wb sb { g with left := left' } l' ws' ss' la' lc' clk → SInv { g with left := left' } l' ws' → Fr F w w' → vw l' = vw l → l'.map (·.n) = l.map (·.n) → mu l' left' = mu l g.left - 1 → Tk 2 ss ss' → ablk la' = ablk la → K true 0 w') :
    C73 (some ⟨s, 0, none⟩) agent w K := by
  obtain ⟨d1, d2, d3, d4, d5, d6, d7⟩ := h.d0
  obtain ⟨m1, m2, m3, m4, m5, m6, m7⟩ := h.mem
  have hg := I.geo
  refine r_f73 _ _ _ _ ⟨_, h.hd.cell rfl, agent_c h.ar agent (IfB.nd (fun h0 => ?_) (fun h0 => hag h0))⟩
  refine ⟨g.act, h.hd.cell rfl, ?_⟩
  cases ha : g.act with
  | false => exact ifb_t (hoff h0 ha)
  | true =>
  refine ifb_f ⟨_, _, _, h.hd.cell rfl, IfB.dec (fun hl => ?_) (fun hl => ?_)⟩
  · have hl : g.left = [] := List.eq_nil_of_length_eq_zero (by omega)
    refine ⟨fun w' => SpAt w' F s mb ab wb sb { g with act := false, other := !g.other, owed := g.late } l ws ss la lc clk ∧ Fr F w w', fun w1 t1 => ?_, ?_⟩
    · have H1 := h.fr0 (t1.fr [])
      refine ⟨_, H1.hd.cell rfl, _, H1.hd.cell rfl, H1.hd.may (by simp [spHd]), fun w2 s2 => ?_⟩
      have B2 := s2.blk H1.hd
      refine ⟨B2.may (by simp [spHd]), fun w3 s3 => ?_⟩
      have B3 := s3.blk B2
      refine ⟨B3.may (by simp [spHd]), fun w4 s4 => ?_⟩
      have B4 := s4.blk B3
      have f : Fr [s] w1 w4 := ((s2.fr (by simp)).more (s3.fr (by simp))).more (s4.fr (by simp))
      exact ⟨H1.head (g' := { g with act := false, other := !g.other, owed := g.late }) rfl (by simpa [spHd] using B4) f, (t1.fr F).trans f (by simpa using .inl m1)⟩
    · rintro - w1 ⟨H1, f1⟩
      refine ⟨H1.hd.may (by simp [spHd]), fun w2 s2 => ?_⟩
      have B2 := s2.blk H1.hd
      have f2 : Fr [s] w1 w2 := s2.fr (by simp)
      exact hend h0 ha (by rw [hl]; rfl) w2 (H1.head (g' := { g with act := false, other := !g.other, owed := g.late, late := 0 }) rfl (by simpa [spHd] using B2) f2) (I.finish ha hl) (f1.trans f2 (by simpa using .inl m1))
  · obtain ⟨k, r, hkr⟩ : ∃ k r, g.left = k :: r := by
      cases hg2 : g.left with
      | nil => rw [hg2] at hl; exact absurd rfl hl
      | cons k r => exact ⟨k, r, rfl⟩
    have hmu : mu l g.left = todo l k + mu l r := by rw [hkr]; rfl
    have nd := (I.Lf ha).1
    rw [hkr, List.nodup_cons] at nd
    have mu0 : ∀ r' : List Int, (∀ q ∈ r', q ∈ g.left) → 0 ≤ mu l r' := fun r' => by
      induction r' with
      | nil => intro _; exact Int.le_refl 0
      | cons q r' ih =>
        intro hq
        have h1 := ih (fun z hz => hq z (by simp [hz]))
        have h2 : 0 ≤ todo l q := by
          by_cases hx : ∃ x ∈ l, x.id = q
          · obtain ⟨x, hx, rfl⟩ := hx
            rw [todo_some I.ids hx]
            have := I.E ha x hx ((I.Lf ha).2.1 x hx (hq _ (by simp)))
            omega
          · rw [todo_none fun x hx' e => hx ⟨x, hx', e⟩]; omega
        unfold mu; omega
    have hmr := mu0 r (fun q hq => by rw [hkr]; simp [hq])
    -- the row without its first
    have cut : ∀ (w1 : World) (l1 : List Arr), SpAt w1 F s mb ab wb sb g l1 ws ss la lc clk → ((0 : Int) ≤ 1 ∧ (1 : Int) ≤ (g.left.length : Int)) ∧ May w1 ⟨s, 9, none⟩ ∧ ∀ w2 : World, SetC w1 w2 ⟨s, 9, none⟩ (.slice (Adv la lc (Int.toNat 1) 1) (g.left.length - Int.toNat 1) (lc - Int.toNat 1)) →
        SpAt w2 F s mb ab wb sb { g with left := r } l1 ws ss (Adv la lc 1 1) (lc - 1) clk ∧ Fr F w1 w2 ∧ ablk (Adv la lc 1 1) = ablk la := by
      intro w1 l1 H1
      refine ⟨⟨by decide, by rw [hkr]; simp; omega⟩, H1.hd.may (by simp [spHd]), fun w2 s2 => ?_⟩
      have B2 := s2.blk H1.hd
      have f2 : Fr [s] w1 w2 := s2.fr (by simp)
      obtain ⟨c1, c2⟩ := SI.cut H1.lf (lo := 1) (hi := g.left.length) (by rw [hkr]; simp) (Nat.le_refl _)
      have e1 : (g.left.drop 1).take (g.left.length - 1) = r := by rw [hkr]; simp
      rw [e1] at c1
      have H2 := H1.head (g' := g) rfl (la := la) (w' := w2)
      refine ⟨⟨?_, H1.mi.fr f2 (by simp; omega), fun x hx => (H1.rc x hx).fr f2 (by have := H1.d2 x hx; simp; omega), c1.fr f2 (fun b hb hb2 => by rw [c2] at hb; have := H1.d1 b hb; simp at hb2; omega), H1.ar.fr f2 (by simp; omega) (by simp; omega) (by simp; omega), H1.d0, by rw [c2]; exact H1.d1, by rw [c2]; exact H1.d2, H1.d3, by rw [c2]; exact H1.F⟩, f2.mono (by simpa using .inl m1), c2⟩
      have : g.left.length - 1 = r.length := by rw [hkr]; simp
      simpa [spHd, this] using B2
    have hfd : ∀ {q : Option Addr} {b : Bool}, True := fun {_ _} => trivial
    refine ⟨fun q b w' => (∀ S, Fr S w w') ∧ ((∃ x ∈ l, x.id = k ∧ q = some ⟨x.b, 0, none⟩ ∧ b = true) ∨ ((∀ x ∈ l, x.id ≠ k) ∧ b = false)), fun w1 t1 => ?_, ?_⟩
    · have H1 := h.fr0 (t1.fr [])
      refine ⟨_, H1.hd.cell rfl, _, _, _, H1.hd.cell rfl, H1.lf.get (i := 0) (by decide) (by rw [hkr]; simp <;> omega) fun p hp => ⟨⟨by decide, by rw [hkr]; simp <;> omega⟩, k, ?_, H1.look k (fun x hx e => ⟨t1.fr, .inl ⟨x, hx, e, rfl, rfl⟩⟩) (fun hn => ⟨t1.fr, .inr ⟨hn, rfl⟩⟩)⟩⟩
      rw [hp, hkr]; rfl
    rintro - q b w1 ⟨f1, hq⟩
    have H1 := h.fr0 (f1 [])
    rcases hq with ⟨x, hx, rfl, rfl, rfl⟩ | ⟨hn, rfl⟩
    · have hm := (I.Lf ha).2.1 x hx (by rw [hkr]; simp)
      have hE := I.E ha x hx hm
      have htd := todo_some I.ids hx
      have sz := I.sz x hx
      have hin := I.inn hx
      have hin2 := I.inn2 ha hx hm
      refine ifb_nyes rfl fun w2 t2 => ?_
      have H2 := H1.fr0 (t2.fr [])
      have f2 : ∀ S, Fr S w w2 := fun S => (f1 S).more (t2.fr S)
      refine PtrOK.of rfl ⟨_, (H2.rc x hx).cella rfl, PtrOK.of rfl ⟨_, (H2.rc x hx).cella rfl, IfB.dec (fun hc => ?_) (fun hc => ?_)⟩⟩
      · refine ⟨fun v w' => v = ws.getD (x.pl + 4 + x.cp).toNat 0 ∧ SpAt w' F s mb ab wb sb g l ws (tickA ss agent) la lc clk ∧ Fr F w w', fun w3 t3 => ?_, ?_⟩
        · have H3 := H2.fr0 (t3.fr [])
          refine ⟨_, H3.hd.cell rfl, PtrOK.of rfl ⟨_, (H3.rc x hx).cella rfl, fit64 (by omega) (by omega), PtrOK.of rfl ⟨_, (H3.rc x hx).cella rfl, fit64 (by omega) (by omega), load_c H3.ar agent _ (fun hn => absurd (mayA_ok h0 (by omega)) hn) (fun _ w4 A4 f4 => ?_)⟩⟩⟩
          exact ⟨rfl, H3.words A4 f4, ((f2 F).more (t3.fr F)).trans f4 (by simp; exact ⟨.inl m4, .inl m5⟩)⟩
        rintro - v w3 ⟨rfl, H3, f3⟩
        intro w4 t4
        have H4 := H3.fr0 (t4.fr [])
        have tl : (tickA ss agent).length = ss.length := by simp [tickA]
        refine ⟨_, H4.hd.cell rfl, PtrOK.of rfl ⟨_, (H4.rc x hx).cella rfl, fit64 (by omega) (by omega), PtrOK.of rfl ⟨_, (H4.rc x hx).cella rfl, fit64 (by omega) (by omega), store_c H4.ar agent _ _ (fun hn => absurd (mayA_ok (by omega) (by omega)) hn) (fun _ w5 A5 f5 => ?_)⟩⟩⟩
        have H5 := H4.words A5 f5
        refine PtrOK.of rfl ⟨_, (H5.rc x hx).cella rfl, fit64 (by omega) (by omega), PtrOK.of rfl ⟨(H5.rc x hx).maya (by simp [encR]), fun w6 s6 => ?_⟩⟩
        have B6 := s6.blka (H5.rc x hx)
        have f6 : Fr [x.b] w5 w6 := s6.fra
        have H6 := H5.rec_ (x' := { x with cp := x.cp + 1 }) hx (fun y hy e => I.same hy hx e) rfl rfl rfl (by simpa [encR] using B6) f6
        have I6 := I.copy ha hx hm hc
        refine hgo h0 ha (by omega) w6 g.left _ _ _ la lc H6 I6 (((f3.more (t4.fr F)).trans f5 (by simp; exact ⟨.inl m4, .inl m5⟩)).trans f6 (by simp; exact .inl (m7 x hx))) (rep_vw I hx rfl rfl) (rep_map _ fun y hy e => by rw [I.same hy hx e]) ?_ (by simpa using (Tk.tick ss h0.1 h0.2).trans (Tk.tick (tickA ss agent) h0.1 (by omega)) (by decide) (by decide)) rfl
        rw [hkr]
        unfold mu
        rw [mu_congr r fun q hq => todo_rep (x' := { x with cp := x.cp + 1 }) I hx rfl (fun e => nd.1 (e ▸ hq)), todo_some I6.ids (rep_self hx rfl), htd]
        dsimp only
        omega
      · refine PtrOK.of rfl ⟨_, (H2.rc x hx).cella rfl, PtrOK.of rfl ⟨(H2.rc x hx).maya (by simp [encR]), fun w3 s3 => ?_⟩⟩
        have B3 := s3.blka (H2.rc x hx)
        have f3 : Fr [x.b] w2 w3 := s3.fra
        refine PtrOK.of rfl ⟨B3.maya (by simp [encR]), fun w4 s4 => ?_⟩
        have B4 := s4.blka B3
        have f4 : Fr [x.b] w2 w4 := f3.more s4.fra
        have H4 := H2.rec_ (x' := { x with pl := x.to, mv := true }) hx (fun y hy e => I.same hy hx e) rfl rfl rfl (by simpa [encR] using B4) f4
        obtain ⟨c1, c2, c3⟩ := cut w4 _ H4
        refine ⟨_, _, _, H4.hd.cell rfl, c1, c2, fun w5 s5 => ?_⟩
        obtain ⟨H5, f5, eb⟩ := c3 w5 s5
        have I5 := I.move ha hx hm hc hkr
        refine hgo h0 ha (by omega) w5 r _ _ ss _ _ H5 I5 (((f2 F).trans f4 (by simp; exact .inl (m7 x hx))).more f5) (rep_vw I hx rfl rfl) (rep_map _ fun y hy e => by rw [I.same hy hx e]) ?_ ((Tk.refl ss).up (by decide)) eb
        rw [mu_congr r fun q hq => todo_rep (x' := { x with pl := x.to, mv := true }) I hx rfl (fun e => nd.1 (e ▸ hq)), hmu, htd]
        omega
    · obtain ⟨c1, c2, c3⟩ := cut w1 _ H1
      refine ifb_nno rfl ⟨_, _, _, H1.hd.cell rfl, c1, c2, fun w2 s2 => ?_⟩
      obtain ⟨H2, f2, eb⟩ := c3 w2 s2
      have htd := todo_none hn
      exact hgo h0 ha (by omega) w2 r l ws ss _ _ H2 (I.dead hkr hn) ((f1 F).more f2) rfl rfl (by omega) ((Tk.refl ss).up (by decide)) eb
end
end Go.Proofs.Ytfpghcdjfiggiaa.V
