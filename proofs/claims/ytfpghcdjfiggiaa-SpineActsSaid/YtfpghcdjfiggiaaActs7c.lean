/- The law SpineActs: a cycle's calls. No condition. -/
import Derived.Test.YtfpghcdjfiggiaaActs7b
namespace Go.Proofs.Ytfpghcdjfiggiaa.V
open Go Go.RowKit

section
variable {W w w' : World} {F F' S : List Nat} {s ab y : Nat} {g g' : SG} {l l' : List Arr} {ss ss' : List Int} {aa : Option Addr} {ac : Nat} {rs : List PR} {beg n : Int} {und : Bool}

theorem gsum_none (p : PR → Bool) (a : List PR) (h : ∀ r ∈ a, p r = false) : gsum p a = 0 := by
  induction a with
  | nil => rfl
  | cons r a ih => unfold gsum; rw [h r (by simp), ih (fun r hr => h r (by simp [hr]))]; simp

theorem B17.tick (b : B17 g l ss rs beg n) (hn : n < 400) {c : Int} (t : Tk c ss ss') (hc : 0 ≤ c ∧ c ≤ 1100) : B17 g l ss' rs beg (n + 1) := by
  have hnn := b.nn
  refine ⟨b.rel, b.ow, b.lt, b.by_, b.nd, b.ids, by omega, fun a => ?_⟩
  have h1 := t.2 (1100 * n) (by omega) b.tk a
  have h2 := b.tk a
  omega

theorem Y17.steps (h : Y17 W w F s ab y g l ss aa ac rs beg und) (agent : Int) {K : Int → World → Prop} (hK : K (if 0 ≤ agent ∧ agent < 3 then ss.getD agent.toNat 0 else 0) w) : C128 (some ⟨ab, 0, none⟩) agent w K := by
  obtain ⟨mb, wb, sb, ws, la, lc, clk, H, I⟩ := h.S
  refine steps_c H.ar agent ?_
  rw [h.s3]
  exact hK

theorem cycle151_c (h : Y17 W w F s ab y g l ss aa ac rs beg g.act) (b : B17 g l ss rs beg n) (hn : n < 400) (hl : rs.length ≤ n) (kind ag xc xd v : Int) {K : Bool → World → Prop}
    (hK : ∀ w' F' g' l' ss' aa' ac' rs' beg', Y17 W w' F' s ab y g' l' ss' aa' ac' rs' beg' g'.act → B17 g' l' ss' rs' beg' (n + 1) → rs'.length ≤ n + 1 → K true w') : C151 (some ⟨y, 0, none⟩) kind ag xc xd v w K := by
  have hnn := b.nn
  have more : B17 g l ss rs beg (n + 1) := by simpa using b.tick hn ((Tk.refl ss).up (d := 0) (by decide)) (by decide)
  refine r_f151 _ _ _ _ _ _ _ _ fun b1 w1 n1 => ?_
  have H1 := h.fr0 n1.fr
  have X1 := n1.blk
  have x1 := n1.ge
  have lF := h.lowF
  have b1F : b1 ∉ F := fun hb => by have := lF b1 hb; omega
  refine ⟨kind, X1.cell rfl, IfB.dec (fun h7 => ⟨_, H1.Y.cell rfl, ?_⟩) (fun h7 => fun w2 d2 => ?_)⟩
  · obtain ⟨mb, wb, sb, ws, la, lc, clk, H, I⟩ := H1.S
    refine spcycle_c H I (by omega) (fun ha => ⟨_, H1.Y.cell rfl, ifb_yes ha (hK _ _ _ _ _ _ _ _ _ H1 more (by omega))⟩) (fun ha w2 F2 l2 left2 la2 lc2 t2 H2 I2 ec _ f2 g2 => ?_)
    have Y2 := H1.stk ⟨mb, wb, sb, ws, la2, lc2, clk, H2, I2⟩ rfl H1.s3 f2 g2
    refine ⟨_, Y2.Y.cell rfl, ifb_no ha ⟨Y2.Y.may (by simp), fun w3 s3 => ?_⟩⟩
    have Y3 := Y2.head (beg' := beg) (und' := true) (by simpa using s3.blk Y2.Y) (s3.fr (by simp))
    refine ⟨_, Y3.Y.cell rfl, fit64 (by omega) (by omega), Y3.Y.may (by simp), fun w4 s4 => ?_⟩
    have Y4 := Y3.head (beg' := beg + 1) (und' := true) (by simpa using s4.blk Y3.Y) (s4.fr (by simp))
    refine hK w4 F2 _ l2 ss aa ac rs (beg + 1) Y4 ⟨?_, b.ow, fun _ => ?_, fun r hr => by have := b.by_ r hr; omega, b.nd, b.ids, by dsimp only; omega, more.tk⟩ (by omega)
    · rw [b.rel]
      exact (core_map ec _ (fun p => (p.1, p.2.2.2.2.2)) (fun _ => rfl)).symm
    · refine gsum_none _ _ fun r hr => ?_
      have := b.by_ r hr
      have : ¬ beg + 1 ≤ r.by_ := by omega
      simp [this]
  · have H2 := H1.fr0 d2.fr
    have X2 := X1.fr (d2.fr []) (by simp)
    refine ⟨_, H2.Y.cell rfl, ag, X2.cell rfl, H2.steps ag ?_⟩
    generalize hst : (if 0 ≤ ag ∧ ag < 3 then ss.getD ag.toNat 0 else 0) = st
    refine ⟨fun mo e w' => Blk w' b1 [.int .i64 kind, .int .i64 ag, .int .i64 xc, .int .i64 xd, .int .i64 v] ∧ ((mo = false ∧ e = 704 ∧ ¬ (0 ≤ ag ∧ ag < 3) ∧ Y17 W w' F s ab y g l ss aa ac rs beg g.act) ∨
        ((0 ≤ ag ∧ ag < 3) ∧ e = 0 ∧ ∃ F' g' l' ss', Y17 W w' F' s ab y g' l' ss' aa ac rs beg g.act ∧ Tk 2 ss ss' ∧ ((mo = false ∧ g.act = false ∧ g'.act = false ∧ B17 g' l' ss' rs beg (n + 1)) ∨ (mo = true ∧ g.act = true ∧ g'.act = true ∧ B17 g' l' ss' rs beg (n + 1)) ∨
          (mo = false ∧ g.act = true ∧ g'.act = false ∧ B17 g' l' ss' (rs.filter (keepP beg)) beg (n + 1))))), fun w3 d3 => ?_, ?_⟩
    · have H3 := H2.fr0 d3.fr
      have X3 := X2.fr (d3.fr []) (by simp)
      obtain ⟨mb, wb, sb, ws, la, lc, clk, H, I⟩ := H3.S
      have s3 := H3.s3
      refine ⟨_, H3.Y.cell rfl, ag, X3.cell rfl, spstep_c H I ag (fun hb => ⟨X3, .inl ⟨rfl, rfl, by omega, H3⟩⟩) (fun ha hoff => ⟨X3, .inr ⟨by omega, rfl, F, g, l, ss, H3, (Tk.refl ss).up (by decide), .inl ⟨rfl, hoff, hoff, more⟩⟩⟩)
        (fun ha hon _ w4 H4 I4 f4 => ⟨X3.fr f4 b1F, .inr ⟨by omega, rfl, F, _, l, ss, H3.stk ⟨mb, wb, sb, ws, la, lc, clk, H4, I4⟩ rfl s3 f4 (fun b hb => .inl hb), (Tk.refl ss).up (by decide), .inr (.inr ⟨rfl, hon, rfl, more.over hon⟩)⟩⟩)
        (fun ha hon _ w4 left4 l4 ws4 ss4 la4 lc4 H4 I4 f4 e1 e2 e3 t4 eb => ⟨X3.fr f4 b1F, .inr ⟨by omega, rfl, F, _, l4, ss4, H3.stk ⟨mb, wb, sb, ws4, la4, lc4, clk, H4, I4⟩ rfl (t4.1.trans s3) f4 (fun b hb => .inl hb), t4, .inr (.inl ⟨rfl, hon, hon, ?_⟩)⟩⟩)⟩
      have bt := b.tick hn t4 (by decide)
      exact ⟨by rw [e1]; exact bt.rel, bt.ow, bt.lt, bt.by_, bt.nd, bt.ids, bt.nn, bt.tk⟩
    rintro - mo e w3 ⟨X3, hcase⟩
    rcases hcase with ⟨rfl, rfl, hb, H3⟩ | ⟨ha, rfl, F3, g3, l3, ss3, H3, t3, hc⟩
    · have fin := hK w3 F g l ss aa ac rs beg H3 more (by omega)
      exact ⟨fun _ => False, ⟨ag, X3.cell rfl, IfB.dec (fun _ => ifb_t fin) (fun h0 => ⟨ag, X3.cell rfl, IfB.yes (by omega) (ifb_t fin)⟩)⟩, fun _ _ h => h.elim⟩
    · refine ⟨fun w' => w' = w3, ⟨ag, X3.cell rfl, IfB.no (by omega) ⟨ag, X3.cell rfl, IfB.no (by omega) rfl⟩⟩, ?_⟩
      rintro - w4 rfl
      refine ⟨fun w' => Y17 W w' F3 s ab y g3 l3 ss3 aa ac rs beg g.act, fun w5 d5 => ifb_nyes rfl ?_, ?_⟩
      · have H5 := H3.fr0 d5.fr
        have X5 := X3.fr (d5.fr []) (by simp)
        rw [if_pos ha] at hst
        have tb := t3.2 (1100 * n) (by omega) b.tk ag.toNat
        have tb2 := b.tk ag.toNat
        refine ⟨_, H5.Y.cell rfl, ag, X5.cell rfl, fit64 (by omega) (by omega), H5.steps ag (IfB.no (by rw [if_pos ha]; omega) ?_)⟩
        rcases hc with ⟨rfl, _⟩ | ⟨rfl, hact, _⟩ | ⟨rfl, _⟩
        · exact ifb_f H5
        · exact ifb_t ⟨_, H5.Y.cell rfl, ifb_nyes hact H5⟩
        · exact ifb_f H5
      · rintro - w5 H5
        refine ⟨_, H5.Y.cell rfl, ?_⟩
        rcases hc with ⟨rfl, ha1, ha2, b3⟩ | ⟨rfl, ha1, ha2, b3⟩ | ⟨rfl, ha1, ha2, b3⟩
        · refine ifb_no ha1 ?_
          rw [ha1, ← ha2] at H5
          exact hK w5 F3 g3 l3 ss3 aa ac rs beg H5 b3 (by omega)
        · refine ifb_yes ha1 (ifb_f ?_)
          rw [ha1, ← ha2] at H5
          exact hK w5 F3 g3 l3 ss3 aa ac rs beg H5 b3 (by omega)
        · refine ifb_yes ha1 (ifb_t (over174_c H5 b.nd (by omega) fun w6 aa6 ac6 H6 => ?_))
          rw [← ha2] at H6
          have := List.length_filter_le (keepP beg) rs
          exact hK w6 F3 g3 l3 ss3 aa6 ac6 _ beg H6 b3 (by omega)
end
end Go.Proofs.Ytfpghcdjfiggiaa.V
