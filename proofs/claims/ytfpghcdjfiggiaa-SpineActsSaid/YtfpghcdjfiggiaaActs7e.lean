/- The law SpineActs: a call. No condition. -/
import Derived.Test.YtfpghcdjfiggiaaActs7d
namespace Go.Proofs.Ytfpghcdjfiggiaa.V
open Go Go.RowKit

section
variable {W w w' : World} {F F' S : List Nat} {s ab y : Nat} {g g' : SG} {l l' : List Arr} {ss ss' : List Int} {aa : Option Addr} {ac : Nat} {rs : List PR} {beg n : Int} {und : Bool}

theorem act77_c (h : Y17 W w F s ab y g l ss aa ac rs beg g.act) (b : B17 g l ss rs beg n) (hn : n < 400) (hl : rs.length ≤ n) (kind ag pick ix v : Int) {K : Bool → World → Prop}
    (hK : ∀ w' F' g' l' ss' aa' ac' rs' beg', Y17 W w' F' s ab y g' l' ss' aa' ac' rs' beg' g'.act → B17 g' l' ss' rs' beg' (n + 1) → rs'.length ≤ n + 1 → K true w') : C77 (some ⟨y, 0, none⟩) kind ag pick ix v w K := by
  have hnn := b.nn
  have more : B17 g l ss rs beg (n + 1) := by simpa using b.tick hn ((Tk.refl ss).up (d := 0) (by decide)) (by decide)
  refine r_f77 _ _ _ _ _ _ _ _ fun b1 w1 n1 => ?_
  have H1 := h.fr0 n1.fr
  have X1 := n1.blk
  have x1 := n1.ge
  have lF := h.lowF
  have b1F : b1 ∉ F := fun hb => by have := lF b1 hb; omega
  refine ⟨pick, X1.cell rfl, fun _ w' => ∀ S, Fr S w1 w', ⟨_, _, _, H1.Y.cell rfl, IfB.dec (fun hpos => ⟨pick, X1.cell rfl, IfB.dec (fun hp0 => fun w2 d2 => ?_) (fun _ => fun S => Fr.refl S w1)⟩) (fun _ => fun S => Fr.refl S w1)⟩, ?_⟩
  · have H2 := H1.fr0 d2.fr
    have X2 := X1.fr (d2.fr []) (by simp)
    have r0 : 0 ≤ Int.tmod pick (rs.length : Int) := Int.tmod_nonneg _ hp0
    have r1 : Int.tmod pick (rs.length : Int) < rs.length := by rw [Int.tmod_eq_emod_of_nonneg hp0]; exact Int.emod_lt_of_pos _ hpos
    refine ⟨_, _, _, H2.Y.cell rfl, pick, X2.cell rfl, _, _, _, H2.Y.cell rfl, by omega, H2.R.get r0 r1 fun r p hr hc _ _ _ => ⟨⟨r0, r1⟩, _, hc 0 (by decide), d2.fr⟩⟩
  rintro - id w2 f2
  have H2 := H1.fr0 f2
  have X2 := X1.fr (f2 []) (by simp)
  refine at7_c H2 b (by omega) id fun k hk => ?_
  refine ⟨fun q w' => q = decide (0 ≤ ag ∧ ag < 3) ∧ w' = w2, ⟨ag, X2.cell rfl, IfB.dec (fun h0 => ⟨ag, X2.cell rfl, by simp [h0], rfl⟩) (fun h0 => ⟨by simp [h0], rfl⟩)⟩, ?_⟩
  rintro - q w3 ⟨rfl, rfl⟩
  refine ⟨kind, X2.cell rfl, IfB.dec (fun _ => ⟨_, _, _, _, _, X2.cells, make150_c H2 b hn hl kind ag pick ix v fun w4 F4 g4 l4 ss4 aa4 ac4 rs4 H4 b4 hl4 => hK w4 F4 g4 l4 ss4 aa4 ac4 rs4 beg H4 b4 hl4⟩) (fun _ => ⟨kind, X2.cell rfl, IfB.dec (fun _ => ?_) (fun _ => ⟨kind, X2.cell rfl, IfB.dec (fun _ => ?_) (fun _ => ⟨kind, X2.cell rfl, IfB.dec (fun _ => ?_) (fun _ => ⟨_, _, _, _, _, X2.cells, cycle151_c H2 b hn hl kind ag pick ix v hK⟩)⟩)⟩)⟩)⟩
  · -- Get
    intro w4 d4
    have H4 := H2.fr0 d4.fr
    have X4 := X2.fr (d4.fr []) (by simp)
    refine ⟨_, H4.Y.cell rfl, ag, X4.cell rfl, H4.steps ag ?_⟩
    generalize hst : (if 0 ≤ ag ∧ ag < 3 then ss.getD ag.toNat 0 else 0) = st
    refine ⟨fun rv e w' => Blk w' b1 [.int .i64 kind, .int .i64 ag, .int .i64 pick, .int .i64 ix, .int .i64 v] ∧ ∃ ss', Y17 W w' F s ab y g l ss' aa ac rs beg g.act ∧ Tk 2 ss ss' ∧
        ((rv = 0 ∧ e = 704 ∧ ¬ ((0 ≤ ag ∧ ag < 3) ∧ ∃ x ∈ l, x.id = id)) ∨ (rv = 0 ∧ e = 703 ∧ (0 ≤ ag ∧ ag < 3) ∧ ∃ x ∈ l, x.id = id ∧ ¬ (0 ≤ ix ∧ ix < x.n)) ∨ (e = 0 ∧ (0 ≤ ag ∧ ag < 3) ∧ ∃ x ∈ l, x.id = id ∧ (0 ≤ ix ∧ ix < x.n) ∧ rv = x.vs.getD ix.toNat 0)), fun w5 d5 => ?_, ?_⟩
    · have H5 := H4.fr0 d5.fr
      have X5 := X4.fr (d5.fr []) (by simp)
      obtain ⟨mb, wb, sb, ws, la, lc, clk, H, I⟩ := H5.S
      have s3 := H5.s3
      have hm := H.mem
      refine ⟨_, H5.Y.cell rfl, ag, X5.cell rfl, ix, X5.cell rfl, spget_c H I ag id ix (fun hno => ⟨X5, ss, H5, (Tk.refl ss).up (by decide), .inl ⟨rfl, rfl, fun p => hno ⟨by omega, p.2⟩⟩⟩)
        (fun x hx e ha hb => ⟨X5, ss, H5, (Tk.refl ss).up (by decide), .inr (.inl ⟨rfl, rfl, by omega, x, hx, e, hb⟩)⟩) (fun x hx e ha h0 h1 w6 H6 f6 => ?_)⟩
      have f6' : Fr F w5 w6 := f6.mono (by simp; exact ⟨.inl hm.2.2.2.1, .inl hm.2.2.2.2.1⟩)
      exact ⟨X5.fr f6' b1F, _, H5.stk ⟨mb, wb, sb, ws, la, lc, clk, H6, I⟩ rfl (by simpa [tickA] using s3) f6' (fun b hb => .inl hb), (Tk.tick ss ha.1 ha.2).up (by decide), .inr (.inr ⟨rfl, by omega, x, hx, e, ⟨h0, h1⟩, rfl⟩)⟩
    rintro - rv e w5 ⟨X5, ss5, H5, t5, hc⟩
    have bt := b.tick hn t5 (by decide)
    have fin := fun {w' : World} (H' : Y17 W w' F s ab y g l ss5 aa ac rs beg g.act) => hK w' F g l ss5 aa ac rs beg H' bt (by omega)
    have same : ∀ x ∈ l, ∀ z ∈ l, x.id = id → z.id = id → x = z := fun x hx z hz e1 e2 => by
      obtain ⟨mb, wb, sb, ws, la, lc, clk, H, I⟩ := h.S
      exact I.same hx hz (e1.trans e2.symm)
    rcases hc with ⟨rfl, rfl, hno⟩ | ⟨rfl, rfl, ha, x, hx, ex, hb⟩ | ⟨rfl, ha, x, hx, ex, hb, rfl⟩
    · refine ⟨fun _ => False, ?_, fun _ _ h => h.elim⟩
      refine IfB.nd (fun ha => ?_) (fun ha => ifb_t (fin H5))
      rcases hk with ⟨i, r, x, rfl, hr, hg, ei, hx, ex, _⟩ | ⟨rfl, hnone⟩
      · exact absurd ⟨ha, x, hx, ex⟩ hno
      · exact IfB.yes (by decide) (ifb_t (fin H5))
    · refine ⟨fun _ => False, IfB.nyes ha ?_, fun _ _ h => h.elim⟩
      rcases hk with ⟨i, r, x2, rfl, hr, hg, ei, hx2, ex2, ev, en⟩ | ⟨rfl, hnone⟩
      · have := same x hx x2 hx2 ex ex2
        subst this
        have hil := (List.getElem?_eq_some_iff.1 hr).1
        refine IfB.no (by omega) fun w6 d6 => ?_
        have H6 := H5.fr0 d6.fr
        have X6 := X5.fr (d6.fr []) (by simp)
        refine ⟨ix, X6.cell rfl, IfB.dec (fun _ => ifb_t (fin H6)) (fun h0 => ⟨ix, X6.cell rfl, _, _, _, H6.Y.cell rfl, H6.R.get (i := (i : Int)) (by omega) (by omega) fun r2 p2 hr2 hc2 _ _ _ => ⟨⟨by omega, by omega⟩, _, _, _, hc2 1 (by decide), ?_⟩⟩)⟩
        rw [Int.toNat_natCast, hr] at hr2
        cases hr2
        exact IfB.yes (by omega) (ifb_t (fin H6))
      · exact absurd ex (hnone x hx)
    · rcases hk with ⟨i, r, x2, rfl, hr, hg, ei, hx2, ex2, ev, en⟩ | ⟨rfl, hnone⟩
      · have := same x hx x2 hx2 ex ex2
        subst this
        have hil := (List.getElem?_eq_some_iff.1 hr).1
        have hm := List.mem_of_getElem? hr
        refine ⟨fun w' => Y17 W w' F s ab y g l ss5 aa ac rs beg g.act ∧ Blk w' b1 [.int .i64 kind, .int .i64 ag, .int .i64 pick, .int .i64 ix, .int .i64 v], IfB.nyes ha (IfB.no (by omega) fun w6 d6 => ?_), ?_⟩
        · have H6 := H5.fr0 d6.fr
          have X6 := X5.fr (d6.fr []) (by simp)
          refine ⟨ix, X6.cell rfl, IfB.no (by omega) ⟨ix, X6.cell rfl, _, _, _, H6.Y.cell rfl, H6.R.get (i := (i : Int)) (by omega) (by omega) fun r2 p2 hr2 hc2 _ _ _ => ⟨⟨by omega, by omega⟩, _, _, _, hc2 1 (by decide), ?_⟩⟩⟩
          rw [Int.toNat_natCast, hr] at hr2
          cases hr2
          exact IfB.no (by omega) ⟨H6, X6⟩
        · rintro - w6 ⟨H6, X6⟩
          intro w7 d7
          have H7 := H6.fr0 d7.fr
          have X7 := X6.fr (d7.fr []) (by simp)
          refine ifb_t ⟨_, _, _, H7.Y.cell rfl, H7.R.get (i := (i : Int)) (by omega) (by omega) fun r2 p2 hr2 hc2 _ _ _ => ⟨⟨by omega, by omega⟩, _, _, _, hc2 1 (by decide), ix, X7.cell rfl, ?_⟩⟩
          rw [Int.toNat_natCast, hr] at hr2
          cases hr2
          refine (H7.V r hm).get hb.1 (by omega) fun p hp => ⟨⟨hb.1, by omega⟩, _, hp, IfB.yes (by rw [ev]) ?_⟩
          have tb := t5.2 (1100 * n) (by omega) b.tk ag.toNat
          have tb2 := b.tk ag.toNat
          rw [if_pos ha] at hst
          refine ⟨_, H7.Y.cell rfl, ag, X7.cell rfl, fit64 (by omega) (by omega), H7.steps ag ?_⟩
          rw [decide_eq_true (by rw [if_pos ha]; omega)]
          exact fin H7
      · exact absurd ex (hnone x hx)
  · -- Set
    intro w4 d4
    have H4 := H2.fr0 d4.fr
    have X4 := X2.fr (d4.fr []) (by simp)
    refine ⟨_, H4.Y.cell rfl, ag, X4.cell rfl, H4.steps ag fun w5 d5 => ?_⟩
    generalize hst : (if 0 ≤ ag ∧ ag < 3 then ss.getD ag.toNat 0 else 0) = st
    have H5 := H4.fr0 d5.fr
    have X5 := X4.fr (d5.fr []) (by simp)
    obtain ⟨mb, wb, sb, ws, la, lc, clk, H, I⟩ := H5.S
    have s3 := H5.s3
    have hm := H.mem
    have fin := fun {w' : World} (H' : Y17 W w' F s ab y g l ss aa ac rs beg g.act) => hK w' F g l ss aa ac rs beg H' more (by omega)
    have same : ∀ x ∈ l, ∀ z ∈ l, x.id = id → z.id = id → x = z := fun x hx z hz e1 e2 => I.same hx hz (e1.trans e2.symm)
    refine ⟨_, H5.Y.cell rfl, ag, X5.cell rfl, ix, X5.cell rfl, v, X5.cell rfl, spset_c H I ag id ix v (fun hno => ?_) (fun x hx ex ha hb => ?_) (fun x hx ex ha h0 h1 w6 ws6 ss6 H6 I6 t6 f6 => ?_)⟩
    · refine ⟨fun _ => False, ?_, fun _ _ h => h.elim⟩
      refine IfB.nd (fun ha => ?_) (fun ha => fin H5)
      rcases hk with ⟨i, r, x, rfl, hr, hg, ei, hx, ex, _⟩ | ⟨rfl, hnone⟩
      · exact absurd ⟨by omega, x, hx, ex⟩ hno
      · exact IfB.yes (by decide) (fin H5)
    · refine ⟨fun _ => False, IfB.nyes (by omega) ?_, fun _ _ h => h.elim⟩
      rcases hk with ⟨i, r, x2, rfl, hr, hg, ei, hx2, ex2, ev, en⟩ | ⟨rfl, hnone⟩
      · have := same x hx x2 hx2 ex ex2
        subst this
        have hil := (List.getElem?_eq_some_iff.1 hr).1
        refine IfB.no (by omega) fun w6 d6 => ?_
        have H6 := H5.fr0 d6.fr
        have X6 := X5.fr (d6.fr []) (by simp)
        refine ⟨ix, X6.cell rfl, IfB.dec (fun _ => fin H6) (fun h0 => ⟨ix, X6.cell rfl, _, _, _, H6.Y.cell rfl, H6.R.get (i := (i : Int)) (by omega) (by omega) fun r2 p2 hr2 hc2 _ _ _ => ⟨⟨by omega, by omega⟩, _, _, _, hc2 1 (by decide), ?_⟩⟩)⟩
        rw [Int.toNat_natCast, hr] at hr2
        cases hr2
        exact IfB.yes (by omega) (fin H6)
      · exact absurd ex (hnone x hx)
    · have f6' : Fr F w5 w6 := f6.mono (by simp; exact ⟨.inl hm.2.2.2.1, .inl hm.2.2.2.2.1⟩)
      have Y6 := H5.stk ⟨mb, wb, sb, ws6, la, lc, clk, H6, I6⟩ rfl (t6.1.trans s3) f6' (fun b hb => .inl hb)
      have X6 := X5.fr f6' b1F
      have ha' : 0 ≤ ag ∧ ag < 3 := by omega
      rcases hk with ⟨i, r, x2, rfl, hr, hg, ei, hx2, ex2, ev, en⟩ | ⟨rfl, hnone⟩
      · have := same x hx x2 hx2 ex ex2
        subst this
        have hil := (List.getElem?_eq_some_iff.1 hr).1
        have hmr := List.mem_of_getElem? hr
        refine ⟨fun w' => Y17 W w' F s ab y g (rep l { x with vs := x.vs.set ix.toNat v }) ss6 aa ac rs beg g.act ∧ Blk w' b1 [.int .i64 kind, .int .i64 ag, .int .i64 pick, .int .i64 ix, .int .i64 v], IfB.nyes ha' (IfB.no (by omega) fun w7 d7 => ?_), ?_⟩
        · have H7 := Y6.fr0 d7.fr
          have X7 := X6.fr (d7.fr []) (by simp)
          refine ⟨ix, X7.cell rfl, IfB.no (by omega) ⟨ix, X7.cell rfl, _, _, _, H7.Y.cell rfl, H7.R.get (i := (i : Int)) (by omega) (by omega) fun r2 p2 hr2 hc2 _ _ _ => ⟨⟨by omega, by omega⟩, _, _, _, hc2 1 (by decide), ?_⟩⟩⟩
          rw [Int.toNat_natCast, hr] at hr2
          cases hr2
          exact IfB.no (by omega) ⟨H7, X7⟩
        · rintro - w7 ⟨H7, X7⟩
          intro w8 d8
          have H8 := H7.fr0 d8.fr
          have X8 := X7.fr (d8.fr []) (by simp)
          refine ⟨_, _, _, H8.Y.cell rfl, H8.R.get (i := (i : Int)) (by omega) (by omega) fun r2 p2 hr2 hc2 _ _ _ => ⟨⟨by omega, by omega⟩, _, _, _, hc2 1 (by decide), ix, X8.cell rfl, v, X8.cell rfl, ?_⟩⟩
          rw [Int.toNat_natCast, hr] at hr2
          cases hr2
          refine (H8.V r hmr).put h0 (by omega) v fun p hmay _ hs => ⟨⟨h0, by omega⟩, hmay, fun w9 s9 => fun w10 d10 => ?_⟩
          obtain ⟨V9, f9⟩ := hs w9 s9
          have R9 : SR encPR w9 aa ac (rs.set i { r with ws := r.ws.set ix.toNat v }) := by
            have hR := H8.R.fr f9 (H8.sv r hmr).2.2.symm
            unfold SR at hR ⊢
            rw [List.length_set, flat_same (r' := { r with ws := r.ws.set ix.toNat v }) (by simp [encPR]) hr]
            exact hR
          have H9 := H8.put b.nd hr (r' := { r with ws := r.ws.set ix.toNat v }) rfl rfl rfl f9 (.inr rfl) R9 V9
          have H10 := H9.fr0 d10.fr
          have b1r : b1 ∉ ablk r.wa := fun hb => by have := (h.V r hmr).low b1 hb; omega
          have X10 := (X8.fr f9 b1r).fr (d10.fr []) (by simp)
          have bt := (b.tick hn t6 (by decide)).words hr (x := x) (ex.trans ei.symm) (r.ws.set ix.toNat v) (by simp)
          have tb := t6.2 (1100 * n) (by omega) b.tk ag.toNat
          have tb2 := b.tk ag.toNat
          rw [if_pos ha'] at hst
          refine ifb_t ⟨_, H10.Y.cell rfl, ag, X10.cell rfl, fit64 (by omega) (by omega), H10.steps ag ?_⟩
          rw [decide_eq_true (by rw [if_pos ha']; omega)]
          rw [ev] at H10
          exact hK w10 F g _ ss6 aa ac _ beg H10 bt (by simp; omega)
      · exact absurd ex (hnone x hx)
  · -- Drop
    obtain ⟨mb, wb, sb, ws, la, lc, clk, H, I⟩ := H2.S
    have s3 := H2.s3
    refine ⟨_, H2.Y.cell rfl, spdrop_c H I id (fun hno => ?_) (fun x hx ex w4 F4 H4 f4 g4 => ?_)⟩
    · rcases hk with ⟨i, r, x, rfl, hr, hg, ei, hx, ex, _⟩ | ⟨rfl, hnone⟩
      · exact absurd ex (hno x hx)
      · exact IfB.yes (by decide) (hK w3 F g l ss aa ac rs beg H2 more (by omega))
    · have Y4 := H2.stk ⟨mb, wb, sb, ws, la, lc, clk, H4, I.drop hx⟩ rfl s3 f4 (fun b hb => .inl (g4 b hb))
      rcases hk with ⟨i, r, x2, rfl, hr, hg, ei, hx2, ex2, ev, en⟩ | ⟨rfl, hnone⟩
      · have := I.same hx hx2 (ex.trans ex2.symm)
        subst this
        have hil := (List.getElem?_eq_some_iff.1 hr).1
        have hmr := List.mem_of_getElem? hr
        refine IfB.no (by omega) ⟨_, _, _, Y4.Y.cell rfl, Y4.R.get (i := (i : Int)) (by omega) (by omega) fun r2 p2 hr2 hc2 hm2 hs2 _ => ⟨⟨by omega, by omega⟩, hm2 2 (by decide), fun w5 s5 => fun w6 d6 => ?_⟩⟩
        rw [Int.toNat_natCast, hr] at hr2
        cases hr2
        obtain ⟨R5, f5⟩ := hs2 { r with gone := true } 2 _ w5 (by decide) rfl s5
        rw [Int.toNat_natCast] at R5
        have H5 := Y4.put b.nd hr (r' := { r with gone := true }) rfl rfl rfl f5 (.inl rfl) R5 ((Y4.V r hmr).fr f5 (Y4.sv r hmr).2.2)
        have H6 := H5.fr0 d6.fr
        have hr6 : (rs.set i { r with gone := true })[i]? = some { r with gone := true } := by rw [List.getElem?_set_self hil]
        have nd6 : ((rs.set i { r with gone := true }).map (·.id)).Nodup := by rw [ids_set (r' := { r with gone := true }) b.nd hr rfl]; exact b.nd
        refine ⟨_, _, _, H6.Y.cell rfl, _, H6.Y.cell rfl, H6.R.get (i := (i : Int)) (by omega) (by simp; omega) fun r3 p3 hr3 hc3 hm3 hs3 _ => ⟨⟨by omega, by simp; omega⟩, hm3 3 (by decide), fun w7 s7 => ?_⟩⟩
        rw [Int.toNat_natCast, hr6] at hr3
        cases hr3
        obtain ⟨R7, f7⟩ := hs3 { r with gone := true, by_ := beg } 3 _ w7 (by decide) rfl s7
        rw [Int.toNat_natCast] at R7
        have hm6 := List.mem_of_getElem? hr6
        have H7 := H6.put nd6 hr6 (r' := { r with gone := true, by_ := beg }) rfl rfl rfl f7 (.inl rfl) R7 ((H6.V _ hm6).fr f7 (H6.sv _ hm6).2.2)
        rw [List.set_set] at H7
        exact hK w7 F4 _ _ ss aa ac _ beg H7 (more.drop hr hg (x := x) (ex.trans ei.symm) en) (by simp; omega)
      · exact absurd ex (hnone x hx)
end
end Go.Proofs.Ytfpghcdjfiggiaa.V
