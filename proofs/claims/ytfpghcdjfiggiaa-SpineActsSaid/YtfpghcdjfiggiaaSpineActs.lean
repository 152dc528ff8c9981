/- The law SpineActs: what it computes. No condition. -/
import Derived.Test.YtfpghcdjfiggiaaActs7e
import Derived.Test.YtfpghcdjfiggiaaArgs
import Derived.Test.YtfpghcdjfiggiaaGSpineZ
namespace Go.Proofs.Ytfpghcdjfiggiaa.V
open Go Go.RowKit

theorem w64' {z : Int} (h0 : 0 ≤ z) (h1 : z < 9223372036854775808) : IntKind.wrap .i64 z = z := by
  have := wrap_small (n := z.toNat) (by omega)
  rwa [Int.toNat_of_nonneg h0] at this
theorem wu_pos' (z : Int) : 0 ≤ IntKind.wrap .u64 z := by
  simp only [IntKind.wrap, IntKind.signed, IntKind.bits]
  simp
  omega

theorem spActs_c (base0 words : Int) {W : World} {a : Option Addr} {l c : Nat} {z : Nat → Nat → Int} (ga : ArgS W.heap.size W a l 5 z) {K : Bool → World → Prop} (hK : ∀ w', Fr [] W w' → K true w') : C17 base0 words a l c W K := by
  obtain ⟨b1, b2⟩ := and_range 15 4 (by decide) (by decide) base0
  refine r_f17 _ _ _ _ _ _ _ ?_
  unfold V_f17
  generalize bits .and .i64 base0 15 = base at *
  obtain ⟨wn, hw, hw0, hw1⟩ : ∃ k, IntKind.wrap .i64 (32 + IntKind.wrap .i64 (Int.tmod (IntKind.wrap .u64 words) 1500)) = k ∧ 32 ≤ k ∧ k ≤ 1531 := by
    have h1 := wu_pos' words
    have h2 : Int.tmod (IntKind.wrap .u64 words) 1500 = (IntKind.wrap .u64 words) % 1500 := Int.tmod_eq_emod_of_nonneg h1
    rw [h2, w64' (z := IntKind.wrap .u64 words % 1500) (by omega) (by omega), w64' (by omega) (by omega)]
    exact ⟨_, rfl, by omega, by omega⟩
  rw [hw]
  refine ⟨by decide, begun7_c base wn (by omega) (by omega) fun w1 s mb ab wb sb H I f1 hF => ifb_nyes rfl ⟨by decide, fun y w2 n2 => ?_⟩⟩
  have e2 : IntKind.wrap .i64 (Int.tdiv wn 2) = wn / 2 := by rw [Int.tdiv_eq_ediv_of_nonneg (by omega), w64' (by omega) (by omega)]
  rw [e2] at n2
  have lF := H.low
  have yg := n2.ge
  have z1 := (f1 []).size
  have Y2 : Y17 W w2 [s, mb, ab, wb, sb] s ab y ⟨base, wn / 2, false, false, 0, 0, 0, 0, []⟩ [] [0, 0, 0] none 0 [] 0 false :=
    ⟨⟨mb, wb, sb, _, none, 0, 0, H.fr0 (n2.fr []), I⟩, n2.blk, SR.nil _ _, by simp, (f1 []).more (n2.fr []), rfl, ⟨fun hb => by have := lF y hb; omega, by simp [ablk], by simp [Apart, ablk]⟩, by simp, by simp, by omega, by simp [ablk], by simp, hF⟩
  have tk0 : ∀ a : Nat, ([0, 0, 0] : List Int).getD a 0 = 0 := fun a => by
    match a with
    | 0 => rfl
    | 1 => rfl
    | 2 => rfl
    | a + 3 => simp
  have B2 : B17 ⟨base, wn / 2, false, false, 0, 0, 0, 0, []⟩ [] [0, 0, 0] [] 0 0 :=
    ⟨rfl, rfl, (fun h => by cases h), by simp, by simp, by simp, by dsimp only; omega, fun a => by rw [tk0 a]; omega⟩
  refine ⟨fun w' => ∃ n F g l ss aa ac rs beg, Y17 W w' F s ab y g l ss aa ac rs beg g.act ∧ B17 g l ss rs beg n ∧ (rs.length : Int) ≤ n, ⟨fun n w' => 0 ≤ n ∧ n ≤ 400 ∧ ∃ F g l ss aa ac rs beg, Y17 W w' F s ab y g l ss aa ac rs beg g.act ∧ B17 g l ss rs beg n ∧ (rs.length : Int) ≤ n, fun n _ => (400 - n).toNat,
    ⟨by decide, by decide, _, _, _, _, _, _, _, _, Y2, B2, by simp⟩, ?_⟩, ?_⟩
  · rintro - n w3 ⟨hn0, hn1, F3, g3, l3, ss3, aa3, ac3, rs3, beg3, Y3, B3, hl3⟩
    have out : ∃ n F g l ss aa ac rs beg, Y17 W w3 F s ab y g l ss aa ac rs beg g.act ∧ B17 g l ss rs beg n ∧ (rs.length : Int) ≤ n := ⟨n, F3, g3, l3, ss3, aa3, ac3, rs3, beg3, Y3, B3, hl3⟩
    refine IfB.dec (fun hil => IfB.dec (fun hi2 => ?_) (fun _ => out)) (fun _ => out)
    refine (ga.fr Y3.fw (by simp)).get hn0 hil fun p hp => ⟨⟨hn0, hil⟩, _, _, _, _, _, argCells5 hp, act77_c Y3 B3 hi2 hl3 _ _ _ _ _ fun w4 F4 g4 l4 ss4 aa4 ac4 rs4 beg4 Y4 B4 hl4 => ifb_nyes rfl ⟨_, Y4.Y.cell rfl, ?_⟩⟩
    obtain ⟨mb4, wb4, sb4, ws4, la4, lc4, clk4, H4, I4⟩ := Y4.S
    refine room_c H4 I4 fun w5 f5 => ?_
    have Y5 := Y4.fr0 f5
    refine room78_c Y5 B4 (IfB.nyes rfl ?_)
    rw [w64' (z := n + 1) (by omega) (by omega)]
    exact ⟨⟨by omega, by omega, F4, g4, l4, ss4, aa4, ac4, rs4, beg4, Y5, B4, hl4⟩, by dsimp only; omega⟩
  · rintro - w3 ⟨n, F3, g3, l3, ss3, aa3, ac3, rs3, beg3, Y3, B3, hl3⟩
    have hnn := B3.nn
    refine ⟨fun i w' => 0 ≤ i ∧ i ≤ rs3.length ∧ ∃ ss, Y17 W w' F3 s ab y g3 l3 ss aa3 ac3 rs3 beg3 g3.act, fun i _ => (rs3.length - i).toNat, ⟨by decide, by omega, ss3, Y3⟩, ?_⟩
    rintro - i w4 ⟨hi0, hi1, ss4, Y4⟩
    refine ⟨_, _, _, Y4.Y.cell rfl, IfB.dec (fun hlt => ⟨_, _, _, Y4.Y.cell rfl, ?_⟩) (fun hge => awake7_c fun w' f => hK w' (Y4.fw.more f))⟩
    rw [w64' (z := i + 1) (by omega) (by omega)]
    refine Y4.R.get hi0 hlt fun r p hr hc _ _ _ => ⟨⟨hi0, hlt⟩, _, hc 2 (by decide), ?_⟩
    have hm := List.mem_of_getElem? hr
    cases hg : r.gone with
    | true => exact ifb_t ⟨⟨by omega, by omega, ss4, Y4⟩, by dsimp only; omega⟩
    | false =>
      obtain ⟨x, hx, ex, ev⟩ := B3.toL hm hg
      refine ifb_f ⟨fun k e w' => k = x.n ∧ e = 0 ∧ Y17 W w' F3 s ab y g3 l3 ss4 aa3 ac3 rs3 beg3 g3.act, fun w5 d5 => ?_, ?_⟩
      · have Y5 := Y4.fr0 d5.fr
        obtain ⟨mb4, wb4, sb4, ws4, la4, lc4, clk4, H4, I4⟩ := Y5.S
        refine ⟨_, Y5.Y.cell rfl, _, _, _, Y5.Y.cell rfl, Y5.R.get hi0 hlt fun r2 p2 hr2 hc2 _ _ _ => ⟨⟨hi0, hlt⟩, _, hc2 0 (by decide), ?_⟩⟩
        rw [hr] at hr2
        cases hr2
        exact splen_c H4 _ (fun hno => absurd ex (hno x hx)) (fun z hz ez => ⟨by rw [I4.same hz hx (ez.trans ex.symm)], rfl, Y5⟩)
      rintro - k e w5 ⟨rfl, rfl, Y5⟩
      have hx1000 : x.n ≤ 1000 := by
        obtain ⟨_, _, _, _, _, _, _, _, I4⟩ := Y5.S
        exact (I4.sz x hx).2.1
      have hlen : x.n = r.ws.length := by
        obtain ⟨_, _, _, _, _, _, _, _, I4⟩ := Y5.S
        rw [← (I4.sz x hx).2.2, ev]
      refine ⟨fun w' => Y17 W w' F3 s ab y g3 l3 ss4 aa3 ac3 rs3 beg3 g3.act, ifb_nyes rfl ⟨_, _, _, Y5.Y.cell rfl, Y5.R.get hi0 hlt fun r2 p2 hr2 hc2 _ _ _ => ⟨⟨hi0, hlt⟩, _, _, _, hc2 1 (by decide), ?_⟩⟩, ?_⟩
      · rw [hr] at hr2
        cases hr2
        exact IfB.nyes hlen Y5
      rintro - w6 Y6
      refine ⟨fun j w' => 0 ≤ j ∧ j ≤ x.n ∧ ∃ ss, Y17 W w' F3 s ab y g3 l3 ss aa3 ac3 rs3 beg3 g3.act, fun j _ => (x.n - j).toNat, ⟨by decide, by omega, ss4, Y6⟩, ?_⟩
      rintro - j w7 ⟨hj0, hj1, ss7, Y7⟩
      refine IfB.dec (fun hjn => ?_) (fun hjn => ⟨⟨by omega, by omega, ss7, Y7⟩, by dsimp only; omega⟩)
      refine ⟨fun v e w' => v = x.vs.getD j.toNat 0 ∧ e = 0 ∧ ∃ ss, Y17 W w' F3 s ab y g3 l3 ss aa3 ac3 rs3 beg3 g3.act, fun w8 d8 => ?_, ?_⟩
      · have Y8 := Y7.fr0 d8.fr
        obtain ⟨mb8, wb8, sb8, ws8, la8, lc8, clk8, H8, I8⟩ := Y8.S
        have s3 := Y8.s3
        have hm8 := H8.mem
        refine ⟨_, Y8.Y.cell rfl, _, _, _, Y8.Y.cell rfl, Y8.R.get hi0 hlt fun r2 p2 hr2 hc2 _ _ _ => ⟨⟨hi0, hlt⟩, _, hc2 0 (by decide), ?_⟩⟩
        rw [hr] at hr2
        cases hr2
        refine spget_c H8 I8 0 _ j (fun hno => absurd ⟨by omega, x, hx, ex⟩ hno) (fun z hz ez _ hb => ?_) (fun z hz ez _ _ _ w9 H9 f9 => ?_)
        · rw [I8.same hz hx (ez.trans ex.symm)] at hb
          exact absurd ⟨hj0, hjn⟩ hb
        · have f9' : Fr F3 w8 w9 := f9.mono (by simp; exact ⟨.inl hm8.2.2.2.1, .inl hm8.2.2.2.2.1⟩)
          exact ⟨by rw [I8.same hz hx (ez.trans ex.symm)], rfl, _, Y8.stk ⟨mb8, wb8, sb8, ws8, la8, lc8, clk8, H9, I8⟩ rfl (by simpa [tickA] using s3) f9' (fun b hb => .inl hb)⟩
      rintro - v e w8 ⟨rfl, rfl, ss8, Y8⟩
      refine ifb_nyes rfl ⟨_, _, _, Y8.Y.cell rfl, Y8.R.get hi0 hlt fun r2 p2 hr2 hc2 _ _ _ => ⟨⟨hi0, hlt⟩, _, _, _, hc2 1 (by decide), ?_⟩⟩
      rw [hr] at hr2
      cases hr2
      rw [w64' (z := j + 1) (by omega) (by omega)]
      exact (Y8.V r hm).get hj0 (by omega) fun p hp => ⟨⟨hj0, by omega⟩, _, hp, IfB.nyes (by rw [ev]) ⟨⟨by omega, by omega, ss8, Y8⟩, by dsimp only; omega⟩⟩

end Go.Proofs.Ytfpghcdjfiggiaa.V
