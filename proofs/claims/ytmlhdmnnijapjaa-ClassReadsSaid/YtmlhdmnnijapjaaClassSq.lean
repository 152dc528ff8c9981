/- A program written over, the whole. No condition. -/
import Derived.Test.YtmlhdmnnijapjaaClassSp
namespace Go.Proofs.Ytmlhdmnnijapjaa.V
open Go Go.RowKit Go.Proofs.Ytmlhdmnnijapjaa.WirePlain

section
variable {U : Nat → Prop} {k j : Nat} {w w' w'' : World}
theorem Spo.slc (h : Spo U k w w') {q : Addr} {a : Option Addr} {l c : Nat} (hc : w.cell? q = some (.slice a l c)) : w'.cell? q = some (.slice a l c) := by
  obtain ⟨v, h1, h2⟩ := h.sim _ _ hc
  obtain rfl := sim_l h2
  exact h1
theorem Spo.str (h : Spo U k w w') {q : Addr} {s : ByteArray} (hc : w.cell? q = some (.string s)) : ∃ t, w'.cell? q = some (.string t) ∧ t.size ≤ s.size + k := by
  obtain ⟨v, h1, h2⟩ := h.sim _ _ hc
  obtain ⟨t, rfl, hz⟩ := sim_s h2
  exact ⟨t, h1, hz⟩

theorem spoil32 {n0 : Int} {a : Option Addr} {l c : Nat} (hU : ∀ b, U b → b < w.heap.size) (D : Shp U w 8 (HCls U 16 w) a l) {K : World → Prop} (hK : ∀ w' k, Spo U k w w' → K w') : C32 n0 a l c w K := by
  have hl := D.1
  refine r_f32 _ _ _ _ _ _ fun b1 w2 n1 => ?_
  have f2 : ∀ S, Fr S w w2 := fun S => n1.fr S
  have B2 := n1.blk
  have ub1 : ¬ U b1 := fun h => by have := hU _ h; have := n1.ge; omega
  refine ⟨fun n w' => 0 ≤ n ∧ n ≤ l ∧ Spo U (n.toNat * 2000) w2 w', fun n _ => (l - n).toNat, ⟨Int.le_refl _, by omega, Spo.of0 fun S => Fr.refl S _⟩, ?_⟩
  rintro - n w6 ⟨h0, h1, s6⟩
  have B6 := s6.blk B2 ub1
  refine ⟨_, _, _, B6.cell rfl, IfB.dec (fun hlt => ?_) (fun _ => hK w6 _ ((Spo.of0 f2).trans s6))⟩
  have t6 := (Spo.of0 (U := U) f2).trans s6
  obtain ⟨p, vs, rfl, hp, hv, hc, hm, t, b, b2, n', a1, l1, c1, a2, l2, c2, a3, l3, c3, a4, l4, c4, rfl, hz, d1, d2, d4⟩ := (D.spo t6 fun _ _ h s => h.spo t6 s).get h0 hlt
  have z6 := s6.size
  have z2 := B2.lt
  have hU6 : ∀ b, U b → b < w6.heap.size := fun b hb => by have := hU b hb; have := (f2 []).size; omega
  refine ⟨_, _, _, B6.cell rfl, PtrOK.of rfl ⟨⟨h0, hlt⟩, _, _, _, hc 4 _ rfl, spoil44 d1 fun w11 s11 => ?_⟩⟩
  refine ⟨_, _, _, (s11.blk B6 ub1).cell rfl, PtrOK.of rfl ⟨⟨h0, hlt⟩, _, _, _, s11.slc (hc 5 _ rfl), spoil58 (N := 16 + (0 + n.toNat * 2000) + 0) (by omega) (d2.spo s11 fun _ _ => HFld.spo) fun w15 s15 => ?_⟩⟩
  have t15 := s11.trans s15
  have hl4 := d4.1
  refine ⟨fun m w' => 0 ≤ m ∧ m ≤ l4 ∧ Spo U 0 w15 w', fun m _ => (l4 - m).toNat, ⟨Int.le_refl _, by omega, Spo.of0 fun S => Fr.refl S _⟩, ?_⟩
  rintro - m w19 ⟨m0, m1, s19⟩
  have t19 := t15.trans s19
  have B19 := t19.blk B6 ub1
  refine ⟨_, _, _, B19.cell rfl, PtrOK.of rfl ⟨⟨h0, hlt⟩, _, _, _, t19.slc (hc 7 _ rfl), IfB.dec (fun hlt4 => ?_) (fun _ w62 d62 => ?_)⟩⟩
  · obtain ⟨p26, vs, rfl, hp26, hv26, hc26, hm26, u0, u1, e1, g1, o1, x1, x2, x3, e2, g2, o2, e3, g3, o3, e4, g4, o4, rfl, r1, r2, r4⟩ := (d4.spo t19 fun _ _ h s => h.spo t19 s).get m0 hlt4
    refine ⟨_, _, _, B19.cell rfl, PtrOK.of rfl ⟨⟨h0, hlt⟩, _, _, _, t19.slc (hc 7 _ rfl), PtrOK.of rfl ⟨⟨m0, hlt4⟩, _, _, _, _, _, _, _, _, _, _, _, _, _, _, _, _, _, hc26, fun b36 w37 n36 => ⟨n36.blk.mayL (by simp), fun w38 s38 => ?_⟩⟩⟩⟩
    obtain ⟨B38, f38⟩ := newSet n36 s38 rfl
    have z19 := t19.size
    have ub : ¬ U b36 := fun h => by have := hU6 _ h; have := n36.ge; omega
    have t38 : Spo U 0 w19 w38 := Spo.of0 f38
    refine ⟨_, _, _, B38.cell rfl, spoil44 (r1.spo t38 fun _ _ => HInt.spo) fun w40 s40 => ?_⟩
    have hg2 := r2.1
    refine ⟨fun i w' => 0 ≤ i ∧ i ≤ g2 ∧ Spo U 0 w38 w', fun i _ => (g2 - i).toNat, ⟨Int.le_refl _, by omega, s40⟩, ?_⟩
    rintro - i w44 ⟨i0, i1, s44⟩
    refine ⟨_, _, _, (s44.blk B38 ub).cell rfl, IfB.dec (fun hlti w46 d46 => ?_) (fun _ => ?_)⟩
    · have s46 : Spo U 0 w38 w46 := s44.trans (Spo.of0 fun S => d46.fr S)
      obtain ⟨p49, vs, rfl, hp49, hv49, hc49, hm49, y1, y2, y3, rfl⟩ := (r2.spo (t38.trans s46) fun _ _ => HIns.spo).get i0 hlti
      have B46 := s46.blk B38 ub
      refine ⟨_, _, _, B46.cell rfl, _, _, _, B46.cell rfl, PtrOK.of rfl ⟨⟨i0, hlti⟩, _, hc49 1 _ rfl, PtrOK.of rfl ⟨⟨i0, hlti⟩, hm49 1 (by decide), fun w52 s52 => ?_⟩⟩⟩
      exact ⟨fit64 (by omega) (by omega), ⟨by omega, by omega, s46.trans (Spo.set (k := 0) (hc49 1 _ rfl) (by rw [add_blk, add_blk]; exact hp49) (.inr (.inl ⟨_, _, rfl, rfl⟩)) s52)⟩, by (try dsimp only); omega⟩
    have hg4 := r4.1
    refine ⟨fun i w' => 0 ≤ i ∧ i ≤ g4 ∧ Spo U 0 w38 w', fun i _ => (g4 - i).toNat, ⟨Int.le_refl _, by omega, s44⟩, ?_⟩
    rintro - v w56 ⟨v0, v1, s56⟩
    refine ⟨_, _, _, (s56.blk B38 ub).cell rfl, IfB.dec (fun hltv => ?_) (fun _ => ?_)⟩
    · obtain ⟨p59, vs, rfl, hp59, hv59, hc59, hm59, y1, z1, k1, q1, z2, k2, q2, rfl, w1⟩ := (r4.spo (t38.trans s56) fun _ _ h s => h.spo (t38.trans s56) s).get v0 hltv
      refine ⟨_, _, _, (s56.blk B38 ub).cell rfl, PtrOK.of rfl ⟨⟨v0, hltv⟩, _, _, _, hc59 1 _ rfl, spoil44 w1 fun w61 s61 => ?_⟩⟩
      exact ⟨fit64 (by omega) (by omega), ⟨by omega, by omega, s56.trans s61⟩, by (try dsimp only); omega⟩
    · exact ⟨fit64 (by omega) (by omega), ⟨by omega, by omega, (s19.trans t38).trans s56⟩, by (try dsimp only); omega⟩
  · have t62 := t19.trans (Spo.of0 (U := U) fun S => d62.fr S)
    have B62 := t62.blk B6 ub1
    obtain ⟨t', hc', hz'⟩ := t62.str (hc 0 _ rfl)
    have e1 : (ByteArray.mk #[126]).size = 1 := rfl
    have m62 := t62.may _ (hm 0 (by decide))
    refine ⟨_, _, _, B62.cell rfl, _, _, _, B62.cell rfl, PtrOK.of rfl ⟨⟨h0, hlt⟩, _, hc', by rw [e1]; omega, PtrOK.of rfl ⟨⟨h0, hlt⟩, m62, fun w68 s68 => ?_⟩⟩⟩
    have t68 := (s6.trans t62).trans (Spo.set (k := 1) hc' (by rw [add_blk, add_blk]; exact hp) (.inr (.inr ⟨_, _, rfl, rfl, by rw [tilde_size]; exact Nat.le_refl _⟩)) s68)
    exact ⟨fit64 (by omega) (by omega), ⟨by omega, by omega, t68.mono (by omega)⟩, by (try dsimp only); omega⟩
end

/-! ### What was read has this form -/
theorem name16 {s : ByteArray} (h : Cln (nameW s)) : s.size ≤ 16 := (name_size (show nameOK s = true by simpa [nameW] using h.2.1)).2

theorem shp_of {U : Nat → Prop} {w : World} {a : Option Addr} {l : Nat} {p : Prg} (h : Cln (encW p)) (D : rSeq U True w 8 (RCls U True w) a l p.clss) : Shp U w 8 (HCls U 16 w) a l := by
  obtain ⟨_, h⟩ := cln_app.1 h
  obtain ⟨hl, hx⟩ := lay_cln h
  have le : ∀ {α : Type} {n : Nat} {W : α → Wr} {xs : List α}, n ≤ 1000 → Cln (layW n W xs) → xs.length ≤ 1000 := fun hn h => Nat.le_trans (lay_cln h).1 hn
  have ints : ∀ {a : Option Addr} {l : Nat} {n : Nat} {xs : List Int}, n ≤ 1000 → Cln (layW n numW xs) → rSeq U True w 1 RInt a l xs → Shp U w 1 HInt a l := fun hn h D => Shp.of D (le hn h) fun vs x _ e => ⟨x, e⟩
  refine Shp.of D (by omega) fun vs x hxm hr => ?_
  have h := hx x hxm
  unfold clsW at h
  obtain ⟨h1, h⟩ := cln_app.1 h
  obtain ⟨h2, h⟩ := cln_app.1 h
  obtain ⟨h3, h⟩ := cln_app.1 h
  obtain ⟨h4, h⟩ := cln_app.1 h
  obtain ⟨h5, h⟩ := cln_app.1 h
  obtain ⟨h6, h7⟩ := cln_app.1 h
  obtain ⟨a1, l1, c1, a2, l2, c2, a3, l3, c3, a4, l4, c4, rfl, d1, d2, d3, d4⟩ := hr
  refine ⟨_, _, _, _, _, _, _, _, _, _, _, _, _, _, _, _, rfl, name16 h1, ints (by decide) h4 d1, Shp.of d2 (le (by decide) h5) fun vs y hy e => ⟨y.name, y.ty, e, name16 (cln_app.1 ((lay_cln h5).2 y hy)).1⟩, Shp.of d4 (le (by decide) h7) fun vs y hy e => ?_⟩
  have g := (lay_cln h7).2 y hy
  unfold mthW at g
  obtain ⟨g1, g⟩ := cln_app.1 g
  obtain ⟨g2, g⟩ := cln_app.1 g
  obtain ⟨g3, g⟩ := cln_app.1 g
  obtain ⟨g4, g⟩ := cln_app.1 g
  obtain ⟨gf, g⟩ := cln_app.1 g
  obtain ⟨g5, g⟩ := cln_app.1 g
  obtain ⟨g6, g⟩ := cln_app.1 g
  obtain ⟨g7, g⟩ := cln_app.1 g
  obtain ⟨g8, g9⟩ := cln_app.1 g
  obtain ⟨z1, k1, o1, z2, k2, o2, z3, k3, o3, z4, k4, o4, rfl, r1, r2, r3, r4⟩ := e
  refine ⟨_, _, _, _, _, _, _, _, _, _, _, _, _, _, _, _, _, rfl, ints (by decide) g3 r1, Shp.of r2 (le (by decide) g7) fun vs y _ e => ⟨_, _, _, e⟩, Shp.of r4 (le (by decide) g9) fun vs y hy e => ?_⟩
  obtain ⟨i1, j1, q1, i2, j2, q2, rfl, s1, s2⟩ := e
  have f := (lay_cln g9).2 y hy
  unfold mpeW at f
  exact ⟨_, _, _, _, _, _, _, rfl, ints (by decide) (cln_app.1 (cln_app.1 f).2).1 s1⟩
end Go.Proofs.Ytmlhdmnnijapjaa.V
