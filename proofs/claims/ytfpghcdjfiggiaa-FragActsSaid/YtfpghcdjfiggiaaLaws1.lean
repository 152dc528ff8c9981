/- The laws FragForms and FragAgain: what they compute. No condition. -/
import Derived.Test.YtfpghcdjfiggiaaFrag2
import Derived.Test.YtfpghcdjfiggiaaGFragL
namespace Go.Proofs.Ytfpghcdjfiggiaa.V
open Go Go.RowKit

theorem usedL_all {ws : List Int} {base count : Int} (h : ∀ f, 0 ≤ f → f < count → colF ws base f ≠ 0) : (usedL ws base count).length = count.toNat := by
  unfold usedL
  rw [List.filter_eq_self.2, upTo_length]
  intro f hf
  have := mem_upTo.1 hf
  simp [h f (by omega) (by omega)]

theorem usedL_none {ws : List Int} {base count : Int} (h : ∀ f, 0 ≤ f → f < count → colF ws base f = 0) : usedL ws base count = [] := by
  unfold usedL
  rw [List.filter_eq_nil_iff]
  intro f hf
  have := mem_upTo.1 hf
  simp [h f (by omega) (by omega)]

theorem Pool.len {w : World} {F : List Nat} {pb ab wb sb : Nat} {base count : Int} {free ws ss : List Int} (h : Pool w F pb ab wb sb base count free ws ss) : (free.length : Int) ≤ count := by
  have := nodup_len count.toNat free h.nd (fun x hx => by have := (h.fr x).1 hx; have := h.rg; omega)
  have := h.rg
  omega

theorem forms6_c (words base count : Int) {W : World} {K : Bool → World → Prop} (hK : ∀ w', Fr [] W w' → K true w') : C7 words base count W K := by
  refine r_f7 _ _ _ _ _ (awake6_c fun w0 f0 => ifb_nyes rfl ?_)
  obtain ⟨g1, g2⟩ := and_range 2047 11 (by decide) (by decide) words
  generalize bits .and .i64 words 2047 = wn at *
  refine ⟨fit64 (by omega) (by omega), arena_new_c (1 + wn) 1 (fun h => ?_) (fun _ w1 ab wb sb A f1 l1 l2 l3 => ?_)⟩
  · simp [newA] at h; omega
  have z0 := f0.size
  have lS : ∀ k ∈ [wb, sb], k ∈ ([] : List Nat) ∨ W.heap.size ≤ k := by simp; omega
  refine ⟨fun n w' => 0 ≤ n ∧ n ≤ 1 + wn ∧ (∃ ws ss, ArenaAt w' ab wb sb ws ss ∧ (ws.length : Int) = 1 + wn ∧ ss.length = 1 ∧ ∀ j : Int, 0 ≤ j → j < n → ws.getD j.toNat 0 = 1000 + j) ∧ Fr [] W w', fun n _ => (1 + wn - n).toNat,
    ⟨by omega, by omega, ⟨_, _, A, by simp; omega, by simp, fun j h0 h1 => by omega⟩, f0.more (f1 [])⟩, ?_⟩
  rintro - n w2 ⟨hn0, hn1, ⟨ws, ss, A2, hw, hs, hv⟩, f2⟩
  refine IfB.dec (fun hlt => ⟨fit64 (by omega) (by omega), ?_⟩) (fun hge => ?_)
  · refine store_c A2 0 n (1000 + n) (fun h => absurd (by unfold mayA; rw [if_neg (by omega), if_neg (by omega)]) h) (fun _ w3 A3 f3 => ⟨fit64 (by omega) (by omega), ⟨by omega, by omega, ⟨_, _, A3, by simpa using hw, by simpa [tickA] using hs, fun j h0 h1 => ?_⟩, f2.trans f3 lS⟩, by dsimp only; omega⟩)
    rw [getI_set _ _ _ _ (by omega)]
    split
    · omega
    · exact hv j h0 (by omega)
  have hnw : n = 1 + wn := by omega
  refine fnew_c A2 (by omega) base count (fun h => ?_) (fun h w3 pb F free ws3 P hfl hall hl3 ho3 f3 hF => ?_)
  · refine IfB.dec (fun _ => IfB.yes rfl (hK _ f2)) (fun _ => IfB.dec (fun _ => IfB.yes rfl (hK _ f2)) (fun _ => IfB.dec (fun _ => IfB.yes rfl (hK _ f2)) (fun _ => IfB.dec (fun _ => IfB.yes rfl (hK _ f2)) (fun _ => ⟨fit64 (by omega) (by omega), fit64 (by omega) (by omega), fit64 (by omega) (by omega), IfB.dec (fun _ => IfB.yes rfl (hK _ f2)) (fun _ => absurd (by omega) h)⟩))))
  refine IfB.no (by omega) (IfB.no (by omega) (IfB.no (by omega) (IfB.no (by omega) ⟨fit64 (by omega) (by omega), fit64 (by omega) (by omega), fit64 (by omega) (by omega), IfB.no (by omega) (IfB.nyes rfl (ifb_f ?_))⟩)))
  have z2 := f2.size
  have lF : ∀ k ∈ F, k ∈ ([] : List Nat) ∨ W.heap.size ≤ k := fun k hk => .inr (by
    rcases hF k hk with h | h
    · simp at h; omega
    · omega)
  refine ⟨fun n w' => 0 ≤ n ∧ n ≤ count ∧ (∃ free ws ss, Pool w' F pb ab wb sb base count free ws ss ∧ ss.length = 1 ∧ (free.length : Int) = count - n ∧ ws.length = ws3.length ∧ ∀ j : Int, 0 ≤ j → (j < base ∨ base + 14 * count + 64 ≤ j) → ws.getD j.toNat 0 = ws3.getD j.toNat 0) ∧ Fr [] W w',
    fun n _ => (count - n).toNat, ⟨by omega, by omega, ⟨free, ws3, ss, P, hs, by omega, rfl, fun _ _ _ => rfl⟩, f2.trans f3 (by simp; omega)⟩, ?_⟩
  rintro - i w4 ⟨hi0, hi1, ⟨free4, ws4, ss4, P4, hs4, hfl4, hl4, ho4⟩, f4⟩
  refine IfB.dec (fun hlt => ?_) (fun hge => ?_)
  · refine falloc_c P4 0 (fun h => absurd (by omega) h) (fun _ h => by rw [h] at hfl4; simp at hfl4; omega) (fun _ l f hl w5 ws5 P5 hl5 hc5 hr5 ho5 f5 => IfB.nyes rfl ?_)
    have hfm := (P4.fr f).1 (by rw [hl]; simp)
    have c5 : colF ws5 base f = 1 := by rw [hc5 f hfm.1 hfm.2.1, if_pos rfl]
    refine ⟨fun j w' => 0 ≤ j ∧ j ≤ 8 ∧ (∃ ws ss, Pool w' F pb ab wb sb base count l ws ss ∧ ss.length = 1 ∧ colF ws base f = 1 ∧ ws.length = ws3.length ∧ ∀ j : Int, 0 ≤ j → (j < base ∨ base + 14 * count + 64 ≤ j) → ws.getD j.toNat 0 = ws3.getD j.toNat 0) ∧ Fr [] W w',
      fun j _ => (8 - j).toNat, ⟨by omega, by omega, ⟨ws5, ss4, P5, hs4, c5, by omega, fun j h0 h1 => by rw [ho5 j h0 h1, ho4 j h0 h1]⟩, f4.trans f5 lF⟩, ?_⟩
    rintro - j w6 ⟨hj0, hj1, ⟨ws6, ss6, P6, hs6, c6, hl6, ho6⟩, f6⟩
    refine IfB.dec (fun hlt2 => ?_) (fun hge2 => ?_)
    · have rg6 := P6.rg
      refine fstore_c P6 0 f j 7 (fun h => absurd ⟨⟨by omega, hfm.1, hfm.2.1, by omega⟩, hj0, hlt2⟩ h) (fun _ _ _ w7 P7 f7 => ⟨fit64 (by omega) (by omega), ⟨by omega, by omega, ⟨_, _, P7, by simpa [tickA] using hs6, ?_, by simpa using hl6, fun j' h0 h1 => ?_⟩, f6.trans f7 lF⟩, by dsimp only; omega⟩)
      · rw [col_set ⟨rg6.1, rg6.2.2.2.1⟩ ⟨hfm.1, hfm.2.1⟩ ⟨hj0, hlt2⟩ 7 f ⟨hfm.1, hfm.2.1⟩]; exact c6
      · rw [getI_set _ _ _ _ (by omega), if_neg (by omega)]; exact ho6 j' h0 h1
    · refine ⟨fit64 (by omega) (by omega), ⟨by omega, by omega, ⟨l, ws6, ss6, P6, hs6, ?_, hl6, ho6⟩, f6⟩, by dsimp only; omega⟩
      rw [hl] at hfl4; simp at hfl4; omega
  · have hnil : free4 = [] := List.eq_nil_of_length_eq_zero (by omega)
    subst hnil
    refine ⟨fun i w' => 0 ≤ i ∧ i ≤ 1 + wn ∧ (∃ ss, Pool w' F pb ab wb sb base count [] ws4 ss ∧ ss.length = 1) ∧ Fr [] W w', fun i _ => (1 + wn - i).toNat, ⟨by omega, by omega, ⟨ss4, P4, hs4⟩, f4⟩, ?_⟩
    rintro - j w5 ⟨hj0, hj1, ⟨ss5, P5, hs5⟩, f5⟩
    refine IfB.dec (fun hlt => ?_) (fun hge2 => ?_)
    · refine load_c P5.ar 0 j (fun h => absurd (by unfold mayA; rw [if_neg (by omega), if_neg (by omega)]) h) (fun _ w6 A6 f6 => ?_)
      obtain ⟨P6, f6'⟩ := P5.same A6 f6 rfl (fun _ _ _ => Iff.rfl)
      have next : (0 ≤ j + 1 ∧ j + 1 ≤ 1 + wn ∧ (∃ ss, Pool w6 F pb ab wb sb base count [] ws4 ss ∧ ss.length = 1) ∧ Fr [] W w6) ∧ (1 + wn - (j + 1)).toNat < (1 + wn - j).toNat := ⟨⟨by omega, by omega, ⟨_, P6, by simpa [tickA] using hs5⟩, f5.trans f6' lF⟩, by omega⟩
      have same : (j < base ∨ base + 14 * count + 64 ≤ j) → ws4.getD j.toNat 0 = 1000 + j := fun hj => by
        rw [ho4 j hj0 hj, ho3 j hj0 (by omega), hv j hj0 (by omega)]
      refine IfB.dec (fun h1 => ⟨fit64 (by omega) (by omega), IfB.nyes (same (.inl h1)) ⟨fit64 (by omega) (by omega), next⟩⟩) (fun h1 => ⟨fit64 (by omega) (by omega), fit64 (by omega) (by omega), fit64 (by omega) (by omega), IfB.dec (fun h2 => ⟨fit64 (by omega) (by omega), IfB.nyes (same (.inr (by omega))) ⟨fit64 (by omega) (by omega), next⟩⟩) (fun h2 => ⟨fit64 (by omega) (by omega), next⟩)⟩)
    · refine fusedl_c P5 (fun a c w6 U f6 _ => ?_)
      have : (usedL ws4 base count).length = count.toNat := usedL_all fun f h0 h1 h2 => by
        have := (P5.fr f).2 ⟨h0, h1, h2⟩
        simp at this
      rw [this, decide_eq_true (by omega)]
      exact hK w6 (f5.more (f6 []))

theorem again6_c (count rounds : Int) {W : World} {K : Bool → World → Prop} (hK : ∀ w', Fr [] W w' → K true w') : C8 count rounds W K := by
  refine r_f8 _ _ _ _ (awake6_c fun w0 f0 => ifb_nyes rfl ?_)
  obtain ⟨g1, g2⟩ := and_range 31 5 (by decide) (by decide) count
  obtain ⟨r1, r2⟩ := and_range 7 3 (by decide) (by decide) rounds
  generalize bits .and .i64 count 31 = cn at *
  generalize bits .and .i64 rounds 7 = ro at *
  refine ⟨fit64 (by omega) (by omega), begun6_c 0 (1 + cn) (by decide) (by omega) fun w1 F pb ab wb sb free ws P hfl hall f1 hF => ifb_nyes rfl ?_⟩
  have z0 := f0.size
  have lF : ∀ k ∈ F, k ∈ ([] : List Nat) ∨ W.heap.size ≤ k := fun k hk => .inr (Nat.le_trans z0 (hF k hk))
  -- the blocks may grow: all from W's end on
  refine ⟨fun n w' => 0 ≤ n ∧ n ≤ ro + 1 ∧ (∃ F free ws ss, Pool w' F pb ab wb sb 0 (1 + cn) free ws ss ∧ ss.length = 3 ∧ (free.length : Int) = 1 + cn ∧ (∀ f, 0 ≤ f → f < 1 + cn → f ∈ free) ∧ ∀ k ∈ F, W.heap.size ≤ k) ∧ Fr [] W w', fun n _ => (ro + 1 - n).toNat,
    ⟨by omega, by omega, ⟨F, free, ws, _, P, rfl, hfl, hall, fun k hk => (lF k hk).resolve_left (by simp)⟩, f0.more f1⟩, ?_⟩
  rintro - n w2 ⟨hn0, hn1, ⟨F2, free2, ws2, ss2, P2, hs2, hfl2, hall2, hF2⟩, f2⟩
  have lF2 : ∀ k ∈ F2, k ∈ ([] : List Nat) ∨ W.heap.size ≤ k := fun k hk => .inr (hF2 k hk)
  refine IfB.dec (fun hle => ?_) (fun hgt => ?_)
  · refine ⟨fun j w' => 0 ≤ j ∧ j ≤ 1 + cn ∧ (∃ free ws ss, Pool w' F2 pb ab wb sb 0 (1 + cn) free ws ss ∧ ss.length = 3 ∧ (free.length : Int) = 1 + cn - j) ∧ Fr [] W w', fun j _ => (1 + cn - j).toNat, ⟨by omega, by omega, ⟨free2, ws2, ss2, P2, hs2, by omega⟩, f2⟩, ?_⟩
    rintro - j w3 ⟨hj0, hj1, ⟨free3, ws3, ss3, P3, hs3, hfl3⟩, f3⟩
    refine IfB.dec (fun hlt => ⟨by decide, ?_⟩) (fun hge => ?_)
    · have m1 : 0 ≤ Int.tmod j 3 := Int.tmod_nonneg _ hj0
      have m2 : Int.tmod j 3 < 3 := Int.tmod_lt_of_pos _ (by omega)
      refine falloc_c P3 _ (fun h => absurd (by omega) h) (fun _ h => by rw [h] at hfl3; simp at hfl3; omega) (fun _ l f hl w4 ws4 P4 hl4 hc4 hr4 ho4 f4 => ?_)
      have hfm := (P3.fr f).1 (by rw [hl]; simp)
      have c4 : colF ws4 0 f = 1 := by rw [hc4 f hfm.1 hfm.2.1, if_pos rfl]
      have rg4 := P4.rg
      refine fload_c P4 0 f n (fun h => absurd ⟨⟨by omega, hfm.1, hfm.2.1, by omega⟩, hn0, by omega⟩ h) (fun _ _ _ w5 P5 f5 => ?_)
      rw [hr4 f n hfm.1 hfm.2.1 hn0 (by omega), if_pos rfl]
      refine fstore_c P5 1 f n 5 (fun h => absurd ⟨⟨by simp [tickA]; omega, hfm.1, hfm.2.1, by omega⟩, hn0, by omega⟩ h) (fun _ _ _ w6 P6 f6 => ?_)
      have c6 : colF (ws4.set (0 + (1 + cn) + f * 8 + n).toNat 5) 0 f = 1 := by
        rw [col_set ⟨rg4.1, rg4.2.2.2.1⟩ ⟨hfm.1, hfm.2.1⟩ ⟨hn0, by omega⟩ 5 f ⟨hfm.1, hfm.2.1⟩]; exact c4
      have s6 : (tickA (tickA ss3 0) 1).length = 3 := by simpa [tickA] using hs3
      refine fpaint_c P6 2 f 3 (fun h => absurd ⟨by omega, hfm.1, hfm.2.1, by omega⟩ h) (fun _ h => absurd (by decide) h) (fun _ _ w7 P7 f7 => ?_)
      refine IfB.nyes rfl (IfB.nyes rfl (IfB.nyes rfl (IfB.nyes rfl (IfB.nyes rfl ⟨fit64 (by omega) (by omega), ⟨by omega, by omega, ⟨l, _, _, P7, s6, ?_⟩, (((f3.trans f4 lF2).trans f5 lF2).trans f6 lF2).trans f7 lF2⟩, by dsimp only; omega⟩))))
      rw [hl] at hfl3; simp at hfl3; omega
    · have hnil : free3 = [] := List.eq_nil_of_length_eq_zero (by omega)
      subst hnil
      refine falloc_c P3 0 (fun h => absurd (by omega) h) (fun _ _ => IfB.nyes rfl ?_) (fun _ l f h => by simp at h)
      have hused : ∀ f, 0 ≤ f → f < 1 + cn → colF ws3 0 f ≠ 0 := fun f h0 h1 h2 => by
        have := (P3.fr f).2 ⟨h0, h1, h2⟩
        simp at this
      refine fusedl_c P3 (fun a c w4 U f4 _ => IfB.nyes (by rw [usedL_all hused]; omega) ?_)
      have P4 := P3.fr0 (f4 [])
      refine ⟨fun j w' => 0 ≤ j ∧ j ≤ 1 + cn ∧ (∃ F free ws ss, Pool w' F pb ab wb sb 0 (1 + cn) free ws ss ∧ ss.length = 3 ∧ (free.length : Int) = j ∧ (∀ f, f ∈ free ↔ 0 ≤ f ∧ f < j) ∧ ∀ k ∈ F, W.heap.size ≤ k) ∧ Fr [] W w', fun j _ => (1 + cn - j).toNat,
        ⟨by omega, by omega, ⟨F2, [], ws3, ss3, P4, hs3, rfl, fun f => by simp <;> omega, hF2⟩, f3.more (f4 [])⟩, ?_⟩
      rintro - i w5 ⟨hi0, hi1, ⟨F5, free5, ws5, ss5, P5, hs5, hfl5, hm5, hF5⟩, f5⟩
      refine IfB.dec (fun hlt => ⟨by decide, ?_⟩) (fun hge2 => ?_)
      · have m1 : 0 ≤ Int.tmod i 3 := Int.tmod_nonneg _ hi0
        have m2 : Int.tmod i 3 < 3 := Int.tmod_lt_of_pos _ (by omega)
        have hu : colF ws5 0 i ≠ 0 := fun h => by
          have := (hm5 i).1 ((P5.fr i).2 ⟨hi0, hlt, h⟩)
          omega
        refine ffree_c P5 _ i (fun h => absurd ⟨by omega, hi0, hlt, hu⟩ h) (fun _ w6 F6 P6 f6 gw => IfB.nyes rfl ⟨fit64 (by omega) (by omega), ⟨by omega, by omega, ⟨F6, _, _, _, P6, hs5, by simp; omega, fun f => ?_, gw.up hF5 f5.size⟩, f5.trans f6 (fun k hk => .inr (hF5 k hk))⟩, by dsimp only; omega⟩)
        rw [List.mem_append, hm5 f, List.mem_singleton]; omega
      · have : i = 1 + cn := by omega
        subst this
        exact ⟨fit64 (by omega) (by omega), ⟨by omega, by omega, ⟨F5, free5, ws5, ss5, P5, hs5, hfl5, fun f h0 h1 => (hm5 f).2 ⟨h0, h1⟩, hF5⟩, f5⟩, by dsimp only; omega⟩
  · refine fusedl_c P2 (fun a c w4 U f4 _ => ?_)
    rw [usedL_none (fun f h0 h1 => ((P2.fr f).1 (hall2 f h0 h1)).2.2)]
    exact hK w4 (f2.more (f4 []))

end Go.Proofs.Ytfpghcdjfiggiaa.V
