/- The law ShakeRounds: what it computes. No condition. -/
import Derived.Test.YtfpghcdjfiggiaaShake
namespace Go.Proofs.Ytfpghcdjfiggiaa.V
open Go Go.RowKit

/-- Which thread is taken in a round's step j. -/
def turnOf (k m i j : Int) : Int := if k % 3 = 0 ∨ k % 5 = 0 ∨ k % 7 = 0 then (j + i) % k else (j * m + i) % k

theorem turn_inj {k m i j j' : Int} (hk : 1 ≤ k ∧ k ≤ 8) (hm : m = 1 ∨ m = 3 ∨ m = 5 ∨ m = 7) (h0 : 0 ≤ j) (h1 : j < k) (h2 : 0 ≤ j') (h3 : j' < k) (h : turnOf k m i j = turnOf k m i j') : j = j' := by
  unfold turnOf at h
  have : k = 1 ∨ k = 2 ∨ k = 3 ∨ k = 4 ∨ k = 5 ∨ k = 6 ∨ k = 7 ∨ k = 8 := by omega
  rcases this with rfl | rfl | rfl | rfl | rfl | rfl | rfl | rfl <;> simp at h <;> (try omega) <;> rcases hm with rfl | rfl | rfl | rfl <;> omega

theorem filter_length {ks : List Int} {t : Int} (hn : ks.Nodup) (ht : t ∈ ks) : (ks.filter (fun x => !(t == x))).length + 1 = ks.length := by
  induction ks with
  | nil => simp at ht
  | cons a l ih =>
    rw [List.nodup_cons] at hn
    rw [List.filter_cons]
    rcases List.mem_cons.1 ht with e | h
    · subst e
      have : l.filter (fun x => !(t == x)) = l := by
        rw [List.filter_eq_self]; intro x hx
        have : t ≠ x := fun e => hn.1 (e ▸ hx)
        simp [this]
      simp [this]
    · have hne : t ≠ a := fun e => hn.1 (e ▸ h)
      have := ih hn.2 h
      simp [hne]
      simpa using this

theorem upTo_nodup (n : Nat) : (upTo n).Nodup := by
  unfold upTo
  rw [List.nodup_iff_pairwise_ne, List.pairwise_map]
  exact List.Pairwise.imp (fun {a b} h => by omega) (List.pairwise_lt_range (n := n))

theorem upTo_length (n : Nat) : (upTo n).length = n := by simp [upTo]

theorem rounds_c (threads rounds order : Int) {w : World} {K : Bool → World → Prop} (hK : ∀ w', Fr [] w w' → K true w') : C4 threads rounds order w K := by
  refine r_f4 _ _ _ _ _ (awake10_c fun w0 f0 => ?_)
  obtain ⟨g1, g2⟩ := and_range 7 3 (by decide) (by decide) threads
  obtain ⟨r1, r2⟩ := and_range 15 4 (by decide) (by decide) rounds
  have o1 : bits .and .i64 order 3 = order % 4 := bits_low 3 2 (by decide) (by decide) order
  rw [o1]
  generalize bits .and .i64 threads 7 = th at *
  generalize bits .and .i64 rounds 15 = ro at *
  have q1 : 0 ≤ order % 4 ∧ order % 4 ≤ 3 := by omega
  generalize order % 4 = od at *
  refine ifb_f ⟨fit64 (by omega) (by omega), ?_⟩
  refine shakeNew_c (1 + th) (fun h => absurd (by omega) h) (fun _ w1 sb mb A f1 l1 l2 => ?_)
  have ls : w.heap.size ≤ sb := Nat.le_trans f0.size l1
  have lm : w.heap.size ≤ mb := Nat.le_trans f0.size l2
  have lS : ∀ k ∈ [sb, mb], k ∈ ([] : List Nat) ∨ w.heap.size ≤ k := by simp; omega
  have lS' : ∀ k ∈ [mb], k ∈ ([] : List Nat) ∨ w.heap.size ≤ k := by simp; omega
  refine ⟨fun i w' => 0 ≤ i ∧ i ≤ ro ∧ (∃ what, ShakeAt w' sb mb (1 + th) [] what i) ∧ Fr [] w w', fun i _ => (ro - i).toNat, ⟨by omega, by omega, ⟨0, A⟩, f0.trans (f1 []) (by simp)⟩, ?_⟩
  rintro - i w2 ⟨hi0, hi1, ⟨what, A2⟩, f2⟩
  refine IfB.dec (fun hlt => ?_) (fun hge => ?_)
  · refine ⟨fit64 (by omega) (by omega), ?_⟩
    refine shakeAsk_c A2 (100 + i) (by omega) (by omega) (fun h => absurd rfl h) (fun _ w3 A3 f3 => ?_)
    refine ⟨fun j w' => 0 ≤ j ∧ j ≤ 1 + th ∧ (∃ ks, ShakeAt w' sb mb (1 + th) ks (100 + i) (i + 1) ∧ ks.Nodup ∧ (ks.length : Int) = 1 + th - j ∧
        ∀ x, 0 ≤ x → x < 1 + th → (∀ j', 0 ≤ j' → j' < j → turnOf (1 + th) (2 * od + 1) i j' ≠ x) → x ∈ ks) ∧ Fr [] w w',
      fun j _ => (1 + th - j).toNat, ⟨by omega, by omega, ⟨_, A3, upTo_nodup _, by rw [upTo_length]; omega, fun x h0 h1 _ => mem_upTo.2 (by omega)⟩, f2.trans f3 lS⟩, ?_⟩
    rintro - j w4 ⟨hj0, hj1, ⟨ks, A4, hn, hl, hx⟩, f4⟩
    refine IfB.dec (fun hlt2 => ?_) (fun hge2 => ?_)
    · have hm : j * (2 * od + 1) ≤ 8 * 7 ∧ 0 ≤ j * (2 * od + 1) := by
        have : od = 0 ∨ od = 1 ∨ od = 2 ∨ od = 3 := by omega
        rcases this with rfl | rfl | rfl | rfl <;> omega
      refine ⟨fit64 (by omega) (by omega), fit64 (by omega) (by omega), fit64 (by omega) (by omega), fit64 (by omega) (by omega), by omega, ?_⟩
      refine ⟨fun t w' => t = turnOf (1 + th) (2 * od + 1) i j ∧ w' = w4, ?_, ?_⟩
      · have e : ∀ c : Int, 0 < c → Int.tmod (1 + th) c = (1 + th) % c := fun c _ => Int.tmod_eq_emod_of_nonneg (by omega)
        have e2 : Int.tmod (j + i) (1 + th) = (j + i) % (1 + th) := Int.tmod_eq_emod_of_nonneg (by omega)
        have e3 : Int.tmod (j * (2 * od + 1) + i) (1 + th) = (j * (2 * od + 1) + i) % (1 + th) := Int.tmod_eq_emod_of_nonneg (by omega)
        rw [e 3 (by decide), e 5 (by decide), e 7 (by decide), e2, e3]
        refine ⟨by decide, IfB.dec (fun h => ⟨fit64 (by omega) (by omega), by omega, ?_, rfl⟩) (fun h => ⟨by decide, IfB.dec (fun h' => ⟨fit64 (by omega) (by omega), by omega, ?_, rfl⟩) (fun h' => ⟨by decide, IfB.dec (fun h'' => ⟨fit64 (by omega) (by omega), by omega, ?_, rfl⟩) (fun h'' => ⟨?_, rfl⟩)⟩)⟩)⟩
        all_goals unfold turnOf
        · rw [if_pos (.inl h)]
        · rw [if_pos (.inr (.inl h'))]
        · rw [if_pos (.inr (.inr h''))]
        · rw [if_neg (by omega)]
      · rintro - t w5 ⟨rfl, rfl⟩
        have t0 : 0 ≤ turnOf (1 + th) (2 * od + 1) i j ∧ turnOf (1 + th) (2 * od + 1) i j < 1 + th := by
          unfold turnOf
          split
          · exact ⟨Int.emod_nonneg _ (by omega), Int.emod_lt_of_pos _ (by omega)⟩
          · exact ⟨Int.emod_nonneg _ (by omega), Int.emod_lt_of_pos _ (by omega)⟩
        have tin : turnOf (1 + th) (2 * od + 1) i j ∈ ks := hx _ t0.1 t0.2 fun j' h0 h1 e => by
          have := turn_inj (by omega) (by omega) h0 (by omega) hj0 hlt2 e
          omega
        generalize ht : turnOf (1 + th) (2 * od + 1) i j = t at *
        have fl := filter_length hn tin
        have nin : t ∉ ks.filter (fun x => !(t == x)) := by simp
        have ff : (ks.filter (fun x => !(t == x))).filter (fun x => !(t == x)) = ks.filter (fun x => !(t == x)) := by simp
        refine shakeSee_c A4 t (shakeDone_c A4 ?_)
        rw [if_pos ⟨t0, tin⟩, if_pos t0]
        refine IfB.no (fun e => by rw [e] at tin; simp at tin) ?_
        refine ifb_not (IfB.yes ⟨t0, tin⟩ ⟨fit64 (by omega) (by omega), IfB.nyes rfl (IfB.nyes rfl ?_)⟩)
        refine shakeAnswer_c A4 t (fun h => absurd t0 h) (fun _ w6 A6 f6 => ?_)
        refine shakeAnswer_c A6 t (fun h => absurd t0 h) (fun _ w7 A7 f7 => ?_)
        rw [ff] at A7
        refine shakeSee_c A7 t (IfB.no (fun h => nin h.2) ⟨fit64 (by omega) (by omega), ⟨by omega, by omega, ⟨_, A7, hn.filter _, by omega, ?_⟩, (f4.trans f6 lS').trans f7 lS'⟩, by dsimp only; omega⟩)
        intro x h0 h1 h2
        rw [List.mem_filter]
        have hne : t ≠ x := by rw [← ht]; exact h2 j hj0 (by omega)
        exact ⟨hx x h0 h1 (fun j' h3 h4 => h2 j' h3 (by omega)), by simp [hne]⟩
    · have : ks = [] := List.eq_nil_of_length_eq_zero (by omega)
      subst this
      refine shakeDone_c A4 (ifb_not (IfB.yes rfl (IfB.nyes rfl ⟨fit64 (by omega) (by omega), ⟨by omega, by omega, ⟨_, A4⟩, f4⟩, by dsimp only; omega⟩)))
  · have : i = ro := by omega
    subst this
    refine IfB.yes rfl (shakeRounds_c A2 ?_)
    have := hK w2 f2
    simpa using this

end Go.Proofs.Ytfpghcdjfiggiaa.V
