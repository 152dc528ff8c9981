/- The law ArenaSwaps: what it computes. No condition. -/
import Derived.Test.YtfpghcdjfiggiaaArena
import Derived.Test.YtfpghcdjfiggiaaBits
namespace Go.Proofs.Ytfpghcdjfiggiaa.V
open Go Go.RowKit

theorem awake3_c {w : World} {K : Bool → World → Prop} (hK : ∀ w', Fr [] w w' → K true w') : Calls Try.prog 41 #[] w (Ret [.leaf .bool] K) := by
  refine r_f41 _ _ (arena_new_c 4 2 (fun h => absurd h (by decide)) (fun _ w1 ab wb sb A f1 l1 l2 l3 => ?_))
  refine store_c A 1 3 7 (fun h => absurd (by decide) h) (fun _ w2 A f2 => ?_)
  refine load_c A 0 3 (fun h => absurd (by decide) h) (fun _ w3 A f3 => ?_)
  refine swap_c A 0 3 7 9 (fun h => absurd (by decide) h) (fun _ h => absurd (by decide) h) (fun _ _ w4 A f4 => ?_)
  refine load_c A 2 0 (fun _ => ?_) (fun h => absurd h (by decide))
  have f : Fr [] w w4 := (((f1 []).trans f2 (by simp; omega)).trans f3 (by simp; omega)).trans f4 (by simp; omega)
  refine num_c (IfB.yes rfl (num_c (IfB.yes rfl (IfB.yes (by decide) (num_c (IfB.yes rfl ?_))))))
  refine ifb_t ?_
  refine num_c (IfB.yes rfl (num_c (IfB.yes (by decide) (steps_c A 0 (IfB.yes (by decide) (words_c A ?_))))))
  exact hK _ f

theorem swaps_c (agents rounds : Int) {w : World} {K : Bool → World → Prop} (hK : ∀ w', Fr [] w w' → K true w') :
    Calls Try.prog 6 #[.int .i64 agents, .int .i64 rounds] w (Ret [.leaf .bool] K) := by
  refine r_f6 _ _ _ _ (awake3_c fun w0 f0 => ?_)
  obtain ⟨g1, g2⟩ := and_range 7 3 (by decide) (by decide) agents
  obtain ⟨r1, r2⟩ := and_range 31 5 (by decide) (by decide) rounds
  generalize bits .and .i64 agents 7 = ag at *
  generalize bits .and .i64 rounds 31 = ro at *
  refine ifb_f ⟨fit64 (by omega) (by omega), ?_⟩
  refine arena_new_c 1 (1 + ag) (fun h => absurd h (by simp [newA]; omega)) (fun _ w1 ab wb sb A f1 l1 l2 l3 => ?_)
  have lw : w.heap.size ≤ wb := Nat.le_trans f0.size l2
  have ls : w.heap.size ≤ sb := Nat.le_trans f0.size l3
  have lS : ∀ k ∈ [wb, sb], k ∈ ([] : List Nat) ∨ w.heap.size ≤ k := by simp; omega
  have may0 : ∀ (ws ss : List Int), ws.length = 1 → (ss.length : Int) = 1 + ag → ∀ i, 0 ≤ i → i < 1 + ag → mayA ws ss i 0 = 0 := by
    intro ws ss h1 h2 i h3 h4
    unfold mayA
    rw [if_neg (by omega), if_neg (by omega)]
  refine ⟨fun want i w' => want = i ∧ 0 ≤ i ∧ i ≤ 1 + ro ∧ (∃ ss, ArenaAt w' ab wb sb [want] ss ∧ (ss.length : Int) = 1 + ag) ∧ Fr [] w w', fun want i _ => (1 + ro - i).toNat, ⟨rfl, by omega, by omega, ⟨_, A, by simp; omega⟩, f0.trans (f1 []) (by simp)⟩, ?_⟩
  rintro - want i w2 ⟨rfl, hi0, hi1, ⟨ss, A2, hs⟩, f2⟩
  refine ⟨fit64 (by omega) (by omega), IfB.dec (fun hlt => ?_) (fun hge => ?_)⟩
  · refine ⟨by omega, ?_⟩
    have m1 : 0 ≤ Int.tmod want (1 + ag) := Int.tmod_nonneg _ hi0
    have m2 : Int.tmod want (1 + ag) < 1 + ag := Int.tmod_lt_of_pos _ (by omega)
    refine load_c A2 _ 0 (fun h => absurd (may0 _ _ rfl hs _ m1 m2) h) (fun _ w3 A3 f3 => ?_)
    rw [show ([want] : List Int).getD (Int.toNat 0) 0 = want from rfl]
    refine num_c (ifb_not (IfB.yes rfl (ifb_not (IfB.yes rfl ?_))))
    have hs3 : ((tickA ss (Int.tmod want (1 + ag))).length : Int) = 1 + ag := by simp [tickA, hs]
    refine ⟨fun j w' => 0 ≤ j ∧ j ≤ 1 + ag ∧ (∃ ss, ArenaAt w' ab wb sb [if j = 0 then want else want + 1] ss ∧ (ss.length : Int) = 1 + ag) ∧ Fr [] w w', fun j _ => (1 + ag - j).toNat, ⟨by omega, by omega, ⟨_, A3, hs3⟩, f2.trans f3 lS⟩, ?_⟩
    rintro - j w4 ⟨hj0, hj1, ⟨ss4, A4, hs4⟩, f4⟩
    refine IfB.dec (fun hlt2 => ?_) (fun hge2 => ?_)
    · refine ⟨fit64 (by omega) (by omega), ?_⟩
      refine swap_c A4 j 0 want (want + 1) (fun h => absurd (may0 _ _ rfl hs4 _ hj0 hlt2) h) (fun _ hne w5 A5 f5 => ?_) (fun _ he w5 A5 f5 => ?_)
      all_goals rw [show ([if j = 0 then want else want + 1] : List Int).getD (Int.toNat 0) 0 = (if j = 0 then want else want + 1) from rfl] at *
      · have hj : j ≠ 0 := fun h => hne (by simp [h])
        refine num_c (ifb_not (IfB.yes rfl (ifb_not ?_)))
        rw [show decide (j = 0) = false from by simp [hj]]
        refine ifb_t ⟨fit64 (by omega) (by omega), ⟨by omega, by omega, ⟨tickA ss4 j, ?_, ?_⟩, f4.trans f5 lS⟩, by dsimp only; omega⟩
        · rw [if_neg hj] at A5; rw [if_neg (by omega)]; exact A5
        · simp [tickA, hs4]
      · have hj : j = 0 := by
          rcases Decidable.em (j = 0) with h | h
          · exact h
          · simp [h] at he; omega
        refine num_c (ifb_not (IfB.yes rfl (ifb_not ?_)))
        rw [show decide (j = 0) = true from by simp [hj]]
        refine ifb_t ⟨fit64 (by omega) (by omega), ⟨by omega, by omega, ⟨tickA ss4 j, ?_, ?_⟩, f4.trans f5 lS⟩, by dsimp only; omega⟩
        · rw [if_neg (by omega)]; simpa using A5
        · simp [tickA, hs4]
    · refine ⟨fit64 (by omega) (by omega), fit64 (by omega) (by omega), ⟨rfl, by omega, by omega, ⟨ss4, ?_, hs4⟩, f4⟩, by dsimp only; omega⟩
      rw [if_neg (by omega)] at A4
      exact A4
  · refine load_c A2 0 0 (fun h => absurd (may0 _ _ rfl hs _ (by omega) (by omega)) h) (fun _ w3 A3 f3 => num_c (IfB.yes rfl (num_c (IfB.yes rfl ?_))))
    have := hK w3 (f2.trans f3 lS)
    simpa using this

end Go.Proofs.Ytfpghcdjfiggiaa.V
