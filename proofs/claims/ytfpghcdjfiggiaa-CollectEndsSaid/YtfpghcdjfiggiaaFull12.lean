/- CollectFull: the heap is filled and emptied again and again. No condition. -/
import Derived.Test.YtfpghcdjfiggiaaCollectE
import Derived.Test.YtfpghcdjfiggiaaBits
namespace Go.Proofs.Ytfpghcdjfiggiaa.V
open Go Go.RowKit

/-- Nothing is reached. -/
theorem rch_none12 {p : Int → Bool} {xs : List XC} {S : List Int} (h : ∀ r ∈ S, ∀ x ∈ xs, x.ref ≠ r) (r : Int) : Rch p xs S r ↔ r ∈ ([] : List Int) := by
  constructor
  · intro hr
    exfalso
    induction hr with
    | root r h1 h2 =>
      obtain ⟨x, hx, e⟩ := isref_iff.1 h2
      exact h r h1 x hx e
    | step _ _ _ _ _ _ _ _ _ ih => exact ih
  · intro h; cases h

theorem awake12_c {w : World} {K : Bool → World → Prop} (hK : ∀ w', Fr [] w w' → K true w') : C111 w K := by
  refine r_f111 _ _ (qcnew 4000 2 (by decide) fun w1 own1 cb R1 => ?_)
  have R1 : Cq w w1 own1 cb [[], []] 4000 0 0 [] := R1
  refine qcmake R1 (by decide) (rs := []) (by decide) rfl (by decide) (by decide) (fun q => absurd q (by decide)) (fun _ q => absurd q (by decide)) fun _ _ w2 own2 R2 st2 => ?_
  have R2 : Cq w w2 own2 cb [[1], []] 4000 0 1 [⟨1, 1, 3, 2, [0, 0]⟩] := R2
  refine qcput R2 1 (by decide) (x := ⟨1, 1, 3, 2, [0, 0]⟩) (by simp) rfl (by decide) fun w3 own3 R3 st3 => ?_
  have R3 : Cq w w3 own3 cb [[1], []] 4000 0 1 [⟨1, 1, 3, 2, [0, 1]⟩] := R3
  refine qcload R3 (by decide) (x := ⟨1, 1, 3, 2, [0, 1]⟩) (by simp) rfl (by decide) fun w4 own4 R4 st4 => ?_
  refine qcpop R4 (rs := [1]) (by decide) rfl (fun q => by cases q) fun l f e w5 own5 R5 st5 => ?_
  obtain ⟨rfl, rfl⟩ : l = [] ∧ f = 1 := by
    cases l with
    | nil => simp at e; exact ⟨rfl, e.symm⟩
    | cons a l => cases l <;> simp at e
  have R5 : Cq w w5 own5 cb [[], []] 4000 0 1 [⟨1, 1, 3, 2, [0, 1]⟩] := R5
  refine qcpop R5 (rs := []) (by decide) rfl (fun _ => ?_) (fun l f e => by simp at e)
  refine qcbegin R5 (by decide) fun w6 own6 h6 st6 => ?_
  have fin : ∀ (b : Bool) w7, Fr [] w w7 → C112 1023 1 w7 fun q23 n24 w25 => IfB (decide ((0 : Int) = 0)) (IfB (decide ((0 : Int) = 0)) (IfB (decide ((0 : Int) = 0)) (IfB (decide ((1 : Int) = 1)) (IfB (decide ((0 : Int) = 0)) (IfB (decide ((1 : Int) = 1)) (IfB (decide ((0 : Int) = 0)) (IfB (decide ((1203 : Int) = 1203)) (IfB (decide ((0 : Int) = 0)) (IfB (decide ((0 : Int) = 0)) (K (decide ((n24 : Int) = 1200)) w25) (K false w25)) (K false w25)) (K false w25)) (K false w25)) (K false w25)) (K false w25)) (K false w25)) (K false w25)) (K false w25)) (K false w25) := fun b w7 f7 =>
    r_f112 _ _ _ _ (by repeat' (refine ifb_yes rfl ?_); exact hK w7 f7)
  have hb : ∀ {own' : Nat → Nat} {k m : Nat} {w' : World}, Cm w w' own' cb [[], []] 4000 0 1 [⟨1, 1, 3, 2, [0, 1]⟩] k m → Fr [] w w' := fun h => by
    obtain ⟨s, c, _⟩ := h; exact c.bs.fr
  refine qcstep h6 (by decide) (by simp) (by decide) (by decide) [] (rch_none12 (by simp)) (fun _ => fin true w6 (hb h6)) (fun w7 own7 m7 _ h7 _ => fin true w7 (hb h7)) (fun w7 own7 h7 _ => fin false w7 h7.bs)

/-- Cells of n words without refs, from o on. -/
def fulls (o : Int) (n : Int) (j : Nat) : List XC := (List.range j).map fun (i : Nat) => ⟨o + i + 1, 2, 0, n, List.replicate n.toNat 0⟩
theorem fulls_succ (o n : Int) (j : Nat) : fulls o n (j + 1) = fulls o n j ++ [⟨o + j + 1, 2, 0, n, List.replicate n.toNat 0⟩] := by unfold fulls; rw [List.range_succ]; simp
theorem fulls_sum (o n : Int) : ∀ j : Nat, xsum (fulls o n j) = j * (n + 16)
  | 0 => by simp [fulls, xsum]
  | j + 1 => by
    have : ∀ (a b : List XC), xsum (a ++ b) = xsum a + xsum b := fun a b => by
      induction a with
      | nil => simp [xsum]
      | cons x a ih => simp only [List.cons_append, xsum, ih]; omega
    rw [fulls_succ, this, fulls_sum o n j]
    simp only [xsum]
    rw [show ((j + 1 : Nat) : Int) = (j : Int) + 1 by omega, Int.add_mul]; omega

theorem collectFull_c {w : World} {size rounds : Int} {K : Bool → World → Prop} (hK : ∀ w', Fr [] w w' → K true w') : C29 size rounds w K := by
  refine r_f29 _ _ _ _ (awake12_c fun w1 f1 => ifb_f (qcnew 4096 1 (by decide) fun w2 own2 cb R2 => ?_))
  replace hK : ∀ w', Fr [] w1 w' → K true w' := fun w' f => hK w' (f1.trans f (fun _ h => .inl h))
  have hm := and_range 63 6 (by decide) rfl size
  have hb := and_range 3 2 (by decide) rfl rounds
  obtain ⟨N, hN⟩ : ∃ N, N = 20 + bits .and .i64 size 63 := ⟨_, rfl⟩
  have hNN : 20 ≤ N ∧ N ≤ 83 := by omega
  rw [w64_c (z := 20 + _) (by omega) (by omega), ← hN, w64_c (z := N + 16) (by omega) (by omega)]
  generalize bits .and .i64 rounds 3 = bk at hb ⊢
  clear hm hN
  have ht : Int.tdiv 1024 (N + 16) = 1024 / (N + 16) := Int.tdiv_eq_ediv_of_nonneg (by omega)
  have hq0 : 0 ≤ 1024 / (N + 16) := Int.ediv_nonneg (by omega) (by omega)
  have hq1 : (1024 / (N + 16)) * (N + 16) ≤ 1024 := Int.ediv_mul_le _ (by omega)
  have hq2 : 1024 < (1024 / (N + 16) + 1) * (N + 16) := Int.lt_ediv_add_one_mul_self _ (by omega)
  rw [ht]
  generalize 1024 / (N + 16) = q at hq0 hq1 hq2
  have hq3 : q ≤ 28 := by
    refine Classical.byContradiction fun hc => ?_
    have h1 : 29 ≤ q := by omega
    have h2 : 29 * (N + 16) ≤ q * (N + 16) := Int.mul_le_mul_of_nonneg_right h1 (by omega)
    omega
  rw [w64_c (z := q) (by omega) (by omega), show min q 64 = q by omega]
  have R2 : Cq w1 w2 own2 cb [[]] 4096 0 0 [] := R2
  refine ⟨fun n w' => 0 ≤ n ∧ n ≤ bk + 1 ∧ ∃ (own : Nat → Nat) (last : Int), last ≤ 28 * n ∧ Cq w1 w' own cb [[]] 4096 n last [], fun n _ => (bk + 1 - n).toNat, ⟨by decide, by omega, own2, 0, by omega, R2⟩, ?_⟩
  rintro - n w3 ⟨hn0, hn1, own3, last, hl, R3⟩
  refine IfB.dec (fun hlt => ?_) (fun hge => hK w3 R3.bs)
  refine ⟨fun j w' => ∃ (i : Nat) (own : Nat → Nat) (rs : List Int), j = (i : Int) ∧ (i : Int) ≤ q ∧ rs.length = i ∧ Cq w1 w' own cb [rs] 4096 n (last + i) (fulls last N i), fun j _ => (q - j).toNat, ⟨0, own3, [], rfl, by omega, rfl, by simpa [fulls] using R3⟩, ?_⟩
  rintro - _ w4 ⟨i, own4, rs, rfl, hi, hrs, R4⟩
  have es := fulls_sum last N i
  refine qcmake R4 (by omega) (by decide) rfl (by decide) (by unfold formE; rw [if_neg (by decide), if_pos (by decide), if_pos (by omega)]) (fun q => absurd q (by omega)) (fun _ hfull w5 R5 f5 => ?_) (fun _ hroom w5 own5 R5 st5 => ?_)
  · -- full
    rw [es] at hfull
    have hiq : (i : Int) = q := by
      refine Classical.byContradiction fun hc => ?_
      have h1 : (i : Int) + 1 ≤ q := by omega
      have h2 : ((i : Int) + 1) * (N + 16) ≤ q * (N + 16) := Int.mul_le_mul_of_nonneg_right h1 (by omega)
      rw [Int.add_mul] at h2
      omega
    refine ⟨fun _ => False, ifb_yes rfl ⟨by omega, ifb_nyes (decide_eq_true hiq) ?_⟩, fun _ _ hf => hf.elim⟩
    refine ⟨fun j w' => ∃ (k : Nat) (own : Nat → Nat) (rs : List Int), j = (k : Int) ∧ k ≤ i ∧ rs.length = i - k ∧ Cq w1 w' own cb [rs] 4096 n (last + i) (fulls last N i), fun j _ => (i - j).toNat, ⟨0, own4, rs, rfl, by omega, by omega, R5⟩, ?_⟩
    rintro - _ w6 ⟨k, own6, rs6, rfl, hk, hr6, R6⟩
    refine IfB.dec (fun hlt2 => ?_) (fun hge2 => ?_)
    · refine qcpop R6 (by decide) rfl (fun e => by rw [e] at hr6; simp at hr6; omega) fun l f e w7 own7 R7 st7 => ?_
      rw [w64_c (z := (k : Int) + 1) (by omega) (by omega)]
      refine ⟨⟨k + 1, own7, l, rfl, by omega, ?_, R7⟩, by dsimp only; omega⟩
      rw [e] at hr6; simp at hr6; omega
    · have e6 : rs6 = [] := List.eq_nil_of_length_eq_zero (by omega)
      subst e6
      refine run118_c R6 (by decide) (by simp [fulls]; omega) (by simp) (by omega) [] (rch_none12 (by simp)) 1 rfl fun w7 own7 R7 st7 => ?_
      have e7 : (fulls last N i).filter (fun x => decide (x.ref ∈ ([] : List Int))) = [] := by simp
      rw [e7] at R7
      refine qcrefs R7 (by decide) fun a c w8 R8 f8 => ifb_nyes rfl ?_
      rw [w64_c (z := n + 1) (by omega) (by omega)]
      exact ⟨⟨by omega, by omega, own7, last + i, by omega, R8⟩, by dsimp only; omega⟩
  · rw [es] at hroom
    have hiq : (i : Int) < q := by
      refine Classical.byContradiction fun hc => ?_
      have h1 : q + 1 ≤ (i : Int) + 1 := by omega
      have h2 : (q + 1) * (N + 16) ≤ ((i : Int) + 1) * (N + 16) := Int.mul_le_mul_of_nonneg_right h1 (by omega)
      rw [Int.add_mul (i : Int) 1] at h2
      omega
    refine ⟨fun w' => w' = w5, ifb_no rfl (ifb_no (decide_eq_false (by omega)) rfl), ?_⟩
    rintro - _ rfl
    refine ifb_nyes rfl ?_
    rw [w64_c (z := (i : Int) + 1) (by omega) (by omega)]
    refine ⟨⟨i + 1, own5, rs ++ [last + i + 1], rfl, by omega, by simp [hrs], ?_⟩, by dsimp only; omega⟩
    rw [fulls_succ, show last + ((i + 1 : Nat) : Int) = last + i + 1 by omega]
    exact R5
end Go.Proofs.Ytfpghcdjfiggiaa.V
