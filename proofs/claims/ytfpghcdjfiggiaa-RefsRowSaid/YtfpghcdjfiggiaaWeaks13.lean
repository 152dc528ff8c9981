/- RefsWeaks: many weak references to one cell. No condition. -/
import Derived.Test.YtfpghcdjfiggiaaLaws13x
namespace Go.Proofs.Ytfpghcdjfiggiaa.V
open Go Go.RowKit

/-- o+1, .., o+n. -/
def ups (o n : Nat) : List Int := (List.range n).map fun (i : Nat) => (o : Int) + i + 1
theorem ups_succ (o n : Nat) : ups o (n + 1) = ups o n ++ [(o : Int) + n + 1] := by unfold ups; rw [List.range_succ]; simp
theorem ups_len (o n : Nat) : (ups o n).length = n := by simp [ups]
theorem ups_getD {o n i : Nat} (h : i < n) : (ups o n).getD i 0 = (o : Int) + i + 1 := by unfold ups; rw [List.getD_eq_getElem?_getD]; simp [h]
theorem wks_refs (o : Nat) (v : Nat → Int) (n : Nat) : (wks o v n).map (·.ref) = ups o n := by simp [wks, ups]
theorem clr_app (A : List Int) (xs ys : List XC) : clr A (xs ++ ys) = clr A xs ++ clr A ys := by unfold clr; rw [List.filter_append, List.map_append]
theorem clr_wks {A : List Int} {o : Nat} {v : Nat → Int} {n : Nat} (h : ∀ i, i < n → v i ≠ 0 ∧ v i ∉ A) : clr A (wks o v n) = ups o n := by
  unfold clr
  rw [List.filter_eq_self.2 fun x hx => ?_, wks_refs]
  obtain ⟨i, hi, rfl⟩ := mem_wks.1 hx
  simp [stale, (h i hi).1, (h i hi).2]
theorem clear_none {A : List Int} {xs : List XC} (h : ∀ x ∈ xs, x.kind ≠ 4 ∨ x.vs.getD 0 0 = 0 ∨ x.vs.getD 0 0 ∈ A) : xs.map (clear1 A) = xs := map_same fun x hx => by
  unfold clear1
  rw [if_neg]
  have := h x hx
  unfold stale
  rw [decide_eq_true_iff]
  rintro ⟨a, b, c⟩
  rcases this with q | q | q
  · exact q a
  · exact b q
  · exact c q
/-- Nothing is reached. -/
theorem rch_none {p : Int → Bool} {xs : List XC} {S : List Int} (h : ∀ r ∈ S, ∀ x ∈ xs, x.ref ≠ r) (r : Int) : Rch p xs S r ↔ r ∈ ([] : List Int) := by
  constructor
  · intro hr
    exfalso
    induction hr with
    | root r h1 h2 =>
      obtain ⟨x, hx, e⟩ := isref_iff.1 h2
      exact h r h1 x hx e
    | step _ _ _ _ _ _ _ _ _ ih => exact ih
  · intro h; cases h

/-- The cells of RefsWeaks. -/
def weakly (k : Nat) : List XC := ⟨1, 2, 0, 3, [0, 0, 0]⟩ :: wks 1 (fun _ => 1) k
theorem weakly_succ (k : Nat) : weakly (k + 1) = weakly k ++ [⟨(1 : Int) + k + 1, 4, 0, 1, [1]⟩] := by unfold weakly; rw [wks_succ]; simp
theorem weakly_sum (k : Nat) : xsum (weakly k) = 19 + 17 * k := by unfold weakly; simp only [xsum]; rw [wks_sum]; omega
theorem weakly_len (k : Nat) : (weakly k).length = k + 1 := by simp [weakly, wks_len]
theorem weakly_refs (k : Nat) : (weakly k).map (·.ref) = up (k + 1) := by
  unfold weakly; rw [List.map_cons, wks_refs]
  apply List.ext_getElem
  · simp [ups_len, up_len]
  · intro i h1 h2
    cases i with
    | zero => simp [up]
    | succ i => simp [up, ups]; omega
theorem weakly_isref {k : Nat} {r : Int} : (∃ x ∈ weakly k, x.ref = r) ↔ 1 ≤ r ∧ r ≤ (k + 1 : Nat) := by rw [← mem_up, ← weakly_refs, List.mem_map]
theorem mem_weakly {k : Nat} {x : XC} (h : x ∈ weakly k) : x = ⟨1, 2, 0, 3, [0, 0, 0]⟩ ∨ ∃ i : Nat, i < k ∧ x = ⟨((1 : Nat) : Int) + i + 1, 4, 0, 1, [1]⟩ := by
  rcases List.mem_cons.1 h with h | h
  · exact .inl h
  · exact .inr (mem_wks.1 h)

theorem refsWeaks_c {w : World} {many rounds : Int} {K : Bool → World → Prop} (hK : ∀ w', Fr [] w w' → K true w') : C26 many rounds w K := by
  refine r_f26 _ _ _ _ (awake13_c fun w1 f1 => ifb_f (qrnew 8192 1 (by decide) fun w2 own2 rb R2 => ?_))
  replace hK : ∀ w', Fr [] w1 w' → K true w' := fun w' f => hK w' (f1.trans f (fun _ h => .inl h))
  have hm := and_range 15 4 (by decide) rfl many
  obtain ⟨k, hk⟩ : ∃ k : Nat, (k : Int) = 1 + bits .and .i64 many 15 := ⟨(1 + bits .and .i64 many 15).toNat, by omega⟩
  have hkk : 1 ≤ k ∧ k ≤ 16 := by omega
  have hb := and_range 3 2 (by decide) rfl rounds
  rw [w64 (by omega) (by omega), ← hk]
  generalize bits .and .i64 rounds 3 = bk at hb ⊢
  clear hm hk
  refine qrmake R2 (by decide) false (by decide) rfl (by decide) (by decide) (by decide) (by decide) fun w3 own3 R3 st3 => ?_
  have R3 : Rq w1 w3 own3 rb [up (0 + 1)] 8192 ((0 + 1 : Nat) : Int) (weakly 0) [] [] := R3
  refine ⟨fun a l c n w' => ∃ (own : Nat → Nat) (j : Nat), n = (j : Int) ∧ j ≤ k ∧ l = j ∧ Rq w1 w' own rb [up (j + 1)] 8192 ((j + 1 : Nat) : Int) (weakly j) [] [] ∧ Sd w' own a c 1000 (ups 1 j), fun _ _ _ n _ => (k - n).toNat, ⟨own3, 0, rfl, by omega, rfl, R3, Sd.nil _ _ _⟩, ?_⟩
  rintro - a j c _ w4 ⟨own4, _, rfl, hj, rfl, R4, A4⟩
  refine IfB.dec (fun hlt => ?_) (fun hge => ?_)
  · refine qrweak R4 (by omega) (by decide) rfl (by rw [up_len]; omega) ⟨_, List.mem_cons_self .., rfl⟩ (by rw [weakly_sum]; omega) fun w5 own5 R5 st5 => ifb_nyes rfl fun b6 w6 n6 => ?_
    have A5 := A4.step st5 (by decide)
    refine qrapp R5 A5 (by decide) n6 (by rw [ups_len]; omega) (by rw [ups_len]) fun a' c' w7 own7 R7 A7 => ?_
    rw [w64 (by omega) (by omega), ups_len]
    have e1 : ((j + 1 : Nat) : Int) + 1 = (1 : Int) + j + 1 := by omega
    refine ⟨⟨own7, j + 1, rfl, by omega, rfl, ?_, ?_⟩, by dsimp only; omega⟩
    · rw [weakly_succ, up_succ]; rw [e1] at R7; simpa [show (1 : Int) + j + 1 = (j : Int) + 1 + 1 by omega] using R7
    · rw [ups_succ]; rw [e1] at A7; exact A7
  obtain rfl : j = k := by omega
  clear R3 R2
  have fl : ∀ x ∈ weakly j, (x.kind = 4 ∨ x.kind = 2 ∨ x.vs = [0]) ∧ 1 ≤ x.ref := fun x hx => by
    rcases mem_weakly hx with rfl | ⟨i, _, rfl⟩
    · exact ⟨.inr (.inl rfl), by decide⟩
    · exact ⟨.inl rfl, by dsimp only; omega⟩
  have fc : ∀ x ∈ weakly j, x.kind ≠ 4 ∨ x.vs.getD 0 0 = 0 ∨ x.vs.getD 0 0 ∈ up (j + 1) := fun x hx => by
    rcases mem_weakly hx with rfl | ⟨i, _, rfl⟩
    · exact .inl (by decide)
    · exact .inr (.inr (mem_up.2 (by simp; omega)))
  have fo : ∀ r : Int, (r ∈ up (j + 1) ∧ ∃ x ∈ weakly j, x.ref = r) ↔ r ∈ up (j + 1) := fun r => by rw [weakly_isref, mem_up]; simp
  refine ⟨fun n w' => 0 ≤ n ∧ n ≤ bk ∧ ∃ (own : Nat → Nat), Rq w1 w' own rb [up (j + 1)] 8192 ((j + 1 : Nat) : Int) (weakly j) [] [] ∧ Sd w' own a c 1000 (ups 1 j), fun n _ => (bk - n).toNat, ⟨by omega, by omega, own4, R4, A4⟩, ?_⟩
  rintro - n w5 ⟨hn0, hn1, own5, R5, A5⟩
  refine IfB.dec (fun hlt => ?_) (fun hge => ?_)
  · refine qrcycle (kc := 1001) (kd := 1002) (by decide) R5 (by simp) (by rw [weakly_len]; omega) (by decide) (up (j + 1)) (up (j + 1)) [] [] (weakly j) [] [] (fun r => ?_) ?_ ?_ (fun r => ?_) ?_ rfl rfl fun w6 own6 ca cc da dc R6 C6 D6 st6 => ?_
    · rw [flat0 fl]; simpa using fo r
    · exact que_none fun x _ h => by cases h
    · exact clr_none fc
    · rw [clear_none fc, flat0 fl]; simpa using fo r
    · rw [clear_none fc, List.filter_eq_self.2]
      intro x hx
      rw [decide_eq_true_iff, ← weakly_refs]; exact List.mem_map_of_mem hx
    have A6 := A5.step st6 (by decide)
    refine ⟨fun w' => ∃ (own : Nat → Nat), Rq w1 w' own rb [up (j + 1)] 8192 ((j + 1 : Nat) : Int) (weakly j) [] [] ∧ Sd w' own a c 1000 (ups 1 j), ifb_nyes rfl (ifb_nyes rfl (ifb_nyes rfl ⟨own6, R6, A6⟩)), ?_⟩
    rintro - w7 ⟨own7, R7, A7⟩
    refine ⟨fun n w' => ∃ (own : Nat → Nat) (i : Nat), n = (i : Int) ∧ i ≤ j ∧ Rq w1 w' own rb [up (j + 1)] 8192 ((j + 1 : Nat) : Int) (weakly j) [] [] ∧ Sd w' own a c 1000 (ups 1 j), fun n _ => (j - n).toNat, ⟨own7, 0, rfl, by omega, R7, A7⟩, ?_⟩
    rintro - _ w8 ⟨own8, i, rfl, hi, R8, A8⟩
    refine IfB.dec (fun hlt2 => ?_) (fun hge2 => ?_)
    · refine A8.si.get (by omega) (by rw [ups_len]; omega) fun p hp => ⟨⟨by omega, by omega⟩, _, hp, ?_⟩
      rw [show (i : Int).toNat = i by omega, ups_getD (by omega)]
      have hmem : (⟨((1 : Nat) : Int) + i + 1, 4, 0, 1, [1]⟩ : XC) ∈ weakly j := List.mem_cons_of_mem _ (mem_wks.2 ⟨i, by omega, rfl⟩)
      refine qrderef R8 (v := 1) (by simp) hmem rfl rfl rfl rfl fun w9 own9 R9 st9 => ifb_nyes rfl (ifb_nyes rfl ?_)
      rw [w64 (by omega) (by omega)]
      exact ⟨⟨own9, i + 1, rfl, by omega, R9, A8.step st9 (by decide)⟩, by dsimp only; omega⟩
    rw [w64 (by omega) (by omega)]
    exact ⟨⟨by omega, by omega, own8, R8, A8⟩, by dsimp only; omega⟩
  refine ⟨fun n w' => ∃ (own : Nat → Nat) (i : Nat), n = (i : Int) ∧ i ≤ j ∧ Rq w1 w' own rb [up (j + 1 - i)] 8192 ((j + 1 : Nat) : Int) (weakly j) [] [], fun n _ => (j - n).toNat, ⟨own5, 0, rfl, by omega, R5⟩, ?_⟩
  rintro - _ w6 ⟨own6, i, rfl, hi, R6⟩
  have eu : up (j + 1 - i) = up (j - i) ++ [((j - i : Nat) : Int) + 1] := by rw [← up_succ]; congr 1; omega
  refine IfB.dec (fun hlt => ?_) (fun hge => ?_)
  · refine qrpop R6 (by decide) (by rw [eu]; rfl) fun w7 own7 R7 st7 => ?_
    rw [w64 (by omega) (by omega)]
    refine ⟨⟨own7, i + 1, rfl, by omega, ?_⟩, by dsimp only; omega⟩
    rw [show j + 1 - (i + 1) = j - i by omega]
    exact R7
  obtain rfl : i = j := by omega
  refine qrpop R6 (by decide) (by rw [eu]; rfl) fun w7 own7 R7 st7 => ?_
  rw [Nat.sub_self] at R7
  refine ⟨fun n w' => ∃ (own : Nat → Nat) (j : Nat), n = (j : Int) ∧ j ≤ i ∧ Rq w1 w' own rb [List.replicate j 0] 8192 ((i + 1 : Nat) : Int) (weakly i) [] [], fun n _ => (i - n).toNat, ⟨own7, 0, rfl, by omega, R7⟩, ?_⟩
  rintro - _ w8 ⟨own8, j, rfl, hj8, R8⟩
  refine IfB.dec (fun hlt => ?_) (fun hge => ?_)
  · refine qrpush R8 (by decide) rfl (by rw [List.length_replicate]; omega) fun w9 own9 R9 st9 => ?_
    rw [w64 (by omega) (by omega)]
    refine ⟨⟨own9, j + 1, rfl, by omega, ?_⟩, by dsimp only; omega⟩
    rw [List.replicate_succ']; exact R9
  obtain rfl : j = i := by omega
  have hv0 : ∀ i : Nat, i < j → (fun _ => (1 : Int)) i ≠ 0 ∧ (fun _ => (1 : Int)) i ∉ ([] : List Int) := fun _ _ => by simp
  have ecl : (weakly j).map (clear1 []) = ⟨1, 2, 0, 3, [0, 0, 0]⟩ :: wks 1 (fun _ => 0) j := by
    unfold weakly; rw [List.map_cons, clear_wks _ _ _ _ hv0]; rfl
  refine qrcycle (kc := 1001) (kd := 1002) (by decide) R8 (by simp) (by rw [weakly_len]; omega) (by decide) [] [] (ups 1 j) [] [] [] [] (rch_none fun r hr x hx e => ?_) ?_ ?_ (rch_none fun r hr x hx e => ?_) ?_ rfl rfl fun w9 own9 ca cc da dc R9 C9 D9 st9 => ?_
  · simp at hr
    have := (fl x hx).2; omega
  · exact que_none fun x _ h => by cases h
  · unfold weakly
    rw [show ∀ (x : XC) xs, x :: xs = [x] ++ xs from fun _ _ => rfl, clr_app, clr_wks hv0]; rfl
  · simp at hr
    rw [ecl] at hx
    rcases List.mem_cons.1 hx with rfl | hx
    · simp at e; omega
    · obtain ⟨i, _, rfl⟩ := mem_wks.1 hx
      simp at e; omega
  · rw [List.filter_eq_nil_iff.2]; simp
  rw [ups_len]
  refine ifb_yes rfl (ifb_yes rfl (ifb_yes rfl (ifb_yes (decide_eq_true rfl) (qrrefs R9 (by decide) fun a2 c2 w10 R10 f10 => ?_))))
  exact hK w10 R10.bs
end Go.Proofs.Ytfpghcdjfiggiaa.V
