/- RefsChains: a chain held by a queued cell. No condition. -/
import Derived.Test.YtfpghcdjfiggiaaWeaks13
namespace Go.Proofs.Ytfpghcdjfiggiaa.V
open Go Go.RowKit

theorem Rq.srt {W w : World} {own : Nat → Nat} {rb : Nat} {roots : List (List Int)} {words last : Int} {xs : List XC} {fin queue : List Int} (h : Rq W w own rb roots words last xs fin queue) : (xs.map (·.ref)).Pairwise (· < ·) := by
  obtain ⟨_, _, _, _, _, _, _, _, _, R, _⟩ := h; exact R.srt

/-- Cells 1 .. n, each of which holds the next. -/
def lks (n : Nat) : List XC := (List.range n).map fun (i : Nat) => ⟨(i : Int) + 1, 1, 0, 1, [(i : Int) + 2]⟩
theorem lks_succ (n : Nat) : lks (n + 1) = lks n ++ [⟨(n : Int) + 1, 1, 0, 1, [(n : Int) + 2]⟩] := by unfold lks; rw [List.range_succ]; simp
theorem mem_lks {n : Nat} {x : XC} : x ∈ lks n ↔ ∃ i : Nat, i < n ∧ x = ⟨(i : Int) + 1, 1, 0, 1, [(i : Int) + 2]⟩ := by
  unfold lks; rw [List.mem_map]
  exact ⟨fun ⟨i, h, e⟩ => ⟨i, List.mem_range.1 h, e.symm⟩, fun ⟨i, h, e⟩ => ⟨i, List.mem_range.2 h, e.symm⟩⟩
/-- A chain of n + 1 cells; the last holds 0. -/
def chain (n : Nat) : List XC := lks n ++ [⟨(n : Int) + 1, 1, 0, 1, [0]⟩]
theorem lks_sum : ∀ n : Nat, xsum (lks n) = 17 * n
  | 0 => rfl
  | n + 1 => by rw [lks_succ, xsum_append, lks_sum n]; simp [xsum]; omega
theorem chain_sum (n : Nat) : xsum (chain n) = 17 * n + 17 := by unfold chain; rw [xsum_append, lks_sum]; simp [xsum]
theorem chain_len (n : Nat) : (chain n).length = n + 1 := by simp [chain, lks]
theorem chain_refs (n : Nat) : (chain n).map (·.ref) = up (n + 1) := by rw [up_succ]; simp [chain, lks, up]
theorem chain_isref {n : Nat} {r : Int} : (∃ x ∈ chain n, x.ref = r) ↔ 1 ≤ r ∧ r ≤ (n + 1 : Nat) := by rw [← mem_up, ← chain_refs, List.mem_map]
theorem mem_chain {n : Nat} {x : XC} (h : x ∈ chain n) : (∃ i : Nat, i < n ∧ x = ⟨(i : Int) + 1, 1, 0, 1, [(i : Int) + 2]⟩) ∨ x = ⟨(n : Int) + 1, 1, 0, 1, [0]⟩ := by
  rcases List.mem_append.1 h with h | h
  · exact .inl (mem_lks.1 h)
  · exact .inr (by simpa using h)
theorem chain_ok {n : Nat} {x : XC} (h : x ∈ chain n) : x.kind = 1 ∧ 1 ≤ x.ref ∧ x.ref ≤ (n + 1 : Nat) ∧ ∀ r ∈ x.vs, r = 0 ∨ (1 ≤ r ∧ r ≤ (n + 1 : Nat)) := by
  rcases mem_chain h with ⟨i, hi, rfl⟩ | rfl
  · refine ⟨rfl, by dsimp only; omega, by dsimp only; omega, fun r hr => ?_⟩
    simp at hr; omega
  · refine ⟨rfl, by dsimp only; omega, by dsimp only; omega, fun r hr => ?_⟩
    simp at hr; omega

theorem chain_all {n : Nat} {ws : List XC} {S : List Int} (hw : ∀ x ∈ ws, x.kind = 4 ∧ (n + 1 : Nat) < x.ref) (h1 : 1 ∈ S) (h0 : ∀ r ∈ S, r ≤ (n + 1 : Nat)) (r : Int) : Rch kindR (chain n ++ ws) S r ↔ r ∈ up (n + 1) := by
  constructor
  · intro h
    have low : ∀ q : Int, isref (chain n ++ ws) q = true → q ≤ (n + 1 : Nat) → q ∈ up (n + 1) := fun q hq hl => by
      obtain ⟨x, hx, e⟩ := isref_iff.1 hq
      rcases List.mem_append.1 hx with hx | hx
      · have := chain_ok hx; rw [mem_up]; omega
      · have := hw x hx; omega
    cases h with
    | root _ hS hi => exact low r hi (h0 r hS)
    | step q x _ hq hx e hp hr hi =>
      rcases List.mem_append.1 hx with hx | hx
      · have := (chain_ok hx).2.2.2 r hr
        exact low r hi (by omega)
      · rw [(hw x hx).1] at hp; exact absurd hp (by decide)
  · intro h
    rw [mem_up] at h
    have gen : ∀ i : Nat, i ≤ n → Rch kindR (chain n ++ ws) S ((i : Int) + 1) := fun i => by
      induction i with
      | zero =>
        intro _
        refine .root _ (by simpa using h1) (isref_iff.2 ?_)
        obtain ⟨x, hx, e⟩ := chain_isref.2 (show 1 ≤ ((0 : Nat) : Int) + 1 ∧ ((0 : Nat) : Int) + 1 ≤ (n + 1 : Nat) by omega)
        exact ⟨x, by simp [hx], e⟩
      | succ i ih =>
        intro hi
        refine .step ((i : Int) + 1) ⟨(i : Int) + 1, 1, 0, 1, [(i : Int) + 2]⟩ _ (ih (by omega)) (List.mem_append_left _ (List.mem_append_left _ (mem_lks.2 ⟨i, by omega, rfl⟩))) rfl rfl (by simp; omega) (isref_iff.2 ?_)
        obtain ⟨x, hx, e⟩ := chain_isref.2 (show 1 ≤ ((i + 1 : Nat) : Int) + 1 ∧ ((i + 1 : Nat) : Int) + 1 ≤ (n + 1 : Nat) by omega)
        exact ⟨x, by simp [hx], e⟩
    have := gen (r - 1).toNat (by omega)
    rwa [show (((r - 1).toNat : Nat) : Int) + 1 = r by omega] at this

theorem refsChains_c {w : World} {many : Int} {K : Bool → World → Prop} (hK : ∀ w', Fr [] w w' → K true w') : C28 many w K := by
  refine r_f28 _ _ _ (awake13_c fun w1 f1 => ifb_f (qrnew 8192 1 (by decide) fun w2 own2 rb R2 => ?_))
  replace hK : ∀ w', Fr [] w1 w' → K true w' := fun w' f => hK w' (f1.trans f (fun _ h => .inl h))
  have hm := and_range 7 3 (by decide) rfl many
  obtain ⟨k, hk⟩ : ∃ k : Nat, (k : Int) = 1 + bits .and .i64 many 7 := ⟨(1 + bits .and .i64 many 7).toNat, by omega⟩
  have hkk : 1 ≤ k ∧ k ≤ 8 := by omega
  rw [w64 (by omega) (by omega), ← hk, w64 (z := (k : Int) + 2) (by omega) (by omega), w64 (z := (k : Int) + 1) (by omega) (by omega)]
  clear hm hk
  refine qrmake R2 (by decide) true (by decide) rfl (by decide) (by decide) (by decide) (by decide) fun w3 own3 R3 st3 => ?_
  have R3 : Rq w1 w3 own3 rb [up (0 + 1)] 8192 ((0 + 1 : Nat) : Int) (chain 0) [1] [] := R3
  refine ⟨fun m n w' => ∃ (own : Nat → Nat) (j : Nat), n = (j : Int) ∧ j ≤ k ∧ m = (j : Int) + 1 ∧ Rq w1 w' own rb [up (j + 1)] 8192 ((j + 1 : Nat) : Int) (chain j) [1] [], fun _ n _ => (k - n).toNat, ⟨own3, 0, rfl, by omega, rfl, R3⟩, ?_⟩
  rintro - _ _ w4 ⟨own4, j, rfl, hj, rfl, R4⟩
  refine IfB.dec (fun hlt => ?_) (fun hge => ?_)
  · refine qrmake R4 (by omega) false (by decide) rfl (by rw [up_len]; omega) (by decide) (by decide) (by rw [chain_sum]; omega) fun w5 own5 R5 st5 => ifb_nyes rfl ?_
    have R5 : Rq w1 w5 own5 rb [up (j + 1) ++ [((j + 1 : Nat) : Int) + 1]] 8192 (((j + 1 : Nat) : Int) + 1) (lks j ++ [⟨(j : Int) + 1, 1, 0, 1, [0]⟩] ++ [⟨((j + 1 : Nat) : Int) + 1, 1, 0, 1, [0]⟩]) [1] [] := R5
    refine qrput R5 (((j + 1 : Nat) : Int) + 1) (by simp) (x := ⟨(j : Int) + 1, 1, 0, 1, [0]⟩) (by simp) rfl (by dsimp only; omega) (by dsimp only; omega) fun w6 own6 R6 st6 => ?_
    have hs := R5.srt
    rw [List.append_assoc] at hs R6
    have ep := xput_at (i := 0) (v := ((j + 1 : Nat) : Int) + 1) hs
    have ep : xput (lks j ++ ([⟨(j : Int) + 1, 1, 0, 1, [0]⟩] ++ [⟨((j + 1 : Nat) : Int) + 1, 1, 0, 1, [0]⟩])) ((j : Int) + 1) 0 (((j + 1 : Nat) : Int) + 1) = lks j ++ ⟨(j : Int) + 1, 1, 0, 1, [((j + 1 : Nat) : Int) + 1]⟩ :: [⟨((j + 1 : Nat) : Int) + 1, 1, 0, 1, [0]⟩] := ep
    rw [ep] at R6
    rw [w64 (by omega) (by omega)]
    refine ⟨⟨own6, j + 1, rfl, by omega, rfl, ?_⟩, by dsimp only; omega⟩
    have e2 : ((j + 1 : Nat) : Int) + 1 = (j : Int) + 2 := by omega
    unfold chain
    rw [lks_succ, up_succ]
    rw [e2] at R6 ⊢
    simpa [show ((j + 1 + 1 : Nat) : Int) = (j : Int) + 2 by omega] using R6
  obtain rfl : j = k := by omega
  refine qrweak R4 (by omega) (by decide) rfl (by rw [up_len]; omega) (chain_isref.2 (by omega)) (by rw [chain_sum]; omega) fun w5 own5 R5 st5 => ?_
  have R5 : Rq w1 w5 own5 rb [up (j + 1) ++ [((j + 1 : Nat) : Int) + 1]] 8192 (((j + 1 : Nat) : Int) + 1) (chain j ++ [⟨((j + 1 : Nat) : Int) + 1, 4, 0, 1, [(j : Int) + 1]⟩]) [1] [] := R5
  rw [← up_succ] at R5
  refine ⟨fun n w' => ∃ (own : Nat → Nat) (i : Nat), n = (i : Int) ∧ i ≤ j + 2 ∧ Rq w1 w' own rb [up (j + 2 - i)] 8192 (((j + 1 : Nat) : Int) + 1) (chain j ++ [⟨((j + 1 : Nat) : Int) + 1, 4, 0, 1, [(j : Int) + 1]⟩]) [1] [], fun n _ => (j + 2 - n).toNat, ⟨own5, 0, rfl, by omega, R5⟩, ?_⟩
  rintro - _ w6 ⟨own6, i, rfl, hi, R6⟩
  refine IfB.dec (fun hlt => ?_) (fun hge => ?_)
  · have eu : up (j + 2 - i) = up (j + 2 - (i + 1)) ++ [((j + 2 - (i + 1) : Nat) : Int) + 1] := by rw [← up_succ]; congr 1; omega
    refine qrpop R6 (by decide) (by rw [eu]; rfl) fun w7 own7 R7 st7 => ?_
    rw [w64 (by omega) (by omega)]
    exact ⟨⟨own7, i + 1, rfl, by omega, R7⟩, by dsimp only; omega⟩
  obtain rfl : i = j + 2 := by omega
  rw [Nat.sub_self] at R6
  refine qrpush R6 (by decide) rfl (by decide) fun w7 own7 R7 st7 => ?_
  have R7 : Rq w1 w7 own7 rb [[0]] 8192 (((j + 1 : Nat) : Int) + 1) (chain j ++ [⟨((j + 1 : Nat) : Int) + 1, 4, 0, 1, [(j : Int) + 1]⟩]) [1] [] := R7
  have k1 : ∀ A : List Int, ∀ x ∈ chain j, x.kind ≠ 4 ∨ x.vs.getD 0 0 = 0 ∨ x.vs.getD 0 0 ∈ A := fun A x hx => .inl (by rw [(chain_ok hx).1]; decide)
  have ew : List.map (clear1 []) [(⟨((j + 1 : Nat) : Int) + 1, 4, 0, 1, [(j : Int) + 1]⟩ : XC)] = [⟨((j + 1 : Nat) : Int) + 1, 4, 0, 1, [0]⟩] := by
    have : ((j : Int) + 1) ≠ 0 := by omega
    simp [clear1, stale, this]
  have allin : (chain j).filter (fun x => decide (x.ref ∈ up (j + 1))) = chain j := List.filter_eq_self.2 fun x hx => by
    rw [decide_eq_true_iff, mem_up]; have := chain_ok hx; omega
  refine qrcycle (kc := 1001) (kd := 1002) (by decide) R7 (by decide) (by rw [List.length_append, chain_len]; simp; omega) (by decide) [] (up (j + 1)) [((j + 1 : Nat) : Int) + 1] [1] (chain j) [] [1] (rch_none fun r hr x hx e => ?_) ?_ ?_ (fun r => ?_) ?_ ?_ rfl fun w8 own8 ca cc da dc R8 C8 D8 st8 => ?_
  · simp at hr
    rcases List.mem_append.1 hx with hx | hx
    · have := chain_ok hx; omega
    · simp at hx; rw [hx] at e; dsimp only at e; omega
  · have e1 : chain j = ⟨1, 1, 0, 1, [2]⟩ :: (chain j).drop 1 := by
      cases j with
      | zero => omega
      | succ j => simp [chain, lks, List.range_succ_eq_map]
    rw [que_app]
    have : que [] [1] (chain j) = [1] := by
      unfold que
      have hp : ((chain j).map (·.ref)).Pairwise (· < ·) := by
        have := R7.srt; rw [List.map_append] at this; exact (List.pairwise_append.1 this).1
      rw [e1] at hp ⊢
      rw [List.map_cons, List.pairwise_cons] at hp
      rw [List.filter_cons_of_pos (by simp), List.filter_eq_nil_iff.2]; rfl
      intro x hx
      have := hp.1 x.ref (List.mem_map_of_mem hx)
      simp; dsimp only at this; omega
    rw [this, que_none]; rfl
    intro x hx h
    simp at hx; rw [hx] at h; simp at h; omega
  · rw [clr_app, clr_none (k1 [])]
    have : ((j : Int) + 1) ≠ 0 := by omega
    simp [clr, stale, this]
  · rw [List.map_append, clear_none (k1 []), ew]
    exact chain_all (fun x hx => by simp at hx; rw [hx]; exact ⟨rfl, by dsimp only; omega⟩) (by simp) (fun r hr => by simp at hr; omega) r
  · rw [List.map_append, clear_none (k1 []), ew, List.filter_append, allin, List.filter_eq_nil_iff.2, List.append_nil]
    intro x hx
    simp at hx; rw [hx, decide_eq_true_iff, mem_up]; dsimp only; omega
  · rw [notIn_all (fun r h => h)]; rfl
  have hch : ∀ r, Rch kindR (chain j) [0, 1] r ↔ r ∈ up (j + 1) := fun r => by
    have := chain_all (n := j) (ws := []) (S := [0, 1]) (by simp) (by simp) (fun r hr => by simp at hr; omega) r
    rwa [List.append_nil] at this
  refine ⟨fun w' => ∃ own, Rq w1 w' own rb [[0]] 8192 (((j + 1 : Nat) : Int) + 1) (chain j) [] [1], ifb_nyes rfl (C8.si.get (by decide) (by simp) fun p hp => ⟨⟨by decide, by simp⟩, _, hp, ifb_nyes (decide_eq_true rfl) (ifb_nyes rfl (D8.si.get (by decide) (by decide) fun p hp => ⟨⟨by decide, by decide⟩, _, hp, ifb_nyes rfl (qrrefs R8 (by rw [chain_len]; omega) fun a c w9 R9 f9 => ifb_nyes (by rw [chain_len]; exact decide_eq_true (by omega)) ⟨own8, R9⟩)⟩))⟩), ?_⟩
  rintro - w9 ⟨own9, R9⟩
  refine qrnext R9 (rs := [0]) rfl (by decide) fun w10 own10 R10 st10 => ?_
  have R10 : Rq w1 w10 own10 rb [[0, 1]] 8192 (((j + 1 : Nat) : Int) + 1) (chain j) [] [] := R10
  refine qrcycle (kc := 1001) (kd := 1002) (by decide) R10 (by decide) (by rw [chain_len]; omega) (by decide) (up (j + 1)) (up (j + 1)) [] [] (chain j) [] [] hch (que_none fun x _ h => by cases h) (clr_none (k1 _)) ?_ ?_ rfl rfl fun w11 own11 ca cc da dc R11 C11 D11 st11 => ?_
  · rw [clear_none (k1 _)]; exact hch
  · rw [clear_none (k1 _)]; exact allin
  refine ⟨fun w' => ∃ own, Rq w1 w' own rb [[0, 1]] 8192 (((j + 1 : Nat) : Int) + 1) (chain j) [] [], ifb_nyes rfl (ifb_nyes rfl (ifb_nyes rfl (qrrefs R11 (by rw [chain_len]; omega) fun a c w12 R12 f12 => ifb_nyes (by rw [chain_len]; exact decide_eq_true (by omega)) ⟨own11, R12⟩))), ?_⟩
  rintro - w12 ⟨own12, R12⟩
  refine ⟨fun n m w' => ∃ (own : Nat → Nat) (i : Nat), n = (i : Int) ∧ i ≤ j ∧ m = (i : Int) + 1 ∧ Rq w1 w' own rb [[0, 1]] 8192 (((j + 1 : Nat) : Int) + 1) (chain j) [] [], fun n _ _ => (j - n).toNat, ⟨own12, 0, rfl, by omega, rfl, R12⟩, ?_⟩
  rintro - _ _ w13 ⟨own13, i, rfl, hi13, rfl, R13⟩
  refine IfB.dec (fun hlt => ?_) (fun hge => ?_)
  · refine qrload R13 (v := (i : Int) + 2) (by simp) (x := ⟨(i : Int) + 1, 1, 0, 1, [(i : Int) + 2]⟩) (List.mem_append_left _ (mem_lks.2 ⟨i, by omega, rfl⟩)) rfl (by dsimp only; omega) (by dsimp only; omega) rfl fun w14 own14 R14 st14 => ifb_nyes rfl (ifb_no (decide_eq_false (by omega)) ?_)
    rw [w64 (by omega) (by omega)]
    exact ⟨⟨own14, i + 1, rfl, by omega, by omega, R14⟩, by dsimp only; omega⟩
  refine qrpop R13 (rs := [0]) (f := 1) (by decide) rfl fun w14 own14 R14 st14 => ?_
  have R14 : Rq w1 w14 own14 rb [[0]] 8192 (((j + 1 : Nat) : Int) + 1) (chain j) [] [] := R14
  refine qrcycle (kc := 1001) (kd := 1002) (by decide) R14 (by decide) (by rw [chain_len]; omega) (by decide) [] [] [] [] [] [] [] (rch_none fun r hr x hx e => ?_) (que_none fun x _ h => by cases h) (clr_none (k1 _)) ?_ ?_ rfl rfl fun w15 own15 ca cc da dc R15 C15 D15 st15 => ?_
  · simp at hr; have := chain_ok hx; omega
  · rw [clear_none (k1 _)]
    exact rch_none fun r hr x hx e => by simp at hr; have := chain_ok hx; omega
  · rw [List.filter_eq_nil_iff.2]; simp
  exact ifb_yes rfl (ifb_yes rfl (ifb_yes rfl (ifb_yes rfl (ifb_yes rfl (ifb_yes rfl (qrrefs R15 (by decide) fun a c w16 R16 f16 => hK w16 R16.bs))))))
end Go.Proofs.Ytfpghcdjfiggiaa.V
