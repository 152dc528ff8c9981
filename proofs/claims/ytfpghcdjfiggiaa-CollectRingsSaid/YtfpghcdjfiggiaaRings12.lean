/- CollectRings: rings that nobody holds are gone. No condition. -/
import Derived.Test.YtfpghcdjfiggiaaFull12
import Derived.Test.YtfpghcdjfiggiaaArgs
namespace Go.Proofs.Ytfpghcdjfiggiaa.V
open Go Go.RowKit

theorem xsum_app12 (a b : List XC) : xsum (a ++ b) = xsum a + xsum b := by
  induction a with
  | nil => simp [xsum]
  | cons x a ih => simp only [List.cons_append, xsum, ih]; omega

/-- Cells of two words, kind 1, refs 1 .. m; of the first k each holds one of 1 .. k, so that all are in one ring. -/
structure Ringy (xs : List XC) (k m : Nat) : Prop where
  refs : xs.map (·.ref) = (List.range m).map fun (i : Nat) => (i : Int) + 1
  all : ∀ x ∈ xs, x.kind = 1 ∧ x.n = 2
  ring : ∀ x ∈ xs, x.ref ≤ k → ∃ v, x.vs = [v, 0] ∧ (x.ref < k → v = x.ref + 1) ∧ (x.ref = k → v = 1)
  sum : xsum xs = 18 * m

theorem Ringy.len {xs : List XC} {k m : Nat} (h : Ringy xs k m) : xs.length = m := by
  have := congrArg List.length h.refs; simpa using this
theorem Ringy.mem {xs : List XC} {k m : Nat} (h : Ringy xs k m) {r : Int} : (∃ x ∈ xs, x.ref = r) ↔ 1 ≤ r ∧ r ≤ m := by
  have e : r ∈ xs.map (·.ref) ↔ r ∈ (List.range m).map fun (i : Nat) => (i : Int) + 1 := by rw [h.refs]
  rw [List.mem_map, List.mem_map] at e
  rw [e]
  constructor
  · rintro ⟨i, hi, rfl⟩; rw [List.mem_range] at hi; omega
  · intro q; exact ⟨(r - 1).toNat, List.mem_range.2 (by omega), by omega⟩

theorem Ringy.reach {xs : List XC} {k m : Nat} (h : Ringy xs k m) (hk : 1 ≤ k ∧ k ≤ m) (r : Int) : Rch leads xs [1] r ↔ 1 ≤ r ∧ r ≤ k := by
  constructor
  · intro hr
    induction hr with
    | root r h1 _ => simp at h1; omega
    | step q x r _ hx e hp hr hi ih =>
      obtain ⟨y, hy, ey⟩ := isref_iff.1 hi
      have hm := (h.mem (r := r)).1 ⟨y, hy, ey⟩
      obtain ⟨v, ev, h1, h2⟩ := h.ring x hx (by omega)
      rw [ev] at hr
      simp at hr
      rcases hr with rfl | rfl
      · by_cases hq : x.ref = k
        · have := h2 hq; omega
        · have := h1 (by omega); omega
      · omega
  · intro hr
    have gen : ∀ i : Nat, i < k → Rch leads xs [1] ((i : Int) + 1) := fun i => by
      induction i with
      | zero =>
        intro _
        exact .root _ (by simp) (isref_iff.2 (h.mem.2 (by omega)))
      | succ i ih =>
        intro hi
        obtain ⟨x, hx, ex⟩ := (h.mem (r := (i : Int) + 1)).2 (by omega)
        obtain ⟨v, ev, h1, _⟩ := h.ring x hx (by omega)
        refine .step ((i : Int) + 1) x _ (ih (by omega)) hx ex (by unfold leads; rw [(h.all x hx).1]; decide) ?_ (isref_iff.2 (h.mem.2 (by omega)))
        rw [ev, h1 (by omega), ex]
        simp
    have := gen (r - 1).toNat (by omega)
    rwa [show (((r - 1).toNat : Nat) : Int) + 1 = r by omega] at this

/-- One more cell, behind the ring. -/
theorem Ringy.more {xs : List XC} {k m : Nat} (h : Ringy xs k m) (hk : k ≤ m) : Ringy (xs ++ [⟨(m : Int) + 1, 1, 0, 2, [0, 0]⟩]) k (m + 1) := by
  refine ⟨by rw [List.map_append, h.refs, List.range_succ]; simp, fun x hx => ?_, fun x hx hr => ?_, by rw [xsum_app12, h.sum]; simp [xsum]; omega⟩
  · rcases List.mem_append.1 hx with q | q
    · exact h.all x q
    · simp at q; subst q; exact ⟨rfl, rfl⟩
  · rcases List.mem_append.1 hx with q | q
    · exact h.ring x q hr
    · simp at q; subst q; dsimp only at hr; omega

/-- A word of a cell behind the ring is set. -/
theorem Ringy.put {xs : List XC} {k m : Nat} (h : Ringy xs k m) {ref : Int} (hr : (k : Int) < ref) (v : Int) : Ringy (xput xs ref 0 v) k m := by
  have mem : ∀ x ∈ xput xs ref 0 v, ∃ y ∈ xs, x.ref = y.ref ∧ x.kind = y.kind ∧ x.n = y.n ∧ (x.ref ≤ k → x = y) := fun x hx => by
    obtain ⟨y, hy, rfl⟩ := List.mem_map.1 hx
    refine ⟨y, hy, ?_⟩
    split
    · rename_i e
      exact ⟨rfl, rfl, rfl, fun q => by dsimp only at q; omega⟩
    · exact ⟨rfl, rfl, rfl, fun _ => rfl⟩
  have er : (xput xs ref 0 v).map (·.ref) = xs.map (·.ref) := by
    unfold xput; rw [List.map_map]
    refine List.map_congr_left fun y _ => ?_
    simp only [Function.comp]; split <;> rfl
  refine ⟨er.trans h.refs, fun x hx => ?_, fun x hx hq => ?_, by rw [show xsum (xput xs ref 0 v) = xsum xs from cxsum_map (fun x => by split <;> rfl) xs]; exact h.sum⟩
  · obtain ⟨y, hy, e1, e2, e3, _⟩ := mem x hx
    rw [e2, e3]; exact h.all y hy
  · obtain ⟨y, hy, e1, e2, e3, e4⟩ := mem x hx
    have := e4 hq
    subst this
    exact h.ring x hy hq

/-- The first ring while it is made: j cells in a row. -/
def row12 (j : Nat) : List XC := (List.range j).map fun (i : Nat) => ⟨(i : Int) + 1, 1, 0, 2, [if i + 1 < j then (i : Int) + 2 else 0, 0]⟩
theorem mem_row12 {j : Nat} {x : XC} : x ∈ row12 j ↔ ∃ i : Nat, i < j ∧ x = ⟨(i : Int) + 1, 1, 0, 2, [if i + 1 < j then (i : Int) + 2 else 0, 0]⟩ := by
  unfold row12; rw [List.mem_map]
  exact ⟨fun ⟨i, h, e⟩ => ⟨i, List.mem_range.1 h, e.symm⟩, fun ⟨i, h, e⟩ => ⟨i, List.mem_range.2 h, e.symm⟩⟩
theorem row12_sum : ∀ j : Nat, xsum (row12 j) = 18 * j := fun j => by
  have gen : ∀ (l : List Nat) (f : Nat → XC), (∀ i, (f i).n = 2) → xsum (l.map f) = 18 * l.length := fun l f hf => by
    induction l with
    | nil => rfl
    | cons a l ih => simp only [List.map_cons, xsum, ih, hf]; simp; omega
  unfold row12
  rw [gen _ _ (fun _ => rfl), List.length_range]
theorem row12_one : row12 1 = [⟨1, 1, 0, 2, [0, 0]⟩] := rfl
theorem row12_put (j : Nat) (hj : 1 ≤ j) : xput (row12 j ++ [⟨(j : Int) + 1, 1, 0, 2, [0, 0]⟩]) (j : Int) 0 ((j : Int) + 1) = row12 (j + 1) := by
  unfold xput row12
  rw [List.map_append, List.map_map, List.range_succ, List.map_append]
  congr 1
  · refine List.map_congr_left fun i hi => ?_
    rw [List.mem_range] at hi
    simp only [Function.comp]
    by_cases e : i + 1 = j
    · rw [if_pos (by omega), if_neg (by omega), if_pos (by omega)]
      simp; omega
    · rw [if_neg (by omega), if_pos (by omega), if_pos (by omega)]
  · simp only [List.map_cons, List.map_nil]
    rw [if_neg (by omega)]
    simp
theorem row12_ring (k : Nat) (hk : 1 ≤ k) : Ringy (xput (row12 k) (k : Int) 0 1) k k := by
  have mem : ∀ x ∈ xput (row12 k) (k : Int) 0 1, ∃ i : Nat, i < k ∧ x = ⟨(i : Int) + 1, 1, 0, 2, [if i + 1 < k then (i : Int) + 2 else 1, 0]⟩ := fun x hx => by
    obtain ⟨y, hy, rfl⟩ := List.mem_map.1 hx
    obtain ⟨i, hi, rfl⟩ := mem_row12.1 hy
    refine ⟨i, hi, ?_⟩
    by_cases e : i + 1 = k
    · rw [if_pos (by dsimp only; omega), if_neg (by omega), if_neg (by omega)]; rfl
    · rw [if_neg (by dsimp only; omega), if_pos (by omega), if_pos (by omega)]
  refine ⟨?_, fun x hx => ?_, fun x hx hr => ?_, by rw [show xsum (xput (row12 k) (k : Int) 0 1) = xsum (row12 k) from cxsum_map (fun x => by split <;> rfl) _, row12_sum]⟩
  · unfold xput row12
    rw [List.map_map, List.map_map]
    refine List.map_congr_left fun i _ => ?_
    simp only [Function.comp]; split <;> rfl
  · obtain ⟨i, hi, rfl⟩ := mem x hx; exact ⟨rfl, rfl⟩
  · obtain ⟨i, hi, rfl⟩ := mem x hx
    dsimp only at hr ⊢
    refine ⟨_, rfl, fun q => ?_, fun q => ?_⟩
    · rw [if_pos (by omega)]; omega
    · rw [if_neg (by omega)]

theorem sub_len12 : ∀ (l m : List Int), l.Nodup → (∀ r ∈ l, r ∈ m) → l.length ≤ m.length
  | [], _, _, _ => Nat.zero_le _
  | a :: l, m, hn, hs => by
    rw [List.nodup_cons] at hn
    have ha := hs a (by simp)
    have := sub_len12 l (m.erase a) hn.2 fun r hr => by
      have hne : r ≠ a := fun e => hn.1 (e ▸ hr)
      exact (List.mem_erase_of_ne hne).2 (hs r (by simp [hr]))
    rw [List.length_erase_of_mem ha] at this
    have := List.length_pos_of_mem ha
    simp only [List.length_cons]; omega

/-- What is reached is so of the reached alone. -/
theorem rch_keep {p : Int → Bool} {xs : List XC} {S A : List Int} (h : ∀ r, Rch p xs S r ↔ r ∈ A) (r : Int) : Rch p (xs.filter fun x => decide (x.ref ∈ A)) S r ↔ r ∈ A := by
  have is : ∀ q, isref xs q = true → q ∈ A → isref (xs.filter fun x => decide (x.ref ∈ A)) q = true := fun q hq hA => by
    obtain ⟨x, hx, e⟩ := isref_iff.1 hq
    exact isref_iff.2 ⟨x, List.mem_filter.2 ⟨hx, by rw [decide_eq_true_iff, e]; exact hA⟩, e⟩
  have si : ∀ q, isref (xs.filter fun x => decide (x.ref ∈ A)) q = true → isref xs q = true := fun q hq => by
    obtain ⟨x, hx, e⟩ := isref_iff.1 hq
    exact isref_iff.2 ⟨x, (List.mem_filter.1 hx).1, e⟩
  constructor
  · intro hr
    rw [← h]
    induction hr with
    | root r h1 h2 => exact .root r h1 (si r h2)
    | step q x r _ hx e hp hr hi ih => exact .step q x r ih (List.mem_filter.1 hx).1 e hp hr (si r hi)
  · intro hr
    replace hr := (h r).2 hr
    induction hr with
    | root r h1 h2 => exact .root r h1 (is r h2 ((h r).1 (.root r h1 h2)))
    | step q x r hq hx e hp hr hi ih => exact .step q x r ih (List.mem_filter.2 ⟨hx, by rw [decide_eq_true_iff, e]; exact (h q).1 hq⟩) e hp hr (is r hi ((h r).1 (.step q x r hq hx e hp hr hi)))

theorem collectRings_c {W : World} {a : Option Addr} {zs : List Int} {c : Nat} (ga : ArgI W.heap.size W a zs) {K : Bool → World → Prop} (hK : ∀ w', Fr [] W w' → K true w') : C30 a zs.length c W K := by
  refine r_f30 _ _ _ _ _ (awake12_c fun w1 f1 => ifb_f (qcnew 16384 1 (by decide) fun w2 own2 cb R2 => ?_))
  replace ga : ∀ w', Fr [] w1 w' → ArgI W.heap.size w' a zs := fun w' f => ga.fr (f1.more f) (by simp)
  replace hK : ∀ w', Fr [] w1 w' → K true w' := fun w' f => hK w' (f1.more f)
  have R2 : Cq w1 w2 own2 cb [[]] 16384 0 0 [] := R2
  have wu : ∀ z : Int, 0 ≤ IntKind.wrap .u64 z := fun z => by
    simp only [IntKind.wrap, IntKind.signed, IntKind.bits]; simp; omega
  have hsz : ∀ z : Int, ∃ k : Nat, IntKind.wrap .i64 (1 + IntKind.wrap .i64 (Int.tmod (IntKind.wrap .u64 z) 8)) = (k : Int) ∧ 1 ≤ k ∧ k ≤ 8 := fun z => by
    have h1 := wu z
    rw [Int.tmod_eq_emod_of_nonneg h1]
    have h2 := Int.emod_nonneg (IntKind.wrap .u64 z) (b := 8) (by decide)
    have h3 := Int.emod_lt_of_pos (IntKind.wrap .u64 z) (b := 8) (by decide)
    rw [w64_c (z := IntKind.wrap .u64 z % 8) (by omega) (by omega), w64_c (by omega) (by omega)]
    exact ⟨(1 + IntKind.wrap .u64 z % 8).toNat, by omega, by omega, by omega⟩
  -- the rings are made
  refine ⟨fun n7 w' => ∃ (own : Nat → Nat) (k m : Nat) (xs : List XC), n7 = (k : Int) ∧ k ≤ m ∧ m ≤ 48 ∧ Ringy xs k m ∧ Cq w1 w' own cb [if k = 0 then [] else [1]] 16384 0 (m : Int) xs ∧ (k = 0 → m = 0), ?_, ?_⟩
  · refine ⟨fun kept i w' => 0 ≤ i ∧ i ≤ 6 ∧ ∃ (own : Nat → Nat) (k m : Nat) (xs : List XC), kept = (k : Int) ∧ k ≤ m ∧ (m : Int) ≤ 8 * i ∧ Ringy xs k m ∧ Cq w1 w' own cb [if k = 0 then [] else [1]] 16384 0 (m : Int) xs ∧ (k = 0 ↔ i = 0), fun _ i _ => (6 - i).toNat,
      ⟨by decide, by decide, own2, 0, 0, [], rfl, by decide, by decide, ⟨rfl, by simp, by simp, rfl⟩, R2, by simp⟩, ?_⟩
    rintro - kept i w3 ⟨hi0, hi1, own3, k, m, xs, rfl, hkm, hm8, hx, R3, hk0⟩
    have out : ∃ (own : Nat → Nat) (k' m : Nat) (xs : List XC), (k : Int) = (k' : Int) ∧ k' ≤ m ∧ m ≤ 48 ∧ Ringy xs k' m ∧ Cq w1 w3 own cb [if k' = 0 then [] else [1]] 16384 0 (m : Int) xs ∧ (k' = 0 → m = 0) := ⟨own3, k, m, xs, rfl, hkm, by omega, hx, R3, fun q => by have := hk0.1 q; omega⟩
    refine IfB.dec (fun hil => IfB.dec (fun hi6 => ?_) (fun _ => out)) (fun _ => out)
    refine (ga w3 R3.bs).get hi0 hil fun p hp _ => ⟨⟨hi0, hil⟩, _, hp, by decide, ?_⟩
    obtain ⟨N, eN, hN⟩ := hsz (zs.getD i.toNat 0)
    rw [eN]
    refine ⟨fun first prev j w' => ∃ (own : Nat → Nat) (jn : Nat) (xs' : List XC), j = (jn : Int) ∧ jn ≤ N ∧
        ((i = 0 ∧ ((jn = 0 ∧ xs' = [] ∧ Cq w1 w' own cb [[]] 16384 0 0 []) ∨ (1 ≤ jn ∧ first = 1 ∧ prev = (jn : Int) ∧ ∃ l : List Int, l.length + 1 = jn ∧ Cq w1 w' own cb [1 :: l] 16384 0 (jn : Int) (row12 jn)))) ∨
         (i ≠ 0 ∧ ∃ l : List Int, l.length = jn ∧ Ringy xs' k (m + jn) ∧ (1 ≤ jn → first = (m : Int) + 1 ∧ prev = (m : Int) + jn) ∧ Cq w1 w' own cb [1 :: l] 16384 0 ((m + jn : Nat) : Int) xs')), fun _ _ j _ => (N - j).toNat, ⟨own3, 0, xs, rfl, by omega, ?_⟩, ?_⟩
    · by_cases e : i = 0
      · have hk := hk0.2 e
        subst hk
        have hm : m = 0 := by omega
        subst hm
        have : xs = [] := List.eq_nil_of_length_eq_zero hx.len
        subst this
        exact .inl ⟨e, .inl ⟨rfl, rfl, R3⟩⟩
      · have hk : k ≠ 0 := fun q => e (hk0.1 q)
        rw [if_neg hk] at R3
        exact .inr ⟨e, [], rfl, hx, fun q => by omega, R3⟩
    rintro - first prev _ w4 ⟨own4, j, xs', rfl, hj, hs⟩
    refine IfB.dec (fun hlt => ?_) (fun hge => ?_)
    · have hf : formE 1 0 2 = 0 := rfl
      rcases hs with ⟨e, ⟨rfl, rfl, R4⟩ | ⟨hj1, rfl, rfl, l, hl, R4⟩⟩ | ⟨e, l, hl, hx4, hfp, R4⟩
      · refine qcmake R4 (by decide) (rs := []) (by decide) rfl (by decide) hf (fun q => absurd q (by decide)) (fun _ q => absurd q (by decide)) fun _ _ w5 own5 R5 st5 => ifb_nyes rfl (ifb_yes rfl ?_)
        rw [w64_c (z := ((0 : Nat) : Int) + 1) (by omega) (by omega)]
        exact ⟨⟨own5, 1, [], rfl, by omega, .inl ⟨e, .inr ⟨by decide, rfl, rfl, [], rfl, R5⟩⟩⟩, by dsimp only; omega⟩
      · refine qcmake R4 (by omega) (rs := 1 :: l) (by decide) rfl (by decide) hf (fun q => absurd q (by simp; omega)) (fun _ q => absurd q (by rw [row12_sum]; omega)) fun _ _ w5 own5 R5 st5 => ifb_nyes rfl (ifb_no (decide_eq_false (by omega)) ?_)
        have R5 : Cq w1 w5 own5 cb [1 :: (l ++ [(j : Int) + 1])] 16384 0 ((j : Int) + 1) (row12 j ++ [⟨(j : Int) + 1, 1, 0, 2, [0, 0]⟩]) := R5
        obtain ⟨x, hx5, ex⟩ : ∃ x ∈ row12 j ++ [⟨(j : Int) + 1, 1, 0, 2, [0, 0]⟩], x.ref = (j : Int) ∧ x.n = 2 := ⟨⟨((j - 1 : Nat) : Int) + 1, 1, 0, 2, _⟩, List.mem_append_left _ (mem_row12.2 ⟨j - 1, by omega, rfl⟩), by dsimp only; omega, rfl⟩
        refine qcput R5 _ (by simp) hx5 ex.1 (by rw [ex.2]; decide) fun w6 own6 R6 st6 => ?_
        rw [row12_put j hj1] at R6
        rw [w64_c (z := (j : Int) + 1) (by omega) (by omega)]
        exact ⟨⟨own6, j + 1, [], rfl, by omega, .inl ⟨e, .inr ⟨by omega, rfl, by omega, l ++ [(j : Int) + 1], by simp; omega, R6⟩⟩⟩, by dsimp only; omega⟩
      · have hlen := hx4.len
        refine qcmake R4 (by omega) (rs := 1 :: l) (by decide) rfl (by decide) hf (fun q => absurd q (by simp; omega)) (fun _ q => absurd q (by rw [hx4.sum]; omega)) fun _ _ w5 own5 R5 st5 => ifb_nyes rfl ?_
        have hx5 := hx4.more (by omega)
        have R5 : Cq w1 w5 own5 cb [1 :: (l ++ [((m + j : Nat) : Int) + 1])] 16384 0 ((m + (j + 1) : Nat) : Int) (xs' ++ [⟨((m + j : Nat) : Int) + 1, 1, 0, 2, [0, 0]⟩]) := R5
        rw [w64_c (z := (j : Int) + 1) (by omega) (by omega)]
        refine IfB.dec (fun e0 => ?_) (fun e0 => ?_)
        · have hj0 : j = 0 := by omega
          subst hj0
          exact ⟨⟨own5, 1, _, rfl, by omega, .inr ⟨e, _, by simp [hl], hx5, fun _ => ⟨by omega, by omega⟩, R5⟩⟩, by dsimp only; omega⟩
        · obtain ⟨ef, ep⟩ := hfp (by omega)
          obtain ⟨x, hxm, ex⟩ := (hx5.mem (r := prev)).2 (by omega)
          refine qcput R5 _ (by simp) hxm ex (by rw [(hx5.all x hxm).2]; decide) fun w6 own6 R6 st6 => ?_
          exact ⟨⟨own6, j + 1, _, rfl, by omega, .inr ⟨e, _, by simp [hl], hx5.put (by omega) _, fun _ => ⟨ef, by omega⟩, R6⟩⟩, by dsimp only; omega⟩
    · obtain rfl : j = N := by omega
      -- the ring is closed, then all is let go
      have close : ∀ (w5 : World), (∃ own5 xs5 l, ((i = 0 ∧ l.length + 1 = j ∧ Ringy xs5 j j ∧ Cq w1 w5 own5 cb [1 :: l] 16384 0 (j : Int) xs5) ∨ (i ≠ 0 ∧ l.length = j ∧ Ringy xs5 k (m + j) ∧ Cq w1 w5 own5 cb [1 :: l] 16384 0 ((m + j : Nat) : Int) xs5))) →
          ∃ (own5 : Nat → Nat) (k5 m5 : Nat) (xs5 : List XC) (l : List Int), (1 ≤ k5 ∧ k5 ≤ m5 ∧ (m5 : Int) ≤ 8 * (i + 1) ∧ Ringy xs5 k5 m5 ∧ Cq w1 w5 own5 cb [1 :: l] 16384 0 (m5 : Int) xs5) ∧ (i = 0 → k5 = j ∧ l.length + 1 = j) ∧ (i ≠ 0 → k5 = k ∧ l.length = j) := fun w5 h5 => by
        obtain ⟨own5, xs5, l, ⟨e, hl, hx5, R5⟩ | ⟨e, hl, hx5, R5⟩⟩ := h5
        · exact ⟨own5, j, j, xs5, l, ⟨by omega, by omega, by omega, hx5, R5⟩, fun _ => ⟨rfl, hl⟩, fun q => absurd e q⟩
        · have : k ≠ 0 := fun q => e (hk0.1 q)
          exact ⟨own5, k, m + j, xs5, l, ⟨by omega, by omega, by omega, hx5, R5⟩, fun q => absurd q e, fun _ => ⟨rfl, hl⟩⟩
      have put : ∀ {K' : Int → World → Prop}, (∀ w5, (∃ own5 xs5 l, ((i = 0 ∧ l.length + 1 = j ∧ Ringy xs5 j j ∧ Cq w1 w5 own5 cb [1 :: l] 16384 0 (j : Int) xs5) ∨ (i ≠ 0 ∧ l.length = j ∧ Ringy xs5 k (m + j) ∧ Cq w1 w5 own5 cb [1 :: l] 16384 0 ((m + j : Nat) : Int) xs5))) → K' 0 w5) → C121 (some ⟨cb, 0, none⟩) 0 prev 0 first w4 K' := fun hK' => by
        rcases hs with ⟨e, ⟨h0, _⟩ | ⟨hj1, rfl, rfl, l, hl, R4⟩⟩ | ⟨e, l, hl, hx4, hfp, R4⟩
        · omega
        · obtain ⟨x, hx5, ex⟩ : ∃ x ∈ row12 j, x.ref = (j : Int) ∧ x.n = 2 := ⟨⟨((j - 1 : Nat) : Int) + 1, 1, 0, 2, _⟩, mem_row12.2 ⟨j - 1, by omega, rfl⟩, by dsimp only; omega, rfl⟩
          exact qcput R4 _ (by simp) hx5 ex.1 (by rw [ex.2]; decide) fun w6 own6 R6 st6 => hK' w6 ⟨own6, _, l, .inl ⟨e, hl, row12_ring j hj1, R6⟩⟩
        · obtain ⟨ef, ep⟩ := hfp (by omega)
          obtain ⟨x, hxm, ex⟩ := (hx4.mem (r := prev)).2 (by omega)
          exact qcput R4 _ (by simp) hxm ex (by rw [(hx4.all x hxm).2]; decide) fun w6 own6 R6 st6 => hK' w6 ⟨own6, _, l, .inr ⟨e, hl, hx4.put (by omega) _, R6⟩⟩
      refine put fun w5 h5 => ?_
      obtain ⟨own5, k5, m5, xs5, l, ⟨g1, g2, g3, g4, R5⟩, gi0, gi1⟩ := close w5 h5
      refine ⟨fun n30 n31 w' => n30 = (k5 : Int) ∧ n31 = l.length ∧ w' = w5, IfB.dec (fun e => ?_) (fun e => ?_), ?_⟩
      · obtain ⟨q1, q2⟩ := gi0 e
        rw [w64_c (z := (j : Int) - 1) (by omega) (by omega)]
        exact ⟨by omega, by omega, rfl⟩
      · obtain ⟨q1, q2⟩ := gi1 e
        exact ⟨by omega, by omega, rfl⟩
      rintro - _ _ _ ⟨rfl, rfl, rfl⟩
      rename_i w5
      refine ⟨fun t w' => 0 ≤ t ∧ t ≤ l.length ∧ ∃ own' l', (l'.length : Int) + t = l.length ∧ Cq w1 w' own' cb [1 :: l'] 16384 0 (m5 : Int) xs5, fun t _ => (l.length - t).toNat, ⟨by decide, by omega, own5, l, by omega, R5⟩, ?_⟩
      rintro - t w6 ⟨ht0, ht1, own6, l6, hl6, R6⟩
      refine IfB.dec (fun hlt2 => ?_) (fun hge2 => ?_)
      · refine qcpop R6 (by decide) rfl (fun q => by cases q) fun l' f el w7 own7 R7 st7 => ?_
        rw [w64_c (z := t + 1) (by omega) (by omega)]
        cases l' with
        | nil => simp at el; rw [el.2] at hl6; simp at hl6; omega
        | cons b l' =>
          simp at el
          obtain ⟨rfl, rfl⟩ := el
          refine ⟨⟨by omega, by omega, own7, l', by simp at hl6; omega, R7⟩, by dsimp only; omega⟩
      · have e6 : l6 = [] := List.eq_nil_of_length_eq_zero (by omega)
        subst e6
        rw [w64_c (z := i + 1) (by omega) (by omega)]
        exact ⟨⟨by omega, by omega, own6, k5, m5, xs5, rfl, g2, g3, g4, by rw [if_neg (by omega)]; exact R6, by omega⟩, by dsimp only; omega⟩
  · rintro - n7 w3 ⟨own3, k, m, xs, rfl, hkm, hm48, hx, R3, hk0⟩
    obtain ⟨A, hA, hAk⟩ : ∃ A : List Int, (∀ r, Rch leads xs ([if k = 0 then [] else [1]] : List (List Int)).flatten r ↔ r ∈ A) ∧ (∀ r, r ∈ A ↔ 1 ≤ r ∧ r ≤ k) := by
      by_cases e : k = 0
      · refine ⟨[], fun r => ?_, fun r => by simp; omega⟩
        rw [if_pos e]
        exact rch_none12 (by simp) r
      · refine ⟨(List.range k).map fun (i : Nat) => (i : Int) + 1, fun r => ?_, fun r => ?_⟩
        · rw [if_neg e, show ([[1]] : List (List Int)).flatten = [1] from rfl, hx.reach ⟨by omega, hkm⟩, List.mem_map]
          exact ⟨fun q => ⟨(r - 1).toNat, List.mem_range.2 (by omega), by omega⟩, by rintro ⟨i, hi, rfl⟩; rw [List.mem_range] at hi; omega⟩
        · rw [List.mem_map]
          exact ⟨by rintro ⟨i, hi, rfl⟩; rw [List.mem_range] at hi; omega, fun q => ⟨(r - 1).toNat, List.mem_range.2 (by omega), by omega⟩⟩
    have hlen := hx.len
    have hxf : ((xs.filter fun x => decide (x.ref ∈ A)).length : Int) = k := by
      have em : (xs.filter fun x => decide (x.ref ∈ A)).map (·.ref) = ((List.range m).map fun (i : Nat) => (i : Int) + 1).filter (fun r => decide (r ∈ A)) := by
        rw [← hx.refs, List.filter_map]; rfl
      have el := congrArg List.length em
      rw [List.length_map] at el
      have nd : ∀ n : Nat, ((List.range n).map fun (i : Nat) => (i : Int) + 1).Nodup := fun n => by
        rw [List.nodup_iff_pairwise_ne, List.pairwise_map]
        exact List.pairwise_lt_range.imp fun h => by omega
      have l1 := sub_len12 _ ((List.range k).map fun (i : Nat) => (i : Int) + 1) ((nd m).sublist (List.filter_sublist (p := fun r => decide (r ∈ A)))) fun r hr => by
        have := (hAk r).1 (of_decide_eq_true (List.mem_filter.1 hr).2)
        exact List.mem_map.2 ⟨(r - 1).toNat, List.mem_range.2 (by omega), by omega⟩
      have l2 := sub_len12 _ (((List.range m).map fun (i : Nat) => (i : Int) + 1).filter (fun r => decide (r ∈ A))) (nd k) fun r hr => by
        obtain ⟨i, hi, rfl⟩ := List.mem_map.1 hr
        rw [List.mem_range] at hi
        exact List.mem_filter.2 ⟨List.mem_map.2 ⟨i, List.mem_range.2 (by omega), rfl⟩, decide_eq_true ((hAk _).2 (by omega))⟩
      rw [List.length_map, List.length_range] at l1 l2
      omega
    have hul : ∀ rs ∈ ([if k = 0 then [] else [1]] : List (List Int)), rs.length ≤ 1000 := fun rs hrs => by
      simp at hrs; subst hrs; split <;> simp
    refine ⟨fun n w' => ∃ (own : Nat → Nat) (xs' : List XC), ((n = 0 ∧ xs' = xs) ∨ ((n = 1 ∨ n = 2) ∧ xs' = xs.filter fun x => decide (x.ref ∈ A))) ∧ Cq w1 w' own cb [if k = 0 then [] else [1]] 16384 n (m : Int) xs', fun n _ => (2 - n).toNat, ⟨own3, xs, .inl ⟨rfl, rfl⟩, R3⟩, ?_⟩
    rintro - n w4 ⟨own4, xs4, hn, R4⟩
    have hn2 : 0 ≤ n ∧ n ≤ 2 := by rcases hn with ⟨e, _⟩ | ⟨e | e, _⟩ <;> omega
    have hx4 : xs4.length ≤ 48 ∧ ∀ r, Rch leads xs4 ([if k = 0 then [] else [1]] : List (List Int)).flatten r ↔ r ∈ A := by
      rcases hn with ⟨_, rfl⟩ | ⟨_, rfl⟩
      · exact ⟨by omega, hA⟩
      · exact ⟨Nat.le_trans (List.length_filter_le _ _) (by omega), rch_keep hA⟩
    have hf4 : xs4.filter (fun x => decide (x.ref ∈ A)) = xs.filter fun x => decide (x.ref ∈ A) := by
      rcases hn with ⟨_, rfl⟩ | ⟨_, rfl⟩
      · rfl
      · rw [List.filter_filter]; refine List.filter_congr fun x _ => ?_; simp
    refine IfB.dec (fun hlt => ?_) (fun hge => ?_)
    · refine run118_c R4 (by simp) (by omega) hul (by omega) A hx4.2 1 rfl fun w5 own5 R5 st5 => ?_
      rw [hf4] at R5
      rw [w64_c (z := n + 1) (by omega) (by omega)]
      exact ⟨⟨own5, _, .inr ⟨by omega, rfl⟩, R5⟩, by dsimp only; omega⟩
    · obtain ⟨hn', rfl⟩ : n = 2 ∧ xs4 = xs.filter fun x => decide (x.ref ∈ A) := by
        rcases hn with ⟨e, _⟩ | ⟨e, e2⟩
        · omega
        · exact ⟨by omega, e2⟩
      subst hn'
      refine ifb_yes rfl (qcrefs R4 (by omega) fun a5 c5 w5 R5 f5 => ifb_yes (decide_eq_true hxf) (qccycles R5 ?_))
      exact hK w5 R5.bs
end Go.Proofs.Ytfpghcdjfiggiaa.V
