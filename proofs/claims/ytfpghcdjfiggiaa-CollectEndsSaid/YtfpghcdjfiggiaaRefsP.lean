/- What is reached, in plain words. No condition. -/
import Derived.Test.YtfpghcdjfiggiaaHeapX
namespace Go.Proofs.Ytfpghcdjfiggiaa.V
open Go Go.RowKit

/-- There is such a cell. -/
def isref (xs : List XC) (r : Int) : Bool := xs.any fun x => x.ref == r
theorem isref_iff {xs : List XC} {r : Int} : isref xs r = true ↔ ∃ x ∈ xs, x.ref = r := by simp [isref]

/-- Reached from S through cells of the kinds of p. -/
inductive Rch (p : Int → Bool) (xs : List XC) (S : List Int) : Int → Prop
  | root (r : Int) : r ∈ S → isref xs r = true → Rch p xs S r
  | step (q : Int) (x : XC) (r : Int) : Rch p xs S q → x ∈ xs → x.ref = q → p x.kind = true → r ∈ x.vs → isref xs r = true → Rch p xs S r

theorem Rch.isref {p : Int → Bool} {xs : List XC} {S : List Int} {r : Int} (h : Rch p xs S r) : isref xs r = true := by
  cases h with
  | root _ _ h => exact h
  | step _ _ _ _ _ _ _ _ h => exact h

/-- One ref is seen. -/
def see1 (xs : List XC) (s : List Int × List Int) (r : Int) : List Int × List Int := if isref xs r = true ∧ r ∉ s.1 then (s.1 ++ [r], s.2 ++ [r]) else s
def seeL (xs : List XC) (s : List Int × List Int) (rs : List Int) : List Int × List Int := rs.foldl (see1 xs) s

theorem seeL_app (xs : List XC) (s : List Int × List Int) (a b : List Int) : seeL xs s (a ++ b) = seeL xs (seeL xs s a) b := by simp [seeL]
theorem seeL_nil (xs : List XC) (s : List Int × List Int) : seeL xs s [] = s := rfl
theorem seeL_one (xs : List XC) (s : List Int × List Int) (r : Int) : seeL xs s [r] = see1 xs s r := rfl
theorem seeL_take (xs : List XC) (s : List Int × List Int) (rs : List Int) {n : Nat} (h : n < rs.length) : seeL xs s (rs.take (n + 1)) = see1 xs (seeL xs s (rs.take n)) (rs.getD n 0) := by
  rw [List.take_succ_eq_append_getElem h, seeL_app, seeL_one, List.getD_eq_getElem?_getD, List.getElem?_eq_getElem h]; rfl

/-- A state of the search: what has been seen, what is to be looked at. -/
structure Seen (xs : List XC) (s : List Int × List Int) : Prop where
  nd : s.1.Nodup
  is : ∀ r ∈ s.1, isref xs r = true
  nl : s.2.Nodup
  sub : ∀ r ∈ s.2, r ∈ s.1
  le : s.2.length ≤ s.1.length

theorem nodup_snoc {l : List Int} {r : Int} (h : l.Nodup) (hr : r ∉ l) : (l ++ [r]).Nodup := by
  rw [List.nodup_append]; exact ⟨h, by simp, fun a ha b hb e => by simp at hb; subst hb; subst e; exact hr ha⟩

theorem Seen.see1 {xs : List XC} {s : List Int × List Int} (h : Seen xs s) (r : Int) : Seen xs (see1 xs s r) := by
  unfold V.see1
  split
  · rename_i hc
    refine ⟨nodup_snoc h.nd hc.2, fun q hq => ?_, nodup_snoc h.nl (fun hm => hc.2 (h.sub r hm)), fun q hq => ?_, by have := h.le; simp; omega⟩
    · rcases List.mem_append.1 hq with q1 | q1
      · exact h.is q q1
      · simp at q1; subst q1; exact hc.1
    · rcases List.mem_append.1 hq with q1 | q1
      · exact List.mem_append.2 (.inl (h.sub q q1))
      · exact List.mem_append.2 (.inr q1)
  · exact h
theorem Seen.seeL {xs : List XC} : ∀ (rs : List Int) {s : List Int × List Int}, Seen xs s → Seen xs (seeL xs s rs)
  | [], _, h => h
  | r :: rs, s, h => Seen.seeL rs (s := V.see1 xs s r) (h.see1 r)

theorem see1_sub (xs : List XC) (s : List Int × List Int) (r : Int) : (∀ q ∈ s.1, q ∈ (see1 xs s r).1) ∧ (∀ q ∈ s.2, q ∈ (see1 xs s r).2) ∧ (isref xs r = true → r ∈ (see1 xs s r).1) ∧
    (∀ q ∈ (see1 xs s r).1, q ∈ s.1 ∨ (q = r ∧ isref xs r = true ∧ q ∈ (see1 xs s r).2)) ∧ (see1 xs s r).1.length + s.2.length = (see1 xs s r).2.length + s.1.length := by
  unfold see1
  split
  · rename_i hc
    refine ⟨fun q hq => by simp [hq], fun q hq => by simp [hq], fun _ => by simp, fun q hq => ?_, by simp; omega⟩
    rcases List.mem_append.1 hq with q1 | q1
    · exact .inl q1
    · simp at q1; exact .inr ⟨q1, hc.1, by simp [q1]⟩
  · rename_i hc
    refine ⟨fun q hq => hq, fun q hq => hq, fun hr => Classical.byContradiction fun hn => hc ⟨hr, hn⟩, fun q hq => .inl hq, by omega⟩
theorem seeL_sub (xs : List XC) : ∀ (rs : List Int) (s : List Int × List Int), (∀ q ∈ s.1, q ∈ (seeL xs s rs).1) ∧ (∀ q ∈ s.2, q ∈ (seeL xs s rs).2) ∧ (∀ r ∈ rs, isref xs r = true → r ∈ (seeL xs s rs).1) ∧
    (∀ q ∈ (seeL xs s rs).1, q ∈ s.1 ∨ (q ∈ rs ∧ isref xs q = true ∧ q ∈ (seeL xs s rs).2)) ∧ (seeL xs s rs).1.length + s.2.length = (seeL xs s rs).2.length + s.1.length
  | [], s => ⟨fun _ h => h, fun _ h => h, by simp, fun q h => .inl h, by simp [seeL]; omega⟩
  | r :: rs, s => by
    obtain ⟨a1, a2, a3, a4, a5⟩ := see1_sub xs s r
    obtain ⟨b1, b2, b3, b4, b5⟩ := seeL_sub xs rs (see1 xs s r)
    have e : seeL xs s (r :: rs) = seeL xs (see1 xs s r) rs := rfl
    rw [e]
    refine ⟨fun q hq => b1 q (a1 q hq), fun q hq => b2 q (a2 q hq), fun q hq hr => ?_, fun q hq => ?_, by omega⟩
    · rcases List.mem_cons.1 hq with rfl | hq
      · exact b1 q (a3 hr)
      · exact b3 q hq hr
    · rcases b4 q hq with h | ⟨h1, h2, h3⟩
      · rcases a4 q h with h | ⟨rfl, h2, h3⟩
        · exact .inl h
        · exact .inr ⟨by simp, h2, b2 q h3⟩
      · exact .inr ⟨by simp [h1], h2, h3⟩

theorem Seen.len {xs : List XC} {s : List Int × List Int} (h : Seen xs s) : s.1.length ≤ xs.length := by
  have hsub : ∀ r ∈ s.1, r ∈ xs.map (·.ref) := fun r hr => by
    obtain ⟨x, hx, e⟩ := isref_iff.1 (h.is r hr)
    exact List.mem_map.2 ⟨x, hx, e⟩
  have nd := h.nd
  have gen : ∀ (l m : List Int), l.Nodup → (∀ r ∈ l, r ∈ m) → l.length ≤ m.length := fun l => by
    induction l with
    | nil => intro m _ _; simp
    | cons a l ih =>
      intro m hn hm
      rw [List.nodup_cons] at hn
      obtain ⟨p, q, rfl⟩ := List.append_of_mem (hm a (by simp))
      have := ih (p ++ q) hn.2 fun r hr => by
        have h1 := hm r (by simp [hr])
        rw [List.mem_append, List.mem_cons] at h1
        rcases h1 with h1 | h1 | h1
        · simp [h1]
        · subst h1; exact absurd hr hn.1
        · simp [h1]
      simp at this ⊢
      omega
  have := gen s.1 (xs.map (·.ref)) nd hsub
  simpa using this

/-- The search is under way: S has been seen; what has been looked at has its words seen. -/
structure Work (p : Int → Bool) (xs : List XC) (S : List Int) (s : List Int × List Int) : Prop where
  sn : Seen xs s
  in_ : ∀ r ∈ s.1, Rch p xs S r
  S : ∀ r ∈ S, isref xs r = true → r ∈ s.1
  cl : ∀ b ∈ s.1, b ∉ s.2 → ∀ x ∈ xs, x.ref = b → p x.kind = true → ∀ r ∈ x.vs, isref xs r = true → r ∈ s.1

theorem Work.done {p : Int → Bool} {xs : List XC} {S B : List Int} (h : Work p xs S (B, [])) (r : Int) : r ∈ B ↔ Rch p xs S r := by
  refine ⟨h.in_ r, fun hr => ?_⟩
  induction hr with
  | root r h1 h2 => exact h.S r h1 h2
  | step q x r _ hx e hp hr hi ih => exact h.cl q ih (by simp) x hx e hp r hr hi

theorem Work.begin {p : Int → Bool} {xs : List XC} (S : List Int) : Work p xs S (seeL xs ([], []) S) := by
  obtain ⟨b1, b2, b3, b4, b5⟩ := seeL_sub xs S ([], [])
  have sn : Seen xs (seeL xs ([], []) S) := Seen.seeL S ⟨by simp, by simp, by simp, by simp, by simp⟩
  refine ⟨sn, fun r hr => ?_, b3, fun b hb hn => ?_⟩
  · rcases b4 r hr with h | ⟨h1, h2, _⟩
    · simp at h
    · exact .root r h1 h2
  · rcases b4 b hb with h | ⟨_, _, h3⟩
    · simp at h
    · exact absurd h3 hn

/-- One more has been looked at: its words have been seen. -/
theorem Work.next {p : Int → Bool} {xs : List XC} {S B L : List Int} {q : Int} {x : XC} (h : Work p xs S (B, L ++ [q])) (hx : x ∈ xs) (e : x.ref = q) (nd : (xs.map (·.ref)).Pairwise (· < ·)) :
    Work p xs S (seeL xs (B, L) (if p x.kind = true then x.vs else [])) := by
  obtain ⟨b1, b2, b3, b4, b5⟩ := seeL_sub xs (if p x.kind = true then x.vs else []) (B, L)
  have hq : q ∈ B := h.sn.sub q (by simp)
  have nl := h.sn.nl
  dsimp only at nl
  rw [List.nodup_append] at nl
  have s0 : Seen xs (B, L) := ⟨h.sn.nd, h.sn.is, nl.1, fun r hr => h.sn.sub r (by simp [hr]), by have := h.sn.le; simp at this ⊢; omega⟩
  refine ⟨Seen.seeL _ s0, fun r hr => ?_, fun r hr hi => b1 r (h.S r hr hi), fun b hb hn y hy ey hp r hr hi => ?_⟩
  · rcases b4 r hr with h1 | ⟨h1, h2, _⟩
    · exact h.in_ r h1
    · split at h1
      · rename_i hp; exact .step q x r (h.in_ q hq) hx e hp h1 h2
      · simp at h1
  · by_cases eb : b = q
    · have : y = x := pw_same nd hy hx (show y.ref = x.ref by omega)
      subst this
      rw [if_pos hp] at b3 ⊢
      exact b3 r hr hi
    · rcases b4 b hb with h1 | ⟨_, _, h3⟩
      · refine b1 r (h.cl b h1 (fun hm => ?_) y hy ey hp r hr hi)
        rcases List.mem_append.1 hm with h2 | h2
        · exact hn (b2 b h2)
        · simp at h2; exact eb h2
      · exact absurd h3 hn

/-- No cell is left to look at, or fewer. -/
theorem work_less {xs : List XC} {B L rs : List Int} {q : Int} (h : Seen xs (B, L ++ [q])) : 2 * (xs.length - (seeL xs (B, L) rs).1.length) + (seeL xs (B, L) rs).2.length < 2 * (xs.length - B.length) + (L ++ [q]).length := by
  have nl := h.nl
  dsimp only at nl
  rw [List.nodup_append] at nl
  have s0 : Seen xs (B, L) := ⟨h.nd, h.is, nl.1, fun r hr => h.sub r (by simp [hr]), by have := h.le; simp at this ⊢; omega⟩
  obtain ⟨b1, b2, b3, b4, b5⟩ := seeL_sub xs rs (B, L)
  have l1 := (Seen.seeL rs s0).len
  have l2 := h.len
  dsimp only at l2 b5
  have l3 : B.length ≤ (seeL xs (B, L) rs).1.length := by
    have : ∀ (rs : List Int) (s : List Int × List Int), s.1.length ≤ (seeL xs s rs).1.length := fun rs => by
      induction rs with
      | nil => intro s; exact Nat.le_refl _
      | cons r rs ih =>
        intro s
        refine Nat.le_trans ?_ (ih (see1 xs s r))
        unfold see1
        split
        · simp
        · exact Nat.le_refl _
    exact this rs (B, L)
  simp
  omega
end Go.Proofs.Ytfpghcdjfiggiaa.V
