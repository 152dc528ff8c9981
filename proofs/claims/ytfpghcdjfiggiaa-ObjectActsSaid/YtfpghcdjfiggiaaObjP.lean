/- Objects over fragments, in plain words. No condition. -/
import Derived.Test.YtfpghcdjfiggiaaFrag2
import Derived.Test.YtfpghcdjfiggiaaMapRange
namespace Go.Proofs.Ytfpghcdjfiggiaa.V
open Go Go.RowKit

theorem least_ex {P : Nat → Prop} (h : ∃ k, P k) : ∃ k, P k ∧ ∀ j, P j → k ≤ j := by
  obtain ⟨k, hk⟩ := h
  induction k using Nat.strongRecOn with
  | _ k ih =>
    by_cases q : ∃ j, j < k ∧ P j
    · obtain ⟨j, hj, hp⟩ := q
      exact ih j hj hp
    · refine ⟨k, hk, fun j hj => ?_⟩
      rcases Nat.lt_or_ge j k with q2 | q2
      · exact absurd ⟨j, q2, hj⟩ q
      · exact q2
/-- The least of what holds. -/
noncomputable def leastN (P : Nat → Prop) : Nat := by
  classical
  exact if h : ∃ k, P k then Classical.choose (least_ex h) else 0
theorem leastN_spec {P : Nat → Prop} (h : ∃ k, P k) : P (leastN P) ∧ ∀ j, P j → leastN P ≤ j := by
  classical
  unfold leastN
  rw [dif_pos h]
  exact Classical.choose_spec (least_ex h)

/-- An object: its fragments, and what must be in it. -/
structure Ob where
  ref : Int
  n : Int
  st : Nat
  fs : List Int
  vs : List Int

/-- What leads to the rest of a row of fragments. -/
def nx : List Int → Int
  | [] => 0
  | g :: _ => g + 1
/-- Each fragment's last word leads to the next. -/
def Chain (W : Int → Int → Int) : List Int → Prop
  | [] => True
  | f :: fs => W f 7 = nx fs ∧ Chain W fs

theorem Chain.congr {W W' : Int → Int → Int} : ∀ {fs : List Int}, Chain W fs → (∀ f ∈ fs, W' f 7 = W f 7) → Chain W' fs
  | [], _, _ => trivial
  | f :: fs, h, e => ⟨by rw [e f (by simp)]; exact h.1, h.2.congr fun g hg => e g (by simp [hg])⟩
theorem Chain.at {W : Int → Int → Int} : ∀ {fs : List Int}, Chain W fs → ∀ {k : Nat} {f : Int}, fs[k]? = some f → W f 7 = nx (fs.drop (k + 1))
  | [], _, k, f, h => by simp at h
  | g :: fs, h, 0, f, e => by simp at e; subst e; simpa using h.1
  | g :: fs, h, k + 1, f, e => by
    rw [List.getElem?_cons_succ] at e
    simpa using h.2.at e

/-- How many fragments a size takes. -/
def fcnt (n : Int) : Nat := (max 1 ((n + 6) / 7)).toNat

structure OInv (ws : List Int) (base count : Int) (free : List Int) (os : List Ob) (last : Int) : Prop where
  ids : ∀ o ∈ os, 1 ≤ o.ref ∧ o.ref ≤ last
  l0 : 0 ≤ last
  srt : (os.map (·.ref)).Pairwise (· < ·)
  sz : ∀ o ∈ os, 0 ≤ o.n ∧ o.n ≤ 64 ∧ (o.vs.length : Int) = o.n ∧ o.fs.length = fcnt o.n
  us : ∀ o ∈ os, ∀ f ∈ o.fs, usedF ws base count f
  nd : (os.flatMap (·.fs)).Nodup
  ch : ∀ o ∈ os, Chain (wrdF ws base count) o.fs
  wd : ∀ o ∈ os, ∀ i : Nat, (i : Int) < o.n → ∀ f, o.fs[i / 7]? = some f → wrdF ws base count f ((i % 7 : Nat) : Int) = o.vs.getD i 0
  all : ∀ f, usedF ws base count f → ∃ o ∈ os, f ∈ o.fs

section
variable {ws ws' : List Int} {base count last : Int} {free : List Int} {os : List Ob}

theorem fcnt_pos (n : Int) : 1 ≤ fcnt n := by unfold fcnt; omega
theorem fcnt_le {n : Int} (h0 : 0 ≤ n) : (fcnt n : Int) ≤ 1 + (n + 5) / 6 ∧ (fcnt n : Int) * 7 ≥ n ∧ (n ≤ 64 → fcnt n ≤ 10) := by unfold fcnt; omega
theorem fcnt_in {n i : Int} (h0 : 0 ≤ i) (h1 : i < n) : (i / 7).toNat < fcnt n := by unfold fcnt; omega

theorem OInv.same (h : OInv ws base count free os last) {o o' : Ob} (h1 : o ∈ os) (h2 : o' ∈ os) (e : o.ref = o'.ref) : o = o' := by
  have nd : (os.map (·.ref)).Nodup := by
    rw [List.nodup_iff_pairwise_ne]
    exact h.srt.imp (fun {a b} h => by omega)
  exact map_inj_of_nodup (·.ref) nd h1 h2 e

theorem flat_nodup {os : List Ob} (h : (os.flatMap (·.fs)).Nodup) {o : Ob} (ho : o ∈ os) : o.fs.Nodup := by
  induction os with
  | nil => simp at ho
  | cons a l ih =>
    rw [List.flatMap_cons, List.nodup_append] at h
    rcases List.mem_cons.1 ho with rfl | ho
    · exact h.1
    · exact ih h.2.1 ho
theorem flat_apart {os : List Ob} (h : (os.flatMap (·.fs)).Nodup) {o o' : Ob} (ho : o ∈ os) (ho' : o' ∈ os) {f : Int} (h1 : f ∈ o.fs) (h2 : f ∈ o'.fs) : o.fs = o'.fs := by
  induction os with
  | nil => simp at ho
  | cons a l ih =>
    rw [List.flatMap_cons, List.nodup_append] at h
    rcases List.mem_cons.1 ho with e1 | q1
    · rcases List.mem_cons.1 ho' with e2 | q2
      · rw [e1, e2]
      · subst e1; exact absurd rfl (h.2.2 f h1 f (List.mem_flatMap.2 ⟨o', q2, h2⟩))
    · rcases List.mem_cons.1 ho' with e2 | q2
      · subst e2; exact absurd rfl (h.2.2 f h2 f (List.mem_flatMap.2 ⟨o, q1, h1⟩))
      · exact ih h.2.1 q1 q2

/-- How many fragments are used. -/
theorem used_len {w : World} {F : List Nat} {pb ab wb sb : Nat} {ss : List Int} (P : Pool w F pb ab wb sb base count free ws ss) : ((usedL ws base count).length : Int) = count - free.length := by
  have rg := P.rg
  have e1 : free.Perm ((upTo count.toNat).filter fun f => decide (colF ws base f = 0)) := by
    refine perm_of_mem P.nd ((upTo_nodup _).filter _) fun f => ?_
    rw [List.mem_filter, mem_upTo, P.fr f]
    simp
    omega
  have e2 := e1.length_eq
  have e3 : ((upTo count.toNat).filter fun f => decide (colF ws base f = 0)).length + (usedL ws base count).length = count.toNat := by
    have : ∀ l : List Int, (l.filter fun f => decide (colF ws base f = 0)).length + (l.filter fun f => decide (colF ws base f ≠ 0)).length = l.length := fun l => by
      induction l with
      | nil => rfl
      | cons a l ih =>
        rw [List.filter_cons, List.filter_cons]
        by_cases h : colF ws base a = 0 <;> simp [h] <;> simp at ih <;> omega
    have q := this (upTo count.toNat)
    rw [upTo_length] at q
    exact q
  omega

/-- Nothing is used where nothing is. -/
theorem used_nil {w : World} {F : List Nat} {pb ab wb sb : Nat} {ss : List Int} (P : Pool w F pb ab wb sb base count free ws ss) (h : OInv ws base count free [] last) : usedL ws base count = [] := by
  unfold usedL
  rw [List.filter_eq_nil_iff]
  intro f hf
  rw [mem_upTo] at hf
  have rg := P.rg
  simp
  by_cases e : colF ws base f = 0
  · exact e
  · obtain ⟨o, ho, _⟩ := h.all f ⟨hf.1, by omega, e⟩
    simp at ho
end
end Go.Proofs.Ytfpghcdjfiggiaa.V
