/- So many, and no more: the programs asked about. Plain. -/
import Derived.Test.YtmlhdmnnijapjaaClassO
import Derived.Test.YtmlhdmnnijapjaaNums13
namespace Go.Proofs.Ytmlhdmnnijapjaa.V
open Go Go.RowKit Go.Proofs.Ytmlhdmnnijapjaa.WirePlain

def cA : Cls := ⟨ByteArray.mk #[65], false, false, 0, [], [], [], []⟩
def fF : Fld := ⟨ByteArray.mk #[102], 1⟩
def mM : Mth := ⟨ByteArray.mk #[109], false, [], 0, 0, 0, [], [], []⟩
def cnt0 (k : Nat) : Prg := ⟨11, tinyC :: List.replicate (k - 1) cA⟩
def cntC (fs : List Int) (a b : List Fld) (ms : List Mth) : Prg := ⟨11, [⟨tinyC.name, false, false, 0, fs, a, b, ms⟩]⟩
def cntM (ag : List Int) (cd : List Ins) (tb : List Hnd) : Mth := ⟨tinyM.name, true, ag, 0, 0, 0, cd, tb, []⟩
def cntP (j k : Nat) : Prg := match j with
  | 0 => cnt0 k
  | 1 => cntC (List.replicate k 0) [] [] [tinyM]
  | 2 => cntC [] (List.replicate k fF) [] [tinyM]
  | 3 => cntC [] [] (List.replicate k fF) [tinyM]
  | 4 => cntC [] [] [] (tinyM :: List.replicate (k - 1) mM)
  | 5 => cntC [] [] [] [cntM (List.replicate k 0) [⟨29, 0, 0⟩] []]
  | 6 => cntC [] [] [] [cntM [] (List.replicate k ⟨0, 0, 0⟩) []]
  | _ => cntC [] [] [] [cntM [] [⟨29, 0, 0⟩] (List.replicate k ⟨0, 0, 0, 0⟩)]
def lim : Nat → Nat
  | 0 => 40
  | 1 => 8
  | 2 => 24
  | 3 => 24
  | 4 => 24
  | 5 => 8
  | 6 => 300
  | _ => 16

theorem rep_all {α : Type} {P : α → Prop} {n : Nat} {y : α} (h : P y) : ∀ x ∈ List.replicate n y, P x := fun x hx => by rw [List.eq_of_mem_replicate hx]; exact h
theorem cons_all {α : Type} {P : α → Prop} {y : α} {xs : List α} (h : P y) (h' : ∀ x ∈ xs, P x) : ∀ x ∈ y :: xs, P x := fun x hx => (List.mem_cons.1 hx).elim (fun e => e ▸ h) (h' x)
theorem nil_all {α : Type} {P : α → Prop} : ∀ x ∈ ([] : List α), P x := fun x hx => by simp at hx
theorem i6 : I6 0 ∧ I6 1 ∧ I6 11 ∧ I6 29 := by unfold I6; decide
theorem mth_ok {nm : ByteArray} {b : Bool} {ag : List Int} {cd : List Ins} {tb : List Hnd} (h1 : ∀ x ∈ ag, I6 x) (h2 : ∀ x ∈ cd, x.ok) (h3 : ∀ x ∈ tb, x.ok) : (⟨nm, b, ag, 0, 0, 0, cd, tb, []⟩ : Mth).ok := ⟨h1, i6.1, i6.1, i6.1, h2, h3, nil_all⟩
theorem cls_ok {nm : ByteArray} {fs : List Int} {a b : List Fld} {ms : List Mth} (h1 : ∀ x ∈ fs, I6 x) (h2 : ∀ x ∈ a, I6 x.ty) (h3 : ∀ x ∈ b, I6 x.ty) (h4 : ∀ x ∈ ms, x.ok) : (⟨nm, false, false, 0, fs, a, b, ms⟩ : Cls).ok := ⟨i6.1, h1, h2, h3, h4⟩
theorem tinyM_ok : tinyM.ok := mth_ok nil_all (cons_all ⟨i6.2.2.2, i6.1, i6.1⟩ nil_all) nil_all
theorem cnt_ok (j k : Nat) : (cntP j k).ok := by
  have one : ∀ {c : Cls}, c.ok → (⟨11, [c]⟩ : Prg).ok := fun h => ⟨i6.2.2.1, cons_all h nil_all⟩
  have t1 := cons_all tinyM_ok (nil_all (P := Mth.ok))
  have z3 : (⟨0, 0, 0⟩ : Ins).ok := ⟨i6.1, i6.1, i6.1⟩
  have z4 : (⟨0, 0, 0, 0⟩ : Hnd).ok := ⟨i6.1, i6.1, i6.1, i6.1⟩
  have z29 : (⟨29, 0, 0⟩ : Ins).ok := ⟨i6.2.2.2, i6.1, i6.1⟩
  unfold cntP
  split
  · exact ⟨i6.2.2.1, cons_all (cls_ok nil_all nil_all nil_all t1) (rep_all (cls_ok nil_all nil_all nil_all nil_all))⟩
  · exact one (cls_ok (rep_all i6.1) nil_all nil_all t1)
  · exact one (cls_ok nil_all (rep_all i6.2.1) nil_all t1)
  · exact one (cls_ok nil_all nil_all (rep_all i6.2.1) t1)
  · exact one (cls_ok nil_all nil_all nil_all (cons_all tinyM_ok (rep_all (mth_ok nil_all nil_all nil_all))))
  · exact one (cls_ok nil_all nil_all nil_all (cons_all (mth_ok (rep_all i6.1) (cons_all z29 nil_all) nil_all) nil_all))
  · exact one (cls_ok nil_all nil_all nil_all (cons_all (mth_ok nil_all (rep_all z3) nil_all) nil_all))
  · exact one (cls_ok nil_all nil_all nil_all (cons_all (mth_ok nil_all (cons_all z29 nil_all) (rep_all z4)) nil_all))

def clnB (p : Prg) : Bool := !(encW p).many && !(encW p).nm && !(encW p).fm && Nat.ble (encW p).bs.length 30000
theorem cnt_fine : (List.range 8).all (fun j => clnB (cntP j (lim j))) = true := by kernel_rfl
theorem cnt_over : (List.range 8).all (fun j => (encW (cntP j (lim j + 1))).many) = true := by kernel_rfl
theorem cnt_enc {j : Nat} (hj : j < 8) : (encP (cntP j (lim j))).2 = 0 := by
  have h := List.all_eq_true.1 cnt_fine j (by simpa using hj)
  unfold clnB at h
  simp only [Bool.and_eq_true, Bool.not_eq_true', Nat.ble_eq] at h
  obtain ⟨⟨⟨h1, h2⟩, h3⟩, h4⟩ := h
  refine encP_of ⟨h1, h2, h3⟩ ?_
  have : magicN.length = 4 := rfl
  rw [List.length_append]
  omega
theorem cnt_no {j : Nat} (hj : j < 8) : encP (cntP j (lim j + 1)) = (⟨#[]⟩, 1404) := enc_many (List.all_eq_true.1 cnt_over j (by simpa using hj))
end Go.Proofs.Ytmlhdmnnijapjaa.V
