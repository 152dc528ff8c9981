/- The document's word on names. (Lines of ClassG, over a module of readings of the writer's.) No condition. -/
import Derived.Test.YtmlhdmnnijapjaaClassR
import Derived.Test.YtmlhdmnnijapjaaClassX
import Derived.Test.YtmlhdmnnijapjaaGClsRefW
namespace Go.Proofs.Ytmlhdmnnijapjaa.V
open Go Go.RowKit Go.Proofs.Ytmlhdmnnijapjaa.WirePlain

theorem let_ref : ∀ c : Nat, letB c = true ↔ (c = 95 ∨ (97 ≤ c ∧ c ≤ 122) ∨ (65 ≤ c ∧ c ≤ 90)) := by
  intro c
  unfold letB
  simp only [Bool.or_eq_true, Bool.and_eq_true, Nat.ble_eq, Nat.beq_eq]
  omega

theorem isnameR_c (t : ByteArray) {w : World} {K : Bool → World → Prop} (hK : K (nameOK t) w) : C102 t w K := by
  have e0 : (ByteArray.toList t == ByteArray.toList (ByteArray.mk #[])) = decide (t.size = 0) := by
    rw [str_beq, decide_eq_decide]
    constructor
    · intro h; rw [h]; rfl
    · intro h
      obtain ⟨d⟩ := t
      have : d = #[] := Array.eq_empty_of_size_eq_zero h
      rw [this]
  refine r_f102 _ _ _ ⟨fun w' => w' = w ∧ t.size ≠ 0 ∧ t.size ≤ 16, ?_, ?_⟩
  · rw [e0]
    refine IfB.dec (fun h => ?_) (fun h => IfB.dec (fun h2 => ?_) (fun h2 => ⟨rfl, h, by omega⟩))
    · rw [show nameOK t = false from decide_eq_false (fun hh => hh.1 h)] at hK; exact hK
    · rw [show nameOK t = false from decide_eq_false (fun hh => by omega)] at hK; exact hK
  rintro - w2 ⟨rfl, hn, h16⟩
  refine ⟨fun i w' => w' = w2 ∧ 0 ≤ i ∧ i ≤ t.size ∧ ∀ j : Nat, j < i → okB j ((nats t).getD j 0) = true, fun i _ => (t.size - i).toNat, ⟨rfl, by omega, by omega, fun j hj => by omega⟩, ?_⟩
  rintro - i w6 ⟨rfl, h0, h1, hall⟩
  refine IfB.dec (fun hlt => ?_) (fun hge => ?_)
  · have hlt' : i.toNat < t.size := by omega
    have ec : (nats t).getD i.toNat 0 = (t[i.toNat]'hlt').toNat := by
      have := nats_drop t i.toNat hlt'
      rw [List.getD_eq_getElem?_getD, ← List.head?_drop, this]; rfl
    refine ⟨hlt', h0, ?_⟩
    generalize (t[i.toNat]'hlt').toNat = c at *
    have hb := let_ref c
    have bad : okB i.toNat c = false → nameOK t = false := fun h => decide_eq_false (fun hh => by have := hh.2.2 i.toNat hlt'; rw [ec, h] at this; cases this)
    have good : okB i.toNat c = true → (w6 = w6 ∧ 0 ≤ i + 1 ∧ i + 1 ≤ t.size ∧ ∀ j : Nat, j < i + 1 → okB j ((nats t).getD j 0) = true) ∧ (t.size - (i + 1)).toNat < (t.size - i).toNat := fun h =>
      ⟨⟨rfl, by omega, by omega, fun j hj => by
        by_cases e : j = i.toNat
        · subst e; rw [ec]; exact h
        · exact hall j (by omega)⟩, by omega⟩
    refine ⟨fun b w' => w' = w6 ∧ b = letB c, ?_, ?_⟩
    · refine IfB.dec (fun h1 => ⟨rfl, (hb.2 (by omega)).symm⟩) (fun h1 => IfB.dec (fun h2 => IfB.dec (fun h3 => ⟨rfl, (hb.2 (by omega)).symm⟩) (fun h3 => ?_)) (fun h2 => ?_))
      · refine IfB.dec (fun h4 => ⟨rfl, ?_⟩) (fun h4 => ⟨rfl, ?_⟩)
        · rw [Bool.eq_iff_iff, decide_eq_true_eq, hb]; omega
        · rw [eq_comm, Bool.eq_false_iff]; intro h; have := hb.1 h; omega
      · refine IfB.dec (fun h4 => ⟨rfl, ?_⟩) (fun h4 => ⟨rfl, ?_⟩)
        · rw [Bool.eq_iff_iff, decide_eq_true_eq, hb]; omega
        · rw [eq_comm, Bool.eq_false_iff]; intro h; have := hb.1 h; omega
    rintro - b w9 ⟨rfl, rfl⟩
    refine ifb_n (fun hl => ?_) (fun hl => ?_)
    · exact ⟨fit64 (by omega) (by omega), good (by unfold okB; rw [hl]; rfl)⟩
    · refine IfB.dec (fun hz => ?_) (fun hz => IfB.dec (fun h48 => ?_) (fun h48 => IfB.dec (fun h57 => ?_) (fun h57 => ⟨fit64 (by omega) (by omega), good ?_⟩)))
      · rw [bad (by subst hz; unfold okB; rw [hl]; rfl)] at hK; exact hK
      · rw [bad (by
          unfold okB; rw [hl]
          have : Nat.ble 48 c = false := by rw [Bool.eq_false_iff]; intro h; have := Nat.le_of_ble_eq_true h; omega
          simp [this])] at hK; exact hK
      · rw [bad (by
          unfold okB; rw [hl]
          have : Nat.ble c 57 = false := by rw [Bool.eq_false_iff]; intro h; have := Nat.le_of_ble_eq_true h; omega
          simp [this])] at hK; exact hK
      · unfold okB
        rw [hl, Nat.ble_eq_true_of_le (by omega), Nat.ble_eq_true_of_le (by omega), Nat.ble_eq_true_of_le (by omega)]
        rfl
  · rw [show nameOK t = true from decide_eq_true ⟨hn, h16, fun j hj => hall j (by omega)⟩] at hK
    exact hK
end Go.Proofs.Ytmlhdmnnijapjaa.V
