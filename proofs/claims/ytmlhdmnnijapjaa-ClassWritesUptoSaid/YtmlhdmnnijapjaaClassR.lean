/- Reading a program: the reader, and what it throws. No condition. -/
import Derived.Test.YtmlhdmnnijapjaaClassM
import Derived.Test.YtmlhdmnnijapjaaGClsR
namespace Go.Proofs.Ytmlhdmnnijapjaa.V
open Go Go.RowKit Go.Proofs.Ytmlhdmnnijapjaa.WirePlain

/-- A fault, thrown. -/
def Thrown (e : Int × Int) : List PanicEntry := [{ v := .iface 107 (.agg #[.int .i64 e.1, .int .i64 e.2]), recovered := false }]

/-- The reader: its bytes, and where it is. -/
structure RdW (w : World) (rb : Nat) (s : ByteArray) (p : Int) : Prop where
  hd : Blk w rb [.string s, .int .i64 p]
  h0 : 0 ≤ p
  h1 : p ≤ s.size

theorem RdW.fr {w w' : World} {rb : Nat} {s : ByteArray} {p : Int} {S : List Nat} (h : RdW w rb s p) (f : Fr S w w') (hn : rb ∉ S) : RdW w' rb s p := ⟨h.hd.fr f hn, h.h0, h.h1⟩

/-- What comes out: a value, and the reader behind it; or a fault is thrown. -/
def Out (X : List PanicEntry → World → Prop) (rb : Nat) (s : ByteArray) {α : Type} (r : Rs α) (w : World) (k : α → Int → World → Prop) : Prop := match r with
  | .ok p => ∀ w', RdW w' rb s p.2 → Fr [rb] w w' → k p.1 p.2 w'
  | .error e => ∀ w', Fr [rb] w w' → X (Thrown e) w'

section
variable {X : List PanicEntry → World → Prop} {rb : Nat} {s : ByteArray} {α β : Type} {r : Rs α} {w w' : World} {k : α → Int → World → Prop}

theorem Out.fr (h : Out X rb s r w k) (f : Fr [rb] w w') : Out X rb s r w' k := by
  unfold Out at h ⊢
  split
  · exact fun w2 R f2 => h w2 R (f.more f2)
  · exact fun w2 f2 => h w2 (f.more f2)

theorem Out.bind {g : α → Int → Rs β} {k : β → Int → World → Prop} (h : Out X rb s (bindD r g) w k) : Out X rb s r w fun x q w1 => Fr [rb] w w1 ∧ Out X rb s (g x q) w1 k := by
  cases r with
  | error e => exact h
  | ok p => exact fun w1 _ f => ⟨f, Out.fr (X := X) (rb := rb) (s := s) h f⟩

/-- The same, from an earlier world. -/
theorem Out.from {w0 : World} {g : α → Int → Rs β} {k : β → Int → World → Prop} (h : Out X rb s (bindD r g) w0 k) (f : Fr [rb] w0 w) : Out X rb s r w fun x q w1 => Fr [rb] w w1 ∧ Out X rb s (g x q) w0 k := by
  cases r with
  | error e => exact fun w1 f1 => Out.fr (X := X) (rb := rb) (s := s) (r := (.error e : Rs β)) (k := k) h f w1 f1
  | ok p => exact fun w1 _ f1 => ⟨f1, h⟩

/-- What is read, as it is. -/
theorem Out.of (r : Rs α) (w : World) (h : ∀ e w', r = .error e → Fr [rb] w w' → X (Thrown e) w') : Out X rb s r w fun x q w' => r = .ok (x, q) ∧ Fr [rb] w w' := by
  cases r with
  | error e => exact fun w' f => h e w' rfl f
  | ok p => exact fun w' _ f => ⟨rfl, f⟩

theorem Out.ret {x : α} {q : Int} (h : Out X rb s (.ok (x, q)) w k) (R : RdW w' rb s q) (f : Fr [rb] w w') : k x q w' := h w' R f
theorem Out.bad {e : Int × Int} (h : Out X rb s (.error e : Rs α) w k) (f : Fr [rb] w w') : X (Thrown e) w' := h w' f

theorem fail_x {b : Bool} {p c : Int} {K : World → Prop} (h1 : b = true → X (Thrown (p, c)) w) (h2 : b = false → K w) : CX50 X b p c w K :=
  r_f50 _ _ _ _ _ _ (IfB.of h1 h2)

theorem num_x {p : Int} {k : Int → Int → World → Prop} {K : Int → World → Prop} (R : RdW w rb s p) (hs : s.size ≤ 32768) (h : Out X rb s (numD s p) w k) (hK : ∀ x q w', RdW w' rb s q → Fr [rb] w w' → k x q w' → K x w') : CX47 X (some ⟨rb, 0, none⟩) w K := by
  refine r_f47 _ _ _ _ fun w1 d1 => ⟨_, (R.fr (d1.fr []) (by simp)).hd.cell rfl, _, (R.fr (d1.fr []) (by simp)).hd.cell rfl, getnum_c s (by omega) p ?_⟩
  have R1 := R.fr (d1.fr []) (by simp)
  have f1 : Fr [rb] w w1 := d1.fr _
  have hm := numD_mono s p R.h0 R.h1
  unfold numD at h hm
  refine ⟨_, R1.hd.cell rfl, fail_x (fun h1 => ?_) (fun h1 => ⟨_, R1.hd.cell rfl, fail_x (fun h2 => ?_) (fun h2 => ⟨R1.hd.may (by simp), fun w12 s12 => ?_⟩)⟩)⟩
  · rw [if_pos (of_decide_eq_true h1)] at h
    exact h.bad f1
  · have h1 := of_decide_eq_false h1
    rw [if_neg h1, if_pos (by simpa using h2)] at h
    exact h.bad f1
  · have h1 := of_decide_eq_false h1
    have h2 : ¬ (getR s p).2.2 ≠ 0 := by simpa using h2
    rw [if_neg h1, if_neg h2] at h hm
    have B := s12.blk R1.hd
    have f12 : Fr [rb] w w12 := f1.more (s12.fr (by simp))
    have R12 : RdW w12 rb s (getR s p).2.1 := ⟨by simpa using B, by have := hm.1; have := R.h0; omega, hm.2⟩
    exact hK _ _ _ R12 f12 (h.ret R12 f12)

theorem rang_x {p lo hi : Int} {k : Int → Int → World → Prop} {K : Int → World → Prop} (R : RdW w rb s p) (hs : s.size ≤ 32768) (h : Out X rb s (rangD s lo hi p) w k) (hK : ∀ x q w', RdW w' rb s q → Fr [rb] w w' → k x q w' → K x w') : CX69 X (some ⟨rb, 0, none⟩) lo hi w K := by
  refine r_f69 _ _ _ _ _ _ ⟨_, R.hd.cell rfl, num_x R hs h.bind fun x q w1 R1 f1 ⟨_, h⟩ => ?_⟩
  refine IfB.dec (fun h1 => fail_x (fun _ => ?_) (fun h => by cases h)) (fun h1 => fail_x (fun h2 => ?_) (fun h2 => ?_))
  · rw [if_pos (.inl h1)] at h; exact h.bad (Fr.refl _ _)
  · rw [if_pos (.inr (of_decide_eq_true h2))] at h; exact h.bad (Fr.refl _ _)
  · rw [if_neg (by have := of_decide_eq_false h2; omega)] at h
    exact hK _ _ _ R1 f1 (h.ret R1 (Fr.refl _ _))

theorem let_bits : ∀ c : Nat, c < 256 → ((97 ≤ bits .or .u8 (c : Int) 32 ∧ bits .or .u8 (c : Int) 32 ≤ 122) ∨ c = 95 ↔ letB c = true) := by decide +kernel

theorem isname_c (t : ByteArray) {K : Bool → World → Prop} (hK : K (nameOK t) w) : C94 t w K := by
  have e0 : (ByteArray.toList t == ByteArray.toList (ByteArray.mk #[])) = decide (t.size = 0) := by
    rw [str_beq, decide_eq_decide]
    constructor
    · intro h; rw [h]; rfl
    · intro h
      obtain ⟨d⟩ := t
      have : d = #[] := Array.eq_empty_of_size_eq_zero h
      rw [this]
  refine r_f94 _ _ _ ⟨fun w' => w' = w ∧ t.size ≠ 0 ∧ t.size ≤ 16, ?_, ?_⟩
  · rw [e0]
    refine IfB.dec (fun h => ?_) (fun h => IfB.dec (fun h2 => ?_) (fun h2 => ⟨rfl, h, by omega⟩))
    · rw [show nameOK t = false from decide_eq_false (fun hh => hh.1 h)] at hK; exact hK
    · rw [show nameOK t = false from decide_eq_false (fun hh => by omega)] at hK; exact hK
  rintro - w2 ⟨rfl, hn, h16⟩
  refine ⟨fun i w' => w' = w2 ∧ 0 ≤ i ∧ i ≤ t.size ∧ ∀ j : Nat, j < i → okB j ((nats t).getD j 0) = true, fun i _ => (t.size - i).toNat, ⟨rfl, by omega, by omega, fun j hj => by omega⟩, ?_⟩
  rintro - i w6 ⟨rfl, h0, h1, hall⟩
  refine IfB.dec (fun hlt => ?_) (fun hge => ?_)
  · have hlt' : i.toNat < t.size := by omega
    have ec : (nats t).getD i.toNat 0 = (t[i.toNat]'hlt').toNat := by
      have := nats_drop t i.toNat hlt'
      rw [List.getD_eq_getElem?_getD, ← List.head?_drop, this]; rfl
    have hc := (t[i.toNat]'hlt').toNat_lt
    have hb := let_bits _ hc
    have bad : okB i.toNat (t[i.toNat]'hlt').toNat = false → nameOK t = false := fun h => decide_eq_false (fun hh => by have := hh.2.2 i.toNat hlt'; rw [ec, h] at this; cases this)
    have good : okB i.toNat (t[i.toNat]'hlt').toNat = true → (w6 = w6 ∧ 0 ≤ i + 1 ∧ i + 1 ≤ t.size ∧ ∀ j : Nat, j < i + 1 → okB j ((nats t).getD j 0) = true) ∧ (t.size - (i + 1)).toNat < (t.size - i).toNat := fun h =>
      ⟨⟨rfl, by omega, by omega, fun j hj => by
        by_cases e : j = i.toNat
        · subst e; rw [ec]; exact h
        · exact hall j (by omega)⟩, by omega⟩
    refine ⟨fun b w' => w' = w6 ∧ b = letB (t[i.toNat]'hlt').toNat, ⟨hlt', h0, IfB.dec (fun h1 => ⟨hlt', h0, IfB.dec (fun h2 => ⟨rfl, ?_⟩) (fun h2 => ⟨hlt', h0, rfl, ?_⟩)⟩) (fun h1 => ⟨hlt', h0, rfl, ?_⟩)⟩, ?_⟩
    · exact (hb.1 (.inl ⟨h1, h2⟩)).symm
    · rw [Bool.eq_iff_iff, decide_eq_true_eq, ← hb]; omega
    · rw [Bool.eq_iff_iff, decide_eq_true_eq, ← hb]; omega
    rintro - b w9 ⟨rfl, rfl⟩
    refine ifb_n (fun hl => ?_) (fun hl => ?_)
    · exact ⟨fit64 (by omega) (by omega), good (by unfold okB; rw [hl]; rfl)⟩
    · refine IfB.dec (fun hz => ?_) (fun hz => ⟨hlt', h0, IfB.dec (fun h48 => ?_) (fun h48 => ⟨hlt', h0, IfB.dec (fun h57 => ?_) (fun h57 => ⟨fit64 (by omega) (by omega), good ?_⟩)⟩)⟩)
      · rw [bad (by subst hz; unfold okB; rw [hl]; rfl)] at hK; exact hK
      · rw [bad (by
          unfold okB; rw [hl]
          have : Nat.ble 48 (t[i.toNat]'hlt').toNat = false := by rw [Bool.eq_false_iff]; intro h; have := Nat.le_of_ble_eq_true h; omega
          simp [this])] at hK; exact hK
      · rw [bad (by
          unfold okB; rw [hl]
          have : Nat.ble (t[i.toNat]'hlt').toNat 57 = false := by rw [Bool.eq_false_iff]; intro h; have := Nat.le_of_ble_eq_true h; omega
          simp [this])] at hK; exact hK
      · unfold okB
        rw [hl, Nat.ble_eq_true_of_le (by omega), Nat.ble_eq_true_of_le (by omega), Nat.ble_eq_true_of_le (by omega)]
        rfl
  · rw [show nameOK t = true from decide_eq_true ⟨hn, h16, fun j hj => hall j (by omega)⟩] at hK
    exact hK

theorem name_x {p : Int} {k : ByteArray → Int → World → Prop} {K : ByteArray → World → Prop} (R : RdW w rb s p) (hs : s.size ≤ 32768) (h : Out X rb s (nameD s p) w k) (hK : ∀ x q w', RdW w' rb s q → Fr [rb] w w' → k x q w' → K x w') : CX68 X (some ⟨rb, 0, none⟩) w K := by
  refine r_f68 _ _ _ _ ⟨_, R.hd.cell rfl, num_x R hs h.bind fun n q w1 R1 f1 ⟨_, h⟩ => ?_⟩
  refine ⟨fun w' => w' = w1 ∧ 0 ≤ n ∧ n ≤ 16, IfB.dec (fun h1 => fail_x (fun _ => ?_) (fun h => by cases h)) (fun h1 => fail_x (fun h2 => ?_) (fun h2 => ⟨rfl, by omega, by have := of_decide_eq_false h2; omega⟩)), ?_⟩
  · rw [if_pos (.inl h1)] at h; exact h.bad (Fr.refl _ _)
  · rw [if_pos (.inr (of_decide_eq_true h2))] at h; exact h.bad (Fr.refl _ _)
  rintro - w5 ⟨rfl, hn0, hn1⟩ w8 d8
  rw [if_neg (by omega)] at h
  have R8 := R1.fr (d8.fr []) (by simp)
  have q0 := R1.h0
  have q1 := R1.h1
  refine ⟨_, R8.hd.cell rfl, _, R8.hd.cell rfl, fit64 (by omega) (by omega), fail_x (fun h2 => ?_) (fun h2 => fun w12 d12 => ?_)⟩
  · rw [if_pos (of_decide_eq_true h2)] at h; exact h.bad (d8.fr _)
  have h2 := of_decide_eq_false h2
  rw [if_neg h2] at h
  have R12 := R8.fr (d12.fr []) (by simp)
  have f12 : Fr [rb] w5 w12 := (d8.fr _).more (d12.fr _)
  refine ⟨_, R12.hd.cell rfl, _, R12.hd.cell rfl, _, R12.hd.cell rfl, fit64 (by omega) (by omega), ⟨by omega, by omega, by omega⟩, isname_c _ (fail_x (fun h3 => ?_) (fun h3 => ?_))⟩
  · rw [if_neg (by simpa using h3)] at h; exact h.bad f12
  rw [if_pos (by simpa using h3)] at h
  refine ⟨_, R12.hd.cell rfl, fit64 (by omega) (by omega), R12.hd.may (by simp), fun w20 s20 => ?_⟩
  have B := s20.blk R12.hd
  have f20 : Fr [rb] w5 w20 := f12.more (s20.fr (by simp))
  have R20 : RdW w20 rb s (q + n) := ⟨by simpa using B, by omega, by omega⟩
  exact hK _ _ _ R20 (f1.more f20) (h.ret R20 f20)
end
end Go.Proofs.Ytmlhdmnnijapjaa.V
