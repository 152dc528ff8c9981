/- The document's reader: numbers, names. No condition. -/
import Derived.Test.YtmlhdmnnijapjaaClassR
import Derived.Test.YtmlhdmnnijapjaaGClsRef
namespace Go.Proofs.Ytmlhdmnnijapjaa.V
open Go Go.RowKit Go.Proofs.Ytmlhdmnnijapjaa.WirePlain

theorem iw {n : Int} (h0 : -9223372036854775808 ≤ n) (h1 : n ≤ 9223372036854775807) : IntKind.wrap .i64 n = n := fit_wrap (fit64 h0 h1)

set_option maxRecDepth 100000 in
theorem getref_c (s : ByteArray) (hs : s.size ≤ 9007199254740992) (a : Int) {w : World} {K : Int → Int → Int → World → Prop} (hK : K (getR s a).1 (getR s a).2.1 (getR s a).2.2 w) : C75 s a w K := by
  refine r_f75 _ _ _ _ ⟨fun w' => w' = w ∧ 0 ≤ a ∧ a ≤ s.size, IfB.dec (fun h => ?_) (fun h => IfB.dec (fun h2 => ?_) (fun h2 => ⟨rfl, by omega, by omega⟩)), ?_⟩
  · unfold getR at hK; rw [if_neg (by omega)] at hK; exact hK
  · unfold getR at hK; rw [if_neg (by omega)] at hK; exact hK
  rintro - w1 ⟨rfl, ha, hb⟩
  unfold getR at hK
  rw [if_pos ⟨ha, hb⟩] at hK
  obtain ⟨p, rfl⟩ := Int.eq_ofNat_of_zero_le ha
  rw [Int.toNat_natCast] at hK
  refine ⟨fun u m i w' => w' = w1 ∧ ∃ i' u' : Nat, i = i' ∧ u = u' ∧ m = ((128 ^ i' : Nat) : Int) ∧ i' ≤ 4 ∧ u' < 128 ^ i' ∧ p + i' ≤ s.size ∧ dec p ((nats s).drop p) 0 0 = dec p ((nats s).drop (p + i')) i' u', fun _ _ i _ => (5 - i).toNat, ⟨rfl, 0, 0, rfl, rfl, rfl, by decide, by simp, by omega, rfl⟩, ?_⟩
  rintro - u m i w2 ⟨rfl, i, u, rfl, rfl, rfl, hi, hu, hp, hdec⟩
  rw [hdec] at hK
  have en0 : IntKind.wrap .i64 ((p : Int) + (i : Int)) = ((p + i : Nat) : Int) := by rw [iw (by omega) (by omega)]; omega
  rw [en0]
  refine IfB.dec (fun he => ?_) (fun he => ?_)
  · rw [List.drop_eq_nil_of_le (by rw [nats_length]; omega)] at hK
    exact hK
  refine IfB.no (by omega) ?_
  have hlt : p + i < s.size := by omega
  have hc := (s[p + i]'hlt).toNat_lt
  rw [nats_drop s (p + i) hlt] at hK hdec
  have hp4 : (128 : Nat) ^ i ≤ 128 ^ 4 := Nat.pow_le_pow_right (by omega) hi
  have hp4' : (128 : Nat) ^ i ≤ 268435456 := hp4
  refine ⟨hlt, by omega, by decide, ?_⟩
  simp only [Int.toNat_natCast]
  obtain ⟨c, hcd⟩ : ∃ c, (s[p + i]'hlt).toNat = c := ⟨_, rfl⟩
  rw [hcd] at hK hdec hc
  simp only [hcd]
  have hcm : c % 128 * 128 ^ i ≤ 127 * 128 ^ i := Nat.mul_le_mul_right _ (by omega)
  have ec : IntKind.wrap .i64 (c : Int) = c := iw (by omega) (by omega)
  have em : Int.tmod (c : Int) 128 = ((c % 128 : Nat) : Int) := by rw [Int.tmod_eq_emod_of_nonneg (by omega)]; omega
  have e1 : IntKind.wrap .i64 (((c % 128 : Nat) : Int) * ((128 ^ i : Nat) : Int)) = ((c % 128 * 128 ^ i : Nat) : Int) := by
    rw [← Int.natCast_mul, iw (by omega) (by omega)]
  have e2 : IntKind.wrap .i64 ((u : Int) + ((c % 128 * 128 ^ i : Nat) : Int)) = ((u + c % 128 * 128 ^ i : Nat) : Int) := by
    rw [iw (by omega) (by omega)]; omega
  rw [ec, em, e1, e2]
  have hv' : u + c % 128 * 128 ^ i < 128 ^ (i + 1) := by rw [Nat.pow_succ]; omega
  have hv4 : u + c % 128 * 128 ^ i < 34359738368 := by omega
  rw [dec] at hK hdec
  generalize u + c % 128 * 128 ^ i = v at *
  refine ⟨fun w' => w' = w2 ∧ v < 4294967296 ∧ ¬ (c = 0 ∧ 0 < i) ∧ ¬ (128 ≤ c ∧ i = 4), ?_, ?_⟩
  · refine IfB.dec (fun h1 => ?_) (fun h1 => ?_)
    · rw [if_pos (by omega)] at hK; exact hK
    · rw [if_neg (by omega)] at hK
      have tail : ¬ (c = 0 ∧ 0 < i) → IfB (decide (((i : Nat) : Int) = 4)) (IfB (decide ((128 : Int) ≤ (c : Int))) (K 0 0 201 w2) (w2 = w2 ∧ v < 4294967296 ∧ ¬ (c = 0 ∧ 0 < i) ∧ ¬ (128 ≤ c ∧ i = 4))) (w2 = w2 ∧ v < 4294967296 ∧ ¬ (c = 0 ∧ 0 < i) ∧ ¬ (128 ≤ c ∧ i = 4)) := fun h2 => by
        rw [if_neg h2] at hK
        refine IfB.dec (fun h3 => IfB.dec (fun h4 => ?_) (fun h4 => ⟨rfl, by omega, h2, by omega⟩)) (fun h3 => ⟨rfl, by omega, h2, by omega⟩)
        rw [if_pos (by omega)] at hK; exact hK
      refine IfB.dec (fun h2 => IfB.dec (fun h3 => ?_) (fun h3 => tail (by omega))) (fun h2 => tail (by omega))
      rw [if_pos (by omega)] at hK; exact hK
  · intro _ w3 hM
    have h1 := hM.2.1
    have h2 := hM.2.2.1
    have h3 := hM.2.2.2
    have hw := hM.1
    clear hM
    subst hw
    rw [if_neg (by omega), if_neg h2, if_neg h3] at hK hdec
    have et : Int.tdiv (v : Int) 2 = ((v / 2 : Nat) : Int) := by rw [Int.tdiv_eq_ediv_of_nonneg (by omega)]; omega
    have er : Int.tmod (v : Int) 2 = ((v % 2 : Nat) : Int) := by rw [Int.tmod_eq_emod_of_nonneg (by omega)]; omega
    have ei : IntKind.wrap .i64 (((p + i : Nat) : Int) + 1) = (p : Int) + i + 1 := by rw [iw (by omega) (by omega)]; omega
    by_cases h4 : (c : Int) < 128
    · refine IfB.yes h4 ?_
      rw [if_pos (by omega)] at hK
      rw [et, er, ei, iw (n := ((v / 2 : Nat) : Int)) (by omega) (by omega)]
      refine ⟨by omega, fun n w' => n = unz v ∧ w' = w3, ⟨by omega, IfB.dec (fun h5 => ⟨?_, rfl⟩) (fun h5 => ⟨?_, rfl⟩)⟩, ?_⟩
      · unfold unz; rw [if_pos (by omega), iw (n := -((v / 2 : Nat) : Int)) (by omega) (by omega), iw (by omega) (by omega)]
      · unfold unz; rw [if_neg (by omega)]
      · rintro - n w4 ⟨rfl, rfl⟩
        exact hK
    · refine IfB.no h4 ?_
      rw [if_neg (by omega)] at hdec
      have e128 : IntKind.wrap .i64 (((128 ^ i : Nat) : Int) * 128) = ((128 ^ (i + 1) : Nat) : Int) := by
        rw [iw (by omega) (by omega), Nat.pow_succ]; omega
      have ei1 : IntKind.wrap .i64 ((i : Int) + 1) = ((i + 1 : Nat) : Int) := by rw [iw (by omega) (by omega)]; omega
      rw [e128, ei1]
      refine ⟨⟨rfl, i + 1, v, rfl, rfl, rfl, by omega, hv', by omega, by rw [hdec]; rfl⟩, by (try dsimp only); omega⟩

theorem let_ref : ∀ c : Nat, letB c = true ↔ (c = 95 ∨ (97 ≤ c ∧ c ≤ 122) ∨ (65 ≤ c ∧ c ≤ 90)) := by
  intro c
  unfold letB
  simp only [Bool.or_eq_true, Bool.and_eq_true, Nat.ble_eq, Nat.beq_eq]
  omega

theorem isnameR_c (t : ByteArray) {w : World} {K : Bool → World → Prop} (hK : K (nameOK t) w) : C102 t w K := by
  have e0 : (ByteArray.toList t == ByteArray.toList (ByteArray.mk #[])) = decide (t.size = 0) := by
    rw [str_beq, decide_eq_decide]
    constructor
    · intro h; rw [h]; rfl
    · intro h
      obtain ⟨d⟩ := t
      have : d = #[] := Array.eq_empty_of_size_eq_zero h
      rw [this]
  refine r_f102 _ _ _ ⟨fun w' => w' = w ∧ t.size ≠ 0 ∧ t.size ≤ 16, ?_, ?_⟩
  · rw [e0]
    refine IfB.dec (fun h => ?_) (fun h => IfB.dec (fun h2 => ?_) (fun h2 => ⟨rfl, h, by omega⟩))
    · rw [show nameOK t = false from decide_eq_false (fun hh => hh.1 h)] at hK; exact hK
    · rw [show nameOK t = false from decide_eq_false (fun hh => by omega)] at hK; exact hK
  rintro - w2 ⟨rfl, hn, h16⟩
  refine ⟨fun i w' => w' = w2 ∧ 0 ≤ i ∧ i ≤ t.size ∧ ∀ j : Nat, j < i → okB j ((nats t).getD j 0) = true, fun i _ => (t.size - i).toNat, ⟨rfl, by omega, by omega, fun j hj => by omega⟩, ?_⟩
  rintro - i w6 ⟨rfl, h0, h1, hall⟩
  refine IfB.dec (fun hlt => ?_) (fun hge => ?_)
  · have hlt' : i.toNat < t.size := by omega
    have ec : (nats t).getD i.toNat 0 = (t[i.toNat]'hlt').toNat := by
      have := nats_drop t i.toNat hlt'
      rw [List.getD_eq_getElem?_getD, ← List.head?_drop, this]; rfl
    refine ⟨hlt', h0, ?_⟩
    generalize (t[i.toNat]'hlt').toNat = c at *
    have hb := let_ref c
    have bad : okB i.toNat c = false → nameOK t = false := fun h => decide_eq_false (fun hh => by have := hh.2.2 i.toNat hlt'; rw [ec, h] at this; cases this)
    have good : okB i.toNat c = true → (w6 = w6 ∧ 0 ≤ i + 1 ∧ i + 1 ≤ t.size ∧ ∀ j : Nat, j < i + 1 → okB j ((nats t).getD j 0) = true) ∧ (t.size - (i + 1)).toNat < (t.size - i).toNat := fun h =>
      ⟨⟨rfl, by omega, by omega, fun j hj => by
        by_cases e : j = i.toNat
        · subst e; rw [ec]; exact h
        · exact hall j (by omega)⟩, by omega⟩
    refine ⟨fun b w' => w' = w6 ∧ b = letB c, ?_, ?_⟩
    · refine IfB.dec (fun h1 => ⟨rfl, (hb.2 (by omega)).symm⟩) (fun h1 => IfB.dec (fun h2 => IfB.dec (fun h3 => ⟨rfl, (hb.2 (by omega)).symm⟩) (fun h3 => ?_)) (fun h2 => ?_))
      · refine IfB.dec (fun h4 => ⟨rfl, ?_⟩) (fun h4 => ⟨rfl, ?_⟩)
        · rw [Bool.eq_iff_iff, decide_eq_true_eq, hb]; omega
        · rw [eq_comm, Bool.eq_false_iff]; intro h; have := hb.1 h; omega
      · refine IfB.dec (fun h4 => ⟨rfl, ?_⟩) (fun h4 => ⟨rfl, ?_⟩)
        · rw [Bool.eq_iff_iff, decide_eq_true_eq, hb]; omega
        · rw [eq_comm, Bool.eq_false_iff]; intro h; have := hb.1 h; omega
    rintro - b w9 ⟨rfl, rfl⟩
    refine ifb_n (fun hl => ?_) (fun hl => ?_)
    · exact ⟨fit64 (by omega) (by omega), good (by unfold okB; rw [hl]; rfl)⟩
    · refine IfB.dec (fun hz => ?_) (fun hz => IfB.dec (fun h48 => ?_) (fun h48 => IfB.dec (fun h57 => ?_) (fun h57 => ⟨fit64 (by omega) (by omega), good ?_⟩)))
      · rw [bad (by subst hz; unfold okB; rw [hl]; rfl)] at hK; exact hK
      · rw [bad (by
          unfold okB; rw [hl]
          have : Nat.ble 48 c = false := by rw [Bool.eq_false_iff]; intro h; have := Nat.le_of_ble_eq_true h; omega
          simp [this])] at hK; exact hK
      · rw [bad (by
          unfold okB; rw [hl]
          have : Nat.ble c 57 = false := by rw [Bool.eq_false_iff]; intro h; have := Nat.le_of_ble_eq_true h; omega
          simp [this])] at hK; exact hK
      · unfold okB
        rw [hl, Nat.ble_eq_true_of_le (by omega), Nat.ble_eq_true_of_le (by omega), Nat.ble_eq_true_of_le (by omega)]
        rfl
  · rw [show nameOK t = true from decide_eq_true ⟨hn, h16, fun j hj => hall j (by omega)⟩] at hK
    exact hK

/-! ### The reader that keeps its first fault -/
/-- Where it is; or its first fault. -/
abbrev St := Except (Int × Int) Int

structure RefW (w : World) (rb : Nat) (s : ByteArray) (st : St) : Prop where
  ok : ∀ p, st = .ok p → Blk w rb [.string s, .int .i64 p, .int .i64 0, .int .i64 0] ∧ 0 ≤ p ∧ p ≤ s.size
  bad : ∀ e, st = .error e → e.2 ≠ 0 ∧ ∃ q, Blk w rb [.string s, .int .i64 q, .int .i64 e.2, .int .i64 e.1]

/-- One step of it: as f says; a fault stays. -/
def Stp {α : Type} (f : Int → Rs α) (st : St) (x : α) (st' : St) : Prop := match st with
  | .ok p => match f p with
    | .ok r => x = r.1 ∧ st' = .ok r.2
    | .error e => st' = .error e
  | .error e => st' = .error e

section
variable {rb : Nat} {s : ByteArray} {w w' : World} {st : St} {α β : Type}

theorem RefW.fr {S : List Nat} (h : RefW w rb s st) (f : Fr S w w') (hn : rb ∉ S) : RefW w' rb s st :=
  ⟨fun p hp => ⟨(h.ok p hp).1.fr f hn, (h.ok p hp).2⟩, fun e he => ⟨(h.bad e he).1, by obtain ⟨q, hq⟩ := (h.bad e he).2; exact ⟨q, hq.fr f hn⟩⟩⟩

theorem RefW.lt (h : RefW w rb s st) : rb < w.heap.size := by
  cases st with
  | ok p => exact (h.ok p rfl).1.lt
  | error e => obtain ⟨q, hq⟩ := (h.bad e rfl).2; exact hq.lt

theorem Stp.bind {f : Int → Rs α} {g : α → Int → Rs β} {x : α} {y : β} {st1 st2 : St} (h1 : Stp f st x st1) (h2 : Stp (g x) st1 y st2) : Stp (fun p => bindD (f p) g) st y st2 := by
  unfold Stp at h1 h2 ⊢
  cases st with
  | error e => simp only at h1; subst h1; exact h2
  | ok p =>
    simp only at h1 ⊢
    cases hf : f p with
    | error e => rw [hf] at h1; simp only at h1; subst h1; exact h2
    | ok r =>
      rw [hf] at h1
      obtain ⟨rfl, rfl⟩ := h1
      exact h2

theorem Stp.ret (x : α) (st : St) : Stp (fun q => .ok (x, q)) st x st := by
  unfold Stp
  cases st <;> simp

theorem Stp.ok_iff {f : Int → Rs α} {p : Int} {x : α} {st' : St} (h : Stp f (.ok p) x st') : (∃ q, f p = .ok (x, q) ∧ st' = .ok q) ∨ ∃ e, f p = .error e ∧ st' = .error e := by
  unfold Stp at h
  simp only at h
  cases hf : f p with
  | error e => rw [hf] at h; exact .inr ⟨e, rfl, h⟩
  | ok r => rw [hf] at h; obtain ⟨rfl, rfl⟩ := h; exact .inl ⟨r.2, rfl, rfl⟩

theorem rfault_c {p c at_ : Int} (R : RefW w rb s (.ok p)) (hc : c ≠ 0) {K : World → Prop} (hK : ∀ w', RefW w' rb s (.error (at_, c)) → Fr [rb] w w' → K w') : C54 (some ⟨rb, 0, none⟩) c at_ w K := by
  have B := (R.ok p rfl).1
  refine r_f54 _ _ _ _ _ ⟨_, B.cell rfl, IfB.yes rfl ⟨B.may (by simp), fun w2 s2 => ?_⟩⟩
  have B2 := s2.blk B
  refine ⟨B2.may (by simp), fun w3 s3 => ?_⟩
  have B3 := s3.blk B2
  exact hK w3 ⟨(fun _ h => by cases h), (fun e he => by cases he; exact ⟨hc, p, by simpa using B3⟩)⟩ ((s2.fr (by simp)).more (s3.fr (by simp)))

theorem rnum_c (R : RefW w rb s st) (hs : s.size ≤ 32768) {K : Int → World → Prop} (hK : ∀ x st' w', Stp (numD s) st x st' → RefW w' rb s st' → Fr [rb] w w' → K x w') : C51 (some ⟨rb, 0, none⟩) w K := by
  cases st with
  | error e =>
    obtain ⟨hne, q, B⟩ := R.bad e rfl
    exact r_f51 _ _ _ ⟨_, B.cell rfl, IfB.nno hne (hK 0 (.error e) w rfl R (Fr.refl _ _))⟩
  | ok p =>
    obtain ⟨B, h0, h1⟩ := R.ok p rfl
    have hm := numD_mono s p h0 h1
    refine r_f51 _ _ _ ⟨_, B.cell rfl, IfB.nyes rfl ⟨fun a b c w' => a = (getR s p).1 ∧ b = (getR s p).2.1 ∧ c = (getR s p).2.2 ∧ RefW w' rb s (.ok p) ∧ Fr [rb] w w', fun w7 d7 => ?_, ?_⟩⟩
    · have R7 := R.fr (d7.fr []) (by simp)
      obtain ⟨B7, _, _⟩ := R7.ok p rfl
      exact ⟨_, B7.cell rfl, _, B7.cell rfl, getref_c s (by omega) p ⟨rfl, rfl, rfl, R7, d7.fr _⟩⟩
    rintro - a b c w6 ⟨rfl, rfl, rfl, R6, f6⟩
    obtain ⟨B6, _, _⟩ := R6.ok p rfl
    refine IfB.dec (fun h => ⟨_, B6.cell rfl, rfault_c R6 (by decide) fun w15 R15 f15 => hK 0 _ w15 ?_ R15 (f6.more f15)⟩) (fun h => IfB.nd (fun h2 => ⟨B6.may (by simp), fun w18 s18 => ?_⟩) (fun h2 => ⟨_, B6.cell rfl, rfault_c R6 (by decide) fun w15 R15 f15 => hK 0 _ w15 ?_ R15 (f6.more f15)⟩))
    · show Stp (numD s) (.ok p) 0 _
      unfold Stp numD
      simp only [if_pos h]
    · have B18 := s18.blk B6
      have hn : numD s p = .ok ((getR s p).1, (getR s p).2.1) := by unfold numD; rw [if_neg h, if_neg (by simpa using h2)]
      rw [hn] at hm
      refine hK _ (.ok (getR s p).2.1) w18 ?_ ⟨fun q hq => ?_, (fun _ h => by cases h)⟩ (f6.more (s18.fr (by simp)))
      · unfold Stp
        simp only [hn]
        exact ⟨trivial, trivial⟩
      · cases hq
        exact ⟨by simpa using B18, by have := hm.1; omega, hm.2⟩
    · show Stp (numD s) (.ok p) 0 _
      unfold Stp numD
      simp only [if_neg h, if_pos h2]

end
end Go.Proofs.Ytmlhdmnnijapjaa.V
