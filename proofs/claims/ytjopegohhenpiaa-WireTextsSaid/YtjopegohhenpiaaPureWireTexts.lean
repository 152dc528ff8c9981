/- Every PutText and every GetText of the program answers as the document's own; for every text, every place, every bound. No condition. -/
import Derived.Test.YtjopegohhenpiaaWireT
namespace Go.Proofs.Ytjopegohhenpiaa.Pure
open Go.RowKit Go.Proofs.Ytjopegohhenpiaa.PWireTexts Go.Proofs.YtjopegohhenpiaaW.PrintWords Go.Proofs.YtjopegohhenpiaaW.PrintLast Go.Proofs.Ytjopegohhenpiaa.WirePlain Go.Proofs.Ytjopegohhenpiaa.WireT

theorem tmod_nat (a b : Nat) : Int.tmod (a : Int) (b : Int) = ((a % b : Nat) : Int) := rfl
theorem tdiv_nat (a b : Nat) : Int.tdiv (a : Int) (b : Int) = ((a / b : Nat) : Int) := rfl

theorem ref_j2_true (k : Nat) (s : ByteArray) (a b c d e : Int) : gneissref1_Get.j2 (k + 1) s a b c d e true = some (0, 0, 201) := by
  rw [gneissref1_Get.j2]; simp

theorem refget_loop (s : ByteArray) (hs : s.size ≤ 9007199254740992) (p : Nat) (d : Nat) : ∀ (i u k : Nat), i + d = 4 → u < 128 ^ i → p + i ≤ s.size → 2 * d + 4 ≤ k →
    gneissref1_Get.l0 k s p u ((128 ^ i : Nat) : Int) i = some (dec p ((nats s).drop (p + i)) i u) := by
  induction d with
  | zero =>
    intro i u k hi hu hle hk
    obtain rfl : i = 4 := by omega
    obtain ⟨k, rfl⟩ : ∃ m, k = m + 2 := ⟨k - 2, by omega⟩
    rw [gneissref1_Get.l0]
    have e1 : wrap64 ((p : Int) + ((4 : Nat) : Int)) = ((p + 4 : Nat) : Int) := by rw [w64 (by omega)]; omega
    by_cases he : p + 4 = s.size
    · rw [e1, if_pos (by omega), List.drop_eq_nil_of_le (by rw [nats_length]; omega)]
      rfl
    · have hlt : p + 4 < s.size := by omega
      have hc := (s[p + 4]'hlt).toNat_lt
      rw [nats_drop s (p + 4) hlt]
      have e2 := bt_nat s (p + 4) hlt
      have hu' : u < 268435456 := by simpa using hu
      simp only [e1, e2]
      generalize (s[p + 4]'hlt).toNat = c at hc ⊢
      have e0 : wrap64 (c : Int) = (c : Int) := w64 (by omega)
      have e3 : wrap64 ((u : Int) + wrap64 (Int.tmod (c : Int) 128 * ((128 ^ 4 : Nat) : Int))) = ((u + c % 128 * 128 ^ 4 : Nat) : Int) := by
        have : Int.tmod (c : Int) 128 = ((c % 128 : Nat) : Int) := tmod_nat c 128
        rw [this, w64 (x := ((c % 128 : Nat) : Int) * _) (by omega), w64 (by omega)]
        omega
      simp only [e0, e3]
      rw [if_neg (by omega), if_neg (by omega), if_pos (by omega), if_pos (by omega), dec]
      generalize u + c % 128 * 128 ^ 4 = v
      by_cases h1 : 4294967296 ≤ v
      · rw [if_pos (show (v : Int) ≥ 4294967296 by omega), if_pos h1]; exact ref_j2_true ..
      · rw [if_neg (show ¬(v : Int) ≥ 4294967296 by omega), if_neg h1]
        by_cases h2 : c = 0
        · rw [if_pos (show c = 0 ∧ 0 < 4 by omega), if_pos (show (c : Int) = 0 by omega), if_pos (by omega)]; exact ref_j2_true ..
        · rw [if_neg (show ¬(c = 0 ∧ 0 < 4) by omega), if_neg (show ¬(c : Int) = 0 by omega), if_pos (show ((4 : Nat) : Int) = 4 from rfl)]
          by_cases h3 : 128 ≤ c
          · have h5 : decide ((c : Int) ≥ 128) = true := by simp; omega
            rw [if_pos (show 128 ≤ c ∧ 4 = 4 by omega), h5]; exact ref_j2_true ..
          · have h5 : decide ((c : Int) ≥ 128) = false := by simp; omega
            rw [if_neg (show ¬(128 ≤ c ∧ 4 = 4) by omega), h5, if_pos (show c < 128 by omega), gneissref1_Get.j2, if_neg (by simp), if_pos (by omega)]
            have e6 : Int.tdiv (v : Int) 2 = ((v / 2 : Nat) : Int) := tdiv_nat v 2
            have e7 : Int.tmod (v : Int) 2 = ((v % 2 : Nat) : Int) := tmod_nat v 2
            rw [e6, e7]
            unfold unz
            by_cases h4 : v % 2 = 1
            · rw [if_pos (by omega), if_pos h4, w64 (x := ((v / 2 : Nat) : Int)) (by omega), w64 (x := -((v / 2 : Nat) : Int)) (by omega), w64 (by omega), e1, w64 (by omega)]
              simp
            · rw [if_neg (by omega), if_neg h4, w64 (x := ((v / 2 : Nat) : Int)) (by omega), e1, w64 (by omega)]
              simp
  | succ d ih =>
    intro i u k hi hu hle hk
    obtain ⟨k, rfl⟩ : ∃ m, k = m + 2 := ⟨k - 2, by omega⟩
    rw [gneissref1_Get.l0]
    have e1 : wrap64 ((p : Int) + (i : Int)) = ((p + i : Nat) : Int) := by rw [w64 (by omega)]; omega
    by_cases he : p + i = s.size
    · rw [e1, if_pos (by omega), List.drop_eq_nil_of_le (by rw [nats_length]; omega)]
      rfl
    · have hlt : p + i < s.size := by omega
      have hc := (s[p + i]'hlt).toNat_lt
      rw [nats_drop s (p + i) hlt]
      have e2 := bt_nat s (p + i) hlt
      have hp3 : (128 : Nat) ^ i ≤ 128 ^ 3 := Nat.pow_le_pow_right (by omega) (by omega)
      have hp3' : (128 : Nat) ^ i ≤ 2097152 := hp3
      simp only [e1, e2]
      generalize (s[p + i]'hlt).toNat = c at hc ⊢
      have hcm : c % 128 * 128 ^ i ≤ 127 * 128 ^ i := Nat.mul_le_mul_right _ (by omega)
      have e0 : wrap64 (c : Int) = (c : Int) := w64 (by omega)
      have e3 : wrap64 ((u : Int) + wrap64 (Int.tmod (c : Int) 128 * ((128 ^ i : Nat) : Int))) = ((u + c % 128 * 128 ^ i : Nat) : Int) := by
        have h1 : Int.tmod (c : Int) 128 = ((c % 128 : Nat) : Int) := tmod_nat c 128
        have h2 : ((c % 128 : Nat) : Int) * ((128 ^ i : Nat) : Int) = ((c % 128 * 128 ^ i : Nat) : Int) := by rw [Int.natCast_mul]
        rw [h1, h2, w64 (x := ((c % 128 * 128 ^ i : Nat) : Int)) (by omega), w64 (by omega)]
        omega
      have e8 : wrap64 (((128 ^ i : Nat) : Int) * 128) = ((128 ^ (i + 1) : Nat) : Int) := by
        rw [Nat.pow_succ, w64 (by omega)]; omega
      have hv' : u + c % 128 * 128 ^ i < 128 ^ (i + 1) := by clear e8 e3; rw [Nat.pow_succ]; omega
      simp only [e0, e3, e8]
      clear e3 e8 e0 hp3 hcm
      rw [if_neg (show ¬((p + i : Nat) : Int) ≥ (s.size : Int) by clear hv' hu; omega), if_neg (show ¬(i : Int) = 5 by clear hv' hu; omega), if_pos (show (0 : Int) ≤ ((p + i : Nat) : Int) by clear hv' hu; omega), if_pos (show ((p + i : Nat) : Int) < (s.size : Int) by clear hv' hu; omega), dec]
      generalize u + c % 128 * 128 ^ i = v at hv' ⊢
      by_cases h1 : 4294967296 ≤ v
      · rw [if_pos (show (v : Int) ≥ 4294967296 by omega), if_pos h1]; exact ref_j2_true ..
      · rw [if_neg (show ¬(v : Int) ≥ 4294967296 by omega), if_neg h1]
        have hv4 : v < 4294967296 := by clear hv' hu; omega
        have low : c < 128 → gneissref1_Get.j2 (k + 1) s p (v : Int) ((128 ^ (i + 1) : Nat) : Int) (i : Int) (c : Int) false = some (unz v, (p : Int) + i + 1, 0) := by
          intro h3
          clear hv' hu
          generalize ((128 ^ (i + 1) : Nat) : Int) = pw
          rw [gneissref1_Get.j2, if_neg (by simp), if_pos (by omega)]
          have e6 : Int.tdiv (v : Int) 2 = ((v / 2 : Nat) : Int) := tdiv_nat v 2
          have e7 : Int.tmod (v : Int) 2 = ((v % 2 : Nat) : Int) := tmod_nat v 2
          rw [e6, e7]
          unfold unz
          by_cases h4 : v % 2 = 1
          · rw [if_pos (by omega), if_pos h4, w64 (x := ((v / 2 : Nat) : Int)) (by omega), w64 (x := -((v / 2 : Nat) : Int)) (by omega), w64 (by omega), e1, w64 (by omega)]
            simp
          · rw [if_neg (by omega), if_neg h4, w64 (x := ((v / 2 : Nat) : Int)) (by omega), e1, w64 (by omega)]
            simp
        by_cases h2 : c = 0
        · by_cases h5 : 0 < i
          · rw [if_pos (show c = 0 ∧ 0 < i by omega), if_pos (show (c : Int) = 0 by omega), if_pos (by omega)]; exact ref_j2_true ..
          · rw [if_neg (show ¬(c = 0 ∧ 0 < i) by omega), if_pos (show (c : Int) = 0 by omega), if_neg (show ¬(i : Int) > 0 by omega), if_neg (show ¬(i : Int) = 4 by omega), if_neg (show ¬(128 ≤ c ∧ i = 4) by omega), if_pos (show c < 128 by omega)]
            exact low (by omega)
        · rw [if_neg (show ¬(c = 0 ∧ 0 < i) by omega), if_neg (show ¬(c : Int) = 0 by omega), if_neg (show ¬(i : Int) = 4 by omega), if_neg (show ¬(128 ≤ c ∧ i = 4) by omega)]
          by_cases h3 : 128 ≤ c
          · rw [if_neg (show ¬c < 128 by omega), gneissref1_Get.j2, if_neg (by simp), if_neg (by omega), w64 (by omega)]
            have e5 : (i : Int) + 1 = ((i + 1 : Nat) : Int) := by omega
            rw [e5, ih (i + 1) v k (by omega) hv' (by omega) (by omega)]
            rfl
          · rw [if_pos (show c < 128 by omega)]
            exact low (by omega)

theorem refget_any (s : ByteArray) (hs : s.size ≤ 9007199254740992) (a : Int) (k : Nat) (hk : 20 ≤ k) : gneissref1_Get.f k s a = wire_GetNum.f k s a := by
  by_cases h : a < 0 ∨ (s.size : Int) < a
  · rw [getnum_out s a h k hk]
    obtain ⟨k, rfl⟩ : ∃ m, k = m + 1 := ⟨k - 1, by omega⟩
    unfold gneissref1_Get.f
    by_cases h0 : a < 0
    · rw [if_pos h0, gneissref1_Get.j0, if_pos rfl]
    · have h' : decide (a > (s.size : Int)) = true := by simp; omega
      rw [if_neg h0, h', gneissref1_Get.j0, if_pos rfl]
  · obtain ⟨p, rfl⟩ := Int.eq_ofNat_of_zero_le (show 0 ≤ a by omega)
    rw [getnum_in s hs p (by omega) k hk]
    obtain ⟨k, rfl⟩ : ∃ m, k = m + 1 := ⟨k - 1, by omega⟩
    unfold gneissref1_Get.f
    have h' : decide ((p : Int) > (s.size : Int)) = false := by simp; omega
    rw [if_neg (by omega), h', gneissref1_Get.j0, if_neg (by simp)]
    exact refget_loop s hs p 4 0 0 k rfl (by simp) (by omega) (by omega)

theorem refput_loop (f : Nat) : ∀ (z k : Nat) (acc : List Int), z < 128 ^ (f + 1) → z < 4294967296 → acc.length + f + 1 < 140737488355328 → f + 1 ≤ k →
    gneissref1_Put.l0 k z acc = some (strOfNums (acc ++ (enc f z).map fun (n : Nat) => (n : Int))) := by
  induction f with
  | zero =>
    intro z k acc hz hz2 ha hk
    obtain ⟨k, rfl⟩ : ∃ m, k = m + 1 := ⟨k - 1, by omega⟩
    have hz' : z < 128 := by simpa using hz
    rw [gneissref1_Put.l0, if_neg (by omega), if_pos (by omega)]
    have : (z : Int) % 256 = (z : Int) := by omega
    rw [this]
    simp [enc]
  | succ f ih =>
    intro z k acc hz hz2 ha hk
    obtain ⟨k, rfl⟩ : ∃ m, k = m + 1 := ⟨k - 1, by omega⟩
    rw [gneissref1_Put.l0]
    by_cases hz' : z < 128
    · rw [if_neg (by omega), if_pos (by omega)]
      have : (z : Int) % 256 = (z : Int) := by omega
      rw [this]
      simp [enc, hz']
    · have hd : z / 128 < 128 ^ (f + 1) := by rw [Nat.pow_succ] at hz; exact Nat.div_lt_of_lt_mul (by rw [Nat.mul_comm]; exact hz)
      rw [if_pos (by omega), if_pos (by omega)]
      have e : wrap64 (Int.tdiv (z : Int) 128) = ((z / 128 : Nat) : Int) := by rw [show Int.tdiv (z : Int) 128 = ((z / 128 : Nat) : Int) from tdiv_nat z 128, w64 (by omega)]
      have e2 : wrap64 (Int.tmod (z : Int) 128 + 128) % 256 = ((z % 128 + 128 : Nat) : Int) := by rw [show Int.tmod (z : Int) 128 = ((z % 128 : Nat) : Int) from tmod_nat z 128, w64 (by omega)]; omega
      rw [e, e2, ih (z / 128) k _ hd (by omega) (by simp; omega) (by omega)]
      conv => rhs; rw [enc, if_neg hz']
      simp

theorem refput_any (x : Int) (h0 : -9223372036854775808 ≤ x) (h1 : x ≤ 9223372036854775807) (k : Nat) (hk : 20 ≤ k) : gneissref1_Put.f k x = some (putNum x) := by
  obtain ⟨k, rfl⟩ : ∃ m, k = m + 1 := ⟨k - 1, by omega⟩
  unfold gneissref1_Put.f putNum gneissref1_Number.f
  by_cases h : -2147483648 ≤ x ∧ x ≤ 2147483647
  · rw [if_pos (by omega), Option.bind_some, decide_eq_true h.2, if_pos rfl, if_pos h]
    have hz := zig_lt x h.1 h.2
    have key := refput_loop 4 (zig x) k [] (by omega) hz (by simp) (by omega)
    by_cases hx : x < 0
    · have e : wrap64 (wrap64 (-2 * x) - 1) = ((zig x : Nat) : Int) := by
        unfold zig; rw [if_pos hx, w64 (x := -2 * x) (by omega), w64 (by omega)]; omega
      rw [if_pos hx, e, gneissref1_Put.j0, key]
      rfl
    · have e : wrap64 (2 * x) = ((zig x : Nat) : Int) := by
        unfold zig; rw [if_neg hx, w64 (by omega)]; omega
      rw [if_neg hx, e, gneissref1_Put.j0, key]
      rfl
  · rw [if_neg h]
    by_cases h2 : x ≥ -2147483648
    · rw [if_pos h2, Option.bind_some, decide_eq_false (by omega), if_neg (by simp)]
    · rw [if_neg h2, Option.bind_some, if_neg (by simp)]

/-- Where a number read ends: within the text. -/
theorem dec_range (p : Int) (l : List Nat) : ∀ (i u : Nat) (x q e : Int), (∀ b ∈ l, b < 256) → dec p l i u = (x, q, e) →
    (e = 0 ∧ -2147483648 ≤ x ∧ x ≤ 2147483647 ∧ p + i + 1 ≤ q ∧ q ≤ p + i + l.length) ∨ (x = 0 ∧ q = 0 ∧ (e = 200 ∨ e = 201)) := by
  induction l with
  | nil => intro i u x q e _ h; simp only [dec, Prod.mk.injEq] at h; obtain ⟨rfl, rfl, rfl⟩ := h; right; simp
  | cons b bs ih =>
    intro i u x q e hl h
    unfold dec at h
    split at h
    · simp only [Prod.mk.injEq] at h; obtain ⟨rfl, rfl, rfl⟩ := h; right; simp
    · split at h
      · simp only [Prod.mk.injEq] at h; obtain ⟨rfl, rfl, rfl⟩ := h; right; simp
      · split at h
        · simp only [Prod.mk.injEq] at h; obtain ⟨rfl, rfl, rfl⟩ := h; right; simp
        · split at h
          · simp only [Prod.mk.injEq] at h
            obtain ⟨rfl, rfl, rfl⟩ := h
            left
            rename_i g1 _ _ _
            generalize u + b % 128 * 128 ^ i = v at g1 ⊢
            have h9 : -2147483648 ≤ unz v ∧ unz v ≤ 2147483647 := by unfold unz; split <;> omega
            clear g1 ih
            rw [List.length_cons]
            refine ⟨rfl, h9.1, h9.2, by omega, by omega⟩
          · have h8 := ih (i + 1) _ x q e (fun c hc => hl c (by simp [hc])) h
            simp only [List.length_cons]
            omega

theorem getnum_tells (s : ByteArray) (hs : s.size ≤ 9007199254740992) (a : Int) (k : Nat) (hk : 20 ≤ k) :
    ∃ x q e, wire_GetNum.f k s a = some (x, q, e) ∧ ((e = 0 ∧ -2147483648 ≤ x ∧ x ≤ 2147483647 ∧ 0 ≤ q ∧ q ≤ s.size) ∨ (x = 0 ∧ q = 0 ∧ (e = 200 ∨ e = 201))) := by
  by_cases h : a < 0 ∨ (s.size : Int) < a
  · exact ⟨0, 0, 200, getnum_out s a h k hk, .inr (by simp)⟩
  · obtain ⟨p, rfl⟩ := Int.eq_ofNat_of_zero_le (show 0 ≤ a by omega)
    refine ⟨_, _, _, getnum_in s hs p (by omega) k hk, ?_⟩
    have h1 := dec_range p ((nats s).drop p) 0 0 _ _ _ (fun b hb => nats_lt s b (List.mem_of_mem_drop hb)) rfl
    rw [List.length_drop, nats_length] at h1
    omega

theorem gettext_same (s : ByteArray) (hs : s.size ≤ 9007199254740992) (a m : Int) (k : Nat) (hk : 20 ≤ k) :
    ∃ r, wire_GetText.f k s a m = some r ∧ gneissref1_GetText.f k s a m = some r := by
  obtain ⟨x, q, e, hg, ht⟩ := getnum_tells s hs a k hk
  unfold wire_GetText.f gneissref1_GetText.f
  rw [refget_any s hs a k hk, hg, Option.bind_some, Option.bind_some]
  obtain ⟨k, rfl⟩ : ∃ m, k = m + 1 := ⟨k - 1, by omega⟩
  rcases ht with ⟨rfl, h1, h2, h3, h4⟩ | ⟨rfl, rfl, he⟩
  · simp only [if_true]
    have same : ∀ b, gneissref1_GetText.j0 (k + 1) s x q b = wire_GetText.j0 (k + 1) s x q b := by
      intro b; rw [gneissref1_GetText.j0, wire_GetText.j0]
    rw [same, same]
    have some_ : ∀ b, (b = false → 0 ≤ x) → ∃ r, wire_GetText.j0 (k + 1) s x q b = some r := by
      intro b hb
      rw [wire_GetText.j0]
      cases b with
      | true => exact ⟨_, by rw [if_pos rfl]⟩
      | false =>
        have hx := hb rfl
        rw [if_neg (by simp), w64 (x := (s.size : Int) - q) (by omega), w64 (x := q + x) (by omega)]
        by_cases h5 : x > (s.size : Int) - q
        · exact ⟨_, by rw [if_pos h5]⟩
        · exact ⟨_, by rw [if_neg h5, if_pos h3, if_pos (by omega), if_pos (by omega)]⟩
    by_cases h6 : x < 0
    · obtain ⟨r, hr⟩ := some_ true (by simp)
      exact ⟨r, by rw [if_pos h6, hr], by rw [if_pos h6, hr]⟩
    · obtain ⟨r, hr⟩ := some_ (decide (x > m)) (fun _ => by omega)
      exact ⟨r, by rw [if_neg h6, hr], by rw [if_neg h6, hr]⟩
  · have hne : ¬ e = 0 := by omega
    exact ⟨_, by rw [if_neg hne], by rw [if_neg hne]⟩

theorem puttext_same (s : ByteArray) (hs : s.size ≤ 140737488351232) (k : Nat) (hk : 20 ≤ k) :
    ∃ r, wire_PutText.f k s = some r ∧ gneissref1_PutText.f k s = some r := by
  unfold wire_PutText.f gneissref1_PutText.f
  rw [refput_any _ (by omega) (by omega) k hk, putnum_any _ (by omega) (by omega) k hk]
  simp only [Option.bind_some]
  have h2 := putNum_size (s.size : Int)
  exact ⟨_, by rw [if_pos (by omega)], by rw [if_pos (by omega)]⟩

theorem WireTexts : gneisslaw2_WireTexts.Pure := by
  intro t s at_ most ht hs _ _
  refine ⟨20, ?_⟩
  obtain ⟨r, h1, h2⟩ := gettext_same s (by omega) at_ most 20 (by omega)
  obtain ⟨q, h3, h4⟩ := puttext_same t ht 20 (by omega)
  unfold gneisslaw2_WireTexts.f
  rw [h1, h2, h3, h4, awake_true 20 (by omega)]
  simp [gneisslaw0_Num.f]

end Go.Proofs.Ytjopegohhenpiaa.Pure
