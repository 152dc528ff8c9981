/- The printed functions of package wire, by plain facts: what GetNum reads, what PutNum writes. -/
import Derived.Test.YtjopegohhenpiaaPWireTextsx3
import Derived.Test.YtjopegohhenpiaaWirePlain
namespace Go.Proofs.Ytjopegohhenpiaa.WireT
open Go.RowKit Go.Proofs.Ytjopegohhenpiaa.PWireTexts Go.Proofs.YtjopegohhenpiaaW.PrintWords Go.Proofs.YtjopegohhenpiaaW.PrintLast Go.Proofs.Ytjopegohhenpiaa.WirePlain

/-! The printed functions of package wire, by 'enc' and 'dec'. -/

theorem bt_nat (s : ByteArray) (k : Nat) (h : k < s.size) : bt s (k : Int) = ((s[k]'h).toNat : Int) := by
  unfold bt
  rw [dif_pos (by simpa using h)]
  rfl

theorem j2_true (k : Nat) (s : ByteArray) (a b c d : Int) : wire_GetNum.j2 (k + 1) s a b c d true = some (0, 0, 201) := by
  rw [wire_GetNum.j2]; simp

theorem shl_nat (c m : Nat) (hm : m ≤ 64) (h : c * 2 ^ m < 18446744073709551616) : shl .u64 (c : Int) (m : Int) = ((c * 2 ^ m : Nat) : Int) := by
  unfold shl
  have : min ((m : Int)).toNat (IntKind.bits .u64) = m := by simp [IntKind.bits]; omega
  rw [this]
  have e : (c : Int) * 2 ^ m = ((c * 2 ^ m : Nat) : Int) := by simp
  rw [e]
  exact u64_wrap _ h

theorem getnum_loop (s : ByteArray) (hs : s.size ≤ 9007199254740992) (p : Nat) (d : Nat) : ∀ (i u k : Nat), i + d = 4 → u < 128 ^ i → p + i ≤ s.size → 2 * d + 4 ≤ k →
    wire_GetNum.l0 k s p u i = some (dec p ((nats s).drop (p + i)) i u) := by
  induction d with
  | zero =>
    intro i u k hi hu hle hk
    obtain rfl : i = 4 := by omega
    obtain ⟨k, rfl⟩ : ∃ m, k = m + 2 := ⟨k - 2, by omega⟩
    rw [wire_GetNum.l0]
    by_cases he : p + 4 = s.size
    · rw [if_pos (by rw [w64 (by omega)]; omega), List.drop_eq_nil_of_le (by rw [nats_length]; omega)]
      rfl
    · have hlt : p + 4 < s.size := by omega
      have hc := (s[p + 4]'hlt).toNat_lt
      rw [nats_drop s (p + 4) hlt]
      have e1 : wrap64 ((p : Int) + ((4 : Nat) : Int)) = ((p + 4 : Nat) : Int) := by rw [w64 (by omega)]; omega
      have e4 : wrap64 (7 * ((4 : Nat) : Int)) = ((28 : Nat) : Int) := by rw [w64 (by omega)]; rfl
      have e2 := bt_nat s (p + 4) hlt
      rw [if_neg (by rw [w64 (by omega)]; omega)]
      simp only [e1, e2, e4]
      generalize (s[p + 4]'hlt).toNat = c at hc ⊢
      have hu' : u < 268435456 := by simpa using hu
      have e3 : Go.bits .or .u64 (u : Int) (shl .u64 (IntKind.u64.wrap (Go.bits .and .u8 (c : Int) 127)) ((28 : Nat) : Int)) = ((u + c % 128 * 128 ^ 4 : Nat) : Int) := by
        rw [bits_and_u8 _ (by omega) (by omega)]
        have : (c : Int) % 128 = ((c % 128 : Nat) : Int) := by omega
        rw [this, u64_wrap _ (by omega), shl_nat _ _ (by omega) (by omega), bits_or_u64 u _ 28 (by simpa using hu) (by omega)]
      simp only [e3]
      rw [if_pos (by omega), if_pos (by omega), if_pos (by omega), dec]
      generalize u + c % 128 * 128 ^ 4 = v
      by_cases h1 : 4294967296 ≤ v
      · rw [if_pos (by omega), if_pos h1]; exact j2_true ..
      · rw [if_neg (by omega), if_neg h1]
        by_cases h2 : c = 0
        · rw [if_pos (show c = 0 ∧ 0 < 4 by omega), if_pos (show (c : Int) = 0 by omega), if_pos (by omega)]; exact j2_true ..
        · rw [if_neg (show ¬(c = 0 ∧ 0 < 4) by omega), if_neg (show ¬(c : Int) = 0 by omega)]
          by_cases h3 : 128 ≤ c
          · rw [if_pos (show 128 ≤ c ∧ 4 = 4 by omega), if_pos (show (c : Int) ≥ 128 by omega)]; exact j2_true ..
          · rw [if_neg (show ¬(128 ≤ c ∧ 4 = 4) by omega), if_neg (show ¬(c : Int) ≥ 128 by omega), if_pos (show c < 128 by omega), wire_GetNum.j2, if_neg (by simp), if_pos (by omega), bits_and1_u64 _ (by omega)]
            unfold unz
            by_cases h4 : v % 2 = 1
            · rw [if_pos (by omega), if_pos h4, w64 (x := (v : Int) / 2) (by omega), w64 (x := -((v : Int) / 2)) (by omega), w64 (by omega), e1, w64 (by omega)]
              simp
            · rw [if_neg (by omega), if_neg h4, w64 (x := (v : Int) / 2) (by omega), e1, w64 (by omega)]
              simp
  | succ d ih =>
    intro i u k hi hu hle hk
    obtain ⟨k, rfl⟩ : ∃ m, k = m + 2 := ⟨k - 2, by omega⟩
    rw [wire_GetNum.l0]
    by_cases he : p + i = s.size
    · rw [if_pos (by rw [w64 (by omega)]; omega), List.drop_eq_nil_of_le (by rw [nats_length]; omega)]
      rfl
    · have hlt : p + i < s.size := by omega
      have hc := (s[p + i]'hlt).toNat_lt
      rw [nats_drop s (p + i) hlt]
      have e1 : wrap64 ((p : Int) + (i : Int)) = ((p + i : Nat) : Int) := by rw [w64 (by omega)]; omega
      have e4 : wrap64 (7 * (i : Int)) = ((7 * i : Nat) : Int) := by rw [w64 (by omega)]; omega
      have e2 := bt_nat s (p + i) hlt
      have ep : (128 : Nat) ^ i = 2 ^ (7 * i) := by rw [Nat.pow_mul]
      have hp3 : (128 : Nat) ^ i ≤ 128 ^ 3 := Nat.pow_le_pow_right (by omega) (by omega)
      have hp3' : (128 : Nat) ^ i ≤ 2097152 := hp3
      rw [if_neg (by rw [w64 (by omega)]; omega)]
      simp only [e1, e2, e4]
      generalize (s[p + i]'hlt).toNat = c at hc ⊢
      have hcm : c % 128 * 128 ^ i ≤ 127 * 128 ^ i := Nat.mul_le_mul_right _ (by omega)
      have e3 : Go.bits .or .u64 (u : Int) (shl .u64 (IntKind.u64.wrap (Go.bits .and .u8 (c : Int) 127)) ((7 * i : Nat) : Int)) = ((u + c % 128 * 128 ^ i : Nat) : Int) := by
        rw [bits_and_u8 _ (by omega) (by omega)]
        have : (c : Int) % 128 = ((c % 128 : Nat) : Int) := by omega
        rw [this, u64_wrap _ (by omega), shl_nat _ _ (by omega) (by rw [← ep]; omega), bits_or_u64 u _ (7 * i) (by rw [← ep]; exact hu) (by rw [← ep]; omega), ep]
      simp only [e3]
      rw [if_pos (by omega), if_pos (by omega), if_pos (by omega), dec]
      have hv' : u + c % 128 * 128 ^ i < 128 ^ (i + 1) := by rw [Nat.pow_succ]; omega
      generalize u + c % 128 * 128 ^ i = v at hv' ⊢
      by_cases h1 : 4294967296 ≤ v
      · rw [if_pos (by omega), if_pos h1]; exact j2_true ..
      · rw [if_neg (by omega), if_neg h1]
        have low : c < 128 → ¬(c = 0 ∧ 0 < i) → wire_GetNum.j2 (k + 1) s p (v : Int) (i : Int) (c : Int) false = some (unz v, (p : Int) + i + 1, 0) := by
          intro h3 _
          rw [wire_GetNum.j2, if_neg (by simp), if_pos (by omega), bits_and1_u64 _ (by omega)]
          unfold unz
          by_cases h4 : v % 2 = 1
          · rw [if_pos (by omega), if_pos h4, w64 (x := (v : Int) / 2) (by omega), w64 (x := -((v : Int) / 2)) (by omega), w64 (by omega), e1, w64 (by omega)]
            simp
          · rw [if_neg (by omega), if_neg h4, w64 (x := (v : Int) / 2) (by omega), e1, w64 (by omega)]
            simp
        by_cases h2 : c = 0
        · by_cases h5 : 0 < i
          · rw [if_pos (show c = 0 ∧ 0 < i by omega), if_pos (show (c : Int) = 0 by omega), if_pos (by omega)]; exact j2_true ..
          · rw [if_neg (show ¬(c = 0 ∧ 0 < i) by omega), if_pos (show (c : Int) = 0 by omega), if_neg (show ¬(i : Int) > 0 by omega), if_neg (show ¬(c : Int) ≥ 128 by omega), if_neg (show ¬(128 ≤ c ∧ i = 4) by omega), if_pos (show c < 128 by omega)]
            exact low (by omega) (by omega)
        · rw [if_neg (show ¬(c = 0 ∧ 0 < i) by omega), if_neg (show ¬(c : Int) = 0 by omega)]
          by_cases h3 : 128 ≤ c
          · have h4 : ((i : Int) == 4) = false := by simp; omega
            rw [if_pos (show (c : Int) ≥ 128 by omega), if_neg (show ¬(128 ≤ c ∧ i = 4) by omega), if_neg (show ¬c < 128 by omega), h4, wire_GetNum.j2, if_neg (by simp), if_neg (by omega), w64 (by omega)]
            have e5 : (i : Int) + 1 = ((i + 1 : Nat) : Int) := by omega
            rw [e5, ih (i + 1) v k (by omega) hv' (by omega) (by omega)]
            rfl
          · rw [if_neg (show ¬(c : Int) ≥ 128 by omega), if_neg (show ¬(128 ≤ c ∧ i = 4) by omega), if_pos (show c < 128 by omega)]
            exact low (by omega) (by omega)

/-- A number read, at a place within. -/
theorem getnum_in (s : ByteArray) (hs : s.size ≤ 9007199254740992) (p : Nat) (hp : p ≤ s.size) (k : Nat) (hk : 20 ≤ k) :
    wire_GetNum.f k s (p : Int) = some (dec p ((nats s).drop p) 0 0) := by
  obtain ⟨k, rfl⟩ : ∃ m, k = m + 1 := ⟨k - 1, by omega⟩
  unfold wire_GetNum.f
  have h : decide ((p : Int) > (s.size : Int)) = false := by simp; omega
  rw [if_neg (by omega), h, wire_GetNum.j0, if_neg (by simp)]
  exact getnum_loop s hs p 4 0 0 k rfl (by simp) (by omega) (by omega)

theorem getnum_out (s : ByteArray) (a : Int) (ha : a < 0 ∨ (s.size : Int) < a) (k : Nat) (hk : 20 ≤ k) : wire_GetNum.f k s a = some (0, 0, 200) := by
  obtain ⟨k, rfl⟩ : ∃ m, k = m + 1 := ⟨k - 1, by omega⟩
  unfold wire_GetNum.f
  by_cases h : a < 0
  · rw [if_pos h, wire_GetNum.j0, if_pos rfl]
  · have h' : decide (a > (s.size : Int)) = true := by simp; omega
    rw [if_neg h, h', wire_GetNum.j0, if_pos rfl]

/-- What stands for a number. -/
def zig (x : Int) : Nat := if x < 0 then (-2 * x - 1).toNat else (2 * x).toNat

theorem zig_lt (x : Int) (h0 : -2147483648 ≤ x) (h1 : x ≤ 2147483647) : zig x < 4294967296 := by unfold zig; split <;> omega
theorem unz_zig (x : Int) : unz (zig x) = x := by
  unfold unz zig
  by_cases h : x < 0
  · rw [if_pos h, if_pos (by omega)]; omega
  · rw [if_neg h, if_neg (by omega)]; omega
theorem zig_unz (z : Nat) : zig (unz z) = z := by
  unfold unz zig
  split <;> split <;> omega

theorem putnum_loop (f : Nat) : ∀ (z k : Nat) (acc : List Int), z < 128 ^ (f + 1) → acc.length + f + 1 < 140737488355328 → f + 1 ≤ k →
    wire_PutNum.l0 k z acc = some (strOfNums (acc ++ (enc f z).map fun (n : Nat) => (n : Int))) := by
  induction f with
  | zero =>
    intro z k acc hz ha hk
    obtain ⟨k, rfl⟩ : ∃ m, k = m + 1 := ⟨k - 1, by omega⟩
    have hz' : z < 128 := by simpa using hz
    rw [wire_PutNum.l0, if_neg (by omega), if_pos (by omega)]
    have : (z : Int) % 256 = (z : Int) := by omega
    rw [this]
    simp [enc]
  | succ f ih =>
    intro z k acc hz ha hk
    obtain ⟨k, rfl⟩ : ∃ m, k = m + 1 := ⟨k - 1, by omega⟩
    rw [wire_PutNum.l0]
    by_cases hz' : z < 128
    · rw [if_neg (by omega), if_pos (by omega)]
      have : (z : Int) % 256 = (z : Int) := by omega
      rw [this]
      simp [enc, hz']
    · have hd : z / 128 < 128 ^ (f + 1) := by rw [Nat.pow_succ] at hz; exact Nat.div_lt_of_lt_mul (by rw [Nat.mul_comm]; exact hz)
      rw [if_pos (by omega), if_pos (by omega), bits_or_u8 _ (by omega) (by omega)]
      have e : (z : Int) / 128 = ((z / 128 : Nat) : Int) := by omega
      have e2 : (z : Int) % 256 % 128 + 128 = ((z % 128 + 128 : Nat) : Int) := by omega
      rw [e, e2, ih (z / 128) k _ hd (by simp; omega) (by omega)]
      conv => rhs; rw [enc, if_neg hz']
      simp

/-- A number written. -/
def putNum (x : Int) : ByteArray := if -2147483648 ≤ x ∧ x ≤ 2147483647 then strOfNums ((enc 4 (zig x)).map fun (n : Nat) => (n : Int)) else ⟨#[]⟩

theorem fits (x : Int) (h0 : -9223372036854775808 ≤ x) (h1 : x ≤ 9223372036854775807) : arith_Fits.f x = some (decide (-2147483648 ≤ x ∧ x ≤ 2147483647)) := by
  unfold arith_Fits.f
  congr 1
  rw [Bool.eq_iff_iff]
  simp only [beq_iff_eq, decide_eq_true_eq]
  unfold wrap64 wrap32
  omega

theorem putnum_any (x : Int) (h0 : -9223372036854775808 ≤ x) (h1 : x ≤ 9223372036854775807) (k : Nat) (hk : 20 ≤ k) : wire_PutNum.f k x = some (putNum x) := by
  obtain ⟨k, rfl⟩ : ∃ m, k = m + 1 := ⟨k - 1, by omega⟩
  unfold wire_PutNum.f putNum
  rw [fits x h0 h1, Option.bind_some]
  by_cases h : -2147483648 ≤ x ∧ x ≤ 2147483647
  · rw [decide_eq_true h, if_pos rfl, if_pos h]
    have hz := zig_lt x h.1 h.2
    have key := putnum_loop 4 (zig x) k [] (by omega) (by simp) (by omega)
    by_cases hx : x < 0
    · have e : wrap64 (wrap64 (-2 * x) - 1) = ((zig x : Nat) : Int) := by
        unfold zig; rw [if_pos hx, w64 (x := -2 * x) (by omega), w64 (by omega)]; omega
      rw [if_pos hx, e, u64_wrap _ (by omega), wire_PutNum.j0, key]
      rfl
    · have e : wrap64 (2 * x) = ((zig x : Nat) : Int) := by
        unfold zig; rw [if_neg hx, w64 (by omega)]; omega
      rw [if_neg hx, e, u64_wrap _ (by omega), wire_PutNum.j0, key]
      rfl
  · rw [decide_eq_false h, if_neg (by simp), if_neg h]

theorem nats_putNum (x : Int) (h : -2147483648 ≤ x ∧ x ≤ 2147483647) : nats (putNum x) = enc 4 (zig x) := by
  unfold putNum
  rw [if_pos h, nats_nums _ (enc_lt 4 _ (by have := zig_lt x h.1 h.2; omega))]

theorem putNum_size (x : Int) : (putNum x).size ≤ 5 := by
  unfold putNum
  split
  · have : ∀ f z, (enc f z).length ≤ f + 1 := by
      intro f
      induction f with
      | zero => intro z; simp [enc]
      | succ f ih => intro z; unfold enc; split
                     · simp
                     · simp; exact ih _
    have := this 4 (zig x)
    simpa [strOfNums, ByteArray.size] using this
  · simp [ByteArray.size]

/-- Reading what was written, at its place. -/
theorem getnum_put (s : ByteArray) (hs : s.size ≤ 9007199254740992) (p : Nat) (x : Int) (h : -2147483648 ≤ x ∧ x ≤ 2147483647) (rest : List Nat) (hp : p ≤ s.size)
    (hd : (nats s).drop p = enc 4 (zig x) ++ rest) (k : Nat) (hk : 20 ≤ k) : wire_GetNum.f k s (p : Int) = some (x, (p : Int) + (enc 4 (zig x)).length, 0) := by
  have hz := zig_lt x h.1 h.2
  rw [getnum_in s hs p hp k hk, hd, dec_enc p rest 4 (zig x) 0 0 rfl (by omega) (by simp) (by simpa using hz) (by omega)]
  simp [unz_zig]

theorem awake_true (k : Nat) (hk : 20 ≤ k) : gneisslaw2_awake.f k = some true := by
  have h1 : wire_GetNum.f k (⟨#[172, 2]⟩ : ByteArray) 0 = some (150, 2, 0) := by
    have := getnum_in (⟨#[172, 2]⟩ : ByteArray) (by decide) 0 (by decide) k hk
    rw [show ((0 : Nat) : Int) = 0 from rfl] at this
    rw [this]
    decide +kernel
  have h2 : wire_GetNum.f k (⟨#[128, 0]⟩ : ByteArray) 0 = some (0, 0, 201) := by
    have := getnum_in (⟨#[128, 0]⟩ : ByteArray) (by decide) 0 (by decide) k hk
    rw [show ((0 : Nat) : Int) = 0 from rfl] at this
    rw [this]
    decide +kernel
  have h3 : wire_PutNum.f k (-1) = some ⟨#[1]⟩ := by
    rw [putnum_any (-1) (by omega) (by omega) k hk]
    decide +kernel
  unfold gneisslaw2_awake.f
  rw [h1, Option.bind_some, h2, Option.bind_some, h3, Option.bind_some]
  have h4 : (⟨#[1]⟩ : ByteArray).toList = ([1] : List UInt8) := by decide +kernel
  rw [if_pos h4, if_pos rfl, if_pos rfl]
  simp [gneisslaw0_Num.f]

end Go.Proofs.Ytjopegohhenpiaa.WireT
