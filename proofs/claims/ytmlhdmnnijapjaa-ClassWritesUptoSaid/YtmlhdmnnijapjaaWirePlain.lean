/- Plain facts about the bytes of a number: 'enc' writes seven bits a byte, 'dec' reads them; there and back, and only one way to write. No Go, no memory. -/
import Derived.Laws.BytesArg
import Derived.RowKit
namespace Go.Proofs.Ytmlhdmnnijapjaa.WirePlain
open Go.RowKit

/-- The bytes of z: seven bits each, the lowest first. -/
def enc : Nat → Nat → List Nat
  | 0, z => [z]
  | f + 1, z => if z < 128 then [z] else (z % 128 + 128) :: enc f (z / 128)

/-- The number that z stands for. -/
def unz (z : Nat) : Int := if z % 2 = 1 then -((z / 2 : Nat) : Int) - 1 else ((z / 2 : Nat) : Int)

/-- Reading from byte i on, u read so far: number, place behind, error. -/
def dec (p : Int) : List Nat → Nat → Nat → Int × Int × Int
  | [], _, _ => (0, 0, 200)
  | b :: bs, i, u =>
    if 4294967296 ≤ u + (b % 128) * 128 ^ i then (0, 0, 201)
    else if b = 0 ∧ 0 < i then (0, 0, 201)
    else if 128 ≤ b ∧ i = 4 then (0, 0, 201)
    else if b < 128 then (unz (u + (b % 128) * 128 ^ i), p + i + 1, 0)
    else dec p bs (i + 1) (u + (b % 128) * 128 ^ i)

theorem enc_lt (f : Nat) : ∀ z, z < 128 ^ (f + 1) → ∀ b ∈ enc f z, b < 256 := by
  induction f with
  | zero => intro z hz b hb; simp [enc] at hb; omega
  | succ f ih =>
    intro z hz b hb
    unfold enc at hb
    split at hb
    · simp at hb; omega
    · simp only [List.mem_cons] at hb
      rcases hb with rfl | hb
      · omega
      · exact ih (z / 128) (by rw [Nat.pow_succ] at hz; exact Nat.div_lt_of_lt_mul (by rw [Nat.mul_comm]; exact hz)) b hb

theorem enc_ne (f z : Nat) : enc f z ≠ [] := by
  cases f with
  | zero => simp [enc]
  | succ f => unfold enc; split <;> simp

/-- Enough fuel: the same bytes. -/
theorem enc_more (f : Nat) : ∀ z, z < 128 ^ (f + 1) → enc (f + 1) z = enc f z := by
  induction f with
  | zero => intro z hz; have h : z < 128 := by simpa using hz
            simp [enc, h]
  | succ f ih =>
    intro z hz
    have hd : z / 128 < 128 ^ (f + 1) := by rw [Nat.pow_succ] at hz; exact Nat.div_lt_of_lt_mul (by rw [Nat.mul_comm]; exact hz)
    rw [enc, ih _ hd]
    conv => rhs; rw [enc]

/-- What was written is read: from byte i on. -/
theorem dec_enc (p : Int) (rest : List Nat) (f : Nat) : ∀ z i u, i + f = 4 → z < 128 ^ (f + 1) → u < 128 ^ i → u + z * 128 ^ i < 4294967296 → (z = 0 → i = 0) →
    dec p (enc f z ++ rest) i u = (unz (u + z * 128 ^ i), p + i + (enc f z).length, 0) := by
  induction f with
  | zero =>
    intro z i u hi hz hu hb h0
    have hz' : z < 128 := by simpa using hz
    have hm : z % 128 = z := Nat.mod_eq_of_lt hz'
    simp only [enc, List.cons_append, List.nil_append, dec, hm, List.length_cons, List.length_nil]
    rw [if_neg (by omega), if_neg (by omega), if_neg (by omega), if_pos hz']
    simp
  | succ f ih =>
    intro z i u hi hz hu hb h0
    unfold enc
    by_cases hz' : z < 128
    · have hm : z % 128 = z := Nat.mod_eq_of_lt hz'
      simp only [if_pos hz', List.cons_append, List.nil_append, dec, hm, List.length_cons, List.length_nil]
      rw [if_neg (by omega), if_neg (by omega), if_neg (by omega)]
      simp
    · have hm : (z % 128 + 128) % 128 = z % 128 := by omega
      have hd : z / 128 < 128 ^ (f + 1) := by rw [Nat.pow_succ] at hz; exact Nat.div_lt_of_lt_mul (by rw [Nat.mul_comm]; exact hz)
      have e : u + z % 128 * 128 ^ i + z / 128 * 128 ^ (i + 1) = u + z * 128 ^ i := by
        have h1 : z = 128 * (z / 128) + z % 128 := (Nat.div_add_mod z 128).symm
        have h2 : z * 128 ^ i = (128 * (z / 128) + z % 128) * 128 ^ i := by rw [← h1]
        rw [h2, Nat.add_mul, Nat.pow_succ]
        have h3 : 128 * (z / 128) * 128 ^ i = z / 128 * (128 ^ i * 128) := by rw [Nat.mul_comm (128 ^ i) 128, ← Nat.mul_assoc, Nat.mul_comm (z / 128) 128]
        omega
      have hle : u + z % 128 * 128 ^ i ≤ u + z * 128 ^ i := Nat.add_le_add_left (Nat.mul_le_mul_right _ (Nat.mod_le _ _)) _
      have hu' : u + z % 128 * 128 ^ i < 128 ^ (i + 1) := by
        have : z % 128 * 128 ^ i ≤ 127 * 128 ^ i := Nat.mul_le_mul_right _ (by omega)
        rw [Nat.pow_succ]; omega
      simp only [if_neg hz', List.cons_append, dec, hm, List.length_cons]
      rw [if_neg (by omega), if_neg (by omega), if_neg (by omega), if_neg (by omega)]
      rw [ih (z / 128) (i + 1) _ (by omega) hd hu' (by rw [e]; exact hb) (by omega), e]
      congr 2
      omega

/-- What is read is the only way to write it. -/
theorem enc_dec (p : Int) (d : Nat) : ∀ (l : List Nat) (i u : Nat) (x q : Int), i + d = 4 → u < 128 ^ i → (∀ b ∈ l, b < 256) → dec p l i u = (x, q, 0) →
    ∃ z m, m ≤ l.length ∧ q = p + i + m ∧ x = unz (u + z * 128 ^ i) ∧ u + z * 128 ^ i < 4294967296 ∧ (z = 0 → i = 0) ∧ z < 128 ^ (d + 1) ∧ enc d z = l.take m := by
  induction d with
  | zero =>
    intro l i u x q hi hu hl h
    cases l with
    | nil => simp [dec] at h
    | cons b bs =>
      have hb := hl b (by simp)
      unfold dec at h
      split at h; · simp at h
      split at h; · simp at h
      split at h; · simp at h
      split at h
      · rename_i h1 h2 h3 h4
        simp only [Prod.mk.injEq, and_true] at h
        obtain ⟨rfl, rfl⟩ := h
        have hm : b % 128 = b := Nat.mod_eq_of_lt h4
        rw [hm] at h1
        exact ⟨b, 1, by simp, by omega, by rw [hm], by omega, by omega, by simpa using h4, by simp [enc]⟩
      · omega
  | succ d ih =>
    intro l i u x q hi hu hl h
    cases l with
    | nil => simp [dec] at h
    | cons b bs =>
      have hb := hl b (by simp)
      unfold dec at h
      split at h; · simp at h
      split at h; · simp at h
      split at h; · simp at h
      split at h
      · rename_i h1 h2 h3 h4
        simp only [Prod.mk.injEq, and_true] at h
        obtain ⟨rfl, rfl⟩ := h
        have hm : b % 128 = b := Nat.mod_eq_of_lt h4
        rw [hm] at h1
        refine ⟨b, 1, by simp, by omega, by rw [hm], by omega, by omega, Nat.lt_of_lt_of_le h4 (by rw [Nat.pow_succ]; exact Nat.le_mul_of_pos_left _ (Nat.pow_pos (by omega))), ?_⟩
        unfold enc; rw [if_pos h4]; simp
      · rename_i h1 h2 h3 h4
        have hu' : u + b % 128 * 128 ^ i < 128 ^ (i + 1) := by
          have : b % 128 * 128 ^ i ≤ 127 * 128 ^ i := Nat.mul_le_mul_right _ (by omega)
          rw [Nat.pow_succ]; omega
        obtain ⟨z, m, hm, hq, hx, hbd, hz, hzd, he⟩ := ih bs (i + 1) _ x q (by omega) hu' (fun c hc => hl c (by simp [hc])) h
        have e : u + b % 128 * 128 ^ i + z * 128 ^ (i + 1) = u + (b % 128 + z * 128) * 128 ^ i := by
          rw [Nat.add_mul, Nat.pow_succ]
          have : z * (128 ^ i * 128) = z * 128 * 128 ^ i := by rw [Nat.mul_comm (128 ^ i) 128, ← Nat.mul_assoc]
          omega
        have hzp : 0 < z := by
          rcases Nat.eq_zero_or_pos z with h | h
          · have := hz h; omega
          · exact h
        refine ⟨b % 128 + z * 128, m + 1, by simp; omega, by omega, by rw [hx, e], by rw [← e]; exact hbd, by omega, ?_, ?_⟩
        · rw [Nat.pow_succ]; omega
        · unfold enc
          rw [if_neg (by omega)]
          have h5 : (b % 128 + z * 128) % 128 + 128 = b := by omega
          have h6 : (b % 128 + z * 128) / 128 = z := by omega
          rw [h5, h6, he]
          simp

/-- A number's bytes, cut ahead of the last: reading comes to the end. -/
theorem dec_cut (p : Int) (f : Nat) : ∀ z i u, i + f = 4 → z < 128 ^ (f + 1) → u < 128 ^ i → u + z * 128 ^ i < 4294967296 →
    dec p (enc f z).dropLast i u = (0, 0, 200) := by
  induction f with
  | zero => intro z i u hi hz hu hb; simp [enc, dec]
  | succ f ih =>
    intro z i u hi hz hu hb
    unfold enc
    by_cases hz' : z < 128
    · simp [if_pos hz', dec]
    · have hm : (z % 128 + 128) % 128 = z % 128 := by omega
      have hd : z / 128 < 128 ^ (f + 1) := by rw [Nat.pow_succ] at hz; exact Nat.div_lt_of_lt_mul (by rw [Nat.mul_comm]; exact hz)
      have e : u + z % 128 * 128 ^ i + z / 128 * 128 ^ (i + 1) = u + z * 128 ^ i := by
        have h1 : z = 128 * (z / 128) + z % 128 := (Nat.div_add_mod z 128).symm
        have h2 : z * 128 ^ i = (128 * (z / 128) + z % 128) * 128 ^ i := by rw [← h1]
        rw [h2, Nat.add_mul, Nat.pow_succ]
        have h3 : 128 * (z / 128) * 128 ^ i = z / 128 * (128 ^ i * 128) := by rw [Nat.mul_comm (128 ^ i) 128, ← Nat.mul_assoc, Nat.mul_comm (z / 128) 128]
        omega
      have hle : u + z % 128 * 128 ^ i ≤ u + z * 128 ^ i := Nat.add_le_add_left (Nat.mul_le_mul_right _ (Nat.mod_le _ _)) _
      have hu' : u + z % 128 * 128 ^ i < 128 ^ (i + 1) := by
        have : z % 128 * 128 ^ i ≤ 127 * 128 ^ i := Nat.mul_le_mul_right _ (by omega)
        rw [Nat.pow_succ]; omega
      rw [if_neg hz', List.dropLast_cons_of_ne_nil (enc_ne _ _)]
      simp only [dec, hm]
      rw [if_neg (by omega), if_neg (by omega), if_neg (by omega), if_neg (by omega)]
      exact ih (z / 128) (i + 1) _ (by omega) hd hu' (by rw [e]; exact hb)

/-- A number's bytes, the last one made longer by a zero: refused. -/
theorem dec_long (p : Int) (rest : List Nat) (f : Nat) : ∀ z i u, i + f = 4 → z < 128 ^ (f + 1) → u < 128 ^ i → u + z * 128 ^ i < 4294967296 →
    ∃ c l, enc f z = l ++ [c] ∧ c < 128 ∧ dec p (l ++ (c + 128) :: 0 :: rest) i u = (0, 0, 201) := by
  induction f with
  | zero =>
    intro z i u hi hz hu hb
    have hz' : z < 128 := by simpa using hz
    refine ⟨z, [], by simp [enc], hz', ?_⟩
    simp only [List.nil_append, dec]
    split; · rfl
    split; · rfl
    rw [if_pos (by omega)]
  | succ f ih =>
    intro z i u hi hz hu hb
    unfold enc
    by_cases hz' : z < 128
    · refine ⟨z, [], by simp [if_pos hz'], hz', ?_⟩
      rw [List.nil_append, dec]
      split; · rfl
      split; · rfl
      split; · rfl
      rw [if_neg (by omega), dec]
      split; · rfl
      rw [if_pos (by omega)]
    · have hm : (z % 128 + 128) % 128 = z % 128 := by omega
      have hd : z / 128 < 128 ^ (f + 1) := by rw [Nat.pow_succ] at hz; exact Nat.div_lt_of_lt_mul (by rw [Nat.mul_comm]; exact hz)
      have e : u + z % 128 * 128 ^ i + z / 128 * 128 ^ (i + 1) = u + z * 128 ^ i := by
        have h1 : z = 128 * (z / 128) + z % 128 := (Nat.div_add_mod z 128).symm
        have h2 : z * 128 ^ i = (128 * (z / 128) + z % 128) * 128 ^ i := by rw [← h1]
        rw [h2, Nat.add_mul, Nat.pow_succ]
        have h3 : 128 * (z / 128) * 128 ^ i = z / 128 * (128 ^ i * 128) := by rw [Nat.mul_comm (128 ^ i) 128, ← Nat.mul_assoc, Nat.mul_comm (z / 128) 128]
        omega
      have hle : u + z % 128 * 128 ^ i ≤ u + z * 128 ^ i := Nat.add_le_add_left (Nat.mul_le_mul_right _ (Nat.mod_le _ _)) _
      have hu' : u + z % 128 * 128 ^ i < 128 ^ (i + 1) := by
        have : z % 128 * 128 ^ i ≤ 127 * 128 ^ i := Nat.mul_le_mul_right _ (by omega)
        rw [Nat.pow_succ]; omega
      obtain ⟨c, l, hl, hc, hdec⟩ := ih (z / 128) (i + 1) _ (by omega) hd hu' (by rw [e]; exact hb)
      refine ⟨c, (z % 128 + 128) :: l, by rw [if_neg hz', hl]; rfl, hc, ?_⟩
      simp only [List.cons_append, dec, hm]
      rw [if_neg (by omega), if_neg (by omega), if_neg (by omega), if_neg (by omega)]
      exact hdec

/-! The program's operations on bytes, as numbers. -/

theorem bits_or_u8 (x : Int) (h0 : 0 ≤ x) (h : x < 256) : Go.bits .or .u8 x 128 = x % 128 + 128 := by
  obtain ⟨n, rfl⟩ := Int.eq_ofNat_of_zero_le h0
  have hn : n < 256 := by omega
  have : ∀ n : Fin 256, Go.bits .or .u8 ((n.val : Nat) : Int) 128 = ((n.val : Nat) : Int) % 128 + 128 := by decide +kernel
  exact this ⟨n, hn⟩

theorem bits_and_u8 (x : Int) (h0 : 0 ≤ x) (h : x < 256) : Go.bits .and .u8 x 127 = x % 128 := by
  obtain ⟨n, rfl⟩ := Int.eq_ofNat_of_zero_le h0
  have hn : n < 256 := by omega
  have : ∀ n : Fin 256, Go.bits .and .u8 ((n.val : Nat) : Int) 127 = ((n.val : Nat) : Int) % 128 := by decide +kernel
  exact this ⟨n, hn⟩

theorem u64_wrap (n : Nat) (h : n < 18446744073709551616) : IntKind.u64.wrap (n : Int) = n := by
  simp only [IntKind.wrap, IntKind.bits, IntKind.signed, Bool.false_and, Bool.false_eq_true, if_false]
  omega

theorem bits_or_u64 (u c m : Nat) (hu : u < 2 ^ m) (h : c * 2 ^ m + u < 18446744073709551616) : Go.bits .or .u64 (u : Int) ((c * 2 ^ m : Nat) : Int) = ((u + c * 2 ^ m : Nat) : Int) := by
  have h1 : c * 2 ^ m < 18446744073709551616 := by omega
  have h2 : u < 18446744073709551616 := by omega
  have e : Go.bits .or .u64 (u : Int) ((c * 2 ^ m : Nat) : Int) = IntKind.u64.wrap (BitVec.ofInt 64 (u : Int) ||| BitVec.ofInt 64 ((c * 2 ^ m : Nat) : Int)).toNat := rfl
  rw [e, BitVec.ofInt_natCast, BitVec.ofInt_natCast, BitVec.toNat_or, BitVec.toNat_ofNat, BitVec.toNat_ofNat]
  rw [Nat.mod_eq_of_lt (by simpa using h2), Nat.mod_eq_of_lt (by simpa using h1)]
  have h3 := Nat.two_pow_add_eq_or_of_lt hu c
  have h4 : u ||| c * 2 ^ m = u + c * 2 ^ m := by
    rw [Nat.or_comm, Nat.mul_comm, ← h3, Nat.add_comm]
  rw [h4]
  exact u64_wrap _ (by omega)

theorem bits_and1_u64 (u : Nat) (h : u < 18446744073709551616) : Go.bits .and .u64 (u : Int) 1 = ((u % 2 : Nat) : Int) := by
  have e : Go.bits .and .u64 (u : Int) 1 = IntKind.u64.wrap (BitVec.ofInt 64 (u : Int) &&& BitVec.ofInt 64 ((1 : Nat) : Int)).toNat := rfl
  rw [e, BitVec.ofInt_natCast, BitVec.ofInt_natCast, BitVec.toNat_and, BitVec.toNat_ofNat, BitVec.toNat_ofNat]
  rw [Nat.mod_eq_of_lt (by simpa using h)]
  have h1 : (1 : Nat) % 2 ^ 64 = 1 := by decide
  rw [h1, Nat.and_one_is_mod]
  exact u64_wrap _ (by omega)

theorem w64 {x : Int} (h : -9223372036854775808 ≤ x ∧ x ≤ 9223372036854775807) : wrap64 x = x := by
  unfold wrap64; omega

/-- A text's bytes as numbers. -/
def nats (s : ByteArray) : List Nat := s.data.toList.map (·.toNat)

theorem nats_length (s : ByteArray) : (nats s).length = s.size := by simp [nats]
theorem nats_lt (s : ByteArray) : ∀ b ∈ nats s, b < 256 := by
  intro b hb
  simp only [nats, List.mem_map] at hb
  obtain ⟨c, _, rfl⟩ := hb
  exact c.toNat_lt
theorem nats_append (s t : ByteArray) : nats (s ++ t) = nats s ++ nats t := by simp [nats, ByteArray.data_append]
theorem nats_drop (s : ByteArray) (k : Nat) (h : k < s.size) : (nats s).drop k = (s[k]'h).toNat :: (nats s).drop (k + 1) := by
  have hl : k < (nats s).length := by rw [nats_length]; exact h
  rw [List.drop_eq_getElem_cons hl]
  congr 1
  simp [nats]
  rfl
theorem nats_extract (s : ByteArray) (a b : Nat) : nats (s.extract a b) = ((nats s).take b).drop a := by
  simp [nats, ByteArray.data_extract, List.map_drop, List.map_take, List.drop_take]
theorem nats_inj {s t : ByteArray} (h : nats s = nats t) : s = t := by
  have h1 : s.data.toList = t.data.toList := by
    exact (List.map_inj_right (fun a b hab => UInt8.toNat_inj.1 hab)).1 h
  cases s; cases t; simp at h1; congr
theorem nats_nums (xs : List Nat) (h : ∀ b ∈ xs, b < 256) : nats (strOfNums (xs.map fun (n : Nat) => (n : Int))) = xs := by
  simp only [nats, strOfNums, List.map_map]
  conv => rhs; rw [← List.map_id xs]
  refine List.map_congr_left ?_
  intro b hb
  have := h b hb
  simp [Function.comp, Nat.mod_eq_of_lt this]

end Go.Proofs.Ytmlhdmnnijapjaa.WirePlain
