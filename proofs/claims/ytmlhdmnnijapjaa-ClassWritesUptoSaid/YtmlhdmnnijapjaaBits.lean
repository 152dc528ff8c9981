/- The low bits of an int. No condition. -/
import Derived.Laws.BitsLemmas
import Derived.Laws.Entries
namespace Go.Proofs.Ytmlhdmnnijapjaa.V
open Go

theorem wrap_small {n : Nat} (h : n < 9223372036854775808) : IntKind.wrap .i64 (n : Int) = n := by
  simp only [IntKind.wrap, IntKind.signed, IntKind.bits]
  simp
  omega

theorem bits_low (m : Int) (i : Nat) (hi : i ≤ 40) (hm : m = ((2 ^ i - 1 : Nat) : Int)) (x : Int) : bits .and .i64 x m = x % ((2 ^ i : Nat) : Int) := by
  have hpos : 0 < 2 ^ i := Nat.two_pow_pos i
  have hle : 2 ^ i ≤ 2 ^ 40 := Nat.pow_le_pow_right (by decide) hi
  have e40 : (2 : Nat) ^ 40 = 1099511627776 := by decide
  have key : (BitVec.ofInt 64 x &&& BitVec.ofInt 64 m).toNat = (x % 18446744073709551616).toNat % 2 ^ i := by
    rw [BitVec.toNat_and, BitVec.toNat_ofInt, BitVec.toNat_ofInt]
    have h2 : (m % ((2 ^ 64 : Nat) : Int)).toNat = 2 ^ i - 1 := by
      subst hm
      have e64 : (2 : Nat) ^ 64 = 18446744073709551616 := by decide
      rw [e64]
      omega
    rw [h2, Nat.and_two_pow_sub_one_eq_mod]
    rfl
  show IntKind.wrap .i64 (((BitVec.ofInt 64 x &&& BitVec.ofInt 64 m).toNat : Nat) : Int) = _
  rw [key]
  have hlt : (x % 18446744073709551616).toNat % 2 ^ i < 2 ^ i := Nat.mod_lt _ hpos
  rw [wrap_small (by omega)]
  rw [Int.natCast_emod, Int.toNat_of_nonneg (Int.emod_nonneg _ (by decide))]
  refine Int.emod_emod_of_dvd x ?_
  have : (2 ^ i : Nat) ∣ 2 ^ 64 := Nat.pow_dvd_pow 2 (by omega)
  rw [show (2 : Nat) ^ 64 = 18446744073709551616 from by decide] at this
  exact Int.natCast_dvd_natCast.2 this

theorem and_range (m : Int) (i : Nat) (hi : i ≤ 40) (hm : m = ((2 ^ i - 1 : Nat) : Int)) (x : Int) : 0 ≤ bits .and .i64 x m ∧ bits .and .i64 x m ≤ m := by
  rw [bits_low m i hi hm x]
  have hpos : 0 < 2 ^ i := Nat.two_pow_pos i
  subst hm
  have h1 := Int.emod_nonneg x (b := ((2 ^ i : Nat) : Int)) (by omega)
  have h2 := Int.emod_lt_of_pos x (b := ((2 ^ i : Nat) : Int)) (by omega)
  omega

end Go.Proofs.Ytmlhdmnnijapjaa.V
