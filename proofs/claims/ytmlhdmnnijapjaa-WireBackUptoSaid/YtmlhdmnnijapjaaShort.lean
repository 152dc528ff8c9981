/- The law WireShort: what it computes. No condition. -/
import Derived.Test.YtmlhdmnnijapjaaWire3
namespace Go.Proofs.Ytmlhdmnnijapjaa.V
open Go Go.RowKit Go.Proofs.Ytmlhdmnnijapjaa.WirePlain

theorem awake2_c {w : World} {K : Bool → World → Prop} (hK : ∀ w', (∀ S, Fr S w w') → K true w') : C15 w K := by
  refine r_f15 _ _ (getnum_c _ (by decide) 0 (getnum_c _ (by decide) 0 (putnum_c (-1) (by decide) (by decide) fun w1 f1 => ?_)))
  have e1 : getR (ByteArray.mk #[172, 2]) 0 = (150, 2, 0) := by decide +kernel
  have e2 : getR (ByteArray.mk #[128, 0]) 0 = (0, 0, 201) := by decide +kernel
  have e3 : putNum (-1) = ByteArray.mk #[1] := by decide +kernel
  rw [e1, e2, e3]
  exact ifb_yes (by simp) (ifb_t (ifb_t (ifb_t (hK w1 f1))))

theorem bytes_eq (s : ByteArray) : (ByteArray.toList s == ByteArray.toList s) = true := by simp

theorem nat_last {s : ByteArray} {l : List Nat} {c : Nat} (h : nats s = l ++ [c]) (hl : s.size - 1 < s.size) : (s[s.size - 1]'hl).toNat = c := by
  have h2 : (nats s).length = s.size := nats_length s
  rw [h] at h2
  have h3 : s.size - 1 = l.length := by simp at h2; omega
  have key : ∀ k (hk : k < s.size), k = l.length → (s[k]'hk).toNat = c := by
    intro k hk e
    subst e
    have h1 := nats_drop s l.length hk
    rw [h, List.drop_left] at h1
    simp only [List.cons.injEq] at h1
    exact h1.1.symm
  exact key _ hl h3

theorem short_c (x : Int) (tail : ByteArray) (ht : tail.size ≤ 140737488351232) {W : World} {K : Bool → World → Prop} (hK : ∀ w', Fr [] W w' → K true w') : C3 x tail W K := by
  refine r_f3 _ _ _ _ (awake2_c fun w0 f0 => ifb_nyes rfl ⟨by omega, ?_⟩)
  have k1 : -2147483648 < Int.tmod x 2147483648 ∧ Int.tmod x 2147483648 < 2147483648 := by
    have h1 := Int.tmod_lt_of_pos x (b := 2147483648) (by omega)
    have h2 := Int.lt_tmod_of_pos x (b := 2147483648) (by omega)
    omega
  generalize Int.tmod x 2147483648 = k at *
  refine putnum_c k (by omega) (by omega) fun w1 f1 => ⟨fit64 (by omega) (by omega), ?_⟩
  have hz := zig_lt k (by omega) (by omega)
  have hn := nats_putNum k (by omega)
  have hsz := putNum_size k
  generalize putNum k = s at *
  have hlen : s.size = (enc 4 (zig k)).length := by rw [← hn, nats_length]
  refine ⟨fun z w' => z = (zig k : Int) ∧ w' = w1, IfB.dec (fun hx => ⟨fit64 (by omega) (by omega), fit64 (by omega) (by omega), by unfold zig; rw [if_pos hx]; omega, rfl⟩) (fun hx => ⟨by unfold zig; rw [if_neg hx]; omega, rfl⟩), ?_⟩
  rintro - z w2 ⟨rfl, rfl⟩
  have fw : ∀ S, Fr S W w2 := fun S => (f0 S).more (f1 S)
  refine ⟨fun z n w' => w' = w2 ∧ ∃ f y : Nat, z = y ∧ y < 128 ^ (f + 1) ∧ f ≤ 4 ∧ 1 ≤ n ∧ n ≤ 5 - f ∧ (s.size : Int) = n - 1 + (enc f y).length, fun z _ _ => z.toNat, ⟨rfl, 4, zig k, rfl, by omega, by decide, by decide, by decide, by rw [hlen]; omega⟩, ?_⟩
  rintro - z n w3 ⟨rfl, f, y, rfl, hy, hf, hn0, hn1, hs⟩
  have hyb : y < 34359738368 := Nat.lt_of_lt_of_le hy (Nat.pow_le_pow_right (n := 128) (by omega) (show f + 1 ≤ 5 by omega))
  refine IfB.dec (fun hge => ?_) (fun hlt => ?_)
  · cases f with
    | zero => simp at hy; omega
    | succ f =>
      have e1 : Int.tdiv (y : Int) 128 = ((y / 128 : Nat) : Int) := by rw [Int.tdiv_eq_ediv_of_nonneg (by omega)]; omega
      rw [e1]
      rw [enc, if_neg (by omega)] at hs
      refine ⟨fit64 (by omega) (by omega), by omega, fit64 (by omega) (by omega), ⟨rfl, f, y / 128, rfl, ?_, by omega, by omega, by omega, ?_⟩, by dsimp only; omega⟩
      · rw [Nat.pow_succ] at hy; exact Nat.div_lt_of_lt_mul (by rw [Nat.mul_comm]; exact hy)
      · simp at hs; omega
  · have h1 : (enc f y).length = 1 := by
      cases f with
      | zero => rfl
      | succ f => rw [enc, if_pos (by omega)]; rfl
    rw [h1] at hs
    refine IfB.nyes (by omega) ?_
    obtain ⟨c, l, hl, hc, hlong⟩ := dec_long 0 (nats tail) 4 (zig k) 0 0 rfl (by omega) (by simp) (by simpa using hz)
    have hcut := dec_cut 0 4 (zig k) 0 0 rfl (by omega) (by simp) (by simpa using hz)
    rw [hl, List.dropLast_concat] at hcut
    have hns : nats s = l ++ [c] := by rw [hn, hl]
    have hss : s.size = l.length + 1 := by rw [← nats_length, hns]; simp
    have en : Int.toNat ((s.size : Int) - 1) = s.size - 1 := by omega
    have hex : nats (ByteArray.extract s 0 (s.size - 1)) = l := by
      rw [nats_extract, hns, hss]; simp
    have hexs : (ByteArray.extract s 0 (s.size - 1)).size = l.length := by rw [← nats_length, hex]
    have hlast : (s[s.size - 1]'(by omega)).toNat = c := nat_last hns (by omega)
    simp only [en]
    have hs2 : nats (strOfNums ([c + 128, 0].map fun (n : Nat) => (n : Int))) = [c + 128, 0] := nats_nums _ (by simp; omega)
    refine ⟨fun s14 w' => s14 = ByteArray.extract s 0 (s.size - 1) ++ strOfNums ([c + 128, 0].map fun (n : Nat) => (n : Int)) ∧ ∀ S, Fr S W w', fun w4 d4 => ⟨fit64 (by omega) (by omega), by omega, fit64 (by omega) (by omega), by omega, by omega, ?_⟩, ?_⟩
    · rw [hlast]
      refine ⟨⟨by show (0 : Int) ≤ _; omega, by show _ ≤ (255 : Int); omega⟩, fun b w5 n5 => ?_⟩
      have U5 : SU w5 (some ⟨b, 0, none⟩) 2 2 [c + 128, 0] := by
        refine ⟨rfl, ?_⟩
        obtain ⟨rfl, rfl⟩ := n5
        have := SV.made (w := w4) (k := 1) (e := 5) (n := 2) #[.int .u8 ((c : Int) + 128), .int .u8 0] (by decide) rfl
        simpa using this
      refine conv_byte U5 (by simp) ⟨?_, rfl, fun S => ((fw S).more (d4.fr S)).more (n5.fr S)⟩
      have : (strOfNums ([c + 128, 0].map fun (n : Nat) => (n : Int))).size = 2 := by rw [← nats_length, hs2]; rfl
      omega
    rintro - s14 w4 ⟨rfl, f4⟩
    have h14 : nats (ByteArray.extract s 0 (s.size - 1) ++ strOfNums ([c + 128, 0].map fun (n : Nat) => (n : Int))) = l ++ [c + 128, 0] := by rw [nats_append, hex, hs2]
    have s14 : (ByteArray.extract s 0 (s.size - 1) ++ strOfNums ([c + 128, 0].map fun (n : Nat) => (n : Int))).size = l.length + 2 := by rw [← nats_length, h14]; simp
    generalize ByteArray.extract s 0 (s.size - 1) ++ strOfNums ([c + 128, 0].map fun (n : Nat) => (n : Int)) = t at *
    have hts : (t ++ tail).size = t.size + tail.size := by simp
    have e1 : getR (t ++ tail) 0 = (0, 0, 201) := by
      unfold getR
      rw [if_pos (by omega), nats_append, h14]
      simpa using hlong
    have e2 : getR (ByteArray.extract s 0 (s.size - 1)) 0 = (0, 0, 200) := by
      unfold getR
      rw [if_pos (by omega), hex]
      exact hcut
    refine ⟨by omega, getnum_c _ (by omega) 0 ⟨fit64 (by omega) (by omega), by omega, getnum_c _ (by omega) 0 ?_⟩⟩
    rw [e1, e2]
    have kk : 0 ≤ k * k ∧ k * k ≤ 4611686018427387904 := by
      have h1 : k * k = (k.natAbs * k.natAbs : Nat) := by simp
      have h2 : k.natAbs * k.natAbs ≤ 2147483648 * 2147483648 := Nat.mul_le_mul (by omega) (by omega)
      rw [h1]; omega
    refine ifb_t (ifb_t ⟨fit64 (by omega) (by omega), fit64 (by omega) (by omega), putnum_c _ (by omega) (by omega) fun w5 f5 => ?_⟩)
    have e3 : putNum (2147483648 + k * k) = ByteArray.mk #[] := by unfold putNum; rw [if_neg (by omega)]
    rw [e3, bytes_eq]
    exact hK w5 ((f4 []).more (f5 []))
end Go.Proofs.Ytmlhdmnnijapjaa.V
