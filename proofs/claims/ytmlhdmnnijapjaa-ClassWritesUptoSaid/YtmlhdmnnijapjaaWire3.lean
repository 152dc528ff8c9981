/- Numbers and texts as bytes: what the package's functions do. No condition. -/
import Derived.Test.YtmlhdmnnijapjaaWirePlain
import Derived.Test.YtmlhdmnnijapjaaSl
import Derived.Test.YtmlhdmnnijapjaaBase
import Derived.Test.YtmlhdmnnijapjaaGWire
namespace Go.Proofs.Ytmlhdmnnijapjaa.V
open Go Go.RowKit Go.Proofs.Ytmlhdmnnijapjaa.WirePlain

/-- What stands for a number. -/
def zig (x : Int) : Nat := if x < 0 then (-2 * x - 1).toNat else (2 * x).toNat
theorem zig_lt (x : Int) (h0 : -2147483648 ≤ x) (h1 : x ≤ 2147483647) : zig x < 4294967296 := by unfold zig; split <;> omega
theorem unz_zig (x : Int) : unz (zig x) = x := by
  unfold unz zig
  by_cases h : x < 0
  · rw [if_pos h, if_pos (by omega)]; omega
  · rw [if_neg h, if_neg (by omega)]; omega
theorem zig_unz (z : Nat) : zig (unz z) = z := by
  unfold unz zig
  split <;> split <;> omega
/-- A number written. -/
def putNum (x : Int) : ByteArray := if -2147483648 ≤ x ∧ x ≤ 2147483647 then strOfNums ((enc 4 (zig x)).map fun (n : Nat) => (n : Int)) else ⟨#[]⟩
theorem nats_putNum (x : Int) (h : -2147483648 ≤ x ∧ x ≤ 2147483647) : nats (putNum x) = enc 4 (zig x) := by
  unfold putNum
  rw [if_pos h, nats_nums _ (enc_lt 4 _ (by have := zig_lt x h.1 h.2; omega))]
theorem enc_len : ∀ f z, (enc f z).length ≤ f + 1 := by
  intro f
  induction f with
  | zero => intro z; simp [enc]
  | succ f ih => intro z; unfold enc; split
                 · simp
                 · simp; exact ih _
theorem putNum_size (x : Int) : (putNum x).size ≤ 5 := by
  unfold putNum
  split
  · have := enc_len 4 (zig x)
    simpa [strOfNums, ByteArray.size] using this
  · simp [ByteArray.size]
/-- A number read. -/
def getR (s : ByteArray) (a : Int) : Int × Int × Int := if 0 ≤ a ∧ a ≤ s.size then dec a ((nats s).drop a.toNat) 0 0 else (0, 0, 200)

theorem fitu64 {n : Int} (h1 : 0 ≤ n) (h2 : n ≤ 18446744073709551615) : Fit .u64 n := ⟨h1, h2⟩
theorem ub (v : Nat) : (2 : Int) ^ Int.toNat 1 = 2 := rfl

set_option maxRecDepth 100000 in
theorem getnum_c (s : ByteArray) (hs : s.size ≤ 9007199254740992) (a : Int) {w : World} {K : Int → Int → Int → World → Prop} (hK : K (getR s a).1 (getR s a).2.1 (getR s a).2.2 w) : C17 s a w K := by
  refine r_f17 _ _ _ _ ⟨fun w' => w' = w ∧ 0 ≤ a ∧ a ≤ s.size, IfB.dec (fun h => ?_) (fun h => IfB.dec (fun h2 => ?_) (fun h2 => ⟨rfl, by omega, by omega⟩)), ?_⟩
  · unfold getR at hK; rw [if_neg (by omega)] at hK; exact hK
  · unfold getR at hK; rw [if_neg (by omega)] at hK; exact hK
  rintro - w1 ⟨rfl, ha, hb⟩
  unfold getR at hK
  rw [if_pos ⟨ha, hb⟩] at hK
  obtain ⟨p, rfl⟩ := Int.eq_ofNat_of_zero_le ha
  rw [Int.toNat_natCast] at hK
  refine ⟨fun u i w' => w' = w1 ∧ ∃ i' u' : Nat, i = i' ∧ u = u' ∧ i' ≤ 4 ∧ u' < 128 ^ i' ∧ p + i' ≤ s.size ∧ dec p ((nats s).drop p) 0 0 = dec p ((nats s).drop (p + i')) i' u', fun _ i _ => (4 - i).toNat, ⟨rfl, 0, 0, rfl, rfl, by decide, by simp, by omega, rfl⟩, ?_⟩
  rintro - u i w2 ⟨rfl, i, u, rfl, rfl, hi, hu, hp, hdec⟩
  rw [hdec] at hK
  refine ⟨fit64 (by omega) (by omega), IfB.dec (fun he => ?_) (fun he => ?_)⟩
  · rw [List.drop_eq_nil_of_le (by rw [nats_length]; omega)] at hK
    exact hK
  have hlt : p + i < s.size := by omega
  have hc := (s[p + i]'hlt).toNat_lt
  rw [nats_drop s (p + i) hlt] at hK hdec
  have ep : (128 : Nat) ^ i = 2 ^ (7 * i) := by rw [Nat.pow_mul]
  have hp4 : (128 : Nat) ^ i ≤ 128 ^ 4 := Nat.pow_le_pow_right (by omega) hi
  have hp4' : (128 : Nat) ^ i ≤ 268435456 := hp4
  have en : Int.toNat ((p : Int) + (i : Int)) = p + i := by omega
  have e7 : Int.toNat (7 * (i : Int)) = 7 * i := by omega
  refine ⟨fit64 (by omega) (by omega), by omega, by omega, ?_⟩
  simp only [en, e7]
  generalize (s[p + i]'hlt).toNat = c at *
  have hcm : c % 128 * 128 ^ i ≤ 127 * 128 ^ i := Nat.mul_le_mul_right _ (by omega)
  have e0 : Go.bits .and .u8 (c : Int) 127 = ((c % 128 : Nat) : Int) := by rw [bits_and_u8 _ (by omega) (by omega)]; omega
  have e3 : Go.bits .or .u64 (u : Int) (IntKind.wrap .u64 (((c % 128 : Nat) : Int) * 2 ^ (7 * i))) = ((u + c % 128 * 128 ^ i : Nat) : Int) := by
    have e4 : (((c % 128 : Nat) : Int) * 2 ^ (7 * i)) = ((c % 128 * 2 ^ (7 * i) : Nat) : Int) := by simp
    rw [e4, u64_wrap _ (by rw [← ep]; omega), bits_or_u64 u _ (7 * i) (by rw [← ep]; exact hu) (by rw [← ep]; omega), ep]
  rw [e0, e3]
  refine ⟨fitu64 (by omega) (by omega), fit64 (by omega) (by omega), by omega, ?_⟩
  have hv' : u + c % 128 * 128 ^ i < 128 ^ (i + 1) := by rw [Nat.pow_succ]; omega
  have hv4 : u + c % 128 * 128 ^ i < 34359738368 := by omega
  rw [dec] at hK hdec
  generalize u + c % 128 * 128 ^ i = v at *
  refine ⟨fun w' => w' = w2 ∧ v < 4294967296 ∧ ¬ (c = 0 ∧ 0 < i) ∧ ¬ (128 ≤ c ∧ i = 4), ?_, ?_⟩
  · refine IfB.dec (fun h1 => ?_) (fun h1 => ?_)
    · rw [if_pos (by omega)] at hK; exact hK
    · rw [if_neg (by omega)] at hK
      have tail : ¬ (c = 0 ∧ 0 < i) → IfB (decide ((128 : Int) ≤ (c : Int))) (IfB (decide ((i : Int) = 4)) (K 0 0 201 w2) (w2 = w2 ∧ v < 4294967296 ∧ ¬ (c = 0 ∧ 0 < i) ∧ ¬ (128 ≤ c ∧ i = 4))) (w2 = w2 ∧ v < 4294967296 ∧ ¬ (c = 0 ∧ 0 < i) ∧ ¬ (128 ≤ c ∧ i = 4)) := fun h2 => by
        rw [if_neg h2] at hK
        refine IfB.dec (fun h3 => IfB.dec (fun h4 => ?_) (fun h4 => ⟨rfl, by omega, h2, by omega⟩)) (fun h3 => ⟨rfl, by omega, h2, by omega⟩)
        rw [if_pos (by omega)] at hK; exact hK
      refine IfB.dec (fun h2 => IfB.dec (fun h3 => ?_) (fun h3 => tail (by omega))) (fun h2 => tail (by omega))
      rw [if_pos (by omega)] at hK; exact hK
  · intro _ w3 hM
    have h1 := hM.2.1
    have h2 := hM.2.2.1
    have h3 := hM.2.2.2
    have hw := hM.1
    clear hM
    subst hw
    rw [if_neg (by omega), if_neg h2, if_neg h3] at hK hdec
    by_cases h4 : (c : Int) < 128
    · refine IfB.yes h4 ?_
      rw [if_pos (by omega)] at hK
      rw [bits_and1_u64 _ (by omega)]
      have e1 : (2 : Int) ^ Int.toNat 1 = 2 := rfl
      rw [e1]
      refine ⟨by omega, fit64 (by omega) (by omega), fun n w' => n = unz v ∧ w' = w3, IfB.dec (fun h5 => ⟨fit64 (by omega) (by omega), fit64 (by omega) (by omega), ?_, rfl⟩) (fun h5 => ⟨?_, rfl⟩), ?_⟩
      · unfold unz; rw [if_pos (by omega)]; simp
      · unfold unz; rw [if_neg (by omega)]; simp
      · rintro - n w4 ⟨rfl, rfl⟩
        exact ⟨fit64 (by omega) (by omega), fit64 (by omega) (by omega), hK⟩
    · refine IfB.no h4 ?_
      rw [if_neg (by omega)] at hdec
      refine ⟨fit64 (by omega) (by omega), ⟨rfl, i + 1, v, by simp, rfl, by omega, hv', by omega, by rw [hdec]; rfl⟩, by omega⟩

theorem fits_c (x : Int) {w : World} {K : Bool → World → Prop} (hK : K (decide (-2147483648 ≤ x ∧ x ≤ 2147483647)) w) (h0 : -9223372036854775808 ≤ x) (h1 : x ≤ 9223372036854775807) : C40 x w K := by
  refine r_f40 _ _ _ ?_
  unfold V_f40
  have e : decide ((x : Int) = IntKind.wrap .i64 (IntKind.wrap .i32 x)) = decide (-2147483648 ≤ x ∧ x ≤ 2147483647) := by
    rw [decide_eq_decide]
    simp only [IntKind.wrap, IntKind.signed, IntKind.bits]
    simp
    omega
  rw [e]
  exact hK

/-- The bytes so far. -/
def SU (w : World) (a : Option Addr) (l c : Nat) (xs : List Nat) : Prop := l = xs.length ∧ SV w a xs.length c 1 (xs.map fun (n : Nat) => Value.int .u8 (n : Int))

theorem app_byte {w w1 : World} {a : Option Addr} {l c b : Nat} {xs : List Nat} (h : SU w a l c xs) {n : Nat} {v : Int} (hv : v = n) (n1 : NewAt w w1 b #[.int .u8 v] 5) (h63 : xs.length ≤ 100) {K : Option Addr → Nat → Nat → World → Prop}
    (hK : ∀ a' l' c' w', SU w' a' l' c' (xs ++ [n]) → Fr (ablk a) w w' → Grw (ablk a) (ablk a') w.heap.size → K a' l' c' w') :
    RunF Try.prog (Builtin.append_ #[24, 24] 24 #[.slice a l c, .slice (some ⟨b, 0, none⟩) 1 1]) w1 [.leaf .slice] K := by
  obtain ⟨rfl, h⟩ := h
  subst hv
  obtain ⟨rfl, rfl⟩ := n1
  refine append_new (P := Try.prog) (t := 24) (e := 5) (i := Try.t5) (z := .int .u8 0) (k := 1) (m := 1) (by kernel_rfl) (by kernel_rfl) rfl rfl rfl (by decide) h #[.int .u8 (n : Int)] 5 (by decide) rfl (by simp [isCell]) (by omega) (by decide) 24 (fun a' c' w' g1 g2 g3 => hK a' _ c' w' ⟨by simp, ?_⟩ g2 g3)
  simpa using g1

theorem conv_byte {w : World} {a : Option Addr} {l c : Nat} {xs : List Nat} (h : SU w a l c xs) (hx : xs ≠ []) {K : ByteArray → World → Prop} (hK : K (strOfNums (xs.map fun (n : Nat) => (n : Int))) w) :
    RunF Try.prog (convert 24 9 (.slice a l c)) w [.leaf .str] K := by
  obtain ⟨rfl, h⟩ := h
  obtain ⟨b, off, rfl, _⟩ := h.at (i := 0) (List.length_pos_iff.2 hx)
  have hr := run_convert_bytes_arg (P := Try.prog) w 24 5 (by kernel_rfl) (by kernel_rfl) b off xs.length c (xs.map fun (n : Nat) => (n : Int)) (by simp) (fun i hi => ?_) 9 (by kernel_rfl)
  · exact ⟨[.string _], w, hr, hK⟩
  · obtain ⟨b', off', e, h2⟩ := h.at (i := i) hi
    cases e
    have := (h2 0 (by decide)).1
    rw [addr_add, addr_add] at this
    simp only [Nat.mul_one, Nat.add_zero] at this
    rw [this, List.getElem?_map, List.getElem?_eq_getElem hi]
    simp [List.getD_eq_getElem?_getD, hi]

theorem putnum_c (x : Int) (h0 : -9223372036854775808 ≤ x) (h1 : x ≤ 9223372036854775807) {w : World} {K : ByteArray → World → Prop} (hK : ∀ w', (∀ S, Fr S w w') → K (putNum x) w') : C16 x w K := by
  refine r_f16 _ _ _ (fits_c x ?_ h0 h1)
  by_cases h : -2147483648 ≤ x ∧ x ≤ 2147483647
  · rw [decide_eq_true h]
    have hz := zig_lt x h.1 h.2
    have e : putNum x = strOfNums ((enc 4 (zig x)).map fun (n : Nat) => (n : Int)) := by unfold putNum; rw [if_pos h]
    rw [e] at hK
    generalize hzz : zig x = z at *
    refine ifb_nyes rfl ⟨fun n w' => n = (z : Int) ∧ w' = w, IfB.dec (fun hx => ⟨?_, rfl⟩) (fun hx => ⟨?_, rfl⟩), ?_⟩
    · have e1 : IntKind.wrap .i64 (-2 * x) = -2 * x := by
        have := wrap_small (n := (-2 * x).toNat) (by omega)
        rwa [Int.toNat_of_nonneg (by omega)] at this
      have e2 : IntKind.wrap .i64 (-2 * x - 1) = ((z : Nat) : Int) := by
        have := wrap_small (n := (-2 * x - 1).toNat) (by omega)
        rw [Int.toNat_of_nonneg (by omega)] at this
        rw [this, ← hzz]; unfold zig; rw [if_pos hx]; omega
      rw [e1, e2, u64_wrap _ (by omega)]
    · have e2 : IntKind.wrap .i64 (2 * x) = ((z : Nat) : Int) := by
        have := wrap_small (n := (2 * x).toNat) (by omega)
        rw [Int.toNat_of_nonneg (by omega)] at this
        rw [this, ← hzz]; unfold zig; rw [if_neg hx]; omega
      rw [e2, u64_wrap _ (by omega)]
    rintro - n w1 ⟨rfl, rfl⟩
    refine ⟨fun n a l c w' => ∃ (f y : Nat) (acc : List Nat), n = y ∧ y < 128 ^ (f + 1) ∧ acc.length + f = 4 ∧ SU w' a l c acc ∧ (∀ b ∈ ablk a, w1.heap.size ≤ b) ∧ (∀ S, Fr S w1 w') ∧ enc 4 z = acc ++ enc f y, fun n _ _ _ _ => n.toNat, ⟨4, z, [], rfl, by omega, rfl, ⟨rfl, SV.nil _ _⟩, by simp [ablk], fun S => Fr.refl S w1, rfl⟩, ?_⟩
    rintro - n a l c w2 ⟨f, y, acc, rfl, hy, hf, U, hB, f2, he⟩
    have wu : IntKind.wrap .u8 (y : Int) = ((y % 256 : Nat) : Int) := by
      simp only [IntKind.wrap, IntKind.signed, IntKind.bits]
      simp
    refine IfB.dec (fun hge => fun b w3 n3 => ?_) (fun hlt => fun b w3 n3 => ?_)
    · cases f with
      | zero => simp at hy; omega
      | succ f =>
        have ev : bits .or .u8 (IntKind.wrap .u8 (y : Int)) 128 = ((y % 128 + 128 : Nat) : Int) := by
          rw [wu, bits_or_u8 _ (by omega) (by omega)]; omega
        refine app_byte U ev n3 (by omega) fun a' l' c' w' U' f' gr' => ⟨by decide, ⟨f, y / 128, _, ?_, ?_, by simp; omega, U', gr'.up hB (f2 []).size, fun S => (f2 S).trans f' (fun k hk => .inr (hB k hk)), ?_⟩, ?_⟩
        · have : (2 : Int) ^ Int.toNat 7 = 128 := rfl
          rw [this]; omega
        · rw [Nat.pow_succ] at hy; exact Nat.div_lt_of_lt_mul (by rw [Nat.mul_comm]; exact hy)
        · rw [he]; conv => lhs; rw [enc, if_neg (by omega)]
          simp
        · have : (2 : Int) ^ Int.toNat 7 = 128 := rfl
          dsimp only
          rw [this]; omega
    · have ev : IntKind.wrap .u8 (y : Int) = ((y : Nat) : Int) := by rw [wu]; omega
      refine app_byte U ev n3 (by omega) fun a' l' c' w' U' f' gr' => conv_byte U' (by simp) ?_
      have e5 : enc 4 z = acc ++ [y] := by
        rw [he]
        cases f with
        | zero => rfl
        | succ f => rw [enc, if_pos (by omega)]
      rw [← e5]
      exact hK w' fun S => (f2 S).trans f' (fun k hk => .inr (hB k hk))
  · rw [decide_eq_false h]
    have e : putNum x = ⟨#[]⟩ := by unfold putNum; rw [if_neg h]
    rw [e] at hK
    exact ifb_nno rfl (hK w fun S => Fr.refl S w)
end Go.Proofs.Ytmlhdmnnijapjaa.V
