/- The document's writer in memory: numbers, texts, lists. No condition. -/
import Derived.Test.YtmlhdmnnijapjaaClassX
import Derived.Test.YtmlhdmnnijapjaaClassEr
import Derived.Test.YtmlhdmnnijapjaaClassGn
import Derived.Test.YtmlhdmnnijapjaaGClsRefW
namespace Go.Proofs.Ytmlhdmnnijapjaa.V
open Go Go.RowKit Go.Proofs.Ytmlhdmnnijapjaa.WirePlain

section
variable {N : Nat → Prop} {w : World} {t : Nat} {W : Wr}

theorem rfits_c (x : Int) {K : Bool → World → Prop} (hK : K (fitsI x) w) : C87 x w K := by
  refine r_f87 _ _ _ (IfB.dec (fun h => ?_) (fun h => ?_))
  · have e : decide ((x : Int) ≤ 2147483647) = fitsI x := by unfold fitsI; rw [decide_eq_decide]; omega
    rw [e]; exact hK
  · have e : fitsI x = false := by unfold fitsI; exact decide_eq_false (by omega)
    rw [e] at hK; exact hK

theorem wrapI {n : Int} (h0 : 0 ≤ n) (h1 : n < 9223372036854775808) : IntKind.wrap .i64 n = n := by
  have := wrap_small (n := n.toNat) (by omega)
  rwa [Int.toNat_of_nonneg h0] at this

theorem rput_c (x : Int) {K : ByteArray → World → Prop} (hK : ∀ w', (∀ S, Fr S w w') → K (putNum x) w') : C88 x w K := by
  refine r_f88 _ _ _ (rfits_c x (ifb_n (fun hb => ?_) (fun hb => ?_)))
  · have h : -2147483648 ≤ x ∧ x ≤ 2147483647 := of_decide_eq_true hb
    have hz := zig_lt x h.1 h.2
    have e : putNum x = strOfNums ((enc 4 (zig x)).map fun (n : Nat) => (n : Int)) := by unfold putNum; rw [if_pos h]
    rw [e] at hK
    generalize hzz : zig x = z at *
    refine ⟨fun n w' => n = (z : Int) ∧ w' = w, IfB.dec (fun hx => ⟨?_, rfl⟩) (fun hx => ⟨?_, rfl⟩), ?_⟩
    · rw [wrapI (n := -2 * x) (by omega) (by omega), wrapI (by omega) (by omega), ← hzz]; unfold zig; rw [if_pos hx]; omega
    · rw [wrapI (by omega) (by omega), ← hzz]; unfold zig; rw [if_neg hx]; omega
    rintro - n w1 ⟨rfl, rfl⟩
    refine ⟨fun n a l c w' => ∃ (f y : Nat) (acc : List Nat), n = y ∧ y < 128 ^ (f + 1) ∧ acc.length + f = 4 ∧ y < 4294967296 ∧ SU w' a l c acc ∧ (∀ b ∈ ablk a, w1.heap.size ≤ b) ∧ (∀ S, Fr S w1 w') ∧ enc 4 z = acc ++ enc f y, fun n _ _ _ _ => n.toNat, ⟨4, z, [], rfl, by omega, rfl, hz, ⟨rfl, SV.nil _ _⟩, by simp [ablk], fun S => Fr.refl S w1, rfl⟩, ?_⟩
    rintro - n a l c w2 ⟨f, y, acc, rfl, hy, hf, hy4, U, hB, f2, he⟩
    have wu : IntKind.wrap .u8 (y : Int) = ((y % 256 : Nat) : Int) := by
      simp only [IntKind.wrap, IntKind.signed, IntKind.bits]
      simp
    have tm : Int.tmod (y : Int) 128 = ((y % 128 : Nat) : Int) := by rw [Int.tmod_eq_emod_of_nonneg (by omega)]; omega
    have td : Int.tdiv (y : Int) 128 = ((y / 128 : Nat) : Int) := by rw [Int.tdiv_eq_ediv_of_nonneg (by omega)]; omega
    refine IfB.dec (fun hge => ⟨by decide, fun b w3 n3 => ?_⟩) (fun hlt => fun b w3 n3 => ?_)
    · cases f with
      | zero => simp at hy; omega
      | succ f =>
        have ev : IntKind.wrap .u8 (IntKind.wrap .i64 (Int.tmod (y : Int) 128 + 128)) = ((y % 128 + 128 : Nat) : Int) := by
          rw [tm, wrapI (by omega) (by omega)]
          have : ((y % 128 : Nat) : Int) + 128 = ((y % 128 + 128 : Nat) : Int) := by omega
          rw [this]
          simp only [IntKind.wrap, IntKind.signed, IntKind.bits]
          simp
          omega
        refine app_byte U ev n3 (by omega) fun a' l' c' w' U' f' gr' => ⟨by decide, ⟨f, y / 128, _, ?_, ?_, by simp; omega, by omega, U', gr'.up hB (f2 []).size, fun S => (f2 S).trans f' (fun k hk => .inr (hB k hk)), ?_⟩, ?_⟩
        · rw [td, wrapI (by omega) (by omega)]
        · rw [Nat.pow_succ] at hy; exact Nat.div_lt_of_lt_mul (by rw [Nat.mul_comm]; exact hy)
        · rw [he]; conv => lhs; rw [enc, if_neg (by omega)]
          simp
        · dsimp only
          rw [td, wrapI (by omega) (by omega)]
          omega
    · have ev : IntKind.wrap .u8 (y : Int) = ((y : Nat) : Int) := by rw [wu]; omega
      refine app_byte U ev n3 (by omega) fun a' l' c' w' U' f' gr' => conv_byte U' (by simp) ?_
      have e5 : enc 4 z = acc ++ [y] := by
        rw [he]
        cases f with
        | zero => rfl
        | succ f => rw [enc, if_pos (by omega)]
      rw [← e5]
      exact hK w' fun S => (f2 S).trans f' (fun k hk => .inr (hB k hk))
  · have h : ¬ (-2147483648 ≤ x ∧ x ≤ 2147483647) := of_decide_eq_false hb
    have e : putNum x = ⟨#[]⟩ := by unfold putNum; rw [if_neg h]
    rw [e] at hK
    exact hK w fun S => Fr.refl S w

theorem wrnum_c {x : Int} (H : WrAt N w t W) (hl : W.bs.length + (numW x).bs.length ≤ 1099511627776) {K : World → Prop} (hK : ∀ w', WrAt N w' t (W.app (numW x)) → Keep N w w' → K w') : C64 (some ⟨t, 0, none⟩) x w K := by
  refine r_f64 _ _ _ _ ?_
  have hp : (numW x).bs.length = (putNum x).size := nats_length _
  have fin : ∀ (v : Bool) w2, v = (W.fm || !fitsI x) → SetC w w2 ⟨t, 3, none⟩ (.bool v) → ∀ w3, Drew w2 w3 → 
      (∃ (a4 : Option Addr) (l4 c4 : Nat), World.cell? w3 ⟨t, 0, none⟩ = some (.slice a4 l4 c4) ∧
       C88 x w3 fun s5 w6 => RunF Try.prog (Builtin.append_ #[24, 9] 24 #[.slice a4 l4 c4, .string s5]) w6 [.leaf .slice] fun (a7 : Option Addr) (l7 c7 : Nat) (w8 : World) =>
       May w8 ⟨t, 0, none⟩ ∧ ∀ w9 : World, SetC w8 w9 ⟨t, 0, none⟩ (.slice a7 l7 c7) → K w9) ∧
      (C88 x w3 fun s10 w11 => ∃ (a12 : Option Addr) (l12 c12 : Nat), World.cell? w11 ⟨t, 0, none⟩ = some (.slice a12 l12 c12) ∧
       RunF Try.prog (Builtin.append_ #[24, 9] 24 #[.slice a12 l12 c12, .string s10]) w11 [.leaf .slice] fun (a13 : Option Addr) (l13 c13 : Nat) (w14 : World) =>
       May w14 ⟨t, 0, none⟩ ∧ ∀ w15 : World, SetC w14 w15 ⟨t, 0, none⟩ (.slice a13 l13 c13) → K w15) := by
    rintro v w2 rfl s2 w3 d3
    obtain ⟨H2, k2⟩ := H.setB (W' := ⟨W.bs, W.many, W.nm, W.fm || !fitsI x⟩) (fun _ _ => rfl) rfl s2
    have H3 := H2.fr (d3.fr []) (by simp)
    have k3 : Keep N w w3 := k2.trans (Keep.of (d3.fr []) (by simp))
    constructor
    · obtain ⟨g, c, h3, _, _, h6⟩ := H3.ex
      refine ⟨_, _, _, h3.cell rfl, rput_c x fun w6 f6 => ?_⟩
      obtain ⟨a, l, c', e, h⟩ := app_w (K := K) (W0 := W) H3 (putNum x) (by show W.bs.length + _ ≤ _; omega) f6 fun w' H' k' => hK w' (by rw [← num_eq]; exact H') ((k3.trans (Keep.of (f6 []) (by simp))).trans k')
      have e0 := h3.cell (i := 0) rfl
      rw [e0] at e
      cases e
      exact h
    · refine rput_c x fun w11 f11 => ?_
      have H11 := H3.fr (f11 []) (by simp)
      exact app_w (K := K) (W0 := W) H11 (putNum x) (by show W.bs.length + _ ≤ _; omega) (fun S => Fr.refl S _) fun w' H' k' => hK w' (by rw [← num_eq]; exact H') ((k3.trans (Keep.of (f11 []) (by simp))).trans k')
  obtain ⟨g, c, h3, _⟩ := H.ex
  refine ⟨_, h3.cell rfl, ifb_cases (fun hb => ⟨h3.may (by simp), fun w2 s2 => fin true w2 (by simp [hb]) s2⟩) (fun hb => rfits_c x ⟨h3.may (by simp), fun w2 s2 => fin _ w2 (by rw [hb]; rfl) s2⟩)⟩

/-- How many. -/
theorem wrcount_c {k most : Int} (H : WrAt N w t W) (hl : W.bs.length + (numW k).bs.length ≤ 1099511627776) {K : World → Prop} (hK : ∀ w', WrAt N w' t ((W.app ⟨[], decide (most < k), false, false⟩).app (numW k)) → Keep N w w' → K w') : C65 (some ⟨t, 0, none⟩) k most w K := by
  refine r_f65 _ _ _ _ _ ?_
  obtain ⟨g, c, h3, _⟩ := H.ex
  have fin : ∀ (v : Bool) w2, v = (W.many || decide (most < k)) → SetC w w2 ⟨t, 1, none⟩ (.bool v) → C64 (some ⟨t, 0, none⟩) k w2 fun w3 => K w3 := by
    rintro v w2 rfl s2
    obtain ⟨H2, k2⟩ := H.setB (W' := W.app ⟨[], decide (most < k), false, false⟩) (fun _ _ => by simp [Wr.app]) (by simp [Wr.app]) s2
    exact wrnum_c H2 (by simpa [Wr.app] using hl) fun w' H' k' => hK w' H' (k2.trans k')
  exact ⟨_, h3.cell rfl, ifb_cases (fun hb => ⟨h3.may (by simp), fun w2 s2 => fin true w2 (by simp [hb]) s2⟩) (fun hb => ⟨h3.may (by simp), fun w2 s2 => fin _ w2 (by rw [hb]; rfl) s2⟩)⟩

theorem rputtext_c (s : ByteArray) (hs : s.size ≤ 1099511627776) {K : ByteArray → World → Prop} (hK : ∀ w', (∀ S, Fr S w w') → K (putNum (s.size : Int) ++ s) w') : C111 s w K :=
  r_f111 _ _ _ (rput_c _ fun w' f' => ⟨by have := putNum_size (s.size : Int); omega, hK w' f'⟩)

theorem wrtext_c (s : ByteArray) (H : WrAt N w t W) (hl : W.bs.length + (nameR s).bs.length ≤ 1099511627776) {K : World → Prop} (hK : ∀ w', WrAt N w' t (W.app (nameR s)) → Keep N w w' → K w') : C89 (some ⟨t, 0, none⟩) s w K := by
  refine r_f89 _ _ _ _ ?_
  have hp := putNum_size (s.size : Int)
  have hsz : (nameR s).bs.length = (putNum (s.size : Int) ++ s).size := nats_length _
  have hs9 : s.size ≤ 1099511627776 := by rw [ByteArray.size_append] at hsz; omega
  have eW : (⟨W.bs ++ nats (putNum (s.size : Int) ++ s), W.many, W.nm || !nameOK s, W.fm⟩ : Wr) = W.app (nameR s) := by simp [Wr.app, nameR]
  have fin : ∀ (v : Bool) w2, v = (W.nm || !nameOK s) → SetC w w2 ⟨t, 2, none⟩ (.bool v) → ∀ w3, Drew w2 w3 → 
      (∃ (a4 : Option Addr) (l4 c4 : Nat), World.cell? w3 ⟨t, 0, none⟩ = some (.slice a4 l4 c4) ∧
       C111 s w3 fun s5 w6 => RunF Try.prog (Builtin.append_ #[24, 9] 24 #[.slice a4 l4 c4, .string s5]) w6 [.leaf .slice] fun (a7 : Option Addr) (l7 c7 : Nat) (w8 : World) =>
       May w8 ⟨t, 0, none⟩ ∧ ∀ w9 : World, SetC w8 w9 ⟨t, 0, none⟩ (.slice a7 l7 c7) → K w9) ∧
      (C111 s w3 fun s10 w11 => ∃ (a12 : Option Addr) (l12 c12 : Nat), World.cell? w11 ⟨t, 0, none⟩ = some (.slice a12 l12 c12) ∧
       RunF Try.prog (Builtin.append_ #[24, 9] 24 #[.slice a12 l12 c12, .string s10]) w11 [.leaf .slice] fun (a13 : Option Addr) (l13 c13 : Nat) (w14 : World) =>
       May w14 ⟨t, 0, none⟩ ∧ ∀ w15 : World, SetC w14 w15 ⟨t, 0, none⟩ (.slice a13 l13 c13) → K w15) := by
    rintro v w2 rfl s2 w3 d3
    obtain ⟨H2, k2⟩ := H.setB (W' := ⟨W.bs, W.many, W.nm || !nameOK s, W.fm⟩) (fun _ _ => rfl) rfl s2
    have H3 := H2.fr (d3.fr []) (by simp)
    have k3 : Keep N w w3 := k2.trans (Keep.of (d3.fr []) (by simp))
    constructor
    · obtain ⟨g, c, h3, _, _, h6⟩ := H3.ex
      refine ⟨_, _, _, h3.cell rfl, rputtext_c s (by omega) fun w6 f6 => ?_⟩
      obtain ⟨a, l, c', e, h⟩ := app_w (K := K) (W0 := W) H3 (putNum (s.size : Int) ++ s) (by show W.bs.length + _ ≤ _; omega) f6 fun w' H' k' => hK w' (by rw [← eW]; exact H') ((k3.trans (Keep.of (f6 []) (by simp))).trans k')
      have e0 := h3.cell (i := 0) rfl
      rw [e0] at e
      cases e
      exact h
    · refine rputtext_c s (by omega) fun w11 f11 => ?_
      have H11 := H3.fr (f11 []) (by simp)
      exact app_w (K := K) (W0 := W) H11 (putNum (s.size : Int) ++ s) (by show W.bs.length + _ ≤ _; omega) (fun S => Fr.refl S _) fun w' H' k' => hK w' (by rw [← eW]; exact H') ((k3.trans (Keep.of (f11 []) (by simp))).trans k')
  obtain ⟨g, c, h3, _⟩ := H.ex
  refine ⟨_, h3.cell rfl, ifb_cases (fun hb => ⟨h3.may (by simp), fun w2 s2 => fin true w2 (by simp [hb]) s2⟩) (fun hb => isnameR_c s ⟨h3.may (by simp), fun w2 s2 => fin _ w2 (by rw [hb]; rfl) s2⟩)⟩

theorem rlay_eq {α : Type} (W : Wr) (most : Nat) (one : α → Wr) (xs : List α) : ((W.app ⟨[], decide ((most : Int) < (xs.length : Int)), false, false⟩).app (numW (xs.length : Int))).app (seqW one xs) = W.app (layR most one xs) := by
  unfold layR
  rw [← Wr.app_assoc, ← Wr.app_assoc]
  have : decide ((most : Int) < (xs.length : Int)) = decide (most < xs.length) := by rw [decide_eq_decide]; omega
  rw [this]

theorem seq_take {α : Type} (one : α → Wr) : ∀ (xs : List α) (j : Nat) (x : α), xs[j]? = some x → (seqW one (xs.take j)).bs.length + (one x).bs.length ≤ (seqW one xs).bs.length
  | [], j, x, h => by simp at h
  | y :: ys, 0, x, h => by
    simp at h
    subst h
    simp only [List.take_zero, seqW, app_len, Wr.nil, List.length_nil]
    omega
  | y :: ys, j + 1, x, h => by
    rw [List.getElem?_cons_succ] at h
    have := seq_take one ys j x h
    simp only [List.take_succ_cons, seqW, app_len]
    omega

/-- The things of a list, each in its turn; their bytes by their sum. -/
theorem rlay_loop {α : Type} {R : (Nat → Prop) → Prop → World → List Value → α → Prop} (hR : Rel1 R) {m : Prop} {one : α → Wr} {kk : Nat} {xs : List α} {a : Option Addr} {l : Nat}
    (call : World → Addr → Int → (World → Prop) → Prop) {w2 : World} {W2 : Wr} (hl : W2.bs.length + (seqW one xs).bs.length ≤ 1099511627776) (hx : xs.length ≤ 1099511627776)
    (hcall : ∀ w' W' p vs x (n : Int) (F : World → Prop), Keep N w2 w' → WrAt N w' t W' → W'.bs.length + (one x).bs.length ≤ 1099511627776 → x ∈ xs → a = some p → 0 ≤ n → n < (xs.length : Int) → vs.length = kk → CellsAt w' (Addr.add p (Int.toNat n * kk)) vs → N p.block → R N m w' vs x → (∀ w'', WrAt N w'' t (W'.app (one x)) → Keep N w' w'' → F w'') → call w' p n F)
    (H2 : WrAt N w2 t W2) (D : rSeq N m w2 kk (R N m w2) a l xs) {K : World → Prop} (hK : ∀ w', WrAt N w' t (W2.app (seqW one xs)) → Keep N w2 w' → K w') :
    ∃ (I3 : Int → World → Prop) (m4 : Int → World → Nat), I3 0 w2 ∧ ∀ (_ : Env) (n5 : Int) (w6 : World), I3 n5 w6 →
      IfB (decide ((n5 : Int) < (l : Int))) (PtrOK a fun (p7 : Addr) => ((0 : Int) ≤ n5 ∧ n5 < (l : Int)) ∧ call w6 p7 n5 fun w9 => Fit .i64 (n5 + 1) ∧ (I3 (n5 + 1) w9 ∧ m4 (n5 + 1) w9 < m4 n5 w6)) (K w6) := by
  obtain rfl := D.1
  refine ⟨fun n w' => ∃ j : Nat, n = j ∧ j ≤ xs.length ∧ WrAt N w' t (W2.app (seqW one (xs.take j))) ∧ Keep N w2 w', fun n _ => (xs.length - n).toNat, ⟨0, rfl, Nat.zero_le _, by simpa [seqW, Wr.app_nil] using H2, Keep.refl _ _⟩, ?_⟩
  rintro - _ w6 ⟨j, rfl, hj, H6, k6⟩
  refine IfB.dec (fun hlt => ?_) (fun hge => ?_)
  · have D6 := rel_seq (U' := N) hR D k6.same k6.size fun b hb _ => hb
    have lt : j < xs.length := by omega
    obtain ⟨p, vs, rfl, h2, h3, h4, h5, h6, h7⟩ := D6.2 j _ (List.getElem?_eq_getElem lt)
    have et : xs.take (j + 1) = xs.take j ++ [xs[j]] := List.take_succ_eq_append_getElem lt
    have hlen := seq_take one xs j _ (List.getElem?_eq_getElem lt)
    refine PtrOK.of rfl ⟨⟨by omega, hlt⟩, hcall w6 _ p vs _ j _ k6 H6 (by rw [app_len]; omega) (List.getElem_mem lt) rfl (by omega) hlt h4 (by rw [Int.toNat_natCast]; exact h5) h2 h7 fun w9 H9 k9 => ⟨fit64 (by omega) (by omega), ⟨j + 1, by simp, by omega, ?_, k6.trans k9⟩, by (try dsimp only); omega⟩⟩
    rw [et, seqW_snoc, ← Wr.app_assoc]; exact H9
  · have : j = xs.length := by omega
    subst this
    rw [List.take_length] at H6
    exact hK w6 H6 k6

theorem rlay_len {α : Type} (most : Nat) (one : α → Wr) (xs : List α) : (layR most one xs).bs.length = (numW (xs.length : Int)).bs.length + (seqW one xs).bs.length := by
  unfold layR
  rw [app_len, app_len]
  simp

theorem rlist_c {most : Nat} {m : Prop} {xs : List Int} {a : Option Addr} {l c : Nat} (H : WrAt N w t W) (hx : xs.length ≤ 1099511627776) (hl : W.bs.length + (layR most numW xs).bs.length ≤ 1099511627776) (D : rSeq N m w 1 RInt a l xs) {K : World → Prop}
    (hK : ∀ w', WrAt N w' t (W.app (layR most numW xs)) → Keep N w w' → K w') : C91 (some ⟨t, 0, none⟩) a l c (most : Int) w K := by
  have e := D.1
  rw [rlay_len] at hl
  refine r_f91 _ _ _ _ _ _ _ ?_
  unfold V_f91
  rw [e]
  refine wrcount_c H (by omega) fun w1 H1 k1 => ?_
  rw [← e]
  refine rlay_loop (R := fun _ _ _ vs x => RInt vs x) (m := m) (kk := 1) rel_plain (one := numW) (fun w5 p6 n4 F => ∃ (n7 : Int), World.cell? w5 (Addr.add p6 (Int.toNat n4 * 1)) = some (.int .i64 n7) ∧ C64 (some ⟨t, 0, none⟩) n7 w5 fun w8 => F w8)
    (by rw [app_len, app_len]; simp; omega) hx ?_ H1 (rel_seq1 D k1.same k1.size fun b hb _ => hb) fun w' H' k' => hK w' (by rw [← rlay_eq]; exact H') (k1.trans k')
  rintro w' W' p vs x n F - H' hl' - - - - - hc - rfl hF
  have h0 : ∀ q : Addr, Addr.add q 0 = q := fun q => by simp [Addr.add]
  exact ⟨x, by have := hc 0 _ rfl; rwa [h0] at this, wrnum_c H' hl' hF⟩

theorem rfields_c {m : Prop} {xs : List Fld} {a : Option Addr} {l c : Nat} (H : WrAt N w t W) (hx : xs.length ≤ 1099511627776) (hl : W.bs.length + (layR 24 fldR xs).bs.length ≤ 1099511627776) (D : rSeq N m w 2 RFld a l xs) {K : World → Prop}
    (hK : ∀ w', WrAt N w' t (W.app (layR 24 fldR xs)) → Keep N w w' → K w') : C92 (some ⟨t, 0, none⟩) a l c w K := by
  have e := D.1
  rw [rlay_len] at hl
  refine r_f92 _ _ _ _ _ _ ?_
  unfold V_f92
  rw [e]
  refine wrcount_c (most := 24) H (by omega) fun w1 H1 k1 => ?_
  rw [← e]
  refine rlay_loop (R := fun _ _ _ vs x => RFld vs x) (m := m) (kk := 2) rel_plain (one := fldR) (fun w5 p6 n4 F => ∃ (s7 : ByteArray), World.cell? w5 (Addr.add (Addr.add p6 (Int.toNat n4 * 2)) 0) = some (.string s7) ∧ C89 (some ⟨t, 0, none⟩) s7 w5 fun w8 =>
      PtrOK a fun (p9 : Addr) => ((0 : Int) ≤ n4 ∧ n4 < (l : Int)) ∧ ∃ (n10 : Int), World.cell? w8 (Addr.add (Addr.add p9 (Int.toNat n4 * 2)) 1) = some (.int .i64 n10) ∧ C64 (some ⟨t, 0, none⟩) n10 w8 fun w11 => F w11)
    (by rw [app_len, app_len]; simp; omega) hx ?_ H1 (rel_seq1 D k1.same k1.size fun b hb _ => hb) fun w' H' k' => hK w' (by rw [← rlay_eq (most := 24)]; exact H') (k1.trans k')
  rintro w' W' p vs x n F - H' hl' - ha h0 h1 - hc hN rfl hF
  rw [fldR, app_len] at hl'
  refine ⟨_, hc 0 _ rfl, wrtext_c _ H' (by omega) fun w8 H8 k8 => PtrOK.of ha ⟨⟨h0, by omega⟩, _, (hc.same k8.same (by rw [add_blk]; exact hN)) 1 _ rfl, wrnum_c H8 (by rw [app_len]; omega) fun w11 H11 k11 => hF w11 ?_ (k8.trans k11)⟩⟩
  rw [fldR, ← Wr.app_assoc]; exact H11
end
end Go.Proofs.Ytmlhdmnnijapjaa.V
