/- Writing a program: numbers, names, lists. No condition. -/
import Derived.Test.YtmlhdmnnijapjaaClassV
namespace Go.Proofs.Ytmlhdmnnijapjaa.V
open Go Go.RowKit Go.Proofs.Ytmlhdmnnijapjaa.WirePlain

section
variable {N : Nat → Prop} {w : World} {t : Nat} {W : Wr}

theorem num_eq (x : Int) : (⟨W.bs ++ nats (putNum x), W.many, W.nm, W.fm || !fitsI x⟩ : Wr) = W.app (numW x) := by simp [Wr.app, numW]
theorem numT_eq {x : Int} (h : W.fm = true) : (⟨W.bs ++ nats (putNum x), W.many, W.nm, true⟩ : Wr) = W.app (numW x) := by simp [Wr.app, numW, h]

theorem wnum_c {x : Int} (hx : I6 x) (H : WrAt N w t W) (hl : W.bs.length + 5 ≤ 1099511627776) {K : World → Prop} (hK : ∀ w', WrAt N w' t (W.app (numW x)) → Keep N w w' → K w') : C61 (some ⟨t, 0, none⟩) x w K := by
  refine r_f61 _ _ _ _ ?_
  have hp := putNum_size x
  have fin : ∀ (v : Bool) w2, v = (W.fm || !fitsI x) → SetC w w2 ⟨t, 3, none⟩ (.bool v) → ∀ w3, Drew w2 w3 → 
      (∃ (a4 : Option Addr) (l4 c4 : Nat), World.cell? w3 ⟨t, 0, none⟩ = some (.slice a4 l4 c4) ∧
       C16 x w3 fun s5 w6 => RunF Try.prog (Builtin.append_ #[24, 9] 24 #[.slice a4 l4 c4, .string s5]) w6 [.leaf .slice] fun (a7 : Option Addr) (l7 c7 : Nat) (w8 : World) =>
       May w8 ⟨t, 0, none⟩ ∧ ∀ w9 : World, SetC w8 w9 ⟨t, 0, none⟩ (.slice a7 l7 c7) → K w9) ∧
      (C16 x w3 fun s10 w11 => ∃ (a12 : Option Addr) (l12 c12 : Nat), World.cell? w11 ⟨t, 0, none⟩ = some (.slice a12 l12 c12) ∧
       RunF Try.prog (Builtin.append_ #[24, 9] 24 #[.slice a12 l12 c12, .string s10]) w11 [.leaf .slice] fun (a13 : Option Addr) (l13 c13 : Nat) (w14 : World) =>
       May w14 ⟨t, 0, none⟩ ∧ ∀ w15 : World, SetC w14 w15 ⟨t, 0, none⟩ (.slice a13 l13 c13) → K w15) := by
    rintro v w2 rfl s2 w3 d3
    obtain ⟨H2, k2⟩ := H.setB (W' := ⟨W.bs, W.many, W.nm, W.fm || !fitsI x⟩) (fun _ _ => rfl) rfl s2
    have H3 := H2.fr (d3.fr []) (by simp)
    have k3 : Keep N w w3 := k2.trans (Keep.of (d3.fr []) (by simp))
    constructor
    · obtain ⟨g, c, h3, _, _, h6⟩ := H3.ex
      refine ⟨_, _, _, h3.cell rfl, putnum_c x hx.1 hx.2 fun w6 f6 => ?_⟩
      obtain ⟨a, l, c', e, h⟩ := app_w (K := K) (W0 := W) H3 (putNum x) (by show W.bs.length + _ ≤ _; omega) f6 fun w' H' k' => hK w' (by rw [← num_eq]; exact H') ((k3.trans (Keep.of (f6 []) (by simp))).trans k')
      have e0 := h3.cell (i := 0) rfl
      rw [e0] at e
      cases e
      exact h
    · refine putnum_c x hx.1 hx.2 fun w11 f11 => ?_
      have H11 := H3.fr (f11 []) (by simp)
      exact app_w (K := K) (W0 := W) H11 (putNum x) (by show W.bs.length + _ ≤ _; omega) (fun S => Fr.refl S _) fun w' H' k' => hK w' (by rw [← num_eq]; exact H') ((k3.trans (Keep.of (f11 []) (by simp))).trans k')
  obtain ⟨g, c, h3, _⟩ := H.ex
  refine ⟨_, h3.cell rfl, ifb_cases (fun hb => ⟨h3.may (by simp), fun w2 s2 => fin true w2 (by simp [hb]) s2⟩) (fun hb => fits_c x ⟨h3.may (by simp), fun w2 s2 => fin _ w2 (by rw [hb]; rfl) s2⟩ hx.1 hx.2)⟩

theorem wname_c (s : ByteArray) (H : WrAt N w t W) (hl : W.bs.length + 21 ≤ 1099511627776) {K : World → Prop} (hK : ∀ w', WrAt N w' t (W.app (nameW s)) → Keep N w w' → K w') : C80 (some ⟨t, 0, none⟩) s w K := by
  refine r_f80 _ _ _ _ ⟨fun w' => WrAt N w' t ⟨W.bs, W.many, W.nm || !nameOK s, W.fm⟩ ∧ Keep N w w', ?_, ?_⟩
  · obtain ⟨g, c, h3, _⟩ := H.ex
    refine ⟨_, h3.cell rfl, ifb_cases (fun hb => ⟨h3.may (by simp), fun w2 s2 => ?_⟩) (fun hb => isname_c s ⟨h3.may (by simp), fun w2 s2 => ?_⟩)⟩
    · exact H.setB (W' := ⟨W.bs, W.many, W.nm || !nameOK s, W.fm⟩) (fun _ _ => by simp [hb]) rfl s2
    · exact H.setB (W' := ⟨W.bs, W.many, W.nm || !nameOK s, W.fm⟩) (fun _ _ => by simp [hb]) rfl s2
  rintro - w2 ⟨H2, k2⟩ w8 d8
  have H8 := H2.fr (d8.fr []) (by simp)
  have k8 : Keep N w w8 := k2.trans (Keep.of (d8.fr []) (by simp))
  have hm : ((0 : Int) ≤ (min (ByteArray.size s : Int) 16) ∧ ((min (ByteArray.size s : Int) 16) : Int) ≤ (ByteArray.size s : Int)) := by omega
  have hz := cutN_size s
  have eW : (⟨W.bs ++ nats (putNum ((cutN s).size : Int) ++ cutN s), W.many, W.nm || !nameOK s, W.fm⟩ : Wr) = W.app (nameW s) := by simp [Wr.app, nameW]
  have hp := putNum_size ((cutN s).size : Int)
  have hsz : (putNum ((cutN s).size : Int) ++ cutN s).size ≤ 21 := by rw [ByteArray.size_append]; omega
  have put : ∀ w1 (F : ByteArray → World → Prop), (∀ w', (∀ S, Fr S w1 w') → F (putNum ((cutN s).size : Int) ++ cutN s) w') → C19 (ByteArray.extract s 0 (Int.toNat (min (ByteArray.size s : Int) 16))) w1 F := fun w1 F hF =>
    r_f19 _ _ _ (putnum_c _ (by show _ ≤ ((cutN s).size : Int); omega) (by show ((cutN s).size : Int) ≤ _; omega) fun w' f' => ⟨by show (putNum ((cutN s).size : Int)).size + (cutN s).size ≤ _; omega, hF w' f'⟩)
  have early : ∃ (a9 : Option Addr) (l9 c9 : Nat), World.cell? w8 ⟨t, 0, none⟩ = some (.slice a9 l9 c9) ∧
      C19 (ByteArray.extract s 0 (Int.toNat (min (ByteArray.size s : Int) 16))) w8 fun s10 w11 =>
      RunF Try.prog (Builtin.append_ #[24, 9] 24 #[.slice a9 l9 c9, .string s10]) w11 [.leaf .slice] fun (a12 : Option Addr) (l12 c12 : Nat) (w13 : World) =>
      May w13 ⟨t, 0, none⟩ ∧ ∀ w14 : World, SetC w13 w14 ⟨t, 0, none⟩ (.slice a12 l12 c12) → K w14 := by
    obtain ⟨g, c, h3, _, _, h6⟩ := H8.ex
    refine ⟨_, _, _, h3.cell rfl, put _ _ fun w11 f11 => ?_⟩
    obtain ⟨a, l, c', e, h⟩ := app_w (K := K) (W0 := W) H8 (putNum ((cutN s).size : Int) ++ cutN s) (by show W.bs.length + _ ≤ _; omega) f11 fun w' H' k' => hK w' (by rw [← eW]; exact H') ((k8.trans (Keep.of (f11 []) (by simp))).trans k')
    have e0 := h3.cell (i := 0) rfl
    rw [e0] at e
    cases e
    exact h
  refine ⟨?_, hm, ?_, put _ _ fun w22 f22 => ?_⟩
  · obtain ⟨a, l, c, e, h⟩ := early
    exact ⟨a, l, c, e, hm, h⟩
  · exact early
  · have H22 := H8.fr (f22 []) (by simp)
    exact app_w (K := K) (W0 := W) H22 (putNum ((cutN s).size : Int) ++ cutN s) (by show W.bs.length + _ ≤ _; omega) (fun S => Fr.refl S _) fun w' H' k' => hK w' (by rw [← eW]; exact H') ((k8.trans (Keep.of (f22 []) (by simp))).trans k')

theorem wflag_c (b : Bool) (k : Int) {K : Int → World → Prop} (hK : K (flagI b k) w) : C81 b k w K := by
  refine r_f81 _ _ _ _ ?_
  cases b <;> exact hK

/-- The head of a list. -/
theorem lay_head {α : Type} {most : Nat} {one : α → Wr} {xs : List α} {c : Nat} (hm : most ≤ 1000) (H : WrAt N w t W) (hl : W.bs.length + (5 + most * c) ≤ 1099511627776) {K : World → Prop} {L : World → Prop}
    (hK : ∀ w', WrAt N w' t (W.app (layW most one xs)) → Keep N w w' → K w')
    (hL : xs.length ≤ most → (∀ w', WrAt N w' t ((W.app (numW (xs.length : Int))).app (seqW one xs)) → Keep N w w' → K w') → ∀ w2, WrAt N w2 t (W.app (numW (xs.length : Int))) → Keep N w w2 → L w2) :
    IfB (decide ((most : Int) < (xs.length : Int))) (May w ⟨t, 1, none⟩ ∧ ∀ w1 : World, SetC w w1 ⟨t, 1, none⟩ (.bool true) → K w1) (C61 (some ⟨t, 0, none⟩) (xs.length : Int) w L) := by
  refine IfB.dec (fun h => ?_) (fun h => ?_)
  · obtain ⟨g, c, h3, _⟩ := H.ex
    refine ⟨h3.may (by simp), fun w1 s1 => ?_⟩
    obtain ⟨H1, k1⟩ := H.setB (W' := W.app manyW) (fun _ _ => by simp [Wr.app, manyW]) (by simp [Wr.app, manyW]) s1
    refine hK w1 ?_ k1
    have : layW most one xs = manyW := by unfold layW; rw [if_pos (by omega)]
    rw [this]; exact H1
  · refine wnum_c (by unfold I6; omega) H (by omega) fun w2 H2 k2 => hL (by omega) (fun w' H' k' => hK w' ?_ k') w2 H2 k2
    have : layW most one xs = (numW (xs.length : Int)).app (seqW one xs) := by unfold layW; rw [if_neg (by omega)]
    rw [this, ← Wr.app_assoc]; exact H'

/-- The things of a list, each in its turn. -/
theorem lay_loop {α : Type} {R : (Nat → Prop) → Prop → World → List Value → α → Prop} (hR : Rel1 R) {m : Prop} {one : α → Wr} {kk c : Nat} (hc : ∀ x, (one x).bs.length ≤ c) {xs : List α} {a : Option Addr} {l : Nat}
    (call : World → Addr → Int → (World → Prop) → Prop) {w2 : World} {W2 : Wr} {ok : α → Prop} (hok : ∀ x ∈ xs, ok x)
    (hl : W2.bs.length + xs.length * c ≤ 1099511627776) (hx : xs.length ≤ 1000000)
    (hcall : ∀ w' W' p vs x (n : Int) (F : World → Prop), Keep N w2 w' → WrAt N w' t W' → W'.bs.length + c ≤ 1099511627776 → ok x → 0 ≤ n → n < (xs.length : Int) → vs.length = kk → CellsAt w' (Addr.add p (Int.toNat n * kk)) vs → R N m w' vs x → (∀ w'', WrAt N w'' t (W'.app (one x)) → Keep N w' w'' → F w'') → call w' p n F)
    (H2 : WrAt N w2 t W2) (D : rSeq N m w2 kk (R N m w2) a l xs) {K : World → Prop} (hK : ∀ w', WrAt N w' t (W2.app (seqW one xs)) → Keep N w2 w' → K w') :
    ∃ (I3 : Int → World → Prop) (m4 : Int → World → Nat), I3 0 w2 ∧ ∀ (_ : Env) (n5 : Int) (w6 : World), I3 n5 w6 →
      IfB (decide ((n5 : Int) < (l : Int))) (PtrOK a fun (p7 : Addr) => ((0 : Int) ≤ n5 ∧ n5 < (l : Int)) ∧ call w6 p7 n5 fun w9 => Fit .i64 (n5 + 1) ∧ (I3 (n5 + 1) w9 ∧ m4 (n5 + 1) w9 < m4 n5 w6)) (K w6) := by
  obtain rfl := D.1
  refine ⟨fun n w' => ∃ j : Nat, n = j ∧ j ≤ xs.length ∧ WrAt N w' t (W2.app (seqW one (xs.take j))) ∧ Keep N w2 w', fun n _ => (xs.length - n).toNat, ⟨0, rfl, Nat.zero_le _, by simpa [seqW, Wr.app_nil] using H2, Keep.refl _ _⟩, ?_⟩
  rintro - _ w6 ⟨j, rfl, hj, H6, k6⟩
  refine IfB.dec (fun hlt => ?_) (fun hge => ?_)
  · have D6 := rel_seq (U' := N) hR D k6.same k6.size fun b hb _ => hb
    refine D6.get (i := (j : Int)) (by omega) (by omega) fun p x vs hxi hv hU hc6 _ hr => ⟨⟨by omega, hlt⟩, ?_⟩
    rw [Int.toNat_natCast] at hxi
    have lt : j < xs.length := by omega
    have et : xs.take (j + 1) = xs.take j ++ [x] := by
      rw [List.take_succ_eq_append_getElem lt]
      rw [List.getElem?_eq_getElem lt] at hxi
      cases hxi; rfl
    have hlen := seqW_len hc (xs.take j)
    rw [List.length_take, Nat.min_eq_left (by omega)] at hlen
    have h1 : (j + 1) * c ≤ xs.length * c := Nat.mul_le_mul_right _ (by omega)
    rw [Nat.succ_mul] at h1
    refine hcall w6 _ p vs x j _ k6 H6 (by rw [app_len]; omega) (hok x (List.mem_of_getElem? hxi)) (by omega) hlt hv hc6 hr fun w9 H9 k9 => ⟨fit64 (by omega) (by omega), ⟨j + 1, by simp, by omega, ?_, k6.trans k9⟩, by (try dsimp only); omega⟩
    rw [et, seqW_snoc, ← Wr.app_assoc]; exact H9
  · have : j = xs.length := by omega
    subst this
    rw [List.take_length] at H6
    exact hK w6 H6 k6

theorem lay82 {most : Nat} {m : Prop} {xs : List Int} {a : Option Addr} {l c : Nat} (hm : most ≤ 1000) (H : WrAt N w t W) (hl : W.bs.length + (5 + most * 5) ≤ 1099511627776) (hok : ∀ x ∈ xs, I6 x) (D : rSeq N m w 1 RInt a l xs) {K : World → Prop}
    (hK : ∀ w', WrAt N w' t (W.app (layW most numW xs)) → Keep N w w' → K w') : C82 (some ⟨t, 0, none⟩) (most : Int) a l c (.func (.func 61) #[.pointer (some ⟨t, 0, none⟩)] #[] : Value) w K := by
  have e := D.1
  refine r_f82 _ _ _ _ _ _ _ _ ?_
  unfold V_f82
  rw [e]
  refine lay_head (c := 5) hm H hl hK fun hx hK w2 H2 k2 => ?_
  rw [← e]
  have h5 : xs.length * 5 ≤ most * 5 := Nat.mul_le_mul_right _ hx
  refine lay_loop (R := fun _ _ _ vs x => RInt vs x) (m := m) (kk := 1) rel_plain (one := numW) (c := 5) numW_len (fun w6 p7 n5 F => ∃ (n8 : Int), World.cell? w6 (Addr.add p7 (Int.toNat n5 * 1)) = some (.int .i64 n8) ∧ C61 (some ⟨t, 0, none⟩) n8 w6 fun w9 => F w9) (ok := I6) hok (by rw [app_len]; have := numW_len (xs.length : Int); omega) (by omega) ?_ H2 (rel_seq1 D k2.same k2.size fun b hb _ => hb) fun w' H' k' => hK w' H' (k2.trans k')
  rintro w' W' p vs x n F - H' hl' hx - - - hc rfl hF
  have h0 : ∀ q : Addr, Addr.add q 0 = q := fun q => by simp [Addr.add]
  exact ⟨x, by have := hc 0 _ rfl; rwa [h0] at this, wnum_c hx H' hl' hF⟩

end
end Go.Proofs.Ytmlhdmnnijapjaa.V
