/- The document's writer in memory: methods. No condition. -/
import Derived.Test.YtmlhdmnnijapjaaClassWr
import Derived.Test.YtmlhdmnnijapjaaClassY
namespace Go.Proofs.Ytmlhdmnnijapjaa.V
open Go Go.RowKit Go.Proofs.Ytmlhdmnnijapjaa.WirePlain

section
variable {N : Nat → Prop} {w : World} {t : Nat} {W : Wr}

/-- The same, where the slice is loaded in each round. -/
theorem rlay_hold {α : Type} {R : (Nat → Prop) → Prop → World → List Value → α → Prop} (hR : Rel1 R) {m : Prop} {one : α → Wr} {kk : Nat} {xs : List α} {a : Option Addr} {l c : Nat} {q : Addr}
    (call : World → Int → (World → Prop) → Prop) {w2 : World} {W2 : Wr} (hq : ∀ w', Keep N w2 w' → w'.cell? q = some (.slice a l c)) (hl : W2.bs.length + (seqW one xs).bs.length ≤ 1099511627776) (hx : xs.length ≤ 1099511627776)
    (hcall : ∀ w' W' p vs x (n : Int) (F : World → Prop), Keep N w2 w' → WrAt N w' t W' → W'.bs.length + (one x).bs.length ≤ 1099511627776 → x ∈ xs → a = some p → 0 ≤ n → n < (xs.length : Int) → vs.length = kk → CellsAt w' (Addr.add p (Int.toNat n * kk)) vs → N p.block → R N m w' vs x → (∀ w'', WrAt N w'' t (W'.app (one x)) → Keep N w' w'' → F w'') → call w' n F)
    (H2 : WrAt N w2 t W2) (D : rSeq N m w2 kk (R N m w2) a l xs) {K : World → Prop} (hK : ∀ w', WrAt N w' t (W2.app (seqW one xs)) → Keep N w2 w' → K w') :
    ∃ (I3 : Int → World → Prop) (m4 : Int → World → Nat), I3 0 w2 ∧ ∀ (_ : Env) (n5 : Int) (w6 : World), I3 n5 w6 → ∃ (a7 : Option Addr) (l7 c7 : Nat), World.cell? w6 q = some (.slice a7 l7 c7) ∧
      IfB (decide ((n5 : Int) < (l7 : Int))) (call w6 n5 fun w9 => Fit .i64 (n5 + 1) ∧ (I3 (n5 + 1) w9 ∧ m4 (n5 + 1) w9 < m4 n5 w6)) (K w6) := by
  obtain rfl := D.1
  refine ⟨fun n w' => ∃ j : Nat, n = j ∧ j ≤ xs.length ∧ WrAt N w' t (W2.app (seqW one (xs.take j))) ∧ Keep N w2 w', fun n _ => (xs.length - n).toNat, ⟨0, rfl, Nat.zero_le _, by simpa [seqW, Wr.app_nil] using H2, Keep.refl _ _⟩, ?_⟩
  rintro - _ w6 ⟨j, rfl, hj, H6, k6⟩
  refine ⟨_, _, _, hq w6 k6, IfB.dec (fun hlt => ?_) (fun hge => ?_)⟩
  · have D6 := rel_seq (U' := N) hR D k6.same k6.size fun b hb _ => hb
    have lt : j < xs.length := by omega
    obtain ⟨p, vs, rfl, h2, h3, h4, h5, h6, h7⟩ := D6.2 j _ (List.getElem?_eq_getElem lt)
    have et : xs.take (j + 1) = xs.take j ++ [xs[j]] := List.take_succ_eq_append_getElem lt
    have hlen := seq_take one xs j _ (List.getElem?_eq_getElem lt)
    refine hcall w6 _ p vs _ j _ k6 H6 (by rw [app_len]; omega) (List.getElem_mem lt) rfl (by omega) hlt h4 (by rw [Int.toNat_natCast]; exact h5) h2 h7 fun w9 H9 k9 => ⟨fit64 (by omega) (by omega), ⟨j + 1, by simp, by omega, ?_, k6.trans k9⟩, by (try dsimp only); omega⟩
    rw [et, seqW_snoc, ← Wr.app_assoc]; exact H9
  · have : j = xs.length := by omega
    subst this
    rw [List.take_length] at H6
    exact hK w6 H6 k6

theorem rflag_c (b : Bool) (k : Int) {K : Int → World → Prop} (hK : K (flagI b k) w) : C90 b k w K := by
  refine r_f90 _ _ _ _ ?_
  cases b <;> exact hK

theorem mth93_c {m : Prop} {a1 a2 a3 a4 : Option Addr} {l1 c1 l2 c2 l3 c3 l4 c4 : Nat} (x : Mth) (hs : x.sm) (H : WrAt N w t W) (d1 : rSeq N m w 1 RInt a1 l1 x.args) (d2 : rSeq N m w 3 RIns a2 l2 x.code) (d3 : rSeq N m w 4 RHnd a3 l3 x.tab) (d4 : rSeq N m w 3 (RMpe N m w) a4 l4 x.maps)
    (hl : W.bs.length + (mthR x).bs.length ≤ 1099511627776) {K : World → Prop} (hK : ∀ w', WrAt N w' t (W.app (mthR x)) → Keep N w w' → K w') : C93 (some ⟨t, 0, none⟩) x.name x.stat a1 l1 c1 x.ret x.locs x.stk a2 l2 c2 a3 l3 c3 a4 l4 c4 w K := by
  refine r_f93 _ _ _ _ _ _ _ _ _ _ _ _ _ _ _ _ _ _ _ _ fun b1 w2 n1 => ?_
  have f2 := n1.fr []
  obtain ⟨N2, H2, hB, hin⟩ : ∃ N2 : Nat → Prop, WrAt N2 w2 t W ∧ N2 b1 ∧ ∀ b, N b → N2 b := ⟨_, H.grow f2 n1.ge n1.blk.lt, .inr rfl, fun _ h => .inl h⟩
  have U2 : SameU N w w2 := SameU.of_fr f2 (by simp)
  have B2 := n1.blk
  have e1 := rel_seq1 d1 U2 f2.size fun b hb _ => hin b hb
  have e2 := rel_seq1 d2 U2 f2.size fun b hb _ => hin b hb
  have e3 := rel_seq1 d3 U2 f2.size fun b hb _ => hin b hb
  have e4 := rel_seq rel_mpe d4 U2 f2.size fun b hb _ => hin b hb
  have kin : Keep N w w2 := Keep.of f2 (by simp)
  clear d1 d2 d3 d4 U2
  unfold mthR at hl
  simp only [app_len, rlay_len] at hl
  obtain ⟨s1, s2, s3, s4, s5⟩ := hs
  unfold smL at s1 s2 s3 s4
  refine ⟨_, B2.cell rfl, wrtext_c _ H2 (by omega) fun w4 H4 k4 => ⟨_, (k4.blk B2 hB).cell rfl, rflag_c _ _ (wrnum_c H4 (by simp only [app_len]; omega) fun w8 H8 k8 => ?_)⟩⟩
  replace k8 := k4.trans k8
  refine ⟨_, _, _, (k8.blk B2 hB).cell rfl, rlist_c (most := 8) H8 s1 (by simp only [app_len, rlay_len]; omega) (rel_seq1 e1 k8.same k8.size fun b hb _ => hb) fun w10 H10 k10 => ?_⟩
  replace k10 := k8.trans k10
  refine ⟨_, (k10.blk B2 hB).cell rfl, wrnum_c H10 (by simp only [app_len, rlay_len]; omega) fun w12 H12 k12 => ?_⟩
  replace k12 := k10.trans k12
  have g9 : ∀ b, (formW b).bs.length = 0 := fun _ => rfl
  refine ⟨fun w' => WrAt N2 w' t (((((W.app (nameR x.name)).app (numW (flagI x.stat 1))).app (layR 8 numW x.args)).app (numW x.ret)).app (formW (roomB x.locs x.stk))) ∧ Keep N2 w2 w', ?_, ?_⟩
  · obtain ⟨g, c, h3, _⟩ := H12.ex
    have B12 := k12.blk B2 hB
    have may3 := h3.may (i := 3) (by simp)
    have go : ∀ {v : Bool} {w' : World}, v = (((((W.app (nameR x.name)).app (numW (flagI x.stat 1))).app (layR 8 numW x.args)).app (numW x.ret)).fm || roomB x.locs x.stk) → SetC w12 w' ⟨t, 3, none⟩ (.bool v) → WrAt N2 w' t (((((W.app (nameR x.name)).app (numW (flagI x.stat 1))).app (layR 8 numW x.args)).app (numW x.ret)).app (formW (roomB x.locs x.stk))) ∧ Keep N2 w2 w' := fun hv s' =>
      (H12.setB (W' := ((((W.app (nameR x.name)).app (numW (flagI x.stat 1))).app (layR 8 numW x.args)).app (numW x.ret)).app (formW (roomB x.locs x.stk))) (fun _ _ => by rw [hv]; simp [Wr.app, formW]) (by simp [Wr.app, formW]) s').imp_right k12.trans
    refine ⟨_, h3.cell rfl, ifb_cases (fun hb => ⟨may3, fun w' s' => go (by rw [hb]; rfl) s'⟩) (fun hb => ⟨_, B12.cell rfl, IfB.dec (fun q1 => ⟨may3, fun w' s' => go (by simp [roomB, q1]) s'⟩) (fun q1 => ⟨_, B12.cell rfl, IfB.dec (fun q2 => ⟨may3, fun w' s' => go (by simp [roomB, q2]) s'⟩) (fun q2 => ⟨_, B12.cell rfl, IfB.dec (fun q3 => ⟨may3, fun w' s' => go (by simp [roomB, q3]) s'⟩) (fun q3 => ⟨_, B12.cell rfl, may3, fun w' s' => go (by rw [hb]; simp [roomB, q1, q2, q3]) s'⟩)⟩)⟩)⟩)⟩
  rintro - w14 ⟨H14, k14⟩
  refine ⟨_, (k14.blk B2 hB).cell rfl, wrnum_c H14 (by simp only [app_len, rlay_len, g9]; omega) fun w26 H26 k26 => ?_⟩
  replace k26 := k14.trans k26
  refine ⟨_, (k26.blk B2 hB).cell rfl, wrnum_c H26 (by simp only [app_len, rlay_len, g9]; omega) fun w28 H28 k28 => ?_⟩
  replace k28 := k26.trans k28
  have z2 := e2.1
  have z3 := e3.1
  have z4 := e4.1
  refine ⟨_, _, _, (k28.blk B2 hB).cell rfl, ?_⟩
  rw [z2]
  refine wrcount_c (most := ((300 : Nat) : Int)) H28 (by simp only [app_len, rlay_len, g9]; omega) fun w30 H30 k30 => ?_
  replace k30 := k28.trans k30
  refine rlay_hold (R := fun _ _ _ vs x => RIns vs x) (m := m) (kk := 3) rel_plain (one := insW) (q := ⟨b1, 6, none⟩) (a := a2) (l := l2) (c := c2) (fun w34 n33 F => ∃ (a36 : Option Addr) (l36 c36 : Nat), World.cell? w34 ⟨b1, 6, none⟩ = some (.slice a36 l36 c36) ∧ PtrOK a36 fun (p37 : Addr) => ((0 : Int) ≤ n33 ∧ n33 < (l36 : Int)) ∧ ∃ (n38 : Int), World.cell? w34 (Addr.add (Addr.add p37 (Int.toNat n33 * 3)) 0) = some (.int .i64 n38) ∧ C64 (some ⟨t, 0, none⟩) n38 w34 fun w39 =>
      ∃ (a40 : Option Addr) (l40 c40 : Nat), World.cell? w39 ⟨b1, 6, none⟩ = some (.slice a40 l40 c40) ∧ PtrOK a40 fun (p41 : Addr) => ((0 : Int) ≤ n33 ∧ n33 < (l40 : Int)) ∧ ∃ (n42 : Int), World.cell? w39 (Addr.add (Addr.add p41 (Int.toNat n33 * 3)) 1) = some (.int .i64 n42) ∧ C64 (some ⟨t, 0, none⟩) n42 w39 fun w43 =>
      ∃ (a44 : Option Addr) (l44 c44 : Nat), World.cell? w43 ⟨b1, 6, none⟩ = some (.slice a44 l44 c44) ∧ PtrOK a44 fun (p45 : Addr) => ((0 : Int) ≤ n33 ∧ n33 < (l44 : Int)) ∧ ∃ (n46 : Int), World.cell? w43 (Addr.add (Addr.add p45 (Int.toNat n33 * 3)) 2) = some (.int .i64 n46) ∧ C64 (some ⟨t, 0, none⟩) n46 w43 fun w47 => F w47)
    (fun w' k' => ((k30.trans k').blk B2 hB).cell rfl) (by simp only [app_len, rlay_len, g9, List.length_nil]; omega) s2 ?_ H30 (rel_seq1 e2 k30.same k30.size fun b hb _ => hb) fun w34 H34 k34 => ?_
  · rintro w' W' p vs y n F k6 H' hl' - ha h0 h1 - hc hN rfl hF
    have B' := fun {w''} (k : Keep N2 w' w'') => ((k30.trans (k6.trans k)).blk B2 hB).cell (i := 6) rfl
    have e : ∀ W : Wr, ((W.app (numW y.op)).app (numW y.a)).app (numW y.b) = W.app (insW y) := fun W => seqW3 W _ _ _
    rw [← app_len, ← e] at hl'
    simp only [app_len] at hl'
    refine ⟨_, _, _, B' (Keep.refl _ _), PtrOK.of ha ⟨⟨h0, by omega⟩, _, hc 0 _ rfl, wrnum_c H' (by omega) fun w39 H39 k39 => ⟨_, _, _, B' k39, PtrOK.of ha ⟨⟨h0, by omega⟩, _, (hc.same k39.same (by rw [add_blk]; exact hN)) 1 _ rfl, wrnum_c H39 (by simp only [app_len]; omega) fun w43 H43 k43 =>
      ⟨_, _, _, B' (k39.trans k43), PtrOK.of ha ⟨⟨h0, by omega⟩, _, (hc.same (k39.trans k43).same (by rw [add_blk]; exact hN)) 2 _ rfl, wrnum_c H43 (by simp only [app_len]; omega) fun w47 H47 k47 => hF w47 (by rw [← e]; exact H47) ((k39.trans k43).trans k47)⟩⟩⟩⟩⟩⟩
  rw [rlay_eq] at H34
  replace k34 := k30.trans k34
  refine ⟨_, _, _, (k34.blk B2 hB).cell rfl, ?_⟩
  rw [z3]
  refine wrcount_c (most := ((16 : Nat) : Int)) H34 (by simp only [app_len, rlay_len, g9]; omega) fun w49 H49 k49 => ?_
  replace k49 := k34.trans k49
  refine rlay_hold (R := fun _ _ _ vs x => RHnd vs x) (m := m) (kk := 4) rel_plain (one := hndW) (q := ⟨b1, 7, none⟩) (a := a3) (l := l3) (c := c3) (fun w53 n52 F => ∃ (a55 : Option Addr) (l55 c55 : Nat), World.cell? w53 ⟨b1, 7, none⟩ = some (.slice a55 l55 c55) ∧ PtrOK a55 fun (p56 : Addr) => ((0 : Int) ≤ n52 ∧ n52 < (l55 : Int)) ∧ ∃ (n57 : Int), World.cell? w53 (Addr.add (Addr.add p56 (Int.toNat n52 * 4)) 0) = some (.int .i64 n57) ∧ C64 (some ⟨t, 0, none⟩) n57 w53 fun w58 =>
      ∃ (a59 : Option Addr) (l59 c59 : Nat), World.cell? w58 ⟨b1, 7, none⟩ = some (.slice a59 l59 c59) ∧ PtrOK a59 fun (p60 : Addr) => ((0 : Int) ≤ n52 ∧ n52 < (l59 : Int)) ∧ ∃ (n61 : Int), World.cell? w58 (Addr.add (Addr.add p60 (Int.toNat n52 * 4)) 1) = some (.int .i64 n61) ∧ C64 (some ⟨t, 0, none⟩) n61 w58 fun w62 =>
      ∃ (a63 : Option Addr) (l63 c63 : Nat), World.cell? w62 ⟨b1, 7, none⟩ = some (.slice a63 l63 c63) ∧ PtrOK a63 fun (p64 : Addr) => ((0 : Int) ≤ n52 ∧ n52 < (l63 : Int)) ∧ ∃ (n65 : Int), World.cell? w62 (Addr.add (Addr.add p64 (Int.toNat n52 * 4)) 2) = some (.int .i64 n65) ∧ C64 (some ⟨t, 0, none⟩) n65 w62 fun w66 =>
      ∃ (a67 : Option Addr) (l67 c67 : Nat), World.cell? w66 ⟨b1, 7, none⟩ = some (.slice a67 l67 c67) ∧ PtrOK a67 fun (p68 : Addr) => ((0 : Int) ≤ n52 ∧ n52 < (l67 : Int)) ∧ ∃ (n69 : Int), World.cell? w66 (Addr.add (Addr.add p68 (Int.toNat n52 * 4)) 3) = some (.int .i64 n69) ∧ C64 (some ⟨t, 0, none⟩) n69 w66 fun w70 => F w70)
    (fun w' k' => ((k49.trans k').blk B2 hB).cell rfl) (by simp only [app_len, rlay_len, g9, List.length_nil]; omega) s3 ?_ H49 (rel_seq1 e3 k49.same k49.size fun b hb _ => hb) fun w53 H53 k53 => ?_
  · rintro w' W' p vs y n F k6 H' hl' - ha h0 h1 - hc hN rfl hF
    have B' := fun {w''} (k : Keep N2 w' w'') => ((k49.trans (k6.trans k)).blk B2 hB).cell (i := 7) rfl
    have e : ∀ W : Wr, (((W.app (numW y.lo)).app (numW y.hi)).app (numW y.pl)).app (numW y.cl) = W.app (hndW y) := fun W => by simp [hndW, seqW, Wr.app_assoc, Wr.app_nil]
    rw [← app_len, ← e] at hl'
    simp only [app_len] at hl'
    refine ⟨_, _, _, B' (Keep.refl _ _), PtrOK.of ha ⟨⟨h0, by omega⟩, _, hc 0 _ rfl, wrnum_c H' (by omega) fun w39 H39 k39 => ⟨_, _, _, B' k39, PtrOK.of ha ⟨⟨h0, by omega⟩, _, (hc.same k39.same (by rw [add_blk]; exact hN)) 1 _ rfl, wrnum_c H39 (by simp only [app_len]; omega) fun w43 H43 k43 => ?_⟩⟩⟩⟩
    refine ⟨_, _, _, B' (k39.trans k43), PtrOK.of ha ⟨⟨h0, by omega⟩, _, (hc.same (k39.trans k43).same (by rw [add_blk]; exact hN)) 2 _ rfl, wrnum_c H43 (by simp only [app_len]; omega) fun w47 H47 k47 => ?_⟩⟩
    replace k47 := (k39.trans k43).trans k47
    exact ⟨_, _, _, B' k47, PtrOK.of ha ⟨⟨h0, by omega⟩, _, (hc.same k47.same (by rw [add_blk]; exact hN)) 3 _ rfl, wrnum_c H47 (by simp only [app_len]; omega) fun w70 H70 k70 => hF w70 (by rw [← e]; exact H70) (k47.trans k70)⟩⟩
  rw [rlay_eq] at H53
  replace k53 := k49.trans k53
  refine ⟨_, _, _, (k53.blk B2 hB).cell rfl, ?_⟩
  rw [z4]
  refine wrcount_c (most := ((64 : Nat) : Int)) H53 (by simp only [app_len, rlay_len, g9]; omega) fun w72 H72 k72 => ?_
  replace k72 := k53.trans k72
  refine rlay_hold rel_mpe (m := m) (kk := 3) (one := mpeR) (q := ⟨b1, 8, none⟩) (a := a4) (l := l4) (c := c4) (fun w76 n75 F => ∃ (a78 : Option Addr) (l78 c78 : Nat), World.cell? w76 ⟨b1, 8, none⟩ = some (.slice a78 l78 c78) ∧ PtrOK a78 fun (p79 : Addr) => ((0 : Int) ≤ n75 ∧ n75 < (l78 : Int)) ∧ ∃ (n80 : Int), World.cell? w76 (Addr.add (Addr.add p79 (Int.toNat n75 * 3)) 0) = some (.int .i64 n80) ∧ C64 (some ⟨t, 0, none⟩) n80 w76 fun w81 =>
      ∃ (a82 : Option Addr) (l82 c82 : Nat), World.cell? w81 ⟨b1, 8, none⟩ = some (.slice a82 l82 c82) ∧ PtrOK a82 fun (p83 : Addr) => ((0 : Int) ≤ n75 ∧ n75 < (l82 : Int)) ∧ ∃ (a84 : Option Addr) (l84 c84 : Nat), World.cell? w81 (Addr.add (Addr.add p83 (Int.toNat n75 * 3)) 1) = some (.slice a84 l84 c84) ∧ C91 (some ⟨t, 0, none⟩) a84 l84 c84 24 w81 fun w85 =>
      ∃ (a86 : Option Addr) (l86 c86 : Nat), World.cell? w85 ⟨b1, 8, none⟩ = some (.slice a86 l86 c86) ∧ PtrOK a86 fun (p87 : Addr) => ((0 : Int) ≤ n75 ∧ n75 < (l86 : Int)) ∧ ∃ (a88 : Option Addr) (l88 c88 : Nat), World.cell? w85 (Addr.add (Addr.add p87 (Int.toNat n75 * 3)) 2) = some (.slice a88 l88 c88) ∧ C91 (some ⟨t, 0, none⟩) a88 l88 c88 24 w85 fun w89 => F w89)
    (fun w' k' => ((k72.trans k').blk B2 hB).cell rfl) (by simp only [app_len, rlay_len, g9, List.length_nil]; omega) s4 ?_ H72 (rel_seq rel_mpe e4 k72.same k72.size fun b hb _ => hb) fun w90 H90 k90 => ?_
  · rintro w' W' p vs y n F k6 H' hl' hy ha h0 h1 - hc hN ⟨z1, o1, q1, z2, o2, q2, rfl, r1, r2⟩ hF
    have B' := fun {w''} (k : Keep N2 w' w'') => ((k72.trans (k6.trans k)).blk B2 hB).cell (i := 8) rfl
    obtain ⟨y1, y2⟩ := s5 y hy
    have e : ∀ W : Wr, ((W.app (numW y.pl)).app (layR 24 numW y.ls)).app (layR 24 numW y.st) = W.app (mpeR y) := fun W => by simp [mpeR, Wr.app_assoc]
    rw [← app_len, ← e] at hl'
    simp only [app_len] at hl'
    refine ⟨_, _, _, B' (Keep.refl _ _), PtrOK.of ha ⟨⟨h0, by omega⟩, _, hc 0 _ rfl, wrnum_c H' (by omega) fun w39 H39 k39 => ⟨_, _, _, B' k39, PtrOK.of ha ⟨⟨h0, by omega⟩, _, _, _, (hc.same k39.same (by rw [add_blk]; exact hN)) 1 _ rfl, rlist_c (most := 24) H39 y1 (by simp only [app_len]; omega) (rel_seq1 r1 k39.same k39.size fun b hb _ => hb) fun w43 H43 k43 => ?_⟩⟩⟩⟩
    replace k43 := k39.trans k43
    exact ⟨_, _, _, B' k43, PtrOK.of ha ⟨⟨h0, by omega⟩, _, _, _, (hc.same k43.same (by rw [add_blk]; exact hN)) 2 _ rfl, rlist_c (most := 24) H43 y2 (by simp only [app_len]; omega) (rel_seq1 r2 k43.same k43.size fun b hb _ => hb) fun w70 H70 k70 => hF w70 (by rw [← e]; exact H70) (k43.trans k70)⟩⟩
  rw [rlay_eq] at H90
  refine hK w90 ?_ (kin.trans ((k72.trans k90).mono hin))
  rw [mthR]
  simp only [Wr.app_assoc] at H90
  exact H90.mono hin
end
end Go.Proofs.Ytmlhdmnnijapjaa.V
