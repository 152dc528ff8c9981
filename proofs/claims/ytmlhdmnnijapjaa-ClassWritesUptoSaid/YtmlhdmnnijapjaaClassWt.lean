/- The document's writer in memory: classes, programs. No condition. -/
import Derived.Test.YtmlhdmnnijapjaaClassWs
import Derived.Test.YtmlhdmnnijapjaaClassZ
namespace Go.Proofs.Ytmlhdmnnijapjaa.V
open Go Go.RowKit Go.Proofs.Ytmlhdmnnijapjaa.WirePlain

section
variable {N : Nat → Prop} {w : World} {t : Nat} {W : Wr}

theorem cls66_c {m : Prop} {a1 a2 a3 a4 : Option Addr} {l1 c1 l2 c2 l3 c3 l4 c4 : Nat} (x : Cls) (hs : x.sm) (H : WrAt N w t W) (d1 : rSeq N m w 1 RInt a1 l1 x.faces) (d2 : rSeq N m w 2 RFld a2 l2 x.flds) (d3 : rSeq N m w 2 RFld a3 l3 x.stats) (d4 : rSeq N m w 9 (RMth N m w) a4 l4 x.mths)
    (hl : W.bs.length + (clsR x).bs.length ≤ 1099511627776) {K : World → Prop} (hK : ∀ w', WrAt N w' t (W.app (clsR x)) → Keep N w w' → K w') : C66 (some ⟨t, 0, none⟩) x.name x.face x.fin x.sup a1 l1 c1 a2 l2 c2 a3 l3 c3 a4 l4 c4 w K := by
  refine r_f66 _ _ _ _ _ _ _ _ _ _ _ _ _ _ _ _ _ _ _ fun b1 w2 n1 => ?_
  have f2 := n1.fr []
  obtain ⟨N2, H2, hB, hin⟩ : ∃ N2 : Nat → Prop, WrAt N2 w2 t W ∧ N2 b1 ∧ ∀ b, N b → N2 b := ⟨_, H.grow f2 n1.ge n1.blk.lt, .inr rfl, fun _ h => .inl h⟩
  have U2 : SameU N w w2 := SameU.of_fr f2 (by simp)
  have B2 := n1.blk
  have e1 := rel_seq1 d1 U2 f2.size fun b hb _ => hin b hb
  have e2 := rel_seq1 d2 U2 f2.size fun b hb _ => hin b hb
  have e3 := rel_seq1 d3 U2 f2.size fun b hb _ => hin b hb
  have e4 := rel_seq rel_mth d4 U2 f2.size fun b hb _ => hin b hb
  have kin : Keep N w w2 := Keep.of f2 (by simp)
  clear d1 d2 d3 d4 U2
  unfold clsR at hl
  simp only [app_len, rlay_len] at hl
  obtain ⟨s1, s2, s3, s4, s5⟩ := hs
  unfold smL at s1 s2 s3 s4
  have z4 := e4.1
  refine ⟨_, B2.cell rfl, wrtext_c _ H2 (by omega) fun w4 H4 k4 w5 d5 => ?_⟩
  have H5 := H4.fr (d5.fr []) (by simp)
  have k5 : Keep N2 w2 w5 := k4.trans (Keep.of (d5.fr []) (by simp))
  have B5 := k5.blk B2 hB
  have hf : I6 (flagI x.face 1 + flagI x.fin 2) := by unfold flagI I6; split <;> split <;> omega
  refine ⟨_, B5.cell rfl, rflag_c _ _ ⟨_, B5.cell rfl, rflag_c _ _ ⟨fit64 hf.1 hf.2, wrnum_c H5 (by simp only [app_len]; omega) fun w12 H12 k12 => ?_⟩⟩, _, B5.cell rfl, rflag_c _ _ (rflag_c _ _ ⟨fit64 hf.1 hf.2, wrnum_c H5 (by simp only [app_len]; omega) fun w12 H12 k12 => ?_⟩)⟩
  all_goals
    replace k12 := k5.trans k12
    refine ⟨_, (k12.blk B2 hB).cell rfl, wrnum_c H12 (by simp only [app_len]; omega) fun w14 H14 k14 => ?_⟩
    replace k14 := k12.trans k14
    refine ⟨_, _, _, (k14.blk B2 hB).cell rfl, rlist_c (most := 8) H14 s1 (by simp only [app_len, rlay_len]; omega) (rel_seq1 e1 k14.same k14.size fun b hb _ => hb) fun w16 H16 k16 => ?_⟩
    replace k16 := k14.trans k16
    refine ⟨_, _, _, (k16.blk B2 hB).cell rfl, rfields_c H16 s2 (by simp only [app_len, rlay_len]; omega) (rel_seq1 e2 k16.same k16.size fun b hb _ => hb) fun w18 H18 k18 => ?_⟩
    replace k18 := k16.trans k18
    refine ⟨_, _, _, (k18.blk B2 hB).cell rfl, rfields_c H18 s3 (by simp only [app_len, rlay_len]; omega) (rel_seq1 e3 k18.same k18.size fun b hb _ => hb) fun w20 H20 k20 => ?_⟩
    replace k20 := k18.trans k20
    refine ⟨_, _, _, (k20.blk B2 hB).cell rfl, ?_⟩
    rw [z4]
    refine wrcount_c (most := ((24 : Nat) : Int)) H20 (by simp only [app_len, rlay_len]; omega) fun w22 H22 k22 => ?_
    replace k22 := k20.trans k22
    refine rlay_hold rel_mth (m := m) (kk := 9) (one := mthR) (q := ⟨b1, 7, none⟩) (a := a4) (l := l4) (c := c4) (fun w26 n25 F => ∃ (a28 : Option Addr) (l28 c28 : Nat), World.cell? w26 ⟨b1, 7, none⟩ = some (.slice a28 l28 c28) ∧ PtrOK a28 fun (p29 : Addr) => ((0 : Int) ≤ n25 ∧ n25 < (l28 : Int)) ∧
      ∃ (s30 : ByteArray), ∃ (b31 : Bool), ∃ (a32 : Option Addr) (l32 c32 : Nat), ∃ (n33 : Int), ∃ (n34 : Int), ∃ (n35 : Int), ∃ (a36 : Option Addr) (l36 c36 : Nat), ∃ (a37 : Option Addr) (l37 c37 : Nat), ∃ (a38 : Option Addr) (l38 c38 : Nat), CellsAt w26 (Addr.add p29 (Int.toNat n25 * 9)) [.string s30, .bool b31, .slice a32 l32 c32, .int .i64 n33, .int .i64 n34, .int .i64 n35, .slice a36 l36 c36, .slice a37 l37 c37, .slice a38 l38 c38] ∧
      C93 (some ⟨t, 0, none⟩) s30 b31 a32 l32 c32 n33 n34 n35 a36 l36 c36 a37 l37 c37 a38 l38 c38 w26 fun w39 => F w39)
      (fun w' k' => ((k22.trans k').blk B2 hB).cell rfl) (by simp only [app_len, rlay_len, List.length_nil]; omega) s4 ?_ H22 (rel_seq rel_mth e4 k22.same k22.size fun b hb _ => hb) fun w90 H90 k90 => ?_
    · rintro w' W' p vs y n F k6 H' hl' hy ha h0 h1 - hc hN ⟨z1, o1, q1, z2, o2, q2, z3, o3, q3, z5, o5, q5, rfl, r1, r2, r3, r4⟩ hF
      exact ⟨_, _, _, ((k22.trans k6).blk B2 hB).cell rfl, PtrOK.of ha ⟨⟨h0, by omega⟩, _, _, _, _, _, _, _, _, _, _, _, _, _, _, _, _, _, hc, mth93_c y (s5 y hy) H' r1 r2 r3 r4 hl' hF⟩⟩
    rw [rlay_eq] at H90
    refine hK w90 ?_ (kin.trans ((k22.trans k90).mono hin))
    rw [clsR]
    simp only [Wr.app_assoc] at H90
    exact H90.mono hin
end

theorem rencode_c {m : Prop} {a : Option Addr} {l c : Nat} {w : World} (p : Prg) (hs : p.sm) (hl : (encRW p).bs.length ≤ 1000000000000) (D : rPrg (fun _ => True) m w p.main a l p) {K : ByteArray → Int → World → Prop} (hK : ∀ w', Fr [] w w' → K (encRP p).1 (encRP p).2 w') : C36 p.main a l c w K := by
  obtain ⟨-, D⟩ := D
  obtain ⟨s0, s1⟩ := hs
  unfold smL at s0
  have hl0 := hl
  unfold encRW at hl
  rw [app_len, rlay_len] at hl
  refine r_f36 _ _ _ _ _ _ fun b1 w2 n1 b3 w4 n4 => ?_
  have f2 := n1.fr []
  obtain ⟨rfl, rfl⟩ := n4
  refine ⟨[.slice (some ⟨w2.heap.size, 0, none⟩) 4 4], _, Lib.run_convert_bytes_const w2 24 5 #[.int .u8 71, .int .u8 78, .int .u8 83, .int .u8 83] 4 4 (by kernel_rfl) (by kernel_rfl), ?_⟩
  intro b7 w8 n8
  have f4 : Fr [] w2 (w2.alloc (.cells #[.int .u8 71, .int .u8 78, .int .u8 83, .int .u8 83] 5 (4, 5))) := Fr.alloc _ _ _
  have R4 : Row (w2.alloc (.cells #[.int .u8 71, .int .u8 78, .int .u8 83, .int .u8 83] 5 (4, 5))) w2.heap.size 4 magicN :=
    ⟨⟨_, _, heap_alloc_new w2 _, .inr rfl, rfl, rfl⟩, by decide, by decide⟩
  have hz4 : (w2.alloc (.cells #[.int .u8 71, .int .u8 78, .int .u8 83, .int .u8 83] 5 (4, 5))).heap.size = w2.heap.size + 1 := by unfold World.alloc; simp
  generalize (w2.alloc (.cells #[.int .u8 71, .int .u8 78, .int .u8 83, .int .u8 83] 5 (4, 5)) : World) = w6 at *
  have g1 := n1.ge
  have l1 := n1.blk.lt
  have g8 := n8.ge
  have f8 := n8.fr []
  have W8 : WrAt (fun b => b < w2.heap.size) w8 b7 ⟨magicN, false, false, false⟩ := by
    refine ⟨by omega, fun b hb => ?_, w2.heap.size, 4, n8.blk, by omega, by omega, R4.fr f8 (by simp)⟩
    have := f4.size
    have := f8.size
    omega
  have B8 : Blk w8 b1 [.int .i64 p.main, .slice a l c] := (n1.blk.fr f4 (by simp)).fr f8 (by simp)
  have f08 : Fr [] w w8 := (f2.more f4).more f8
  have D8 : rSeq (fun b => b < w2.heap.size) m w8 8 (RCls (fun b => b < w2.heap.size) m w8) a l p.clss := rel_seq rel_cls D (SameU.of_fr f08 (by simp)) f08.size fun b _ hb => Nat.lt_of_lt_of_le hb f2.size
  have k8 : Keep (fun b => b < w.heap.size) w w8 := Keep.of f08 (by simp)
  have h2 : magicN.length = 4 := rfl
  have z := D8.1
  have hb1 : (fun b => b < w2.heap.size) b1 := by show b1 < w2.heap.size; omega
  refine ⟨_, B8.cell rfl, wrnum_c W8 (by show magicN.length + _ ≤ _; omega) fun w10 H10 k10 => ?_⟩
  refine ⟨_, _, _, (k10.blk B8 hb1).cell rfl, ?_⟩
  rw [z]
  refine wrcount_c (most := ((40 : Nat) : Int)) H10 (by rw [app_len]; show magicN.length + _ + _ ≤ _; omega) fun w12 H12 k12 => ?_
  replace k12 := k10.trans k12
  refine rlay_hold rel_cls (m := m) (kk := 8) (one := clsR) (q := ⟨b1, 1, none⟩) (a := a) (l := l) (c := c) (fun w16 n15 F => ∃ (a18 : Option Addr) (l18 c18 : Nat), World.cell? w16 ⟨b1, 1, none⟩ = some (.slice a18 l18 c18) ∧ PtrOK a18 fun (p19 : Addr) => ((0 : Int) ≤ n15 ∧ n15 < (l18 : Int)) ∧
      ∃ (s20 : ByteArray), ∃ (b21 : Bool), ∃ (b22 : Bool), ∃ (n23 : Int), ∃ (a24 : Option Addr) (l24 c24 : Nat), ∃ (a25 : Option Addr) (l25 c25 : Nat), ∃ (a26 : Option Addr) (l26 c26 : Nat), ∃ (a27 : Option Addr) (l27 c27 : Nat), CellsAt w16 (Addr.add p19 (Int.toNat n15 * 8)) [.string s20, .bool b21, .bool b22, .int .i64 n23, .slice a24 l24 c24, .slice a25 l25 c25, .slice a26 l26 c26, .slice a27 l27 c27] ∧
      C66 (some ⟨b7, 0, none⟩) s20 b21 b22 n23 a24 l24 c24 a25 l25 c25 a26 l26 c26 a27 l27 c27 w16 fun w28 => F w28)
    (fun w' k' => ((k12.trans k').blk B8 hb1).cell rfl) (by simp only [app_len, List.length_nil]; show magicN.length + _ + _ + _ + _ ≤ _; omega) s0 ?_ H12 (rel_seq rel_cls D8 k12.same k12.size fun b hb _ => hb) fun w16 H16 k16 => ?_
  · rintro w' W' q vs y n F k6 H' hl' hy ha h0 h1 - hc hN ⟨z1, o1, q1, z2, o2, q2, z3, o3, q3, z5, o5, q5, rfl, r1, r2, r3, r4⟩ hF
    exact ⟨_, _, _, ((k12.trans k6).blk B8 hb1).cell rfl, PtrOK.of ha ⟨⟨h0, by omega⟩, _, _, _, _, _, _, _, _, _, _, _, _, _, _, _, _, hc, cls66_c y (s1 y hy) H' r1 r2 r3 r4 hl' hF⟩⟩
  rw [rlay_eq] at H16
  have kk : Keep (fun b => b < w.heap.size) w w16 := k8.trans ((k12.trans k16).mono fun b hb => Nat.lt_of_lt_of_le hb f2.size)
  have fK := kk.fr0
  rw [Wr.app_assoc] at H16
  change WrAt _ w16 b7 (Wr.app ⟨magicN, false, false, false⟩ (encRW p)) at H16
  obtain ⟨g, c', h3, _, _, h6⟩ := H16.ex
  have hK' := hK w16 fK
  unfold encRP at hK'
  have em : ((⟨magicN, false, false, false⟩ : Wr).app (encRW p)).many = (encRW p).many := rfl
  have en : ((⟨magicN, false, false, false⟩ : Wr).app (encRW p)).nm = (encRW p).nm := rfl
  have ef : ((⟨magicN, false, false, false⟩ : Wr).app (encRW p)).fm = (encRW p).fm := rfl
  have eb : ((⟨magicN, false, false, false⟩ : Wr).app (encRW p)).bs = magicN ++ (encRW p).bs := rfl
  rw [em, en, ef, eb] at h3
  rw [eb] at h6
  have hne : (magicN ++ (encRW p).bs).length ≠ 0 := by rw [List.length_append]; omega
  generalize magicN ++ (encRW p).bs = bs at *
  refine ⟨_, h3.cell rfl, ifb_cases (fun q1 => ?_) (fun q1 => ⟨_, h3.cell rfl, ifb_cases (fun q2 => ?_) (fun q2 => ⟨_, h3.cell rfl, ifb_cases (fun q3 => ?_) (fun q3 => ⟨_, _, _, h3.cell rfl, IfB.dec (fun q4 => ?_) (fun q4 => ⟨_, _, _, h3.cell rfl, ?_⟩)⟩)⟩)⟩)⟩
  · rw [if_pos q1] at hK'; exact hK'
  · rw [if_neg (by simp [q1]), if_pos q2] at hK'; exact hK'
  · rw [if_neg (by simp [q1]), if_neg (by simp [q2]), if_pos q3] at hK'; exact hK'
  · rw [if_neg (by simp [q1]), if_neg (by simp [q2]), if_neg (by simp [q3]), if_pos (by omega)] at hK'; exact hK'
  · rw [if_neg (by simp [q1]), if_neg (by simp [q2]), if_neg (by simp [q3]), if_neg (by omega)] at hK'
    obtain ⟨⟨cur, fr, hg, _, hcs, htake⟩, hle, _⟩ := h6
    refine ⟨[.string _], w16, run_convert_bytes_arg (P := Try.prog) w16 24 5 (by kernel_rfl) (by kernel_rfl) g 0 bs.length c' (bs.map fun (n : Nat) => (n : Int)) (by simp) (fun i hi => ?_) 9 (by kernel_rfl), hK'⟩
    have hcl : w16.cell? ⟨g, i, none⟩ = cur[i]? := by simp [World.cell?, hg]
    rw [Nat.zero_add, hcl, ← Array.getElem?_toList]
    have : (cur.toList.take bs.length)[i]? = cur.toList[i]? := List.getElem?_take_of_lt hi
    rw [← this, htake, u8s, List.getElem?_map, List.getElem?_eq_getElem hi]
    simp [List.getD_eq_getElem?_getD, hi]
end Go.Proofs.Ytmlhdmnnijapjaa.V
