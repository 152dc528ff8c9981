/- The law's own program, and what every program answers that is one. No condition. -/
import Derived.Test.YtmlhdmnnijapjaaClassU
import Derived.Test.YtmlhdmnnijapjaaClassZ
import Derived.Test.YtmlhdmnnijapjaaClassF
import Derived.Test.YtmlhdmnnijapjaaClassD
import Derived.Test.YtmlhdmnnijapjaaGClsL
namespace Go.Proofs.Ytmlhdmnnijapjaa.V
open Go Go.RowKit Go.Proofs.Ytmlhdmnnijapjaa.WirePlain

def tinyM : Mth := ⟨ByteArray.mk #[109, 97, 105, 110], true, [], 0, 0, 0, [⟨29, 0, 0⟩], [], []⟩
def tinyC : Cls := ⟨ByteArray.mk #[77], false, false, 0, [], [], [], [tinyM]⟩
def tinyP : Prg := ⟨11, [tinyC]⟩

theorem rSeq.one {α : Type} {U : Nat → Prop} {m : Prop} {w : World} {k : Nat} {R : List Value → α → Prop} {b : Nat} {cs : List Value} {x : α} (B : Blk w b cs) (hU : U b) (hk : cs.length = k) (hR : R cs x) : rSeq U m w k R (some ⟨b, 0, none⟩) 1 [x] := by
  refine ⟨rfl, fun i y hy => ?_⟩
  have hi : i < 1 := (List.getElem?_eq_some_iff.1 hy).1
  obtain rfl : i = 0 := by omega
  simp at hy
  subst hy
  refine ⟨_, cs, rfl, hU, B.lt, hk, ?_, fun _ j hj => ?_, hR⟩
  · rw [Nat.zero_mul, add0]; exact B.cells
  · rw [Nat.zero_mul, add0, addr_add, Nat.zero_add]; exact B.may (by omega)

/-- The program in memory. -/
structure TinyAt (n : Nat) (w : World) (bi bm bc : Nat) : Prop where
  i : Blk w bi [.int .i64 29, .int .i64 0, .int .i64 0]
  m : Blk w bm [.string tinyM.name, .bool true, .slice none 0 0, .int .i64 0, .int .i64 0, .int .i64 0, .slice (some ⟨bi, 0, none⟩) 1 1, .slice none 0 0, .slice none 0 0]
  c : Blk w bc [.string tinyC.name, .bool false, .bool false, .int .i64 0, .slice none 0 0, .slice none 0 0, .slice none 0 0, .slice (some ⟨bm, 0, none⟩) 1 1]
  ge : n ≤ bi ∧ n ≤ bm ∧ n ≤ bc
  ne : bi ≠ bm ∧ bi ≠ bc ∧ bm ≠ bc

theorem tiny_c {w : World} {K : Int → Option Addr → Nat → Nat → World → Prop} (hK : ∀ bi bm bc w', TinyAt w.heap.size w' bi bm bc → (∀ S, Fr S w w') → K 11 (some ⟨bc, 0, none⟩) 1 1 w') : C37 w K := by
  refine r_f37 _ _ fun b1 w2 n1 b3 w4 n3 b5 w6 n5 => ⟨n5.blk.mayL (by simp), fun w7 s7 => ?_⟩
  obtain ⟨B7, f7⟩ := newSet n5 s7 rfl
  refine ⟨_, _, _, _, _, _, _, _, _, _, _, _, _, _, _, _, _, B7.cells, fun b17 w18 n17 b19 w20 n19 => ?_⟩
  have f2 := n1.fr []
  have f4 := n3.fr []
  have f18 := n17.fr []
  have f20 := n19.fr []
  have B1 : Blk w20 b1 _ := (((n1.blk.fr f4 (by simp)).fr (f7 []) (by simp)).fr f18 (by simp)).fr f20 (by simp)
  refine ⟨B1.mayL (by simp), fun w21 s21 => ?_⟩
  obtain ⟨B21, f21⟩ := setAll' s21 B1 rfl
  have l1 := n1.blk.lt
  have l3 := n3.blk.lt
  have l7 := (f7 []).size
  have l17 := n17.blk.lt
  have g1 := n1.ge
  have g3 := n3.ge
  have g5 := n5.ge
  have g17 := n17.ge
  have g19 := n19.ge
  refine ⟨_, _, _, _, B21.cells, hK b3 b17 b19 w21 ⟨?_, ?_, ?_, by have := f4.size; omega, by omega⟩ fun S => ?_⟩
  · exact (((n3.blk.fr (f7 []) (by simp)).fr f18 (by simp)).fr f20 (by simp)).fr f21 (by simp; omega)
  · exact (n17.blk.fr f20 (by simp)).fr f21 (by simp; omega)
  · exact n19.blk.fr f21 (by simp; omega)
  · have := ((((f2.more f4).more (f7 [])).more f18).more f20).trans f21 (fun k hk => .inr (by simp at hk; omega))
    exact this.mono (by simp)
where
  setAll' {w w' : World} {b : Nat} {cs vs : List Value} (h : SetL w w' ⟨b, 0, none⟩ vs) (hb : Blk w b cs) (hl : vs.length = cs.length) : Blk w' b vs ∧ Fr [b] w w' := by
    unfold SetL at h
    subst h
    obtain ⟨g1, g2⟩ := setL_blk vs 0 w cs b 0 hb (by omega)
    refine ⟨?_, g2⟩
    have : cs.drop (0 + 0 + vs.length) = [] := by rw [List.drop_eq_nil_iff]; omega
    rw [this] at g1
    simpa using g1

theorem TinyAt.rep {n : Nat} {w : World} {bi bm bc : Nat} (h : TinyAt n w bi bm bc) {m : Prop} {U : Nat → Prop} (hU : ∀ b, n ≤ b → U b) : rSeq U m w 8 (RCls U m w) (some ⟨bc, 0, none⟩) 1 tinyP.clss :=
  rSeq.one h.c (hU _ h.ge.2.2) rfl ⟨none, 0, 0, none, 0, 0, none, 0, 0, _, _, _, rfl, rSeq.nil, rSeq.nil, rSeq.nil, rSeq.one h.m (hU _ h.ge.2.1) rfl
    ⟨none, 0, 0, _, _, _, none, 0, 0, none, 0, 0, rfl, rSeq.nil, rSeq.one h.i (hU _ h.ge.1) rfl rfl, rSeq.nil, rSeq.nil⟩⟩

theorem tiny_cln : Cln (encW tinyP) := ⟨by kernel_rfl, by kernel_rfl, by kernel_rfl⟩
theorem tiny_len : (magicN ++ (encW tinyP).bs).length = 30 := by kernel_rfl
theorem tiny_enc : (encP tinyP).2 = 0 := encP_of tiny_cln (by rw [tiny_len]; decide)
theorem I6_of {x : Int} (h : -9223372036854775808 ≤ x ∧ x ≤ 9223372036854775807) : I6 x := h
theorem tinyP_ok : tinyP.ok := by
  simp only [tinyP, tinyC, tinyM, Prg.ok, Cls.ok, Mth.ok, Ins.ok, I6, List.mem_singleton, forall_eq, List.not_mem_nil, false_implies, implies_true, and_true, true_and]
  decide
theorem tinyP_sm : tinyP.sm := by
  simp only [tinyP, tinyC, tinyM, Prg.sm, Cls.sm, Mth.sm, smL, List.mem_singleton, forall_eq, List.not_mem_nil, false_implies, implies_true, and_true, true_and, List.length_nil, List.length_cons]
  decide

theorem rPrg.al {U : Nat → Prop} {m : Prop} {w w' : World} {n : Int} {a : Option Addr} {l : Nat} {x : Prg} (h : rPrg U m w n a l x) (f : Fr [] w w') : rSeq Al m w' 8 (RCls Al m w') a l x.clss :=
  rel_seq rel_cls h.2 (SameU.of_fr f (by simp)) f.size fun _ _ _ => trivial
theorem al_more {m : Prop} {w w' : World} {a : Option Addr} {l : Nat} {xs : List Cls} (h : rSeq Al m w 8 (RCls Al m w) a l xs) (f : Fr [] w w') : rSeq Al m w' 8 (RCls Al m w') a l xs :=
  rel_seq rel_cls h (SameU.of_fr f (by simp)) f.size fun _ _ _ => trivial

theorem awake_c {w : World} {K : Bool → World → Prop} (hK : ∀ w', Fr [] w w' → K true w') : C33 w K := by
  refine r_f33 _ _ (tiny_c fun bi bm bc w3 T3 f3 => ?_)
  have D3 := T3.rep (m := True) (U := Al) fun _ _ => trivial
  refine encode_c tinyP tinyP_ok ⟨rfl, D3⟩ fun w6 f6 => ?_
  obtain ⟨e1, e2, e3⟩ := encP_ok tiny_enc
  have hsz : (encP tinyP).1.size = 30 := by rw [← nats_length, e3, tiny_len]
  have hd0 := dec_enc0 tiny_enc
  rw [tiny_enc]
  refine decode_c _ fun w11 m a l c P11 f11 => ?_
  rw [hd0] at P11 ⊢
  intro b12 w13 n12
  refine ⟨n12.blk.mayL (by simp), fun w14 s14 => ?_⟩
  obtain ⟨B14, f14⟩ := newSet n12 s14 rfl
  have hx1 : (encP tinyP).1.size + (ByteArray.mk #[120]).size ≤ 9223372036854775807 := by rw [hsz]; decide
  refine ⟨hx1, decode_c _ fun w19 m' a' l' c' P19 f19 => ?_⟩
  have hd1 := dec_enc_tail tiny_enc [120] (s := (encP tinyP).1 ++ ByteArray.mk #[120]) (by rw [nats_append]; rfl) (by rw [ByteArray.size_append, hsz]; decide)
  rw [if_neg (by simp)] at hd1
  rw [hd1]
  intro b20 w21 n20
  refine ⟨n20.blk.mayL (by simp), fun w22 s22 => ?_⟩
  obtain ⟨_, f22⟩ := newSet n20 s22 rfl
  refine decode_c _ fun w27 m2 a2 l2 c2 P27 f27 => ?_
  have hd2 : decP (ByteArray.mk #[71, 78, 83]) = (prg0, 0, 1400) := by
    have h3 : (ByteArray.mk #[71, 78, 83]).size = 3 := rfl
    unfold decP
    rw [if_neg (by rw [h3]; decide), if_pos (fun h => by have := h.1; rw [h3] at this; omega)]
  rw [hd2]
  intro b28 w29 n28
  refine ⟨n28.blk.mayL (by simp), fun w30 s30 => ?_⟩
  obtain ⟨_, f30⟩ := newSet n28 s30 rfl
  intro w31 d31
  have g14 : Fr [] w14 w31 := ((((f19).more (f22 [])).more f27).more (f30 [])).more (d31.fr [])
  have gw : Fr [] w w31 := (((f3 []).more f6).more (f11.more (f14 []))).more g14
  have B31 := B14.fr g14 (by simp)
  have P31 := al_more (P11.al (f14 [])) g14
  have hm : m = 11 := P11.1
  subst hm
  have hmag : (ByteArray.toList (ByteArray.extract (encP tinyP).1 0 (Int.toNat 4)) == ByteArray.toList (ByteArray.mk #[71, 78, 83, 83])) = true := by
    rw [str_beq, decide_eq_true_eq]
    apply nats_inj
    rw [nats_extract, e3]
    rfl
  refine IfB.yes rfl (IfB.yes (by rw [hsz]; decide) ⟨by rw [hsz]; decide, ifb_yes hmag ⟨IfB.yes rfl ⟨_, _, _, _, B31.cells, tiny_c fun bi' bm' bc' w36 T36 f36 => ?_⟩, IfB.yes rfl (tiny_c fun bi' bm' bc' w36 T36 f36 => ⟨_, _, _, _, (B31.fr (f36 []) (by simp)).cells, ?_⟩)⟩⟩)
  all_goals
    refine same31 tinyP tinyP_sm (al_more P31 (f36 [])) (T36.rep (m := True) fun _ _ => trivial) fun w38 f38 => ifb_t (IfB.yes rfl (IfB.yes rfl ?_))
    rw [decide_eq_true (by rfl)]
    exact hK w38 ((gw.more (f36 [])).more (f38 []))
end Go.Proofs.Ytmlhdmnnijapjaa.V
