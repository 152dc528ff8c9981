/- What is taken is written as it stood, what is written is read as it was. No condition. -/
import Derived.Test.YtmlhdmnnijapjaaClassA
import Derived.Test.YtmlhdmnnijapjaaClassO
namespace Go.Proofs.Ytmlhdmnnijapjaa.V
open Go Go.RowKit Go.Proofs.Ytmlhdmnnijapjaa.WirePlain

theorem classBack_c {W : World} {m : Prop} {a : Option Addr} {l c : Nat} (s : ByteArray) (p : Prg) (hp : p.ok) (D : rPrg Al m W p.main a l p) {K : Bool → World → Prop} (hK : ∀ w', Fr [] W w' → K true w') : C9 s p.main a l c W K := by
  refine r_f9 _ _ _ _ _ _ _ fun b1 w2 n1 => ?_
  have f2 := n1.fr []
  refine awake_c fun w4 f4 => ifb_nyes rfl (decode_c s fun w9 m' a' l' c' P9 f9 => ?_)
  intro b10 w11 n10
  refine ⟨n10.blk.mayL (by simp), fun w12 s12 => ?_⟩
  obtain ⟨B12, f12⟩ := newSet n10 s12 rfl
  have g12 : Fr [] w2 w12 := (f4.more f9).more (f12 [])
  obtain ⟨q1, q2⟩ := dec_place s
  refine ⟨fun w' => Fr [] w2 w', IfB.dec (fun h0 => ?_) (fun h0 => IfB.no (by omega) (IfB.no (by omega) g12)), ?_⟩
  · obtain ⟨c1, e1⟩ := enc_of_dec h0
    have hm : m' = (decP s).1.main := P9.1
    subst hm
    refine ⟨_, _, _, _, B12.cells, encode_c (decP s).1 (cln_prg c1).1 ⟨rfl, P9.al (f12 [])⟩ fun w19 f19 => ?_⟩
    rw [e1]
    exact IfB.nyes rfl (ifb_nyes (by simp) (g12.more f19))
  rintro - w14 f14
  refine ⟨_, _, _, _, (n1.blk.fr f14 (by simp)).cells, encode_c p hp ⟨rfl, al_more (al_more D.2 f2) f14⟩ fun w24 f24 => ?_⟩
  have g24 : Fr [] W w24 := (f2.more f14).more f24
  refine IfB.nd (fun h1 => decode_c _ fun w29 m2 a2 l2 c2 P29 f29 => ?_) (fun h1 => by rw [encP_no h1, beq_self_eq_true]; exact hK w24 g24)
  rw [dec_enc0 h1] at P29 ⊢
  intro b30 w31 n30
  refine ⟨n30.blk.mayL (by simp), fun w32 s32 => ?_⟩
  obtain ⟨B32, f32⟩ := newSet n30 s32 rfl
  have hm : m2 = p.main := P29.1
  subst hm
  have g32 : Fr [] w2 w32 := (f14.more f24).more (f29.more (f32 []))
  have hs := (cln_prg (encP_ok h1).1).2
  refine IfB.yes rfl ⟨_, _, _, _, B32.cells, _, _, _, _, (n1.blk.fr g32 (by simp)).cells, ?_⟩
  exact same31 p hs (P29.al (f32 [])) (al_more (al_more D.2 f2) g32) fun w38 f38 => hK w38 ((f2.more g32).more (f38 []))
end Go.Proofs.Ytmlhdmnnijapjaa.V
