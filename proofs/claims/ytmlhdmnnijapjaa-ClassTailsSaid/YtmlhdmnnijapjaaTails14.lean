/- What stands behind a program's bytes. No condition. -/
import Derived.Test.YtmlhdmnnijapjaaClassA
namespace Go.Proofs.Ytmlhdmnnijapjaa.V
open Go Go.RowKit Go.Proofs.Ytmlhdmnnijapjaa.WirePlain

theorem classTails_c {W : World} {m : Prop} {a : Option Addr} {l c : Nat} (p : Prg) (hp : p.ok) (D : rPrg Al m W p.main a l p) (tail : ByteArray) (ht : tail.size ≤ 140737488351232) {K : Bool → World → Prop} (hK : ∀ w', Fr [] W w' → K true w') : C14 p.main a l c tail W K := by
  refine r_f14 _ _ _ _ _ _ _ fun b1 w2 n1 => ?_
  have f2 := n1.fr []
  refine awake_c fun w4 f4 => ifb_nyes rfl ?_
  have D4 := al_more (al_more D.2 f2) f4
  refine ⟨_, _, _, _, (n1.blk.fr f4 (by simp)).cells, encode_c p hp ⟨rfl, D4⟩ fun w9 f9 => ?_⟩
  have g9 : Fr [] W w9 := (f2.more f4).more f9
  refine ⟨fun w' => w' = w9 ∧ (encP p).2 = 0 ∧ tail.size ≠ 0 ∧ (encP p).1.size + tail.size ≤ 32768, IfB.nd (fun h1 => ?_) (fun _ => hK w9 g9), ?_⟩
  · have hz : (encP p).1.size ≤ 32768 := by obtain ⟨_, h2, h3⟩ := encP_ok h1; rw [← nats_length, h3]; exact h2
    rw [str_beq]
    refine IfB.dec (fun _ => hK w9 g9) (fun h2 => ⟨fit64 (by omega) (by omega), IfB.dec (fun _ => hK w9 g9) (fun h3 => ⟨rfl, h1, fun h0 => h2 ?_, by omega⟩)⟩)
    apply nats_inj
    rw [List.eq_nil_of_length_eq_zero (l := nats tail) (by rw [nats_length]; exact h0)]
    rfl
  rintro - w11 ⟨rfl, h1, h2, h3⟩
  refine ⟨by omega, decode_c _ fun w16 m' a' l' c' P16 f16 => ?_⟩
  have hd := dec_enc_tail h1 (nats tail) (s := (encP p).1 ++ tail) (nats_append _ _) (by rw [ByteArray.size_append]; exact h3)
  rw [if_neg (fun h => h2 (by rw [← nats_length, h]; rfl))] at hd
  rw [hd]
  intro b17 w18 n17
  refine ⟨n17.blk.mayL (by simp), fun w19 s19 => ?_⟩
  obtain ⟨_, f19⟩ := newSet n17 s19 rfl
  have hx : (ByteArray.mk #[88]).size = 1 := rfl
  refine ⟨by rw [hx]; omega, decode_c _ fun w24 m2 a2 l2 c2 P24 f24 => ?_⟩
  have hd2 : decP (ByteArray.mk #[88] ++ (encP p).1) = (prg0, 0, 1400) := by
    have hz : (ByteArray.mk #[88] ++ (encP p).1).size = 1 + (encP p).1.size := by rw [ByteArray.size_append, hx]
    have hm : ¬ magicOK (ByteArray.mk #[88] ++ (encP p).1) := fun h => by
      have h4 := h.2
      rw [nats_append] at h4
      have : nats (ByteArray.mk #[88]) = [88] := rfl
      rw [this] at h4
      simp at h4
    unfold decP
    rw [if_neg (by rw [hz]; omega), if_pos hm]
  rw [hd2]
  intro b25 w26 n25
  refine ⟨n25.blk.mayL (by simp), fun w27 s27 => ?_⟩
  obtain ⟨_, f27⟩ := newSet n25 s27 rfl
  refine IfB.yes rfl (IfB.yes rfl (IfB.yes rfl ?_))
  rw [decide_eq_true (by rfl)]
  exact hK w27 ((((g9.more f16).more (f19 [])).more f24).more (f27 []))
end Go.Proofs.Ytmlhdmnnijapjaa.V
