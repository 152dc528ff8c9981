/- A program's bytes read, or their first fault. No condition. -/
import Derived.Test.YtmlhdmnnijapjaaClassSq
namespace Go.Proofs.Ytmlhdmnnijapjaa.V
open Go Go.RowKit Go.Proofs.Ytmlhdmnnijapjaa.WirePlain

theorem dec_small (s : ByteArray) : Cln (encW (decP s).1) ∨ (decP s).1 = prg0 := by
  by_cases h : (decP s).2.2 = 0
  · exact .inl (enc_of_dec h).1
  · right
    unfold decP at h ⊢
    by_cases h1 : 32768 < s.size
    · rw [if_pos h1]
    rw [if_neg h1] at h ⊢
    by_cases h2 : magicOK s
    · rw [if_neg (by simpa using h2)] at h ⊢
      cases hp : prgD s 4 with
      | error e => rfl
      | ok r =>
        obtain ⟨x, q⟩ := r
        rw [hp] at h
        dsimp only at h ⊢
        by_cases hq : q < s.size
        · rw [if_pos hq]
        · rw [if_neg hq] at h; exact absurd rfl h
    · rw [if_pos h2]
theorem prg0_sm : prg0.sm := ⟨by simp [prg0, smL], by simp [prg0]⟩

theorem classReads_c {W : World} (s : ByteArray) {K : Bool → World → Prop} (hK : ∀ w', Fr [] W w' → K true w') : C7 s W K := by
  refine r_f7 _ _ _ (decode_c s fun w5 m a l c P5 f5 => ?_)
  intro b6 w7 n6
  refine ⟨n6.blk.mayL (by simp), fun w8 s8 => ?_⟩
  obtain ⟨B8, f8⟩ := newSet n6 s8 rfl
  refine decode_c s fun w13 m2 a2 l2 c2 P13 f13 => ?_
  intro b14 w15 n14
  refine ⟨n14.blk.mayL (by simp), fun w16 s16 => ?_⟩
  obtain ⟨B16, f16⟩ := newSet n14 s16 rfl
  refine decR_c s fun w21 m3 a3 l3 c3 P21 f21 => ?_
  intro b22 w23 n22
  refine ⟨n22.blk.mayL (by simp), fun w24 s24 => ?_⟩
  obtain ⟨B24, f24⟩ := newSet n22 s24 rfl
  have hsm : (decP s).1.sm := by
    rcases dec_small s with h | h
    · exact (cln_prg h).2
    · rw [h]; exact prg0_sm
  have hshp : ∀ {U : Nat → Prop} {w : World} {a : Option Addr} {l : Nat}, rSeq U True w 8 (RCls U True w) a l (decP s).1.clss → Shp U w 8 (HCls U 16 w) a l := fun D => by
    rcases dec_small s with h | h
    · exact shp_of h D
    · rw [h] at D
      have e : _ = ([] : List Cls).length := D.1
      exact ⟨by rw [e]; decide, fun i hi => by rw [e] at hi; simp at hi⟩
  have h1 : m = (decP s).1.main := P5.1
  have h2 : m2 = (decP s).1.main := P13.1
  have h3 : m3 = (decP s).1.main := P21.1
  generalize (decP s).1 = x at *
  subst h1
  subst h2
  subst h3
  have g16 : Fr [] w8 w16 := f13.more (f16 [])
  have g24 : Fr [] w16 w24 := f21.more (f24 [])
  have k8 : Fr [] w5 w8 := f8 []
  have B8' := (B8.fr g16 (by simp)).fr g24 (by simp)
  have B16' := B16.fr g24 (by simp)
  have D5 : ∀ {w'}, Fr [] w5 w' → rSeq (fun b => W.heap.size ≤ b ∧ b < w5.heap.size) True w' 8 (RCls (fun b => W.heap.size ≤ b ∧ b < w5.heap.size) True w') a l x.clss := fun f => rel_seq rel_cls P5.2 (SameU.of_fr f (by simp)) f.size fun b hb hl => ⟨hb, hl⟩
  have D13 : ∀ {w'}, Fr [] w13 w' → rSeq (fun b => w8.heap.size ≤ b) True w' 8 (RCls (fun b => w8.heap.size ≤ b) True w') a2 l2 x.clss := fun f => rel_seq rel_cls P13.2 (SameU.of_fr f (by simp)) f.size fun b hb _ => hb
  have D21 : ∀ {w'}, Fr [] w21 w' → rSeq (fun b => w8.heap.size ≤ b) True w' 8 (RCls (fun b => w8.heap.size ≤ b) True w') a3 l3 x.clss := fun f => rel_seq rel_cls P21.2 (SameU.of_fr f (by simp)) f.size fun b hb _ => Nat.le_trans g16.size hb
  have al : ∀ {U : Nat → Prop} {w' a l}, rSeq U True w' 8 (RCls U True w') a l x.clss → rSeq Al True w' 8 (RCls Al True w') a l x.clss := fun h => rel_seq rel_cls h (sameU_refl _ _) (Nat.le_refl _) fun _ _ _ => trivial
  refine ⟨fun w' => Fr [] w24 w', ⟨_, _, _, _, B8'.cells, _, _, _, _, B24.cells, same31 x hsm (al (D5 ((k8.more g16).more g24))) (al (D21 (f24 []))) fun w32 f32 => ifb_nyes rfl (IfB.nyes rfl (IfB.nyes rfl (IfB.nyes rfl (IfB.nyes rfl (f32 [])))))⟩, ?_⟩
  rintro - w26 f26
  have k26 : Fr [] w5 w26 := ((k8.more g16).more g24).more f26
  refine ⟨_, _, _, _, (B8'.fr f26 (by simp)).cells, spoil32 (U := fun b => W.heap.size ≤ b ∧ b < w5.heap.size) (fun b hb => Nat.lt_of_lt_of_le hb.2 k26.size) (hshp (D5 k26)) fun w35 k s35 => ?_⟩
  have u14 : ¬ (W.heap.size ≤ b14 ∧ b14 < w5.heap.size) := fun h => by
    have := n14.ge
    have := f13.size
    have := k8.size
    omega
  have u22 : ¬ (W.heap.size ≤ b22 ∧ b22 < w5.heap.size) := fun h => by
    have := n22.ge
    have := f21.size
    have := g16.size
    have := k8.size
    omega
  have C14 := s35.blk (B16'.fr f26 (by simp)) u14
  have C22 := s35.blk (B24.fr f26 (by simp)) u22
  obtain ⟨S, fS, hS⟩ := s35.fr
  have same : SameU (fun b => w8.heap.size ≤ b) w26 w35 := SameU.of_fr fS fun b hb hm => by
    have := hS b hm
    have := k8.size
    omega
  have E13 := rel_seq (U' := Al) rel_cls (D13 (((f16 []).more g24).more f26)) same fS.size fun _ _ _ => trivial
  have E21 := rel_seq (U' := Al) rel_cls (D21 ((f24 []).more f26)) same fS.size fun _ _ _ => trivial
  have gW : Fr [] W w35 := ((f5.more k26)).trans fS fun b hb => .inr (hS b hb).1
  refine ⟨_, _, _, _, C14.cells, _, _, _, _, C22.cells, same31 x hsm E13 E21 fun w41 f41 => ifb_yes rfl (awake_c fun w43 f43 => hK w43 ((gW.more (f41 [])).more f43))⟩
end Go.Proofs.Ytmlhdmnnijapjaa.V
