/- Colours and the grey ones: the cells they lie in, and the operations. No condition. -/
import Derived.Test.YtmlhdmnnijapjaaGMark
import Derived.Test.YtmlhdmnnijapjaaSl
import Derived.Test.YtmlhdmnnijapjaaBase
namespace Go.Proofs.Ytmlhdmnnijapjaa.V
open Go Go.RowKit

/-- Colours, and the grey ones in their row. -/
structure Mw (w : World) (wb : Nat) (a : Option Addr) (c : Nat) (cs : List Int) (qa : Option Addr) (qc : Nat) (queue : List Int) : Prop where
  hd : Blk w wb [.slice a cs.length c, .slice qa queue.length qc]
  C : SI w a c cs
  Q : SI w qa qc queue
  n1 : wb ∉ ablk a
  n2 : wb ∉ ablk qa
  n3 : Apart (ablk a) (ablk qa)

section
variable {w w' : World} {wb : Nat} {a qa : Option Addr} {c qc : Nat} {cs queue : List Int} {S : List Nat}

theorem Mw.low (h : Mw w wb a c cs qa qc queue) : wb < w.heap.size ∧ Low (ablk a) w.heap.size ∧ Low (ablk qa) w.heap.size := ⟨h.hd.lt, h.C.low, h.Q.low⟩
theorem Mw.fr (h : Mw w wb a c cs qa qc queue) (f : Fr S w w') (h1 : wb ∉ S) (h2 : Apart (ablk a) S) (h3 : Apart (ablk qa) S) : Mw w' wb a c cs qa qc queue :=
  ⟨h.hd.fr f h1, h.C.fr f h2, h.Q.fr f h3, h.n1, h.n2, h.n3⟩

theorem mhas_c (h : Mw w wb a c cs qa qc queue) (ref : Int) {K : Int → World → Prop} (hK : K (if 0 ≤ ref ∧ ref < (cs.length : Int) then 0 else 1102) w) : C41 (some ⟨wb, 0, none⟩) ref w K := by
  refine r_f41 _ _ _ _ (IfB.dec (fun h1 => ?_) (fun h1 => ⟨_, _, _, h.hd.cell rfl, IfB.dec (fun h2 => ?_) (fun h2 => ?_)⟩))
  · rw [if_neg (by omega)] at hK; exact hK
  · rw [if_neg (by omega)] at hK; exact hK
  · rw [if_pos (by omega)] at hK; exact hK

/-- One more becomes grey. -/
theorem mpush_c (h : Mw w wb a c cs qa qc queue) (hq : queue.length ≤ 1000000) (x : Int) {K : World → Prop} (hK : ∀ w' qa' qc', Mw w' wb a c cs qa' qc' (queue ++ [x]) → Fr (wb :: ablk qa) w w' → Grw (ablk qa) (ablk qa') w.heap.size → K w') : C42 (some ⟨wb, 1, none⟩) x w K := by
  refine r_f42 _ _ _ _ _ ⟨_, _, _, h.hd.cell rfl, fun b2 w3 n3 => ?_⟩
  obtain ⟨rfl, rfl⟩ := n3
  refine append_int (P := Try.prog) (t := 38) (e := 3) (i := Try.t3) (by kernel_rfl) (by kernel_rfl) rfl rfl h.Q x 3 (by omega) (by decide) 38 fun a4 c4 w4 Q4 f4 g4 => ?_
  obtain ⟨l0, l1, l2⟩ := h.low
  have hd4 := h.hd.fr f4 h.n2
  refine ⟨hd4.may (by simp), fun w6 s6 => ?_⟩
  have B6 := s6.blk hd4
  have f6 : Fr [wb] w4 w6 := s6.fr (by simp)
  have n2' : wb ∉ ablk a4 := fun hb => by
    rcases g4 wb hb with q | q
    · exact h.n2 q
    · omega
  have ap : Apart (ablk a) [wb] := fun b hb hb2 => by simp at hb2; subst hb2; exact h.n1 hb
  have ap4 : Apart (ablk a4) [wb] := fun b hb hb2 => by simp at hb2; subst hb2; exact n2' hb
  exact hK w6 a4 c4 ⟨by rw [List.length_append]; simpa using B6, (h.C.fr f4 h.n3).fr f6 ap, Q4.fr f6 ap4, h.n1, n2', fun b hb hb2 => by
    rcases g4 b hb2 with q | q
    · exact h.n3 b hb q
    · have := l1 b hb; omega⟩ ((f4.mono (fun k hk => .inl (by simp [hk]))).trans f6 (fun k hk => .inl (by simp at hk; simp [hk]))) g4

/-- The first one is taken. -/
theorem mpop_c (h : Mw w wb a c cs qa qc queue) {K : Int → Bool → World → Prop} (hno : queue = [] → K 0 false w) (hok : ∀ f q', queue = f :: q' → ∀ w' qa' qc', Mw w' wb a c cs qa' qc' q' → Fr [wb] w w' → ablk qa' = ablk qa → K f true w') : C43 (some ⟨wb, 1, none⟩) w K := by
  refine r_f43 _ _ _ _ ⟨_, _, _, h.hd.cell rfl, IfB.dec (fun h0 => hno (List.eq_nil_of_length_eq_zero (by omega))) (fun h0 => fun w2 d2 => ?_)⟩
  cases queue with
  | nil => exact absurd rfl h0
  | cons f q' =>
    have h2 := h.fr (d2.fr []) (by simp) (by intro b _; simp) (by intro b _; simp)
    have hl : (f :: q').length = q'.length + 1 := rfl
    refine ⟨_, _, _, h2.hd.cell rfl, h2.Q.get (i := 0) (by decide) (by omega) fun p hp => ⟨⟨by decide, by omega⟩, _, hp, _, _, _, h2.hd.cell rfl, ⟨by decide, by omega⟩, h2.hd.may (by simp), fun w7 s7 => ?_⟩⟩
    have B7 := s7.blk h2.hd
    have f7 : Fr [wb] w2 w7 := s7.fr (by simp)
    obtain ⟨C1, ea⟩ := h2.Q.cut (lo := 1) (hi := (f :: q').length) (by omega) (Nat.le_refl _)
    have e1 : ((f :: q').drop 1).take ((f :: q').length - 1) = q' := by simp
    rw [e1] at C1
    have t1 : Int.toNat 1 = 1 := rfl
    have apa : Apart (ablk a) [wb] := fun b hb hb2 => by simp at hb2; subst hb2; exact h.n1 hb
    have apq : Apart (ablk (Adv qa qc 1 1)) [wb] := fun b hb hb2 => by simp at hb2; subst hb2; rw [ea] at hb; exact h.n2 hb
    exact hok f q' rfl w7 (Adv qa qc 1 1) (qc - 1) ⟨by simpa [t1] using B7, h2.C.fr f7 apa, C1.fr f7 apq, h.n1, by rw [ea]; exact h.n2, by rw [ea]; exact h.n3⟩ ((d2.fr _).more f7) ea

/-- A colour turns. -/
theorem Mw.paint (h : Mw w wb a c cs qa qc queue) {i v : Int} (C' : SI w' a c (cs.set i.toNat v)) (f : Fr (ablk a) w w') : Mw w' wb a c (cs.set i.toNat v) qa qc queue :=
  ⟨by rw [List.length_set]; exact h.hd.fr f h.n1, C', h.Q.fr f (fun b hb hb2 => h.n3 b hb2 hb), h.n1, h.n2, h.n3⟩

theorem mreset_c (h : Mw w wb a c cs qa qc queue) (hl : cs.length ≤ 1000000) {K : World → Prop} (hK : ∀ w', Mw w' wb a c (List.replicate cs.length 1) none 0 [] → Fr (wb :: ablk a) w w' → K w') : C26 (some ⟨wb, 0, none⟩) w K := by
  refine r_f26 _ _ _ ⟨h.hd.mayL (by simp), fun w1 s1 => ?_⟩
  have B1 := s1.blk h.hd
  have f1 : Fr [wb] w w1 := s1.fr h.hd (by simp) (by simp)
  have apa : Apart (ablk a) [wb] := fun b hb hb2 => by simp at hb2; subst hb2; exact h.n1 hb
  have h1 : Mw w1 wb a c cs none 0 [] := ⟨by simpa using B1, h.C.fr f1 apa, SI.nil _, h.n1, by simp [ablk], by simp [Apart, ablk]⟩
  refine ⟨_, _, _, h1.hd.cell rfl, ?_⟩
  refine ⟨fun i w' => 0 ≤ i ∧ i ≤ cs.length ∧ ∃ cs', cs'.length = cs.length ∧ (∀ j : Nat, j < i → cs'.getD j 0 = 1) ∧ Mw w' wb a c cs' none 0 [] ∧ Fr (wb :: ablk a) w w', fun i _ => (cs.length - i).toNat, ⟨by decide, by omega, cs, rfl, fun j hj => by omega, h1, f1.mono (by simp)⟩, ?_⟩
  rintro - i w2 ⟨hi0, hi1, cs2, hl2, hp2, h2, f2⟩
  refine IfB.dec (fun hlt => ⟨_, _, _, h2.hd.cell rfl, h2.C.put hi0 (by omega) 1 fun p m _ s => ⟨⟨hi0, by omega⟩, m, fun w3 c3 => ?_⟩⟩) (fun hge => ?_)
  · obtain ⟨C3, f3⟩ := s w3 c3
    refine ⟨fit64 (by omega) (by omega), ⟨by omega, by omega, _, by rw [List.length_set]; exact hl2, fun j hj => ?_, h2.paint C3 f3, f2.trans f3 (fun k hk => .inl (by simp [hk]))⟩, by dsimp only; omega⟩
    rw [List.getD_eq_getElem?_getD, List.getElem?_set]
    split
    · rw [if_pos (by omega)]; rfl
    · rw [← List.getD_eq_getElem?_getD]; exact hp2 j (by omega)
  · have e : cs2 = List.replicate cs.length 1 := by
      apply List.ext_getElem (by simp [hl2])
      intro j g1 g2
      have := hp2 j (by omega)
      rw [List.getD_eq_getElem?_getD, List.getElem?_eq_getElem g1] at this
      simpa using this
    rw [e] at h2
    exact hK w2 h2 f2
end
end Go.Proofs.Ytmlhdmnnijapjaa.V
