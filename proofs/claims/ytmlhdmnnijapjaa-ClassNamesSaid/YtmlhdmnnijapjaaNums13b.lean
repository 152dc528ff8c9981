/- Which numbers may be written. No condition. -/
import Derived.Test.YtmlhdmnnijapjaaNums13
namespace Go.Proofs.Ytmlhdmnnijapjaa.V
open Go Go.RowKit Go.Proofs.Ytmlhdmnnijapjaa.WirePlain

theorem tiny_names : nameOK tinyC.name = true ∧ nameOK tinyM.name = true := ⟨by kernel_rfl, by kernel_rfl⟩
theorem fits_fix : fitsI 0 = true ∧ fitsI 11 = true ∧ fitsI 29 = true ∧ fitsI 1 = true := by decide
theorem fitsI_dec (x : Int) : fitsI x = decide (-2147483648 ≤ x ∧ x ≤ 2147483647) := rfl

theorem classNumbers_c {W : World} (wh x : Int) (hx : I6 x) {K : Bool → World → Prop} (hK : ∀ w', Fr [] W w' → K true w') : C13 wh x W K := by
  refine r_f13 _ _ _ _ (awake_c fun w2 f2 => ifb_nyes rfl (tiny_c fun bi bm bc w5 T5 f5 => ?_))
  intro b6 w7 n6
  refine ⟨n6.blk.mayL (by simp), fun w8 s8 => ?_⟩
  obtain ⟨B8, f8⟩ := newSet n6 s8 rfl
  have g8 : Fr [] W w8 := (f2.more (f5 [])).more (f8 [])
  have g6 := n6.ge
  have li := T5.i.lt
  have lm := T5.m.lt
  have lc := T5.c.lt
  have nn := T5.ne
  have Ti := T5.i.fr (f8 []) (by simp)
  have Tm := T5.m.fr (f8 []) (by simp)
  have Tc := T5.c.fr (f8 []) (by simp)
  have l2 := T5.ge
  have sz2 := f2.size
  have l6 := B8.lt
  clear T5
  refine ⟨_, _, _, B8.cell rfl, PtrOK.of rfl ⟨by decide, _, _, _, by rw [at0]; exact Tc.cell rfl, PtrOK.of rfl ⟨by decide, ?_⟩⟩⟩
  refine ⟨fun b w' => b = fitsI x ∧ w' = w8, ?_, ?_⟩
  · refine IfB.dec (fun h1 => ⟨?_, rfl⟩) (fun h1 => ⟨?_, rfl⟩)
    · rw [fitsI_dec, decide_eq_decide]; omega
    · rw [fitsI_dec, decide_eq_false]; omega
  rintro - b14 w15 ⟨rfl, rfl⟩
  have i0 : I6 0 := by unfold I6; omega
  have i11 : I6 11 := by unfold I6; omega
  have i29 : I6 29 := by unfold I6; omega
  have nl : ∀ {k : Nat} {α : Type} {R : List Value → α → Prop} {w : World}, rSeq Al False w k R none 0 ([] : List α) := rSeq.nil
  have base := one_ok (main := 11) (sup := 0) (cn := tinyC.name) (fl := []) (st := []) (mn := tinyM.name) (ret := 0) (locs := 0) (stk := 0) (i := ⟨29, 0, 0⟩) (tab := []) (maps := [])
  obtain ⟨m1, m2⟩ := tiny_names
  obtain ⟨z0, z11, z29, z1⟩ := fits_fix
  have lay0 : ∀ {α : Type} (n : Nat) (one : α → Wr), Cln (layW n one []) := fun n one => ⟨by simp [layW, Wr.app, numW, seqW, Wr.nil], by simp [layW, Wr.app, numW, seqW, Wr.nil], by simp [layW, Wr.app, numW, seqW, Wr.nil, fitsI]⟩
  have R0 : roomB 0 0 = false := by decide
  have lf : ∀ n, layW n fldW [] = layW n fldW ([] : List Fld) := fun _ => rfl
  have end_ : ∀ {S : List Nat} {w' : World}, Fr S w15 w' → (∀ k ∈ S, W.heap.size ≤ k) → Fr [] W w' := fun f h => g8.trans f (fun k hk => .inr (h k hk))
  refine ⟨fun b w' => Asked W 1402 b6 b w', ?_, ?_⟩
  · refine IfB.dec (fun _ => ⟨B8.may (by simp), fun w' s => ?_⟩) (fun _ => IfB.dec (fun _ => ⟨_, _, _, B8.cell rfl, PtrOK.of rfl ⟨by decide, by rw [at0]; exact Tc.may (by simp), fun w' s => ?_⟩⟩) (fun _ => IfB.dec (fun _ => ⟨by rw [at0]; exact Tm.may (by simp), fun w' s => ?_⟩) (fun _ =>
      IfB.dec (fun _ => ⟨_, _, _, by rw [at0]; exact Tm.cell rfl, PtrOK.of rfl ⟨by decide, by rw [at0]; exact Ti.may (by simp), fun w' s => ?_⟩⟩) (fun _ => IfB.dec (fun _ b27 w28 n27 b29 w30 n29 => ?_) (fun _ => IfB.dec (fun _ b32 w33 n32 => ?_) (fun _ =>
      IfB.dec (fun _ => ⟨by rw [at0]; exact Tm.may (by simp), fun w' s => ?_⟩) (fun _ => ⟨by rw [at0]; exact Tm.may (by simp), fun w' s => ?_⟩)))))))
    · have f := s.fr (S := [b6]) (by simp)
      refine ⟨⟨oneP x 0 tinyC.name [] [] (oneM tinyM.name 0 0 0 ⟨29, 0, 0⟩ [] []), _, s.blk B8, one_rep (Ti.fr f (by simp; omega)) (Tm.fr f (by simp; omega)) (Tc.fr f (by simp; omega)) nl nl nl nl, one_ok hx i0 (by simp) (by simp) i0 i0 i0 ⟨i29, i0, i0⟩ (by simp) (by simp), one_sm (by simp) (by simp) (by simp) (by simp) (by simp), ?_⟩, end_ f (by simp; omega)⟩
      refine one_asked (one_len _ _ _ _ _ _) ?_ ?_ ?_ rfl
      · rw [one_many]; simp [(lay0 _ _).1]
      · rw [one_nm]; simp [(lay0 _ _).2.1, m1, m2]
      · rw [one_fm]; simp [(lay0 _ _).2.2, z0, z11, z29, R0]
    · rw [at0] at s
      have f := s.fr (S := [bc]) (by simp)
      refine ⟨⟨oneP 11 x tinyC.name [] [] (oneM tinyM.name 0 0 0 ⟨29, 0, 0⟩ [] []), _, B8.fr f (by simp; omega), one_rep (Ti.fr f (by simp; omega)) (Tm.fr f (by simp; omega)) (s.blk Tc) nl nl nl nl, one_ok i11 hx (by simp) (by simp) i0 i0 i0 ⟨i29, i0, i0⟩ (by simp) (by simp), one_sm (by simp) (by simp) (by simp) (by simp) (by simp), ?_⟩, end_ f (by simp; omega)⟩
      refine one_asked (one_len _ _ _ _ _ _) ?_ ?_ ?_ rfl
      · rw [one_many]; simp [(lay0 _ _).1]
      · rw [one_nm]; simp [(lay0 _ _).2.1, m1, m2]
      · rw [one_fm]; simp [(lay0 _ _).2.2, z0, z11, z29, R0]
    · rw [at0] at s
      have f := s.fr (S := [bm]) (by simp)
      refine ⟨⟨oneP 11 0 tinyC.name [] [] (oneM tinyM.name x 0 0 ⟨29, 0, 0⟩ [] []), _, B8.fr f (by simp; omega), one_rep (Ti.fr f (by simp; omega)) (s.blk Tm) (Tc.fr f (by simp; omega)) nl nl nl nl, one_ok i11 i0 (by simp) (by simp) hx i0 i0 ⟨i29, i0, i0⟩ (by simp) (by simp), one_sm (by simp) (by simp) (by simp) (by simp) (by simp), ?_⟩, end_ f (by simp; omega)⟩
      refine one_asked (one_len _ _ _ _ _ _) ?_ ?_ ?_ rfl
      · rw [one_many]; simp [(lay0 _ _).1]
      · rw [one_nm]; simp [(lay0 _ _).2.1, m1, m2]
      · rw [one_fm]; simp [(lay0 _ _).2.2, z0, z11, z29, R0]
    · rw [at0] at s
      have f := s.fr (S := [bi]) (by simp)
      refine ⟨⟨oneP 11 0 tinyC.name [] [] (oneM tinyM.name 0 0 0 ⟨x, 0, 0⟩ [] []), _, B8.fr f (by simp; omega), one_rep (s.blk Ti) (Tm.fr f (by simp; omega)) (Tc.fr f (by simp; omega)) nl nl nl nl, one_ok i11 i0 (by simp) (by simp) i0 i0 i0 ⟨hx, i0, i0⟩ (by simp) (by simp), one_sm (by simp) (by simp) (by simp) (by simp) (by simp), ?_⟩, end_ f (by simp; omega)⟩
      refine one_asked (one_len _ _ _ _ _ _) ?_ ?_ ?_ rfl
      · rw [one_many]; simp [(lay0 _ _).1]
      · rw [one_nm]; simp [(lay0 _ _).2.1, m1, m2]
      · rw [one_fm]; simp [(lay0 _ _).2.2, z0, z11, z29, R0]
    · have f30 : Fr [] w15 w30 := (n27.fr []).more (n29.fr [])
      have gm := n27.ge
      have gm2 := n29.ge
      have l27 := n27.blk.lt
      refine ⟨by rw [at0]; exact (Tm.fr f30 (by simp)).may (by simp), fun w' s => ?_⟩
      rw [at0] at s
      have f := s.fr (S := [bm]) (by simp)
      have X := (n27.blk.fr (n29.fr []) (by simp)).fr f (by simp; omega)
      have Y := n29.blk.fr f (by simp; omega)
      refine ⟨⟨oneP 11 0 tinyC.name [] [] (oneM tinyM.name 0 0 0 ⟨29, 0, 0⟩ [] [⟨x, [], [x]⟩]), _, (B8.fr f30 (by simp)).fr f (by simp; omega), one_rep ((Ti.fr f30 (by simp)).fr f (by simp; omega)) (s.blk (Tm.fr f30 (by simp))) ((Tc.fr f30 (by simp)).fr f (by simp; omega)) nl (rSeq.one Y trivial rfl ⟨_, _, _, _, _, _, rfl, nl, rSeq.one X trivial rfl rfl⟩) nl nl,
        one_ok i11 i0 (by simp) (by simp) i0 i0 i0 ⟨i29, i0, i0⟩ (by simp) (by simp only [List.mem_singleton, forall_eq]; exact ⟨hx, by simp, by simpa using hx⟩), one_sm (by simp) (by simp) (by simp) (by simp) (by simp), ?_⟩, end_ ((f30.mono (S' := [bm]) (by simp)).more f) (by simp; omega)⟩
      refine one_asked (one_len _ _ _ _ _ _) ?_ ?_ ?_ rfl
      · rw [one_many]; simp [(lay0 _ _).1, layW, seqW, mpeW, Wr.app, numW, Wr.nil]
      · rw [one_nm]; simp [(lay0 _ _).2.1, m1, m2, layW, seqW, mpeW, Wr.app, numW, Wr.nil]
      · rw [one_fm]; simp [(lay0 _ _).2.2, z0, z11, z29, R0, z1, layW, seqW, mpeW, Wr.app, numW, Wr.nil]
    · have f33 : Fr [] w15 w33 := n32.fr []
      have gm := n32.ge
      refine ⟨by rw [at0]; exact (Tm.fr f33 (by simp)).may (by simp), fun w' s => ?_⟩
      rw [at0] at s
      have f := s.fr (S := [bm]) (by simp)
      have X := n32.blk.fr f (by simp; omega)
      refine ⟨⟨oneP 11 0 tinyC.name [] [] (oneM tinyM.name 0 0 0 ⟨29, 0, 0⟩ [⟨x, 0, 0, x⟩] []), _, (B8.fr f33 (by simp)).fr f (by simp; omega), one_rep ((Ti.fr f33 (by simp)).fr f (by simp; omega)) (s.blk (Tm.fr f33 (by simp))) ((Tc.fr f33 (by simp)).fr f (by simp; omega)) (rSeq.one X trivial rfl rfl) nl nl nl,
        one_ok i11 i0 (by simp) (by simp) i0 i0 i0 ⟨i29, i0, i0⟩ (by simp only [List.mem_singleton, forall_eq]; exact ⟨hx, i0, i0, hx⟩) (by simp), one_sm (by simp) (by simp) (by simp) (by simp) (by simp), ?_⟩, end_ ((f33.mono (S' := [bm]) (by simp)).more f) (by simp; omega)⟩
      refine one_asked (one_len _ _ _ _ _ _) ?_ ?_ ?_ rfl
      · rw [one_many]; simp [(lay0 _ _).1, layW, seqW, hndW, Wr.app, numW, Wr.nil]
      · rw [one_nm]; simp [(lay0 _ _).2.1, m1, m2, layW, seqW, hndW, Wr.app, numW, Wr.nil]
      · rw [one_fm]; simp [(lay0 _ _).2.2, z0, z11, z29, R0, z1, layW, seqW, hndW, Wr.app, numW, Wr.nil]
    · rw [at0] at s
      have f := s.fr (S := [bm]) (by simp)
      have key : ∀ b, (!b) = (roomB x 0 || !fitsI x) → Asked W 1402 b6 b w' := fun b hb => by
        refine ⟨⟨oneP 11 0 tinyC.name [] [] (oneM tinyM.name 0 x 0 ⟨29, 0, 0⟩ [] []), _, B8.fr f (by simp; omega), one_rep (Ti.fr f (by simp; omega)) (s.blk Tm) (Tc.fr f (by simp; omega)) nl nl nl nl, one_ok i11 i0 (by simp) (by simp) i0 hx i0 ⟨i29, i0, i0⟩ (by simp) (by simp), one_sm (by simp) (by simp) (by simp) (by simp) (by simp), ?_⟩, end_ f (by simp; omega)⟩
        refine one_asked (one_len _ _ _ _ _ _) ?_ ?_ ?_ rfl
        · rw [one_many]; simp [(lay0 _ _).1]
        · rw [one_nm]; simp [(lay0 _ _).2.1, m1, m2]
        · rw [one_fm, hb]; simp [(lay0 _ _).2.2, z0, z11, z29, R0]
      refine IfB.dec (fun h0 => key _ ?_) (fun h0 => key _ ?_)
      · rw [Bool.eq_iff_iff]; simp [roomB, fitsI]; omega
      · rw [Bool.eq_iff_iff]; simp [roomB, fitsI]; omega
    · rw [at0] at s
      have f := s.fr (S := [bm]) (by simp)
      have key : ∀ b, (!b) = (roomB 0 x || !fitsI x) → Asked W 1402 b6 b w' := fun b hb => by
        refine ⟨⟨oneP 11 0 tinyC.name [] [] (oneM tinyM.name 0 0 x ⟨29, 0, 0⟩ [] []), _, B8.fr f (by simp; omega), one_rep (Ti.fr f (by simp; omega)) (s.blk Tm) (Tc.fr f (by simp; omega)) nl nl nl nl, one_ok i11 i0 (by simp) (by simp) i0 i0 hx ⟨i29, i0, i0⟩ (by simp) (by simp), one_sm (by simp) (by simp) (by simp) (by simp) (by simp), ?_⟩, end_ f (by simp; omega)⟩
        refine one_asked (one_len _ _ _ _ _ _) ?_ ?_ ?_ rfl
        · rw [one_many]; simp [(lay0 _ _).1]
        · rw [one_nm]; simp [(lay0 _ _).2.1, m1, m2]
        · rw [one_fm, hb]; simp [(lay0 _ _).2.2, z0, z11, z29, R0]
      refine IfB.dec (fun h0 => key _ ?_) (fun h0 => key _ ?_)
      · rw [Bool.eq_iff_iff]; simp [roomB, fitsI]; omega
      · rw [Bool.eq_iff_iff]; simp [roomB, fitsI]; omega
  rintro - b17 w18 A
  exact A.run hK
end Go.Proofs.Ytmlhdmnnijapjaa.V
