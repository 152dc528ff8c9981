/- Which texts are names. No condition. -/
import Derived.Test.YtmlhdmnnijapjaaNums13b
namespace Go.Proofs.Ytmlhdmnnijapjaa.V
open Go Go.RowKit Go.Proofs.Ytmlhdmnnijapjaa.WirePlain

theorem let_dec (c : Nat) : letB c = if (c : Int) = 95 then true else if (97 : Int) ≤ c ∧ (c : Int) ≤ 122 then true else decide ((65 : Int) ≤ c ∧ (c : Int) ≤ 90) := by
  rw [Bool.eq_iff_iff]
  unfold letB
  simp only [Bool.or_eq_true, Bool.and_eq_true, Nat.ble_eq, Nat.beq_eq]
  split
  · rename_i h; constructor <;> intro _ <;> first | rfl | exact .inr (by omega)
  split
  · rename_i h1 h2; constructor <;> intro _ <;> first | rfl | exact .inl (.inl (by omega))
  · rw [decide_eq_true_eq]; omega
theorem ok_dec (i c : Nat) : okB i c = (letB c || decide ((0 : Int) < i ∧ (48 : Int) ≤ c ∧ (c : Int) ≤ 57)) := by
  unfold okB
  congr 1
  rw [Bool.eq_iff_iff, decide_eq_true_eq]
  simp only [Bool.and_eq_true, Nat.ble_eq]
  omega

def nameTo (s : ByteArray) (k : Nat) : Bool := decide ((1 ≤ s.size ∧ s.size ≤ 16) ∧ ∀ j, j < k → okB j ((nats s).getD j 0) = true)
theorem nameTo_all (s : ByteArray) : nameTo s s.size = nameOK s := by
  unfold nameTo nameOK
  rw [decide_eq_decide]
  constructor
  · rintro ⟨⟨h1, h2⟩, h3⟩; exact ⟨by omega, h2, h3⟩
  · rintro ⟨h1, h2, h3⟩; exact ⟨⟨by omega, h2⟩, h3⟩
theorem nameTo_succ (s : ByteArray) (k c : Nat) (hc : (nats s).getD k 0 = c) : nameTo s (k + 1) = (nameTo s k && okB k c) := by
  subst hc
  unfold nameTo
  rw [Bool.eq_iff_iff, Bool.and_eq_true, decide_eq_true_eq, decide_eq_true_eq]
  constructor
  · rintro ⟨h1, h2⟩; exact ⟨⟨h1, fun j hj => h2 j (by omega)⟩, h2 k (by omega)⟩
  · rintro ⟨⟨h1, h2⟩, h3⟩
    refine ⟨h1, fun j hj => ?_⟩
    by_cases e : j = k
    · subst e; exact h3
    · exact h2 j (by omega)

theorem classNames_c {W : World} (name : ByteArray) (hsz : name.size ≤ 140737488351232) (wh : Int) {K : Bool → World → Prop} (hK : ∀ w', Fr [] W w' → K true w') : C12 name wh W K := by
  refine r_f12 _ _ _ _ (awake_c fun w2 f2 => ifb_nyes rfl ?_)
  refine ⟨fun b w' => b = nameTo name 0 ∧ w' = w2, ?_, ?_⟩
  · refine IfB.dec (fun h1 => ⟨?_, rfl⟩) (fun h1 => ⟨?_, rfl⟩)
    · unfold nameTo; rw [decide_eq_decide]
      exact ⟨fun h => ⟨⟨by omega, by omega⟩, fun j hj => by omega⟩, fun h => by omega⟩
    · unfold nameTo; exact (decide_eq_false (fun h => by omega)).symm
  rintro - b4 w5 ⟨rfl, rfl⟩
  refine ⟨fun b n w' => ∃ k : Nat, n = k ∧ k ≤ name.size ∧ b = nameTo name k ∧ w' = w5, fun _ n _ => (name.size - n).toNat, ⟨0, rfl, Nat.zero_le _, rfl, rfl⟩, ?_⟩
  rintro - b8 n9 w10 ⟨k, rfl, hk, rfl, rfl⟩
  refine IfB.dec (fun hlt => ?_) (fun hge => ?_)
  · have hlt' : Int.toNat (k : Int) < name.size := by omega
    have ec : (nats name).getD k 0 = (name[Int.toNat (k : Int)]'hlt').toNat := by
      have := nats_drop name k (by omega)
      rw [List.getD_eq_getElem?_getD, ← List.head?_drop, this]; rfl
    refine ⟨hlt', by omega, ?_⟩
    generalize hcc : (name[Int.toNat (k : Int)]'hlt').toNat = c at *
    have hs := nameTo_succ name k c ec
    have go : ∀ b, b = (nameTo name k && okB k c) → Fit .i64 ((k : Int) + 1) ∧ (∃ k' : Nat, (k : Int) + 1 = k' ∧ k' ≤ name.size ∧ b = nameTo name k' ∧ w10 = w10) ∧ (name.size - ((k : Int) + 1)).toNat < (name.size - (k : Int)).toNat := fun b hb =>
      ⟨fit64 (by omega) (by omega), ⟨k + 1, by omega, by omega, by rw [hs]; exact hb, rfl⟩, by omega⟩
    have hl := let_dec c
    have ho := ok_dec k c
    refine ⟨fun b w' => b = letB c ∧ w' = w10, ?_, ?_⟩
    · refine IfB.dec (fun h => ⟨by rw [hl, if_pos h], rfl⟩) (fun h => IfB.dec (fun h1 => IfB.dec (fun h2 => ⟨by rw [hl, if_neg h, if_pos ⟨h1, h2⟩], rfl⟩) (fun h2 => IfB.dec (fun h3 => ⟨?_, rfl⟩) (fun h3 => ⟨?_, rfl⟩))) (fun h1 => IfB.dec (fun h3 => ⟨?_, rfl⟩) (fun h3 => ⟨?_, rfl⟩)))
      all_goals rw [hl, if_neg h, if_neg (by omega)]
      all_goals first | (rw [decide_eq_decide]; omega) | (symm; rw [decide_eq_false_iff_not]; omega)
    rintro - b13 w14 ⟨rfl, rfl⟩
    refine ifb_cases (fun hb => ifb_cases (fun hc => go _ ?_) (fun hc => IfB.dec (fun h0 => IfB.dec (fun h48 => go _ ?_) (fun h48 => go _ ?_)) (fun h0 => go _ ?_))) (fun hb => go _ ?_)
    · rw [hb, ho, hc]; rfl
    · rw [hb, ho, hc, Bool.false_or, Bool.true_and, decide_eq_decide]; omega
    · rw [hb, ho, hc, Bool.false_or, Bool.true_and]; symm; rw [decide_eq_false_iff_not]; omega
    · rw [hb, ho, hc, Bool.false_or, Bool.true_and]; symm; rw [decide_eq_false_iff_not]; omega
    · rw [hb]; rfl
  have hke : k = name.size := by omega
  subst hke
  rw [nameTo_all]
  refine tiny_c fun bi bm bc w17 T5 f5 => ?_
  intro b6 w7 n6
  refine ⟨n6.blk.mayL (by simp), fun w8 s8 => ?_⟩
  obtain ⟨B8, f8⟩ := newSet n6 s8 rfl
  have g8 : Fr [] W w8 := (f2.more (f5 [])).more (f8 [])
  have g6 := n6.ge
  have li := T5.i.lt
  have lm := T5.m.lt
  have lc := T5.c.lt
  have nn := T5.ne
  have Ti := T5.i.fr (f8 []) (by simp)
  have Tm := T5.m.fr (f8 []) (by simp)
  have Tc := T5.c.fr (f8 []) (by simp)
  have l2 := T5.ge
  have sz2 := f2.size
  have l6 := B8.lt
  clear T5
  have i0 : I6 0 := by unfold I6; omega
  have i11 : I6 11 := by unfold I6; omega
  have i29 : I6 29 := by unfold I6; omega
  have nl : ∀ {k : Nat} {α : Type} {R : List Value → α → Prop} {w : World}, rSeq Al False w k R none 0 ([] : List α) := rSeq.nil
  obtain ⟨m1, m2⟩ := tiny_names
  obtain ⟨z0, z11, z29, z1⟩ := fits_fix
  have lay0 : ∀ {α : Type} (n : Nat) (one : α → Wr), Cln (layW n one []) := fun n one => ⟨by simp [layW, Wr.app, numW, seqW, Wr.nil], by simp [layW, Wr.app, numW, seqW, Wr.nil], by simp [layW, Wr.app, numW, seqW, Wr.nil, fitsI]⟩
  have R0 : roomB 0 0 = false := by decide
  have end_ : ∀ {S : List Nat} {w' : World}, Fr S w8 w' → (∀ k ∈ S, W.heap.size ≤ k) → Fr [] W w' := fun f h => g8.trans f (fun k hk => .inr (h k hk))
  refine ⟨fun w' => Asked W 1403 b6 (nameOK name) w', ?_, ?_⟩
  · refine IfB.dec (fun _ => ⟨_, _, _, B8.cell rfl, PtrOK.of rfl ⟨by decide, by rw [at0]; exact Tc.may (by simp), fun w' s => ?_⟩⟩) (fun _ => IfB.dec (fun _ => ⟨_, _, _, B8.cell rfl, PtrOK.of rfl ⟨by decide, _, _, _, by rw [at0]; exact Tc.cell rfl, PtrOK.of rfl ⟨by decide, by rw [at0]; exact Tm.may (by simp), fun w' s => ?_⟩⟩⟩) (fun _ =>
      IfB.dec (fun _ => ⟨_, _, _, B8.cell rfl, fun b32 w33 n32 => PtrOK.of rfl ⟨by decide, ?_⟩⟩) (fun _ => ⟨_, _, _, B8.cell rfl, fun b32 w33 n32 => PtrOK.of rfl ⟨by decide, ?_⟩⟩)))
    · rw [at0] at s
      have f := s.fr (S := [bc]) (by simp)
      refine ⟨⟨oneP 11 0 name [] [] (oneM tinyM.name 0 0 0 ⟨29, 0, 0⟩ [] []), _, B8.fr f (by simp; omega), one_rep (Ti.fr f (by simp; omega)) (Tm.fr f (by simp; omega)) (s.blk Tc) nl nl nl nl, one_ok i11 i0 (by simp) (by simp) i0 i0 i0 ⟨i29, i0, i0⟩ (by simp) (by simp), one_sm (by simp) (by simp) (by simp) (by simp) (by simp), ?_⟩, end_ f (by simp; omega)⟩
      refine one_named (one_len _ _ _ _ _ _) ?_ ?_ ?_ rfl
      · rw [one_many]; simp [(lay0 _ _).1]
      · rw [one_nm]; simp [(lay0 _ _).2.1, m1, m2]
      · rw [one_fm]; simp [(lay0 _ _).2.2, z0, z11, z29, R0]
    · rw [at0] at s
      have f := s.fr (S := [bm]) (by simp)
      refine ⟨⟨oneP 11 0 tinyC.name [] [] (oneM name 0 0 0 ⟨29, 0, 0⟩ [] []), _, B8.fr f (by simp; omega), one_rep (Ti.fr f (by simp; omega)) (s.blk Tm) (Tc.fr f (by simp; omega)) nl nl nl nl, one_ok i11 i0 (by simp) (by simp) i0 i0 i0 ⟨i29, i0, i0⟩ (by simp) (by simp), one_sm (by simp) (by simp) (by simp) (by simp) (by simp), ?_⟩, end_ f (by simp; omega)⟩
      refine one_named (one_len _ _ _ _ _ _) ?_ ?_ ?_ rfl
      · rw [one_many]; simp [(lay0 _ _).1]
      · rw [one_nm]; simp [(lay0 _ _).2.1, m1, m2]
      · rw [one_fm]; simp [(lay0 _ _).2.2, z0, z11, z29, R0]
    · have f33 : Fr [] w8 w33 := n32.fr []
      have gm := n32.ge
      refine ⟨by rw [at0]; exact (Tc.fr f33 (by simp)).may (by simp), fun w' s => ?_⟩
      rw [at0] at s
      have f := s.fr (S := [bc]) (by simp)
      have X := n32.blk.fr f (by simp; omega)
      refine ⟨⟨oneP 11 0 tinyC.name [⟨name, 0⟩] [] (oneM tinyM.name 0 0 0 ⟨29, 0, 0⟩ [] []), _, (B8.fr f33 (by simp)).fr f (by simp; omega), one_rep ((Ti.fr f33 (by simp)).fr f (by simp; omega)) ((Tm.fr f33 (by simp)).fr f (by simp; omega)) (s.blk (Tc.fr f33 (by simp))) nl nl (rSeq.one X trivial rfl rfl) nl,
        one_ok i11 i0 (by simp only [List.mem_singleton, forall_eq]; exact i0) (by simp) i0 i0 i0 ⟨i29, i0, i0⟩ (by simp) (by simp), one_sm (by simp) (by simp) (by simp) (by simp) (by simp), ?_⟩, end_ ((f33.mono (S' := [bc]) (by simp)).more f) (by simp; omega)⟩
      refine one_named (one_len _ _ _ _ _ _) ?_ ?_ ?_ rfl
      · rw [one_many]; simp [(lay0 _ _).1, layW, seqW, fldW, nameW, Wr.app, numW, Wr.nil]
      · rw [one_nm]; simp [(lay0 _ _).2.1, m1, m2, layW, seqW, fldW, nameW, Wr.app, numW, Wr.nil]
      · rw [one_fm]; simp [(lay0 _ _).2.2, z0, z11, z29, R0, z1, layW, seqW, fldW, nameW, Wr.app, numW, Wr.nil]
    · have f33 : Fr [] w8 w33 := n32.fr []
      have gm := n32.ge
      refine ⟨by rw [at0]; exact (Tc.fr f33 (by simp)).may (by simp), fun w' s => ?_⟩
      rw [at0] at s
      have f := s.fr (S := [bc]) (by simp)
      have X := n32.blk.fr f (by simp; omega)
      refine ⟨⟨oneP 11 0 tinyC.name [] [⟨name, 0⟩] (oneM tinyM.name 0 0 0 ⟨29, 0, 0⟩ [] []), _, (B8.fr f33 (by simp)).fr f (by simp; omega), one_rep ((Ti.fr f33 (by simp)).fr f (by simp; omega)) ((Tm.fr f33 (by simp)).fr f (by simp; omega)) (s.blk (Tc.fr f33 (by simp))) nl nl nl (rSeq.one X trivial rfl rfl),
        one_ok i11 i0 (by simp) (by simp only [List.mem_singleton, forall_eq]; exact i0) i0 i0 i0 ⟨i29, i0, i0⟩ (by simp) (by simp), one_sm (by simp) (by simp) (by simp) (by simp) (by simp), ?_⟩, end_ ((f33.mono (S' := [bc]) (by simp)).more f) (by simp; omega)⟩
      refine one_named (one_len _ _ _ _ _ _) ?_ ?_ ?_ rfl
      · rw [one_many]; simp [(lay0 _ _).1, layW, seqW, fldW, nameW, Wr.app, numW, Wr.nil]
      · rw [one_nm]; simp [(lay0 _ _).2.1, m1, m2, layW, seqW, fldW, nameW, Wr.app, numW, Wr.nil]
      · rw [one_fm]; simp [(lay0 _ _).2.2, z0, z11, z29, R0, z1, layW, seqW, fldW, nameW, Wr.app, numW, Wr.nil]
  rintro - w18 A
  exact A.run hK
end Go.Proofs.Ytmlhdmnnijapjaa.V
