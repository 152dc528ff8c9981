/- Reading a program: lists, methods, classes. No condition. -/
import Derived.Test.YtmlhdmnnijapjaaClassL
namespace Go.Proofs.Ytmlhdmnnijapjaa.V
open Go Go.RowKit Go.Proofs.Ytmlhdmnnijapjaa.WirePlain

section
variable {X : List PanicEntry → World → Prop} {rb : Nat} {s : ByteArray} {w : World} {p : Int} {cb : Nat}

theorem list_head {α : Type} {one : Int → Rs α} {most : Int} {k : List α → Int → World → Prop} (R : RdW w rb s p) (hs : s.size ≤ 32768) (h : Out X rb s (listD s most one p) w k) {body : Int → World → Prop}
    (hb : ∀ n q w1, RdW w1 rb s q → Fr [rb] w w1 → 0 ≤ n → n ≤ most → Out X rb s (repD one n.toNat q) w1 k → body n w1) :
    ∃ (n1 : Int), World.cell? w ⟨rb, 1, none⟩ = some (.int .i64 n1) ∧ CX47 X (some ⟨rb, 0, none⟩) w fun n2 w3 => CX50 X (decide ((n2 : Int) < 0)) n1 1402 w3 fun w4 => CX50 X (decide ((most : Int) < n2)) n1 1404 w4 fun w5 => body n2 w5 := by
  refine ⟨_, R.hd.cell rfl, num_x R hs h.bind fun n q w1 R1 f1 ⟨_, h⟩ => fail_x (fun h1 => ?_) fun h1 => fail_x (fun h2 => ?_) fun h2 => ?_⟩
  · rw [if_pos (of_decide_eq_true h1)] at h; exact h.bad (Fr.refl _ _)
  · rw [if_neg (of_decide_eq_false h1), if_pos (of_decide_eq_true h2)] at h; exact h.bad (Fr.refl _ _)
  · have h1 := of_decide_eq_false h1
    have h2 := of_decide_eq_false h2
    rw [if_neg h1, if_neg h2] at h
    exact hb n q w1 R1 f1 (by omega) (by omega) h

theorem ints_x {most : Int} {k : List Int → Int → World → Prop} {K : Option Addr → Nat → Nat → World → Prop} (R : RdW w rb s p) (hs : s.size ≤ 32768) (hmost : most ≤ 1000) (h : Out X rb s (listD s most (numD s) p) w k)
    (hK : ∀ xs q a c w', RdW w' rb s q → Fr [rb] w w' → k xs q w' → rSeq (fun b => w.heap.size ≤ b) True w' 1 ((fun _ _ _ vs x => RInt vs x) (fun b => w.heap.size ≤ b) True w') a xs.length xs → K a xs.length c w') : CX71 X (some ⟨rb, 0, none⟩) most (.func (.func 47) #[.pointer (some ⟨rb, 0, none⟩)] #[]) w K := by
  refine r_f71 _ _ _ _ _ _ (list_head R hs h fun n q w1 R1 f1 h0 h1 h => ?_)
  refine list_loop (R := (fun _ _ _ vs x => RInt vs x)) rel_plain (kk := 1) (by decide) (t := 38) (e := 3) (T := 3) (i := Try.t3) (by kernel_rfl) (by kernel_rfl) rfl rfl rfl (by decide) (fun w F => CX47 X (some ⟨rb, 0, none⟩) w fun n w2 => F [.int .i64 n] w2) ?_ h0 (by omega) R1 h ?_
  · intro w2 p2 k2 F f2 R2 h2 hF
    exact num_x R2 hs h2 fun x q w3 R3 f3 g => hF x q _ w3 R3 f3 rfl rfl (by simp [isCell]) g
  · intro xs q' a c w' R' f' hk hr
    exact hK xs q' a c w' R' (f1.more f') hk (rel_seq rel_plain hr (sameU_refl _ _) (Nat.le_refl _) fun b hb _ => Nat.le_trans f1.size hb)

theorem flds_x {most : Int} {k : List Fld → Int → World → Prop} {K : Option Addr → Nat → Nat → World → Prop} (C : Cap w cb rb) (R : RdW w rb s p) (hs : s.size ≤ 32768) (hmost : most ≤ 1000) (h : Out X rb s (listD s most (fldD s) p) w k)
    (hK : ∀ xs q a c w', RdW w' rb s q → Fr [rb] w w' → k xs q w' → rSeq (fun b => w.heap.size ≤ b) True w' 2 ((fun _ _ _ vs x => RFld vs x) (fun b => w.heap.size ≤ b) True w') a xs.length xs → K a xs.length c w') : CX72 X (some ⟨rb, 0, none⟩) most (.func (.func 70) #[] #[.pointer (some ⟨cb, 0, none⟩)]) w K := by
  refine r_f72 _ _ _ _ _ _ (list_head R hs h fun n q w1 R1 f1 h0 h1 h => ?_)
  refine list_loop (R := (fun _ _ _ vs x => RFld vs x)) rel_plain (kk := 2) (by decide) (t := 72) (e := 77) (T := 77) (i := Try.t77) (by kernel_rfl) (by kernel_rfl) rfl rfl rfl (by decide) (fun w F => CX70 X (some ⟨cb, 0, none⟩) w fun s n w2 => F [.string s, .int .i64 n] w2) ?_ h0 (by omega) R1 h ?_
  · intro w2 p2 k2 F f2 R2 h2 hF
    exact fld_x ((C.fr1 f1).fr1 f2) R2 hs h2 fun x q w3 R3 f3 g => hF x q _ w3 R3 f3 rfl rfl (by simp [isCell]) g
  · intro xs q' a c w' R' f' hk hr
    exact hK xs q' a c w' R' (f1.more f') hk (rel_seq rel_plain hr (sameU_refl _ _) (Nat.le_refl _) fun b hb _ => Nat.le_trans f1.size hb)

theorem inss_x {most : Int} {k : List Ins → Int → World → Prop} {K : Option Addr → Nat → Nat → World → Prop} (C : Cap w cb rb) (R : RdW w rb s p) (hs : s.size ≤ 32768) (hmost : most ≤ 1000) (h : Out X rb s (listD s most (insD s) p) w k)
    (hK : ∀ xs q a c w', RdW w' rb s q → Fr [rb] w w' → k xs q w' → rSeq (fun b => w.heap.size ≤ b) True w' 3 ((fun _ _ _ vs x => RIns vs x) (fun b => w.heap.size ≤ b) True w') a xs.length xs → K a xs.length c w') : CX95 X (some ⟨rb, 0, none⟩) most (.func (.func 96) #[] #[.pointer (some ⟨cb, 0, none⟩)]) w K := by
  refine r_f95 _ _ _ _ _ _ (list_head R hs h fun n q w1 R1 f1 h0 h1 h => ?_)
  refine list_loop (R := (fun _ _ _ vs x => RIns vs x)) rel_plain (kk := 3) (by decide) (t := 78) (e := 87) (T := 87) (i := Try.t87) (by kernel_rfl) (by kernel_rfl) rfl rfl rfl (by decide) (fun w F => CX96 X (some ⟨cb, 0, none⟩) w fun a b c w2 => F [.int .i64 a, .int .i64 b, .int .i64 c] w2) ?_ h0 (by omega) R1 h ?_
  · intro w2 p2 k2 F f2 R2 h2 hF
    exact ins_x ((C.fr1 f1).fr1 f2) R2 hs h2 fun x q w3 R3 f3 g => hF x q _ w3 R3 f3 rfl rfl (by simp [isCell]) g
  · intro xs q' a c w' R' f' hk hr
    exact hK xs q' a c w' R' (f1.more f') hk (rel_seq rel_plain hr (sameU_refl _ _) (Nat.le_refl _) fun b hb _ => Nat.le_trans f1.size hb)

theorem hnds_x {most : Int} {k : List Hnd → Int → World → Prop} {K : Option Addr → Nat → Nat → World → Prop} (C : Cap w cb rb) (R : RdW w rb s p) (hs : s.size ≤ 32768) (hmost : most ≤ 1000) (h : Out X rb s (listD s most (hndD s) p) w k)
    (hK : ∀ xs q a c w', RdW w' rb s q → Fr [rb] w w' → k xs q w' → rSeq (fun b => w.heap.size ≤ b) True w' 4 ((fun _ _ _ vs x => RHnd vs x) (fun b => w.heap.size ≤ b) True w') a xs.length xs → K a xs.length c w') : CX97 X (some ⟨rb, 0, none⟩) most (.func (.func 98) #[] #[.pointer (some ⟨cb, 0, none⟩)]) w K := by
  refine r_f97 _ _ _ _ _ _ (list_head R hs h fun n q w1 R1 f1 h0 h1 h => ?_)
  refine list_loop (R := (fun _ _ _ vs x => RHnd vs x)) rel_plain (kk := 4) (by decide) (t := 79) (e := 91) (T := 91) (i := Try.t91) (by kernel_rfl) (by kernel_rfl) rfl rfl rfl (by decide) (fun w F => CX98 X (some ⟨cb, 0, none⟩) w fun a b c d w2 => F [.int .i64 a, .int .i64 b, .int .i64 c, .int .i64 d] w2) ?_ h0 (by omega) R1 h ?_
  · intro w2 p2 k2 F f2 R2 h2 hF
    exact hnd_x ((C.fr1 f1).fr1 f2) R2 hs h2 fun x q w3 R3 f3 g => hF x q _ w3 R3 f3 rfl rfl (by simp [isCell]) g
  · intro xs q' a c w' R' f' hk hr
    exact hK xs q' a c w' R' (f1.more f') hk (rel_seq rel_plain hr (sameU_refl _ _) (Nat.le_refl _) fun b hb _ => Nat.le_trans f1.size hb)

theorem mpe_x {k : Mpe → Int → World → Prop} {K : Int → Option Addr → Nat → Nat → Option Addr → Nat → Nat → World → Prop} (C : Cap w cb rb) (R : RdW w rb s p) (hs : s.size ≤ 32768) (h : Out X rb s (mpeD s p) w k)
    (hK : ∀ x q w' a1 l1 c1 a2 l2 c2, RdW w' rb s q → Fr [rb] w w' → k x q w' → RMpe (fun b => w.heap.size ≤ b) True w' [.int .i64 x.pl, .slice a1 l1 c1, .slice a2 l2 c2] x → K x.pl a1 l1 c1 a2 l2 c2 w') : CX100 X (some ⟨cb, 0, none⟩) w K := by
  refine r_f100 _ _ _ _ fun b1 w2 n1 => ?_
  have lr := R.hd.lt
  have hb : b1 ≠ rb := by have := n1.ge; omega
  have hb' : b1 ∉ [rb] := by simp; exact hb
  have R2 := R.fr (n1.fr []) (by simp)
  have f2 : Fr [rb] w w2 := n1.fr _
  have lb1 : b1 < w2.heap.size := n1.blk.lt
  refine ⟨_, (C.fr1 f2).hd.cell rfl, num_x R2 hs (h.from f2) fun a q w5 R5 f5 ⟨_, h⟩ => ?_⟩
  have f5' := f2.more f5
  refine ⟨_, (C.fr1 f5').hd.cell rfl, _, (C.fr1 f5').hd.cell rfl, ints_x R5 hs (by decide) (h.from f5') fun ls q a8 c8 w9 R9 f9 ⟨_, h⟩ L9 => ?_⟩
  have f9' := f5'.more f9
  refine ⟨_, (C.fr1 f9').hd.cell rfl, _, (C.fr1 f9').hd.cell rfl, ints_x R9 hs (by decide) (h.from f9') fun st q a12 c12 w13 R13 f13 ⟨_, h⟩ S13 => ?_⟩
  have f13' := f9'.more f13
  have N13 := ((n1.blk.fr f5 hb').fr f9 hb').fr f13 hb'
  refine ⟨N13.mayL (by simp), fun w14 s14 => ?_⟩
  obtain ⟨B14, f14⟩ := setAll s14 N13 rfl
  have f14' : Fr [rb] w w14 := f13'.trans f14 (by simp; exact .inr n1.ge)
  have R14 := R13.fr f14 (by simp; exact fun e => hb e.symm)
  have hz5 : w5.heap.size ≤ w9.heap.size := f9.size
  have hz2 := f5.size
  have hz0 := f2.size
  refine ⟨_, _, _, _, _, _, _, B14.cells, hK ⟨a, ls, st⟩ _ _ _ _ _ _ _ _ R14 f14' (h.ret R14 f14') ⟨_, _, _, _, _, _, rfl, ?_, ?_⟩⟩
  · have g1 := rel_seq1 L9 (U' := fun b => w5.heap.size ≤ b) (SameU.of_fr f13 fun b hb hm => by simp at hm; subst hm; have := R5.hd.lt; omega) f13.size fun b hb _ => hb
    exact rel_seq1 g1 (SameU.of_fr f14 fun b hb hm => by simp at hm; subst hm; omega) f14.size fun b hb _ => by omega
  · exact rel_seq1 S13 (SameU.of_fr f14 fun b hb hm => by simp at hm; subst hm; omega) f14.size fun b hb _ => by omega

theorem mpes_x {most : Int} {k : List Mpe → Int → World → Prop} {K : Option Addr → Nat → Nat → World → Prop} (C : Cap w cb rb) (R : RdW w rb s p) (hs : s.size ≤ 32768) (hmost : most ≤ 1000) (h : Out X rb s (listD s most (mpeD s) p) w k)
    (hK : ∀ xs q a c w', RdW w' rb s q → Fr [rb] w w' → k xs q w' → rSeq (fun b => w.heap.size ≤ b) True w' 3 (RMpe (fun b => w.heap.size ≤ b) True w') a xs.length xs → K a xs.length c w') : CX99 X (some ⟨rb, 0, none⟩) most (.func (.func 100) #[] #[.pointer (some ⟨cb, 0, none⟩)]) w K := by
  refine r_f99 _ _ _ _ _ _ (list_head R hs h fun n q w1 R1 f1 h0 h1 h => ?_)
  refine list_loop (R := RMpe) rel_mpe (kk := 3) (by decide) (t := 80) (e := 89) (T := 89) (i := Try.t89) (by kernel_rfl) (by kernel_rfl) rfl rfl rfl (by decide) (fun w F => CX100 X (some ⟨cb, 0, none⟩) w fun a a1 l1 c1 a2 l2 c2 w2 => F [.int .i64 a, .slice a1 l1 c1, .slice a2 l2 c2] w2) ?_ h0 (by omega) R1 h ?_
  · intro w2 p2 k2 F f2 R2 h2 hF
    exact mpe_x ((C.fr1 f1).fr1 f2) R2 hs h2 fun x q w3 a1 l1 c1 a2 l2 c2 R3 f3 g hx => hF x q _ w3 R3 f3 hx rfl (by simp [isCell]) g
  · intro xs q' a c w' R' f' hk hr
    exact hK xs q' a c w' R' (f1.more f') hk (rel_seq rel_mpe hr (sameU_refl _ _) (Nat.le_refl _) fun b hb _ => Nat.le_trans f1.size hb)

end
end Go.Proofs.Ytmlhdmnnijapjaa.V
