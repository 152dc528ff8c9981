/- The law ObjectActs: what it computes. No condition. -/
import Derived.Test.YtfpghcdjfiggiaaActsR
import Derived.Test.YtfpghcdjfiggiaaSpoil
import Derived.Test.YtfpghcdjfiggiaaArgs
import Derived.Test.YtfpghcdjfiggiaaBits
namespace Go.Proofs.Ytfpghcdjfiggiaa.V
open Go Go.RowKit

theorem objectActs_c (count0 : Int) {W : World} {a : Option Addr} {l c : Nat} {z : Nat → Nat → Int} (ga : ArgS W.heap.size W a l 5 z) {K : Bool → World → Prop} (hK : ∀ w', Fr [] W w' → K true w') : C20 count0 a l c W K := by
  refine r_f20 _ _ _ _ _ _ ?_
  unfold V_f20
  have hm := and_range 63 6 (by decide) rfl count0
  obtain ⟨count, hc, hcc⟩ : ∃ k, IntKind.wrap .i64 (1 + bits .and .i64 count0 63) = k ∧ 1 ≤ k ∧ k ≤ 2000 := ⟨_, rfl, by rw [w64_8 (by omega) (by omega)]; omega, by rw [w64_8 (by omega) (by omega)]; omega⟩
  rw [hc]
  clear hc hm
  refine begun8_c count hcc fun w1 F s om pb ab wb sb free ws O1 el f1 hF => ifb_f fun y w2 n2 => ?_
  have z1 := (f1 []).size
  have yg := n2.ge
  have lo := O1.low
  have O2 := O1.fr0 n2.fr
  have Y2 : Yo W w2 (fun b => if b < W.heap.size then 0 else if b = y then 2 else 1) y s pb ab count (s :: om :: F) free.length [0, 0, 0] 0 [] none 0 [] none 0 [] :=
    ⟨⟨om, F, wb, sb, free, ws, 0, O2, rfl, rfl⟩, n2.blk, SI.nil _, SR.nil _ _, by simp, fun b hb => by
      have := hF b hb; have := lo b hb
      rw [if_neg (by omega), if_neg (by omega)], fun b hb => by
      simp at hb; subst hb
      rw [if_neg (by omega), if_pos rfl], by simp [Tag, ablk], by simp [Tag, ablk], by simp, by simp, by simp, fun b hb => by simp [hb], (f1 []).more (n2.fr [])⟩
  have S2 : St8 W w2 y s pb ab count 0 := ⟨_, _, _, _, 0, [], none, 0, [], none, 0, [], Y2, ⟨rfl, rfl⟩, ⟨by decide, by decide, by decide, by decide, fun a => by
    match a with
    | 0 => decide
    | 1 => decide
    | 2 => decide
    | a + 3 => simp, rfl⟩⟩
  refine ⟨fun w' => ∃ n, St8 W w' y s pb ab count n, ⟨fun i w' => 0 ≤ i ∧ i ≤ 300 ∧ St8 W w' y s pb ab count i, fun i _ => (300 - i).toNat, ⟨by decide, by decide, S2⟩, ?_⟩, ?_⟩
  · rintro - i w3 ⟨hi0, hi1, S3⟩
    refine IfB.dec (fun hil => IfB.dec (fun hi2 => ?_) (fun _ => ⟨i, S3⟩)) (fun _ => ⟨i, S3⟩)
    obtain ⟨own3, G3, fr3, ss3, last3, os3, a3, c3, refs3, qa3, qc3, rs3, Y3, re3, bd3⟩ := S3
    refine (ga.fr Y3.fw (by simp)).get hi0 hil fun p hp => ⟨⟨hi0, hil⟩, _, _, _, _, _, argCells5 hp, act92_c Y3 re3 bd3 hi2 hcc _ _ _ _ _ fun w4 S4 => ifb_nyes rfl ?_⟩
    obtain ⟨own4, G4, fr4, ss4, last4, os4, a4, c4, refs4, qa4, qc4, rs4, Y4, re4, bd4⟩ := S4
    have hrl := bd4.rl
    have hla := bd4.la
    have hn1 := bd4.n1
    have el4 := re4.len
    have ob := Y4.obs
    refine ⟨_, Y4.hd.cell rfl, ?_⟩
    obtain ⟨om4, F4, wb4, sb4, free4, ws4, clk4, O4, eG4, _⟩ := Y4.H
    have srt := O4.I.srt
    refine orefs_c O4 (by omega) fun a5 c5 w5 R5 f5 g5 => ?_
    obtain ⟨Y5, _⟩ := Y4.new f5 6
    have t5 : Tag (ext own4 w4.heap.size 6) (ablk a5) 6 := Tag.fresh _ g5
    generalize ext own4 w4.heap.size 6 = own5 at Y5 t5
    have lr : (os4.map (·.ref)).length = os4.length := by simp
    refine ⟨fun j w' => 0 ≤ j ∧ j ≤ os4.length ∧ Yo W w' own5 y s pb ab count G4 fr4 ss4 last4 os4 a4 c4 refs4 qa4 qc4 rs4 ∧ SI w' a5 c5 (os4.map (·.ref)), fun j _ => (os4.length - j).toNat, ⟨by decide, by omega, Y5, R5⟩, ?_⟩
    rintro - j w6 ⟨hj0, hj1, Y6, R6⟩
    refine IfB.dec (fun hlt => fun w7 d7 => ?_) (fun hge => ?_)
    · have Y7 := Y6.still d7.fr
      have R7 := R6.fr (d7.fr []) (by intro b _; simp)
      refine R7.get hj0 (by omega) fun p hp => ⟨⟨hj0, hlt⟩, _, hp, Y7.at re4.1 (by omega) _ fun n15 h15 => ?_⟩
      obtain ⟨x, hx⟩ : ∃ x, os4[j.toNat]? = some x := ⟨_, List.getElem?_eq_getElem (show j.toNat < os4.length by omega)⟩
      have eg : (os4.map (·.ref)).getD j.toNat 0 = x.ref := by rw [List.getD_eq_getElem?_getD, List.getElem?_map, hx]; rfl
      obtain ⟨r, hr, er⟩ := re4.of (List.mem_of_getElem? hx)
      rcases h15 with ⟨_, hno⟩ | ⟨m, r', rfl, _, _⟩
      · exact absurd (er.trans eg.symm) (hno r hr)
      refine ifb_no (decide_eq_false (by omega)) ?_
      rw [w64_8 (z := j + 1) (by omega) (by omega), w64_8 (z := j - 1) (by omega) (by omega)]
      have out : (0 ≤ j + 1 ∧ j + 1 ≤ (os4.length : Int) ∧ Yo W w7 own5 y s pb ab count G4 fr4 ss4 last4 os4 a4 c4 refs4 qa4 qc4 rs4 ∧ SI w7 a5 c5 (os4.map (·.ref))) ∧ ((os4.length : Int) - (j + 1)).toNat < ((os4.length : Int) - j).toNat := ⟨⟨by omega, by omega, Y7, R7⟩, by omega⟩
      refine IfB.dec (fun hj => R7.get (by omega) (by omega) fun p1 hp1 => ⟨⟨by omega, by omega⟩, _, hp1, R7.get hj0 (by omega) fun p2 hp2 => ⟨⟨by omega, by omega⟩, _, hp2, ifb_no (decide_eq_false ?_) out⟩⟩) (fun _ => out)
      have pw := List.pairwise_iff_getElem.1 srt (j - 1).toNat j.toNat (by omega) (by omega) (by omega)
      rw [List.getD_eq_getElem?_getD, List.getD_eq_getElem?_getD, List.getElem?_eq_getElem (by omega), List.getElem?_eq_getElem (by omega)]
      simp only [Option.getD_some]
      omega
    · refine ⟨_, _, _, Y6.hd.cell rfl, ifb_nyes (decide_eq_true (by omega)) ?_⟩
      suffices hh : C56 a5 (os4.map (·.ref)).length c5 w6 _ by rw [lr] at hh; exact hh
      refine spoilI_c R6 (fun x hx => ?_) (by omega) fun w7 f7 => ?_
      · obtain ⟨q, hq, rfl⟩ := List.mem_map.1 hx
        have := ob q hq; omega
      · rw [w64_8 (z := i + 1) (by omega) (by omega)]
        exact ⟨⟨by omega, by omega, own5, G4, fr4, ss4, last4, os4, a4, c4, refs4, qa4, qc4, rs4, Y6.other f7 t5 (by decide), re4, bd4⟩, by dsimp only; omega⟩
  · rintro - w3 ⟨n, own3, G3, fr3, ss3, last3, os3, a3, c3, refs3, qa3, qc3, rs3, Y3, re3, bd3⟩
    have hrl := bd3.rl
    have hn1 := bd3.n1
    have hs3 := bd3.s3
    have el3 := re3.len
    have srt3 : (os3.map (·.ref)).Pairwise (· < ·) := by obtain ⟨ws, free, I⟩ := Y3.H.inv; exact I.srt
    have erf : refs3 = os3.map (·.ref) := by
      rw [re3.1]
      have := congrArg (List.map Prod.fst) re3.2
      simpa [r2, o2f, Function.comp_def] using this
    refine ⟨fun i w' => 0 ≤ i ∧ i ≤ os3.length ∧ ∃ own G fr ss, ss.length = 3 ∧ Yo W w' own y s pb ab count G fr ss last3 (os3.drop i.toNat) a3 c3 refs3 qa3 qc3 rs3, fun i _ => (os3.length - i).toNat, ⟨by decide, by omega, own3, G3, fr3, ss3, hs3, by simpa using Y3⟩, ?_⟩
    rintro - i w4 ⟨hi0, hi1, own4, G4, fr4, ss4, hs4, Y4⟩
    refine ⟨_, _, _, Y4.hd.cell rfl, IfB.dec (fun hlt => ⟨_, _, _, Y4.hd.cell rfl, Y4.R.get hi0 hlt fun p hp => ⟨⟨hi0, hlt⟩, _, hp, ?_⟩⟩) (fun hge => ?_)⟩
    · obtain ⟨x, hx⟩ : ∃ x, os3[i.toNat]? = some x := ⟨_, List.getElem?_eq_getElem (show i.toNat < os3.length by omega)⟩
      have eg : refs3.getD i.toNat 0 = x.ref := by rw [erf, List.getD_eq_getElem?_getD, List.getElem?_map, hx]; rfl
      rw [eg]
      have hdr : os3.drop i.toNat = x :: os3.drop (i.toNat + 1) := by
        have := (List.getElem?_eq_some_iff.1 hx).2
        rw [← this, List.getElem_cons_drop]
      rw [hdr] at Y4
      obtain ⟨om, F, wb, sb, free, ws, clk, O, eG, e⟩ := Y4.H
      refine ofree_c O _ _ (fun hno w9 f9 => absurd ⟨by omega, x, by simp, rfl⟩ hno) (fun x' hx' ex ha w9 F' free' ws' ss' O' el t' f' g' => ?_)
      obtain ⟨h9, _⟩ := Y4.store (G' := s :: om :: F') (fr' := free'.length) (last' := last3) ⟨om, F', wb, sb, free', ws', clk, O', rfl, rfl⟩ (by rw [eG]; exact f') (fun b hb => by
        rw [eG]
        rcases List.mem_cons.1 hb with q | q
        · exact .inl (by simp [q])
        · rcases List.mem_cons.1 q with q | q
          · exact .inl (by simp [q])
          · exact (g' b q).imp (fun z => by simp [z]) id) (Int.le_refl _)
      refine ifb_nyes rfl ?_
      rw [w64_8 (z := i + 1) (by omega) (by omega)]
      have ef : (x :: os3.drop (i.toNat + 1)).filter (fun y => !(x.ref == y.ref)) = os3.drop (i.toNat + 1) := by
        have pw : ((x :: os3.drop (i.toNat + 1)).map (·.ref)).Pairwise (· < ·) := by
          rw [← hdr, List.map_drop]
          exact srt3.sublist (List.drop_sublist _ _)
        rw [List.map_cons, List.pairwise_cons] at pw
        rw [List.filter_cons_of_neg (by simp), List.filter_eq_self]
        intro q hq
        have := pw.1 q.ref (List.mem_map_of_mem hq)
        simp; omega
      rw [ef, show i.toNat + 1 = (i + 1).toNat by omega] at h9
      exact ⟨⟨by omega, by omega, _, _, _, ss', t'.1.trans hs4, h9⟩, by dsimp only; omega⟩
    · have e0 : os3.drop i.toNat = [] := List.drop_of_length_le (by omega)
      rw [e0] at Y4
      have hfr : (fr4 : Int) = count := by
        obtain ⟨om, F, wb, sb, free, ws, clk, O, eG, e⟩ := Y4.H
        have h1 := used_nil O.P O.I
        have h2 := used_len O.P
        rw [h1] at h2; simp at h2; omega
      refine Y4.used fun a' l' c' w5 f5 el => ifb_yes (decide_eq_true (by omega)) (awake8_c fun w6 f6 => hK w6 ?_)
      exact ((Y4.still f5).fw).more f6
end Go.Proofs.Ytfpghcdjfiggiaa.V
