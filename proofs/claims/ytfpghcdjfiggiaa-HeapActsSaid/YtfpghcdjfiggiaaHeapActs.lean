/- The law HeapActs: what it computes. No condition. -/
import Derived.Test.YtfpghcdjfiggiaaActsL
import Derived.Test.YtfpghcdjfiggiaaSpoil
import Derived.Test.YtfpghcdjfiggiaaArgs
namespace Go.Proofs.Ytfpghcdjfiggiaa.V
open Go Go.RowKit

theorem w64_h {z : Int} (h0 : -9223372036854775808 ≤ z) (h1 : z < 9223372036854775808) : IntKind.wrap .i64 z = z := by
  simp only [IntKind.wrap, IntKind.signed, IntKind.bits]
  simp
  omega

theorem Rel9.sum {rs : List YR} {xs : List XC} (h : Rel9 rs xs) (hn : ∀ x ∈ xs, (x.vs.length : Int) = x.n) : ∀ i, i ≤ rs.length → xsum (xs.take i) = ((rs.take i).map fun r => (r.ws.length : Int) + 16).sum := by
  unfold Rel9 at h
  induction rs generalizing xs with
  | nil => intro i hi; cases xs with
    | nil => simp [xsum]
    | cons x xs => simp at h
  | cons r rs ih =>
    cases xs with
    | nil => simp at h
    | cons x xs =>
      simp only [List.map_cons, List.cons.injEq] at h
      intro i hi
      cases i with
      | zero => simp [xsum]
      | succ i =>
        have e := h.1
        simp only [r5, x5, Prod.mk.injEq] at e
        have := ih h.2 (fun z hz => hn z (by simp [hz])) i (by simpa using hi)
        have h1 := hn x (by simp)
        simp only [List.take_succ_cons, xsum, List.map_cons, List.sum_cons, this, e.2.2.2]
        omega

theorem xsum_take (xs : List XC) (hn : ∀ x ∈ xs, 0 ≤ x.n ∧ x.n ≤ 1000) : ∀ i, 0 ≤ xsum (xs.take i) ∧ xsum (xs.take i) ≤ 1016 * i := by
  induction xs with
  | nil => intro i; simp [xsum]; omega
  | cons x xs ih =>
    intro i
    cases i with
    | zero => simp [xsum]
    | succ i =>
      have := ih (fun z hz => hn z (by simp [hz])) i
      have h1 := hn x (by simp)
      simp only [List.take_succ_cons, xsum]
      omega
theorem xsum_snoc (xs : List XC) {i : Nat} {x : XC} (h : xs[i]? = some x) : xsum (xs.take (i + 1)) = xsum (xs.take i) + (x.n + 16) := by
  induction xs generalizing i with
  | nil => simp at h
  | cons y xs ih =>
    cases i with
    | zero => simp at h; subst h; simp [xsum]
    | succ i =>
      have := ih (by simpa using h)
      simp only [List.take_succ_cons, xsum, this]; omega

section
variable {W w w' : World} {own own' : Nat → Nat} {y hb b1 : Nat} {words n : Int} {G G' S : List Nat} {ss ss' : List Int} {last last' : Int} {xs xs' : List XC} {a : Option Addr} {c : Nat} {rs : List YR}

/-- Blocks of a tag of their own turn. -/
theorem Yh.other (h : Yh W w own y hb words G ss last xs a c rs) {k : Nat} (f : Fr S w w') (t : Tag own S k) (hk : 4 ≤ k ∧ k < 10) : Yh W w' own y hb words G ss last xs a c rs :=
  ⟨h.H.frame f (h.o1.apart t (by omega)), h.hd.fr f (h.o2.apart t (by omega) y (by simp)), h.T.fr f (h.o3.apart t (by omega)), fun r hr => (h.V r hr).fr f ((h.o4 r hr).apart t (by unfold ytag; omega)), h.o1, h.o2, h.o3, h.o4, h.pos, h.pw, h.base, fw_step h.fw h.base f t (by omega)⟩

theorem sum99_c (h : Yh W w own y hb words G ss last xs a c rs) (re : Rel9 rs xs) (hl : rs.length ≤ 1000) {K : Int → World → Prop} (hK : K (words / 4 - xsum xs) w) : C99 (some ⟨y, 0, none⟩) w K := by
  have fx := h.H.facts
  have hw : 512 ≤ words ∧ words ≤ 65536 := ⟨fx.2.2.2.2.2.2.1, fx.2.2.2.2.2.2.2.1⟩
  have hx := xsum_take xs (fun x hx => ⟨(fx.2.2.2.1 x hx).1, (fx.2.2.2.1 x hx).2.1⟩)
  have e : Int.tdiv words 4 = words / 4 := Int.tdiv_eq_ediv_of_nonneg (by omega)
  refine r_f99 _ _ _ ⟨_, h.hd.cell rfl, by decide, by rw [e]; exact fit64 (by omega) (by omega), ?_⟩
  rw [e]
  refine ⟨fun m i w' => w' = w ∧ 0 ≤ i ∧ i ≤ rs.length ∧ m = words / 4 - xsum (xs.take i.toNat), fun _ i _ => (rs.length - i).toNat, ⟨rfl, by decide, by omega, by simp [xsum]⟩, ?_⟩
  rintro - m i _ ⟨rfl, h0, h1, rfl⟩
  refine ⟨_, _, _, h.hd.cell rfl, IfB.dec (fun hlt => ⟨_, _, _, h.hd.cell rfl, h.T.get h0 hlt fun r p hr hc _ _ _ => ⟨⟨h0, hlt⟩, _, _, _, hc 3 (by decide), ?_⟩⟩) (fun hge => ?_)⟩
  · obtain ⟨x, hx2, e1, e2, e3, e4⟩ := re.at hr
    have hm := fx.2.2.2.1 x (List.mem_of_getElem? hx2)
    have hb := hx i.toNat
    have es := xsum_snoc xs hx2
    rw [e4, hm.2.2]
    refine ⟨fit64 (by omega) (by omega), fit64 (by omega) (by omega), fit64 (by omega) (by omega), ⟨rfl, by omega, by omega, ?_⟩, by dsimp only; omega⟩
    rw [show (i + 1).toNat = i.toNat + 1 by omega, es]; omega
  · have ei : i.toNat = xs.length := by rw [← re.len]; omega
    rw [ei, List.take_length]; exact hK
end

theorem heapActs_c (words agents : Int) {W : World} {a : Option Addr} {l c : Nat} {z : Nat → Nat → Int} (ga : ArgS W.heap.size W a l 6 z) {K : Bool → World → Prop} (hK : ∀ w', Fr [] W w' → K true w') : C23 words agents a l c W K := by
  refine r_f23 _ _ _ _ _ _ _ ?_
  unfold V_f23
  have aw : ∀ {w}, Fr [] W w → C79 w K := fun f => awake9_c fun w' f' => hK w' (f.more f')
  refine xnew_c words agents (fun hno => ⟨fun _ => False, ?_, fun _ _ hf => hf.elim⟩) (fun hok w1 G hb H1 f1 hG => ⟨fun w' => w' = w1, ?_, ?_⟩)
  · have a0 := aw (Fr.refl [] W)
    refine IfB.dec (fun _ => ifb_yes rfl a0) (fun q1 => IfB.dec (fun _ => ifb_yes rfl a0) (fun q2 => IfB.dec (fun _ => ifb_yes rfl a0) (fun q3 => IfB.dec (fun _ => ifb_yes rfl a0) (fun q4 => absurd ⟨by omega, by omega, by omega, by omega⟩ hno))))
  · exact ifb_no (decide_eq_false (by omega)) (ifb_no (decide_eq_false (by omega)) (ifb_no (decide_eq_false (by omega)) (ifb_no (decide_eq_false (by omega)) rfl)))
  rintro - _ rfl
  refine IfB.dec (fun _ => aw (f1 [])) (fun hw => fun y w2 n2 => ?_)
  have o0 : ∀ b, b < W.heap.size → (fun b => if b < W.heap.size then 0 else if b = y then 2 else 1) b = 0 := fun b hb => by simp [hb]
  have yg := n2.ge
  have z1 := (f1 []).size
  have H2 := H1.fr0 n2.fr
  have lo := H1.low
  have len0 : ((List.replicate agents.toNat (0 : Int)).length : Int) = agents := by rw [List.length_replicate]; omega
  have Y2 : Yh W w2 (fun b => if b < W.heap.size then 0 else if b = y then 2 else 1) y hb words G (List.replicate agents.toNat 0) 0 [] none 0 [] :=
    ⟨H2, by rw [len0]; exact n2.blk, SR.nil _ _, by simp, fun b hb => by
      have := hG b hb; have := lo b hb
      rw [if_neg (by omega), if_neg (by omega)], fun b hb => by
      simp at hb; subst hb
      rw [if_neg (by omega), if_pos rfl], by simp [Tag, ablk], by simp, by simp, by simp, o0, (f1 []).more (n2.fr [])⟩
  have S2 : St9 W w2 y hb words 0 := ⟨_, G, _, 0, [], none, 0, [], Y2, rfl, ⟨by decide, by decide, by decide, by decide, fun a => by
    rw [List.getD_eq_getElem?_getD, List.getElem?_replicate]; split <;> simp⟩⟩
  refine ⟨fun w' => Fr [] W w', ⟨fun i w' => 0 ≤ i ∧ i ≤ 250 ∧ St9 W w' y hb words i, fun i _ => (250 - i).toNat, ⟨by decide, by decide, S2⟩, ?_⟩, fun _ w3 f3 => ifb_yes rfl (aw f3)⟩
  rintro - i w3 ⟨hi0, hi1, own3, G3, ss3, last3, xs3, a3, c3, rs3, Y3, re3, bd3⟩
  refine IfB.dec (fun hil => IfB.dec (fun hi2 => ?_) (fun _ => Y3.fw)) (fun _ => Y3.fw)
  refine ⟨fun w' => St9 W w' y hb words (i + 1), (ga.fr Y3.fw (by simp)).get hi0 hil fun p hp => ⟨⟨hi0, hil⟩, _, _, _, _, _, _, argCells6 hp, act97_c Y3 re3 bd3 hi2 _ _ _ _ _ _ fun w4 S4 => ifb_nyes rfl ?_⟩, ?_⟩
  · obtain ⟨own4, G4, ss4, last4, xs4, a4, c4, rs4, Y4, re4, bd4⟩ := S4
    have hrl := bd4.rl
    refine ⟨_, Y4.hd.cell rfl, xroom_c Y4.H fun w5 f5 => sum99_c (Y4.still f5) re4 (by omega) (ifb_no (decide_eq_false (by omega)) ⟨own4, G4, ss4, last4, xs4, a4, c4, rs4, Y4.still f5, re4, bd4⟩)⟩
  · rintro - w4 ⟨own4, G4, ss4, last4, xs4, a4, c4, rs4, Y4, re4, bd4⟩
    have hrl := bd4.rl
    have hla := bd4.la
    have el := re4.len
    have fx := Y4.H.facts
    refine ⟨_, Y4.hd.cell rfl, xrefs_c Y4.H (by omega) fun a5 c5 w5 R5 f5 g5 => ?_⟩
    obtain ⟨Y5, _⟩ := Y4.new f5 5
    have t5 : Tag (ext own4 w4.heap.size 5) (ablk a5) 5 := Tag.fresh _ g5
    generalize ext own4 w4.heap.size 5 = own5 at Y5 t5
    have lr : (xs4.map (·.ref)).length = xs4.length := by simp
    refine ⟨_, _, _, Y5.hd.cell rfl, ifb_nyes (decide_eq_true (by omega)) ?_⟩
    refine ⟨fun j w' => 0 ≤ j ∧ j ≤ xs4.length ∧ Yh W w' own5 y hb words G4 ss4 last4 xs4 a4 c4 rs4 ∧ SI w' a5 c5 (xs4.map (·.ref)) ∧ Fr [] w5 w', fun j _ => (xs4.length - j).toNat, ⟨by decide, by omega, Y5, R5, Fr.refl _ _⟩, ?_⟩
    rintro - j w6 ⟨hj0, hj1, Y6, R6, f6⟩
    refine IfB.dec (fun hlt => fun w7 d7 => ?_) (fun hge => ?_)
    · have Y7 := Y6.still d7.fr
      have R7 := R6.fr (d7.fr []) (by intro b _; simp)
      have f7 := f6.more (d7.fr [])
      refine R7.get hj0 (by omega) fun p hp => ⟨⟨hj0, hlt⟩, _, hp, at100b_c Y7 (by omega) _ fun n15 h15 => ?_⟩
      obtain ⟨x, hx⟩ : ∃ x, xs4[j.toNat]? = some x := ⟨_, List.getElem?_eq_getElem (show j.toNat < xs4.length by omega)⟩
      have eg : (xs4.map (·.ref)).getD j.toNat 0 = x.ref := by rw [List.getD_eq_getElem?_getD, List.getElem?_map, hx]; rfl
      obtain ⟨r, hr, er⟩ := re4.of (List.mem_of_getElem? hx)
      rcases h15 with ⟨_, hno⟩ | ⟨m, r', rfl, _, _⟩
      · exact absurd (er.trans eg.symm) (hno r hr)
      refine ifb_no (decide_eq_false (by omega)) ?_
      rw [w64_h (z := j + 1) (by omega) (by omega), w64_h (z := j - 1) (by omega) (by omega)]
      have out : (0 ≤ j + 1 ∧ j + 1 ≤ (xs4.length : Int) ∧ Yh W w7 own5 y hb words G4 ss4 last4 xs4 a4 c4 rs4 ∧ SI w7 a5 c5 (xs4.map (·.ref)) ∧ Fr [] w5 w7) ∧ ((xs4.length : Int) - (j + 1)).toNat < ((xs4.length : Int) - j).toNat := ⟨⟨by omega, by omega, Y7, R7, f7⟩, by omega⟩
      refine IfB.dec (fun hj => R7.get (by omega) (by omega) fun p1 hp1 => ⟨⟨by omega, by omega⟩, _, hp1, R7.get hj0 (by omega) fun p2 hp2 => ⟨⟨by omega, by omega⟩, _, hp2, ifb_no (decide_eq_false ?_) out⟩⟩) (fun _ => out)
      have pw := List.pairwise_iff_getElem.1 fx.2.2.2.2.2.1 (j - 1).toNat j.toNat (by omega) (by omega) (by omega)
      rw [List.getD_eq_getElem?_getD, List.getD_eq_getElem?_getD, List.getElem?_eq_getElem (by omega), List.getElem?_eq_getElem (by omega)]
      simp only [Option.getD_some]
      omega
    · suffices hh : C56 a5 (xs4.map (·.ref)).length c5 w6 _ by rw [lr] at hh; exact hh
      refine spoilI_c R6 (fun x hx => ?_) (by omega) fun w7 f7 => ?_
      · obtain ⟨q, hq, rfl⟩ := List.mem_map.1 hx
        have := fx.2.2.1 q hq; have := bd4.n1; omega
      · rw [w64_h (z := i + 1) (by omega) (by omega)]
        exact ⟨⟨by omega, by omega, own5, G4, ss4, last4, xs4, a4, c4, rs4, Y6.other f7 t5 (by decide), re4, bd4⟩, by dsimp only; omega⟩
end Go.Proofs.Ytfpghcdjfiggiaa.V
