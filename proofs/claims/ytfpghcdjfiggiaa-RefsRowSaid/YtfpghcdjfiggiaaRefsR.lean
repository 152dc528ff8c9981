/- Weak references and finalizers: the queue's next; what is reached. No condition. -/
import Derived.Test.YtfpghcdjfiggiaaRefsC
import Derived.Test.YtfpghcdjfiggiaaRefsP
namespace Go.Proofs.Ytfpghcdjfiggiaa.V
open Go Go.RowKit

section
variable {w w' : World} {own own' : Nat → Nat} {rb hb fm rc qc k : Nat} {G G' S : List Nat} {ra qa : Option Addr} {ts : List RT} {words taken last : Int} {ss : List Int} {xs : List XC} {fin queue : List Int}

/-- The queue is empty. -/
theorem rnext0_c (h : Rx w own rb hb fm G ra rc ts qa qc words taken last ss xs fin []) {K : Int → Bool → World → Prop} (hK : K 0 false w) : C107 (some ⟨rb, 0, none⟩) w K := by
  refine r_f107 _ _ _ ⟨fun _ => False, ⟨_, _, _, h.hd.cell rfl, IfB.yes rfl hK⟩, fun _ _ h => h.elim⟩

/-- The first of the queue is pushed. -/
theorem rnext_c {f : Int} {q' : List Int} (h : Rx w own rb hb fm G ra rc ts qa qc words taken last ss xs fin (f :: q')) (h1 : 1 ≤ ts.length) (h64 : ∀ u, ts[0]? = some u → u.rs.length < 64) {K : Int → Bool → World → Prop}
    (hok : ∀ u, ts[0]? = some u → ∀ w' own' u' qa' qc', u'.rs = u.rs ++ [f] → Rx w' own' rb hb fm G ra rc (ts.set 0 u') qa' qc' words taken last ss xs fin q' → St w w' own own' → K f true w') : C107 (some ⟨rb, 0, none⟩) w K := by
  have ht : (0 : Int) ≤ 0 ∧ (0 : Int) < (ts.length : Int) := ⟨by decide, by omega⟩
  have hq : (0 : Int) ≤ 0 ∧ (0 : Int) < ((f :: q').length : Int) := ⟨by decide, by simp⟩
  refine r_f107 _ _ _ ⟨fun w' => w' = w, ⟨_, _, _, h.hd.cell rfl, IfB.no (by simp; omega) ⟨_, _, _, h.hd.cell rfl, rts_at h ht.1 ht.2 fun u p hu hc hm hs => ⟨ht, _, _, _, hc, IfB.no (by have := h64 u hu; omega) rfl⟩⟩⟩, ?_⟩
  rintro - w1 rfl
  obtain ⟨u, hu⟩ : ∃ u, ts[0]? = some u := ⟨_, List.getElem?_eq_getElem (show 0 < ts.length by omega)⟩
  refine ⟨_, _, _, h.hd.cell rfl, h.Q.get hq.1 hq.2 fun p hp => ⟨hq, _, hp, _, _, _, h.hd.cell rfl, ⟨by decide, by simp; omega⟩, h.hd.may (by simp), fun w2 s2 => fun w3 d3 => ?_⟩⟩
  obtain ⟨Q2, eb⟩ := h.Q.cut (lo := 1) (hi := (f :: q').length) (by simp) (Nat.le_refl _)
  have eq2 : ((f :: q').drop 1).take ((f :: q').length - 1) = q' := by simp
  rw [eq2] at Q2
  have B2 := s2.blk h.hd
  have s2f : Fr [rb] w1 w2 := s2.fr (by simp)
  have el : (f :: q').length - Int.toNat 1 = q'.length := by simp
  have ec : qc - Int.toNat 1 = qc - 1 := rfl
  obtain ⟨R2, st2⟩ := h.row (qa' := Adv qa qc 1 1) (qc' := qc - 1) (queue' := q') Q2 (Fr.refl _ _) (fun b hb2 => .inl (by rw [eb] at hb2; exact hb2)) (by rw [el, ec] at B2; simpa using B2) s2f
  have R3 := R2.still d3.fr
  have ev : (f :: q').getD (Int.toNat 0) 0 = f := rfl
  rw [ev]
  exact approot_c R3 (Int.le_refl 0) hu (by have := h64 u hu; omega) f (F := fun w => K f true w) fun w4 own4 u' e R st => hok u hu w4 own4 u' _ _ e R (st2.trans ((St.still d3.fr).trans st))

/-- The search's own cells. -/
structure Rd (w : World) (own : Nat → Nat) (km b1 mb b5 b8 rb : Nat) (la : Option Addr) (lc : Nat) (s : List Int × List Int) : Prop where
  c1 : Blk w b1 [ptrV rb]
  c5 : Blk w b5 [.map (some mb)]
  c8 : Blk w b8 [.slice la s.2.length lc]
  mp : ∃ m clk, MI w mb m clk ∧ m.map (·.1) = s.1 ∧ ∀ e ∈ m, e.2.1 = .bool true
  sl : SI w la lc s.2
  t1 : Tag own [b1] 20
  tm : Tag own [mb] km
  t5 : Tag own [b5] 22
  t8 : Tag own [b8] 23
  tl : Tag own (ablk la) 24

theorem Rd.step {km b1 mb b5 b8 lc : Nat} {la : Option Addr} {s : List Int × List Int} (h : Rd w own km b1 mb b5 b8 rb la lc s) (hk : 13 ≤ km) (st : St w w' own own') : Rd w' own' km b1 mb b5 b8 rb la lc s := by
  obtain ⟨m, clk, hm, q⟩ := h.mp
  obtain ⟨m1, m2⟩ := st.mi hm h.tm hk
  have sd := Sd.step ⟨h.sl, h.tl⟩ st (by decide)
  exact ⟨(st.blk h.c1 h.t1 (by decide)).1, (st.blk h.c5 h.t5 (by decide)).1, (st.blk h.c8 h.t8 (by decide)).1, ⟨m, clk, m1, q⟩, sd.si, (st.blk h.c1 h.t1 (by decide)).2, m2, (st.blk h.c5 h.t5 (by decide)).2, (st.blk h.c8 h.t8 (by decide)).2, sd.tg⟩

/-- Refs are seen. -/
theorem see_c {km b1 mb b5 b8 lc : Nat} {la : Option Addr} {s : List Int × List Int} (hk : 30 ≤ km ∧ km ≤ 31) (h : Rx w own rb hb fm G ra rc ts qa qc words taken last ss xs fin queue) (D : Rd w own km b1 mb b5 b8 rb la lc s) (sn : Seen xs s) (hxl : xs.length ≤ 100000)
    {aa : Option Addr} {ac ka : Nat} {rs : List Int} (A : Sd w own aa ac ka rs) (hka : ka < 13 ∨ ka = 25) {K : World → Prop}
    (hK : ∀ w' own' la' lc', Rx w' own' rb hb fm G ra rc ts qa qc words taken last ss xs fin queue → Rd w' own' km b1 mb b5 b8 rb la' lc' (seeL xs s rs) → StN 40 w w' own own' → K w') :
    C180 aa rs.length ac (some ⟨b1, 0, none⟩) (some ⟨b5, 0, none⟩) (some ⟨b8, 0, none⟩) w K := by
  refine r_f180 _ _ _ _ _ _ _ _ ⟨fun n w' => 0 ≤ n ∧ n ≤ rs.length ∧ ∃ own' la' lc', Rx w' own' rb hb fm G ra rc ts qa qc words taken last ss xs fin queue ∧ Rd w' own' km b1 mb b5 b8 rb la' lc' (seeL xs s (rs.take n.toNat)) ∧ StN 40 w w' own own' ∧ Sd w' own' aa ac ka rs, fun n _ => (rs.length - n).toNat,
    ⟨by decide, by omega, own, la, lc, h, by simpa [seeL] using D, St.still (fun S => Fr.refl S w), A⟩, ?_⟩
  rintro - n w1 ⟨hn0, hn1, own1, la1, lc1, R1, D1, st1, A1⟩
  refine IfB.dec (fun hlt => ?_) (fun hge => ?_)
  · have hnl : n.toNat < rs.length := by omega
    have hmx := A1.si.le
    have hmax : maxLen = 9223372036854775807 := rfl
    have fitn : Fit .i64 (n + 1) := fit64 (by omega) (by omega)
    have en : (n + 1).toNat = n.toNat + 1 := by omega
    have etk := seeL_take xs s rs hnl
    rw [← en] at etk
    generalize hr : rs.getD n.toNat 0 = r at *
    generalize hs1 : seeL xs s (rs.take n.toNat) = s1 at *
    have sn1 : Seen xs s1 := by rw [← hs1]; exact Seen.seeL _ sn
    refine A1.si.get hn0 hlt fun p hp => ⟨⟨hn0, hlt⟩, r, (by rw [← hr]; exact hp), _, D1.c1.cell rfl, PtrOK.of rfl ⟨_, R1.hd.cella rfl, ?_⟩⟩
    -- where nothing is seen
    have skip : ∀ (w2 : World), (∀ S, Fr S w1 w2) → see1 xs s1 r = s1 → Fit .i64 (n + 1) ∧ ((0 ≤ n + 1 ∧ n + 1 ≤ rs.length ∧ ∃ own' la' lc', Rx w2 own' rb hb fm G ra rc ts qa qc words taken last ss xs fin queue ∧ Rd w2 own' km b1 mb b5 b8 rb la' lc' (seeL xs s (rs.take (n + 1).toNat)) ∧ StN 40 w w2 own own' ∧ Sd w2 own' aa ac ka rs) ∧ (rs.length - (n + 1)).toNat < (rs.length - n).toNat) := by
      intro w2 f2 e2
      refine ⟨fitn, ⟨by omega, by omega, own1, la1, lc1, R1.still f2, by rw [etk, e2]; exact D1.step (by omega) (St.still f2), st1.trans (St.still f2), A1.step (n := 0) (St.still f2) (by omega)⟩, by omega⟩
    refine xcell_c R1.H r (fun hn w2 f2 => fun b3 w3 n3 => ⟨n3.blk.mayL (by simp), fun w4 s4 => ?_⟩) (fun x hx ex w2 f2 => fun b3 w3 n3 => ⟨n3.blk.mayL (by simp), fun w4 s4 => ?_⟩)
    · obtain ⟨X4, f4⟩ := newSet n3 s4 rfl
      refine IfB.no (by decide) (skip w4 (fun S => (f2 S).more (f4 S)) ?_)
      unfold see1
      rw [if_neg]
      rintro ⟨h1, _⟩
      obtain ⟨x, hx, e⟩ := isref_iff.1 h1
      exact hn x hx e
    · obtain ⟨X4, f4⟩ := newSet n3 s4 rfl
      have fA : ∀ S, Fr S w1 w4 := fun S => (f2 S).more (f4 S)
      have R4 := R1.still fA
      have D4 := D1.step (by omega) (St.still fA)
      have A4 := A1.step (n := 0) (St.still fA) (by omega)
      have hir : isref xs r = true := isref_iff.2 ⟨x, hx, ex⟩
      obtain ⟨m, clk, hm, hkm, hv⟩ := D4.mp
      refine IfB.yes rfl ⟨_, D4.c5.cell rfl, look_true hm hv r ?_⟩
      rw [hkm]
      by_cases hin : r ∈ s1.1
      · rw [decide_eq_true hin]
        refine ifb_f (skip w4 fA ?_)
        unfold see1
        rw [if_neg (fun hc => hc.2 hin)]
      · rw [decide_eq_false hin]
        obtain ⟨w5, m5, clk5, hrun, M5, f5, hv5, hk5⟩ := put_true hm hv r
        rw [hkm, if_neg hin] at hk5
        have nem : ∀ {F : List Nat} {i : Nat}, Tag own1 F i → i ≠ km → Apart F [mb] := fun t hi => t.apart D4.tm hi
        have nemb : ∀ {b i : Nat}, Tag own1 [b] i → i ≠ km → b ∉ [mb] := fun t hi hb2 => nem t hi _ (by simp) hb2
        have R5 := R4.other f5 (by intro b hb2; rw [D4.tm b hb2]; omega) km
        have c8 := D4.c8.fr f5 (nemb D4.t8 (by omega))
        have c1 := D4.c1.fr f5 (nemb D4.t1 (by omega))
        have c5 := D4.c5.fr f5 (nemb D4.t5 (by omega))
        have sl5 := D4.sl.fr f5 (nem D4.tl (by omega))
        have A5 := A4.other f5 D4.tm (by omega) km
        refine ifb_t ⟨_, D4.c5.cell rfl, w5, hrun, _, _, _, c8.cell rfl, fun b6 w6 n6 => ?_⟩
        have ll : s1.2.length + 1 ≤ 1048576 := by have := sn1.le; have := sn1.len; omega
        refine app_int sl5 n6 ll fun a7 c7 w7 S7 f7 g7 => ?_
        have tl5 : Tag (ext own1 w4.heap.size km) (ablk la1) 24 := D4.tl.keep D4.sl.low km
        have low8 : Low [b8] w4.heap.size := by intro b hb2; simp at hb2; subst hb2; exact D4.c8.lt
        have low1 : Low [b1] w4.heap.size := by intro b hb2; simp at hb2; subst hb2; exact D4.c1.lt
        have low5 : Low [b5] w4.heap.size := by intro b hb2; simp at hb2; subst hb2; exact D4.c5.lt
        have lowm : Low [mb] w4.heap.size := by intro b hb2; simp at hb2; subst hb2; exact heap_lt hm.heap
        have z5 := f5.size
        have R7 := R5.other f7 (by intro b hb2; rw [tl5 b hb2]; omega) 24
        have t8' := D4.t8.keep low8 km
        have t1' := D4.t1.keep low1 km
        have t5' := D4.t5.keep low5 km
        have tm' := D4.tm.keep lowm km
        have ap7 : ∀ {b i : Nat}, Tag (ext own1 w4.heap.size km) [b] i → i ≠ 24 → b ∉ ablk la1 := fun t hi hb2 => (t.apart tl5 hi) _ (by simp) hb2
        have c8' := c8.fr f7 (ap7 t8' (by decide))
        have c1' := c1.fr f7 (ap7 t1' (by decide))
        have c5' := c5.fr f7 (ap7 t5' (by decide))
        have M7 := M5.fr f7 (ap7 tm' (by omega))
        have A7 := A5.other f7 tl5 (by omega) 24
        refine ⟨c8'.may (by simp), fun w8 s8 => ⟨fitn, ?_⟩⟩
        have B8 := s8.blk c8'
        have f8 : Fr [b8] w7 w8 := s8.fr (by simp)
        have own7 : Tag (ext (ext own1 w4.heap.size km) w5.heap.size 24) [b8] 23 := t8'.keep (fun b hb2 => Nat.lt_of_lt_of_le (low8 b hb2) z5) 24
        have t17 : Tag (ext (ext own1 w4.heap.size km) w5.heap.size 24) [b1] 20 := t1'.keep (fun b hb2 => Nat.lt_of_lt_of_le (low1 b hb2) z5) 24
        have t57 : Tag (ext (ext own1 w4.heap.size km) w5.heap.size 24) [b5] 22 := t5'.keep (fun b hb2 => Nat.lt_of_lt_of_le (low5 b hb2) z5) 24
        have tm7 : Tag (ext (ext own1 w4.heap.size km) w5.heap.size 24) [mb] km := tm'.keep (fun b hb2 => Nat.lt_of_lt_of_le (lowm b hb2) z5) 24
        have tl7 : Tag (ext (ext own1 w4.heap.size km) w5.heap.size 24) (ablk a7) 24 := tl5.grow sl5.low g7
        have R8 := R7.other f8 (by intro b hb2; rw [own7 b hb2]; omega) 23
        have A8 := A7.other f8 own7 (by omega) 23
        have z7 := f7.size
        have ap8 : ∀ {F : List Nat} {i : Nat}, Tag (ext (ext own1 w4.heap.size km) w5.heap.size 24) F i → i ≠ 23 → Apart F [b8] := fun t hi => t.apart own7 hi
        have ap8b : ∀ {b i : Nat}, Tag (ext (ext own1 w4.heap.size km) w5.heap.size 24) [b] i → i ≠ 23 → b ∉ [b8] := fun t hi hb2 => ap8 t hi _ (by simp) hb2
        have e2 : see1 xs s1 r = (s1.1 ++ [r], s1.2 ++ [r]) := by unfold see1; rw [if_pos ⟨hir, hin⟩]
        have st8 : StN 40 w4 w8 own1 (ext (ext (ext own1 w4.heap.size km) w5.heap.size 24) w7.heap.size 23) :=
          ((St.of f5 D4.tm (by omega) km).trans (St.of f7 tl5 (by decide) 24)).trans (St.of f8 own7 (by decide) 23)
        refine ⟨⟨by omega, by omega, _, a7, c7, R8, ?_, (st1.trans (St.still fA)).trans st8, A8⟩, by dsimp only; omega⟩
        rw [etk, e2]
        have l8 : Low [b8] w7.heap.size := fun b hb2 => Nat.lt_of_lt_of_le (low8 b hb2) (Nat.le_trans z5 z7)
        exact ⟨c1'.fr f8 (ap8b t17 (by decide)), c5'.fr f8 (ap8b t57 (by decide)), by simpa using B8, ⟨m5, clk5, M7.fr f8 (ap8b tm7 (by omega)), hk5, hv5⟩, S7.fr f8 (ap8 tl7 (by decide)),
          t17.keep (fun b hb2 => Nat.lt_of_lt_of_le (low1 b hb2) (Nat.le_trans z5 z7)) 23, tm7.keep (fun b hb2 => Nat.lt_of_lt_of_le (lowm b hb2) (Nat.le_trans z5 z7)) 23, t57.keep (fun b hb2 => Nat.lt_of_lt_of_le (low5 b hb2) (Nat.le_trans z5 z7)) 23, own7.keep l8 23, tl7.keep S7.low 23⟩
  · have : n = rs.length := by omega
    subst this
    rw [Int.toNat_natCast, List.take_length] at D1
    exact hK w1 own1 la1 lc1 R1 D1 st1
end
end Go.Proofs.Ytfpghcdjfiggiaa.V
