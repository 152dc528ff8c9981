/- The law StackActs: its calls. No condition. -/
import Derived.Test.YtfpghcdjfiggiaaActs5
namespace Go.Proofs.Ytfpghcdjfiggiaa.V
open Go Go.RowKit

section
variable {W w w' : World} {F F' : List Nat} {st ab wb sb y : Nat} {base cap : Int} {op op' : Nat → Option OpR} {ws ss ws' ss' items items' : List Int} {n n' : Int} {k : Nat} {ia ba : Option Addr} {ic bc : Nat} {bz bz' : List Int}

theorem begin14_c (h : Y14 W w F st ab wb sb y base cap op ws ss items n k ia ba ic bc bz) (kind ag v : Int) {K : Bool → World → Prop}
    (hK : ∀ w' F op bz, Y14 W w' F st ab wb sb y base cap op ws ss items n k ia ba ic bc bz → K true w') : C65 (some ⟨y, 0, none⟩) kind ag v w K := by
  refine r_f65 _ _ _ _ _ _ fun b1 w2 n2 => ?_
  have X2 := n2.blk
  have Y2 := h.fr0 n2.fr
  have lb := h.b.lb
  have ls := h.b.ls
  have hc := h.c32
  have hil := h.il
  have hk8 := h.k8
  generalize ho : (if 2 ≤ kind then (1 : Int) else 0) = o
  have ho' : o = 0 ∨ o = 1 := by rw [← ho]; split <;> omega
  refine ⟨fun o' w' => o' = o ∧ w' = w2, ⟨kind, X2.cell rfl, IfB.dec (fun h => ⟨by rw [← ho, if_pos h], rfl⟩) (fun h => ⟨by rw [← ho, if_neg h], rfl⟩)⟩, ?_⟩
  rintro - o' w3 ⟨rfl, rfl⟩
  refine ⟨fun q w' => (∀ S, Fr S w3 w') ∧ ((q = 501 ∧ ¬ (0 ≤ ag ∧ ag < k)) ∨ (q = 502 ∧ (0 ≤ ag ∧ ag < k) ∧ op ag.toNat ≠ none) ∨ (q = 504 ∧ (0 ≤ ag ∧ ag < k) ∧ op ag.toNat = none ∧ ¬ OpMay cap op items o' v) ∨ (q = 0 ∧ (0 ≤ ag ∧ ag < k) ∧ op ag.toNat = none ∧ OpMay cap op items o' v)), ?_, ?_⟩
  · intro w4 d4
    have Y4 := Y2.fr0 d4.fr
    have X4 := X2.fr (d4.fr []) (by simp)
    refine ⟨ag, X4.cell rfl, IfB.dec (fun h0 => ⟨d4.fr, .inl ⟨rfl, by omega⟩⟩) (fun h0 => ⟨ag, X4.cell rfl, _, _, _, Y4.Y.cell rfl, IfB.dec (fun h1 => ⟨d4.fr, .inl ⟨rfl, by omega⟩⟩) (fun h1 => ?_)⟩)⟩
    intro w5 d5
    have Y5 := Y4.fr0 d5.fr
    have X5 := X4.fr (d5.fr []) (by simp)
    have f5 : ∀ S, Fr S w3 w5 := fun S => (d4.fr S).more (d5.fr S)
    have hin : 0 ≤ ag ∧ ag < k := by omega
    refine ⟨_, _, _, Y5.Y.cell rfl, ag, X5.cell rfl, Y5.B.get hin.1 (by omega) fun p hp => ⟨⟨hin.1, by omega⟩, _, hp, IfB.dec (fun h2 => ⟨f5, .inr (.inl ⟨rfl, hin, fun h => ?_⟩)⟩) (fun h2 => ?_)⟩⟩
    · have := (Y5.busy (a := ag.toNat) (by omega)).2 h; omega
    have hno := (Y5.busy (a := ag.toNat) (by omega)).1 (by omega)
    intro w6 d6
    have Y6 := Y5.fr0 d6.fr
    have X6 := X5.fr (d6.fr []) (by simp)
    have f6 : ∀ S, Fr S w3 w6 := fun S => (f5 S).more (d6.fr S)
    refine IfB.dec (fun h3 => ?_) (fun h3 => ⟨f6, .inr (.inr (.inr ⟨rfl, hin, hno, by omega, fun h => by omega⟩))⟩)
    refine ⟨v, X6.cell rfl, IfB.dec (fun h4 => ⟨f6, .inr (.inr (.inl ⟨rfl, hin, hno, fun hm => by have := hm.2 h3; omega⟩))⟩) (fun h4 => ⟨v, X6.cell rfl, cap, Y6.Y.cell rfl, IfB.dec (fun h5 => ⟨f6, .inr (.inr (.inl ⟨rfl, hin, hno, fun hm => by have := hm.2 h3; omega⟩))⟩) (fun h5 => ?_)⟩)⟩
    refine ⟨_, _, _, Y6.Y.cell rfl, v, X6.cell rfl, ?_⟩
    have hI := hasI_c Y6.I v (by simp; omega) (K := fun b25 w26 => IfB b25
 (((∀ S, Fr S w3 w26) ∧ (((504 : Int) = 501 ∧ ¬ (0 ≤ ag ∧ ag < k)) ∨ ((504 : Int) = 502 ∧ (0 ≤ ag ∧ ag < k) ∧ op ag.toNat ≠ none) ∨ ((504 : Int) = 504 ∧ (0 ≤ ag ∧ ag < k) ∧ op ag.toNat = none ∧ ¬ OpMay cap op items o' v) ∨ ((504 : Int) = 0 ∧ (0 ≤ ag ∧ ag < k) ∧ op ag.toNat = none ∧ OpMay cap op items o' v))))
 (∃ (a27 : Option Addr) (l27 c27 : Nat), World.cell? w26 ⟨y, 4, none⟩ = some (.slice a27 l27 c27) ∧
 ∃ (n28 : Int), World.cell? w26 ⟨b1, 2, none⟩ = some (.int .i64 n28) ∧
 C145 a27 l27 c27 n28 w26 fun b29 w30 =>
 IfB b29
 ((∀ S, Fr S w3 w30) ∧ (((504 : Int) = 501 ∧ ¬ (0 ≤ ag ∧ ag < k)) ∨ ((504 : Int) = 502 ∧ (0 ≤ ag ∧ ag < k) ∧ op ag.toNat ≠ none) ∨ ((504 : Int) = 504 ∧ (0 ≤ ag ∧ ag < k) ∧ op ag.toNat = none ∧ ¬ OpMay cap op items o' v) ∨ ((504 : Int) = 0 ∧ (0 ≤ ag ∧ ag < k) ∧ op ag.toNat = none ∧ OpMay cap op items o' v)))
 ((∀ S, Fr S w3 w30) ∧ (((0 : Int) = 501 ∧ ¬ (0 ≤ ag ∧ ag < k)) ∨ ((0 : Int) = 502 ∧ (0 ≤ ag ∧ ag < k) ∧ op ag.toNat ≠ none) ∨ ((0 : Int) = 504 ∧ (0 ≤ ag ∧ ag < k) ∧ op ag.toNat = none ∧ ¬ OpMay cap op items o' v) ∨ ((0 : Int) = 0 ∧ (0 ≤ ag ∧ ag < k) ∧ op ag.toNat = none ∧ OpMay cap op items o' v)))))
    rw [List.length_reverse] at hI
    refine hI (IfB.dec (fun h6 => ⟨f6, .inr (.inr (.inl ⟨rfl, hin, hno, fun hm => (hm.2 h3).2.2.1 (List.mem_reverse.1 h6)⟩))⟩) (fun h6 => ⟨_, _, _, Y6.Y.cell rfl, v, X6.cell rfl, hasI_c Y6.B v (by omega) (IfB.dec (fun h7 => ⟨f6, .inr (.inr (.inl ⟨rfl, hin, hno, fun hm => ?_⟩))⟩) (fun h7 => ⟨f6, .inr (.inr (.inr ⟨rfl, hin, hno, .inl h3, fun _ => ⟨by omega, by omega, fun h => h6 (List.mem_reverse.2 h), fun j s q1 q2 q3 => h7 ((Y6.pend (by omega) (by omega)).2 ⟨j, s, q1, q2, q3⟩)⟩⟩))⟩))⟩))
    obtain ⟨j, s, q1, q2, q3⟩ := (Y6.pend (by omega) (by omega)).1 h7
    exact (hm.2 h3).2.2.2 j s q1 q2 q3
  rintro - q w4 ⟨f4, hq⟩
  intro w5 d5
  have f5 : ∀ S, Fr S w3 w5 := fun S => (f4 S).more (d5.fr S)
  have Y5 := Y2.fr0 f5
  have X5 := X2.fr (f5 []) (by simp)
  have xb := n2.ge
  have lF := h.S.low
  have lB := h.B.low
  refine ⟨_, Y5.Y.cell rfl, ag, X5.cell rfl, v, X5.cell rfl, ?_⟩
  refine begin_c Y5.S Y5.L ag o' v (fun hb => ?_) (fun h0 h1 h2 => ?_) (fun h0 h1 h2 h3 w6 f6 => ?_) (fun h0 h1 h2 h3 w6 F6 S6 L6 f6 g6 => ?_)
  · have e : q = 501 := by
      rw [ls] at hb
      rcases hq with q | q | q | q
      · exact q.1
      · exact absurd q.2.1 hb
      · exact absurd q.2.1 hb
      · exact absurd q.2.1 hb
    subst e
    exact ifb_f (hK _ _ _ _ Y5)
  · rw [ls] at h1
    have e : q = 502 := by
      rcases hq with q | q | q | q
      · exact absurd ⟨h0, h1⟩ q.2
      · exact q.1
      · exact absurd q.2.2.1 h2
      · exact absurd q.2.2.1 h2
    subst e
    exact ifb_f (hK _ _ _ _ Y5)
  · rw [ls] at h1
    have e : q = 504 := by
      rcases hq with q | q | q | q
      · exact absurd ⟨h0, h1⟩ q.2
      · exact absurd h2 q.2.2
      · exact q.1
      · exact absurd q.2.2.2 h3
    subst e
    exact ifb_f (hK _ _ _ _ (Y5.fr0 f6))
  rw [ls] at h1
  have e : q = 0 := by
    rcases hq with q | q | q | q
    · exact absurd ⟨h0, h1⟩ q.2
    · exact absurd h2 q.2.2
    · exact absurd h3 q.2.2.2
    · exact q.1
  subst e
  have T6 := Y5.stk S6 L6 Y5.n5 f6 g6
  have bF : b1 ∉ F := fun hb => by have := lF b1 hb; omega
  have X6 := X5.fr f6 bF
  refine ifb_t fun w7 d7 => ?_
  have T7 := T6.fr0 d7.fr
  have X7 := X6.fr (d7.fr []) (by simp)
  have bB : b1 ∉ ablk ba := fun hb => by have := lB b1 hb; omega
  refine ⟨_, _, _, T7.Y.cell rfl, ag, X7.cell rfl, v, X7.cell rfl, T7.B.put h0 (by omega) v fun p hm _ hs => ⟨⟨h0, by omega⟩, hm, fun w8 s8 => ?_⟩⟩
  obtain ⟨q1, q2⟩ := hs w8 s8
  have T8 := T7.setB (by simp) q1 q2
  have X8 := X7.fr q2 bB
  refine IfB.dec (fun h4 => ?_) (fun h4 => ?_)
  · intro w9 d9
    have T9 := T8.fr0 d9.fr
    have X9 := X8.fr (d9.fr []) (by simp)
    refine ⟨_, _, _, T9.Y.cell rfl, ag, X9.cell rfl, cap, T9.Y.cell rfl, T9.B.put h0 (by simp; omega) cap fun p hm _ hs => ⟨⟨h0, by simp; omega⟩, hm, fun w10 s10 => ?_⟩⟩
    obtain ⟨q1, q2⟩ := hs w10 s10
    have T10 := T9.setB (by simp) q1 q2
    rw [List.set_set] at T10
    have B10 := h.b.put (a := ag.toNat) (by omega) (some ⟨o', v, 0, 0, 0⟩)
    have e : spell cap (some ⟨o', v, 0, 0, 0⟩) = cap := by show (if o' = 0 then v else cap) = cap; rw [if_neg (by omega)]
    rw [e] at B10
    exact hK _ _ _ _ (T10.back B10)
  · have B10 := h.b.put (a := ag.toNat) (by omega) (some ⟨o', v, 0, 0, 0⟩)
    have e : spell cap (some ⟨o', v, 0, 0, 0⟩) = v := by show (if o' = 0 then v else cap) = v; rw [if_pos (by omega)]
    rw [e] at B10
    exact hK _ _ _ _ (T8.back B10)

theorem step14_c (h : Y14 W w F st ab wb sb y base cap op ws ss items n k ia ba ic bc bz) (hn : n < 600) (ag : Int) {K : Bool → World → Prop}
    (hK : ∀ w' F op ws ss items ia ic bz, Y14 W w' F st ab wb sb y base cap op ws ss items (n + 1) k ia ba ic bc bz → K true w') : C66 (some ⟨y, 0, none⟩) ag w K := by
  have lb := h.b.lb
  have ls := h.b.ls
  have hc := h.c32
  have hil := h.il
  have hk8 := h.k8
  have hn5 := h.n5
  have up1 : Y14 W w F st ab wb sb y base cap op ws ss items (n + 1) k ia ba ic bc bz := ⟨h.S, h.L.more, h.fw, h.Y, h.I, h.B, h.b.more, by omega, h.k8, h.c32, h.sep, h.up⟩
  refine r_f66 _ _ _ _ ⟨_, h.Y.cell rfl, steps_c h.S.ar ag ⟨_, h.Y.cell rfl, ?_⟩⟩
  generalize hst : (if 0 ≤ ag ∧ ag < (ss.length : Int) then ss.getD ag.toNat 0 else 0) = s0
  refine ststep_c h.S h.L (by omega) ag (fun hb => ?_) (fun h0 h1 h2 => ?_) (fun r h0 h1 hr w1 r1 ws1 S1 f1 L1 e1 e2 lt e0 _ => ?_) (fun r h0 h1 hr ho w1 F1 ws1 S1 f1 g1 L1 _ => ?_) (fun r x rest h0 h1 hr ho hit w1 F1 ws1 S1 f1 g1 L1 _ => ?_) (fun r h0 h1 hr ho hit w1 F1 S1 f1 g1 L1 => ?_)
  · rw [ls] at hb
    have fin : IfB (decide ((501 : Int) = 501)) (IfB (!false) (IfB (decide ((0 : Int) = 0)) (K (!false) w) (K false w)) (K false w)) (K false w) := ifb_t (ifb_t (ifb_t (hK _ _ _ _ _ _ _ _ _ up1)))
    refine ⟨fun _ => False, IfB.dec (fun _ => fin) (fun hg => ⟨_, _, _, h.Y.cell rfl, IfB.yes (by omega) fin⟩), fun _ _ h => h.elim⟩
  · rw [ls] at h1
    refine ⟨fun w' => w' = w, IfB.no (by omega) ⟨_, _, _, h.Y.cell rfl, IfB.no (by omega) rfl⟩, ?_⟩
    rintro - w1 rfl
    have := (h.busy (a := ag.toNat) (by omega)).2 h2
    exact ⟨_, _, _, h.Y.cell rfl, h.B.get h0 (by omega) fun p hp => ⟨⟨h0, by omega⟩, _, hp, IfB.yes this (ifb_t (ifb_t (ifb_t (hK _ _ _ _ _ _ _ _ _ up1))))⟩⟩
  · rw [ls] at h1
    obtain ⟨tk, tk2⟩ := h.b.tick (by omega) h0 h1
    have tl := tk.ls
    have T1 := h.stk S1 L1.more (by omega) f1 (fun b hb => .inl hb)
    have Y1 := T1.back (tk.go (by omega) hr e1 e2)
    refine ⟨fun w' => w' = w1, IfB.no (by omega) ⟨_, _, _, Y1.Y.cell rfl, IfB.no (by omega) rfl⟩, ?_⟩
    rintro - w2 rfl
    have nb : ¬ bz.getD ag.toNat 0 < 0 := fun hb => by have := (h.busy (a := ag.toNat) (by omega)).1 hb; rw [hr] at this; cases this
    refine ⟨_, _, _, Y1.Y.cell rfl, Y1.B.get h0 (by omega) fun p hp => ⟨⟨h0, by omega⟩, _, hp, IfB.no nb ?_⟩⟩
    have hb1 := h.b.tk ag.toNat
    rw [if_pos ⟨h0, by omega⟩] at hst
    refine ⟨fun w' => w' = w2, ifb_nyes rfl ⟨_, Y1.Y.cell rfl, steps_c Y1.S.ar ag ⟨fit64 (by omega) (by omega), IfB.no ?_ rfl⟩⟩, ?_⟩
    · rw [if_pos ⟨h0, by omega⟩, tk2]; omega
    rintro - w3 rfl
    exact ifb_t (ifb_t (hK _ _ _ _ _ _ _ _ _ Y1))
  · rw [ls] at h1
    obtain ⟨tk, tk2⟩ := h.b.tick (by omega) h0 h1
    have tl := tk.ls
    have T1 := h.stk S1 L1 (by omega) f1 g1
    have B1 := tk.put (a := ag.toNat) (by omega) none
    have sp := h.b.bz ag.toNat (by omega)
    rw [hr] at sp
    have sp : bz.getD ag.toNat 0 = r.v := by rw [sp]; show (if r.op = 0 then r.v else cap) = r.v; rw [if_pos ho]
    have hv := (h.L.ops _ r hr).push ho
    refine ⟨fun w' => w' = w1, IfB.no (by omega) ⟨_, _, _, T1.Y.cell rfl, IfB.no (by omega) rfl⟩, ?_⟩
    rintro - w2 rfl
    refine ⟨_, _, _, T1.Y.cell rfl, T1.B.get h0 (by omega) fun p hp => ⟨⟨h0, by omega⟩, _, hp, IfB.no (by omega) ?_⟩⟩
    have hb1 := h.b.tk ag.toNat
    rw [if_pos ⟨h0, by omega⟩] at hst
    refine ⟨fun w' => w' = w2, ifb_nyes rfl ⟨_, T1.Y.cell rfl, steps_c T1.S.ar ag ⟨fit64 (by omega) (by omega), IfB.no ?_ rfl⟩⟩, ?_⟩
    · rw [if_pos ⟨h0, by omega⟩, tk2]; omega
    rintro - w3 rfl
    refine ifb_f ⟨_, _, _, T1.Y.cell rfl, T1.B.get h0 (by omega) fun p hp => ⟨⟨h0, by omega⟩, _, hp, _, _, _, T1.Y.cell rfl, T1.B.put h0 (by omega) (-1) fun p hm _ hs => ⟨⟨h0, by omega⟩, hm, fun w4 s4 => ?_⟩⟩⟩
    obtain ⟨q1, q2⟩ := hs w4 s4
    have T4 := T1.setB (by simp) q1 q2
    refine ⟨cap, T4.Y.cell rfl, IfB.yes (by omega) ⟨_, _, _, T4.Y.cell rfl, fun b5 w5 n5 => ?_⟩⟩
    have ap := app_int T4.I n5 (by simp; omega) (K := fun a31 l31 c31 w32 => May w32 ⟨y, 3, none⟩ ∧ ∀ w33 : World, SetC w32 w33 ⟨y, 3, none⟩ (.slice a31 l31 c31) → IfB true (K (decide ((0 : Int) = 0)) w33) (K false w33))
    rw [List.length_reverse] at ap
    rw [sp] at *
    refine ap fun a6 c6 w6 I6 f6 g6 => ⟨(T4.Y.fr f6 T4.sep.2.2.2.1).may (by simp), fun w7 s7 => ifb_t ?_⟩
    have I6' : SI w6 a6 c6 (r.v :: items).reverse := by simpa using I6
    have T7 := T4.setI I6' f6 g6 (by simp) s7
    exact hK _ _ _ _ _ _ _ _ _ (T7.back B1)
  · rw [ls] at h1
    obtain ⟨tk, tk2⟩ := h.b.tick (by omega) h0 h1
    have tl := tk.ls
    have T1 := h.stk S1 L1 (by omega) f1 g1
    have B1 := tk.put (a := ag.toNat) (by omega) none
    have sp := h.b.bz ag.toNat (by omega)
    rw [hr] at sp
    have sp : bz.getD ag.toNat 0 = cap := by rw [sp]; show (if r.op = 0 then r.v else cap) = cap; rw [if_neg (by omega)]
    refine ⟨fun w' => w' = w1, IfB.no (by omega) ⟨_, _, _, T1.Y.cell rfl, IfB.no (by omega) rfl⟩, ?_⟩
    rintro - w2 rfl
    refine ⟨_, _, _, T1.Y.cell rfl, T1.B.get h0 (by omega) fun p hp => ⟨⟨h0, by omega⟩, _, hp, IfB.no (by omega) ?_⟩⟩
    have hb1 := h.b.tk ag.toNat
    rw [if_pos ⟨h0, by omega⟩] at hst
    refine ⟨fun w' => w' = w2, ifb_nyes rfl ⟨_, T1.Y.cell rfl, steps_c T1.S.ar ag ⟨fit64 (by omega) (by omega), IfB.no ?_ rfl⟩⟩, ?_⟩
    · rw [if_pos ⟨h0, by omega⟩, tk2]; omega
    rintro - w3 rfl
    refine ifb_f ⟨_, _, _, T1.Y.cell rfl, T1.B.get h0 (by omega) fun p hp => ⟨⟨h0, by omega⟩, _, hp, _, _, _, T1.Y.cell rfl, T1.B.put h0 (by omega) (-1) fun p hm _ hs => ⟨⟨h0, by omega⟩, hm, fun w4 s4 => ?_⟩⟩⟩
    obtain ⟨q1, q2⟩ := hs w4 s4
    have T4 := T1.setB (by simp) q1 q2
    subst hit
    refine ⟨cap, T4.Y.cell rfl, IfB.no (by omega) ⟨_, _, _, T4.Y.cell rfl, IfB.no (by simp; omega) fun w5 d5 => ?_⟩⟩
    have T5 := T4.fr0 d5.fr
    have hil : rest.length + 1 ≤ 32 := by simpa using hil
    refine ⟨_, _, _, T5.Y.cell rfl, _, _, _, T5.Y.cell rfl, fit64 (by simp <;> omega) (by simp <;> omega), T5.I.get (i := ((x :: rest).length : Int) - 1) (by simp <;> omega) (by simp <;> omega) fun p hp => ⟨⟨by simp <;> omega, by simp <;> omega⟩, x, ?_, fun w6 d6 => ?_⟩⟩
    · rw [hp]
      have e : (((x :: rest).length : Int) - 1).toNat = rest.reverse.length := by simp
      rw [e, List.reverse_cons, List.getD_eq_getElem?_getD, List.getElem?_concat_length]
      rfl
    have T6 := T5.fr0 d6.fr
    refine ⟨_, _, _, T6.Y.cell rfl, _, _, _, T6.Y.cell rfl, fit64 (by simp <;> omega) (by simp <;> omega), ⟨by simp <;> omega, ?_⟩, T6.Y.may (by simp), fun w7 s7 => ifb_t ?_⟩
    · have := T6.I.le.1; simp at this ⊢; omega
    have I6 : SI w6 ia ic rest.reverse := by
      have := T6.I
      rw [List.reverse_cons] at this
      exact this.pre
    have T7 := T6.setI (its' := rest) I6 (Fr.refl _ _) (fun b hb => .inl hb) (by simp) s7
    rw [decide_eq_true rfl]
    exact hK _ _ _ _ _ _ _ _ _ (T7.back B1)
  · rw [ls] at h1
    obtain ⟨tk, tk2⟩ := h.b.tick (by omega) h0 h1
    have tl := tk.ls
    have T1 := h.stk S1 L1.more (by omega) f1 g1
    have B1 := tk.put (a := ag.toNat) (by omega) none
    have sp := h.b.bz ag.toNat (by omega)
    rw [hr] at sp
    have sp : bz.getD ag.toNat 0 = cap := by rw [sp]; show (if r.op = 0 then r.v else cap) = cap; rw [if_neg (by omega)]
    refine ⟨fun w' => w' = w1, IfB.no (by omega) ⟨_, _, _, T1.Y.cell rfl, IfB.no (by omega) rfl⟩, ?_⟩
    rintro - w2 rfl
    refine ⟨_, _, _, T1.Y.cell rfl, T1.B.get h0 (by omega) fun p hp => ⟨⟨h0, by omega⟩, _, hp, IfB.no (by omega) ?_⟩⟩
    have hb1 := h.b.tk ag.toNat
    rw [if_pos ⟨h0, by omega⟩] at hst
    refine ⟨fun w' => w' = w2, ifb_nyes rfl ⟨_, T1.Y.cell rfl, steps_c T1.S.ar ag ⟨fit64 (by omega) (by omega), IfB.no ?_ rfl⟩⟩, ?_⟩
    · rw [if_pos ⟨h0, by omega⟩, tk2]; omega
    rintro - w3 rfl
    refine ifb_f ⟨_, _, _, T1.Y.cell rfl, T1.B.get h0 (by omega) fun p hp => ⟨⟨h0, by omega⟩, _, hp, _, _, _, T1.Y.cell rfl, T1.B.put h0 (by omega) (-1) fun p hm _ hs => ⟨⟨h0, by omega⟩, hm, fun w4 s4 => ?_⟩⟩⟩
    obtain ⟨q1, q2⟩ := hs w4 s4
    have T4 := T1.setB (by simp) q1 q2
    subst hit
    refine ⟨cap, T4.Y.cell rfl, IfB.no (by omega) ⟨_, _, _, T4.Y.cell rfl, IfB.yes (by simp) (ifb_t ?_)⟩⟩
    exact hK _ _ _ _ _ _ _ _ _ (T4.back B1)
end
end Go.Proofs.Ytfpghcdjfiggiaa.V
