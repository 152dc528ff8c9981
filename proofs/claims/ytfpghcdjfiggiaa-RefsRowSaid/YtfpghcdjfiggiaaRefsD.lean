/- Weak references and finalizers: what is reached. No condition. -/
import Derived.Test.YtfpghcdjfiggiaaRefsR
namespace Go.Proofs.Ytfpghcdjfiggiaa.V
open Go Go.RowKit

def kindR (k : Int) : Bool := decide (k = 1 ∨ k = 3)

section
variable {w w' : World} {own own' : Nat → Nat} {rb hb fm rc qc k : Nat} {G G' S : List Nat} {ra qa : Option Addr} {ts : List RT} {words taken last : Int} {ss : List Int} {xs : List XC} {fin queue : List Int}

/-- All that holds cells: roots, then the queue. -/
def rootsL (ts : List RT) (queue : List Int) : List Int := (ts.map (·.rs)).flatten ++ queue

theorem Rd.newblk {km b1 mb b5 b8 lc : Nat} {la : Option Addr} {s : List Int × List Int} (h : Rd w own km b1 mb b5 b8 rb la lc s) (hk : 13 ≤ km) {b : Nat} {cs : Array Value} {T : TypeId} (n : NewAt w w' b cs T) (j : Nat) :
    Rd w' (ext own w.heap.size j) km b1 mb b5 b8 rb la lc s := h.step hk ⟨⟨[], n.fr [], by simp⟩, fun b hb => by unfold ext; rw [if_pos hb]⟩

theorem rreached_c {km : Nat} (hk : 30 ≤ km ∧ km ≤ 31) (h : Rx w own rb hb fm G ra rc ts qa qc words taken last ss xs fin queue) (hss : ss.length = ts.length) (h1t : 1 ≤ ts.length) (hxl : xs.length ≤ 100000) {K : Option Nat → World → Prop}
    (hK : ∀ w' own' ss' mb B, Rx w' own' rb hb fm G ra rc ts qa qc words taken last ss' xs fin queue → ss'.length = ss.length → (∃ m clk, MI w' mb m clk ∧ m.map (·.1) = B ∧ ∀ e ∈ m, e.2.1 = .bool true) → Tag own' [mb] km →
      (∀ r, r ∈ B ↔ Rch kindR xs (rootsL ts queue) r) → StN 40 w w' own own' → K (some mb) w') : C168 (some ⟨rb, 0, none⟩) w K := by
  refine r_f168 _ _ _ fun b1 w1 n1 => fun mb w2 n2 => fun b5 w3 n3 => ⟨n3.blk.may (by simp), fun w4 s4 => fun b8 w5 n5 => ?_⟩
  have g1 := n1.ge
  have g2 := n2.ge
  have g3 := n3.ge
  have g5 := n5.ge
  have z1 := (n1.fr []).size
  have z2 := (n2.fr []).size
  have z3 := (n3.fr []).size
  have l1 := n1.blk.lt
  have hmi : MI w2 mb [] 0 := by
    have hm := n2.mp
    exact ⟨by unfold Mp at hm; simpa using hm, by simp, by simp, by simp⟩
  have l2 := heap_lt hmi.heap
  have l3 := n3.blk.lt
  have f4 : Fr [b5] w3 w4 := s4.fr (by simp)
  have z4 := f4.size
  have fA : ∀ S, Fr S w w5 := fun S => ((((n1.fr S).more (n2.fr S)).more (n3.fr S)).trans f4 (by simp; exact .inr (by omega))).more (n5.fr S)
  have c1 := ((((n1.blk.fr (n2.fr []) (by simp)).fr (n3.fr []) (by simp)).fr f4 (by simp; omega))).fr (n5.fr []) (by simp)
  have M5 := ((hmi.fr (n3.fr []) (by simp)).fr f4 (by simp; omega)).fr (n5.fr []) (by simp)
  have c5 := (s4.blk n3.blk).fr (n5.fr []) (by simp)
  obtain ⟨own5, ho5⟩ : ∃ own5 : Nat → Nat, own5 = fun b => if b < w.heap.size then own b else if b = b1 then 20 else if b = mb then km else if b = b5 then 22 else 23 := ⟨_, rfl⟩
  have st5 : StN 40 w w5 own own5 := ⟨⟨[], fA [], by simp⟩, fun b hb => by rw [ho5]; simp [hb]⟩
  have R5 : Rx w5 own5 rb hb fm G ra rc ts qa qc words taken last ss xs fin queue := by
    have R := h.still fA
    obtain ⟨q0, q1, q2, q3, q4, q5⟩ := h.lows
    have tg : ∀ {F : List Nat} {i : Nat}, Tag own F i → Low F w.heap.size → Tag own5 F i := fun t l b hb => by rw [st5.ag b (l b hb)]; exact t b hb
    exact ⟨R.H, R.hd, R.T, R.V, R.M, R.Q, tg R.o0 q0, tg R.o1 q1, tg R.o2 q2, tg R.o3 q3, tg R.o4 q4, fun i t ht => tg (R.o5 i t ht) (q5 t (List.mem_of_getElem? ht)), R.o6⟩
  have tone : ∀ {b i : Nat}, own5 b = i → Tag own5 [b] i := fun e c hc => by simp at hc; subst hc; exact e
  have D5 : Rd w5 own5 km b1 mb b5 b8 rb none 0 ([], []) := by
    refine ⟨c1, by simpa using c5, n5.blk, ⟨[], 0, M5, rfl, by simp⟩, SI.nil _, tone ?_, tone ?_, tone ?_, tone ?_, by simp [Tag, ablk]⟩
    · rw [ho5]; dsimp only; rw [if_neg (by omega), if_pos rfl]
    · rw [ho5]; dsimp only; rw [if_neg (by omega), if_neg (by omega), if_pos rfl]
    · rw [ho5]; dsimp only; rw [if_neg (by omega), if_neg (by omega), if_neg (by omega), if_pos rfl]
    · rw [ho5]; dsimp only; rw [if_neg (by omega), if_neg (by omega), if_neg (by omega), if_neg (by omega)]
  have sn0 : Seen xs ([], []) := ⟨by simp, by simp, by simp, by simp, by simp⟩
  refine ⟨_, D5.c1.cell rfl, PtrOK.of rfl ⟨_, _, _, R5.hd.cella rfl, ?_⟩⟩
  refine ⟨fun n w' => 0 ≤ n ∧ n ≤ ts.length ∧ ∃ own' la lc, Rx w' own' rb hb fm G ra rc ts qa qc words taken last ss xs fin queue ∧ Rd w' own' km b1 mb b5 b8 rb la lc (seeL xs ([], []) ((ts.take n.toNat).map (·.rs)).flatten) ∧ StN 40 w w' own own', fun n _ => (ts.length - n).toNat,
    ⟨by decide, by omega, own5, none, 0, R5, by simpa [seeL] using D5, st5⟩, ?_⟩
  rintro - n w6 ⟨hn0, hn1, own6, la6, lc6, R6, D6, st6⟩
  refine IfB.dec (fun hlt => ?_) (fun hge => ?_)
  · refine rts_at R6 hn0 hlt fun t p ht hc _ _ => ⟨⟨hn0, hlt⟩, _, _, _, hc, ?_⟩
    have h6 := h.o6
    refine see_c hk R6 D6 (Seen.seeL _ sn0) hxl (ka := 5 + n.toNat) ⟨R6.V t (List.mem_of_getElem? ht), R6.o5 _ t ht⟩ (.inl (by omega)) fun w7 own7 la7 lc7 R7 D7 st7 => ?_
    have en : (n + 1).toNat = n.toNat + 1 := by omega
    refine ⟨fit64 (by omega) (by omega), ⟨by omega, by omega, own7, la7, lc7, R7, ?_, st6.trans st7⟩, by dsimp only; omega⟩
    obtain ⟨p1, p2⟩ := List.getElem?_eq_some_iff.1 ht
    rw [en, List.take_succ_eq_append_getElem p1, List.map_append, List.flatten_append, seeL_app, p2]
    simpa using D7
  · have hn : n.toNat = ts.length := by omega
    rw [hn, List.take_length] at D6
    refine ⟨_, D6.c1.cell rfl, PtrOK.of rfl ⟨_, _, _, (by rw [addr_add, addr_add]; exact R6.hd.cell rfl), ?_⟩⟩
    refine see_c hk R6 D6 (Seen.seeL _ sn0) hxl (ka := 4) ⟨R6.Q, R6.o4⟩ (.inl (by decide)) fun w7 own7 la7 lc7 R7 D7 st7 => ?_
    rw [← seeL_app] at D7
    have eS : (ts.map (·.rs)).flatten ++ queue = rootsL ts queue := rfl
    rw [eS] at D7
    have W7 : Work kindR xs (rootsL ts queue) (seeL xs ([], []) (rootsL ts queue)) := Work.begin _
    -- the search
    obtain ⟨Q, hQ⟩ : ∃ Q : World → Nat → Prop, ∀ w' k, Q w' k ↔ ∃ own' la lc ss' B L, Rx w' own' rb hb fm G ra rc ts qa qc words taken last ss' xs fin queue ∧ ss'.length = ss.length ∧ Rd w' own' km b1 mb b5 b8 rb la lc (B, L) ∧ Work kindR xs (rootsL ts queue) (B, L) ∧ StN 40 w w' own own' ∧ k = 2 * (xs.length - B.length) + L.length := ⟨_, fun _ _ => Iff.rfl⟩
    refine ⟨fun w' => ∃ k, Q w' k, fun w' => leastN (Q w'), ⟨_, (hQ _ _).2 ⟨own7, la7, lc7, ss, _, _, R7, rfl, D7, W7, st6.trans st7, rfl⟩⟩, ?_⟩
    rintro - w8 hex
    obtain ⟨hq, hmin⟩ := leastN_spec hex
    obtain ⟨k8, hk8⟩ : ∃ k, k = leastN (Q w8) := ⟨_, rfl⟩
    rw [← hk8] at hq hmin
    have next : ∀ (w' : World) (k' : Nat), Q w' k' → k' < k8 → (∃ k, Q w' k) ∧ leastN (Q w') < leastN (Q w8) := fun w' k' hq' hk' => ⟨⟨k', hq'⟩, by rw [← hk8]; exact Nat.lt_of_le_of_lt ((leastN_spec ⟨k', hq'⟩).2 k' hq') hk'⟩
    obtain ⟨own8, la8, lc8, ss8, B, L, R8, es8, D8, W8, st8, ek8⟩ := (hQ _ _).1 hq
    refine ⟨_, _, _, D8.c8.cell rfl, IfB.dec (fun hlt => ?_) (fun hge => ?_)⟩
    · rcases List.eq_nil_or_concat L with e | ⟨L0, q, e⟩
      · rw [e] at hlt; simp at hlt
      rw [List.concat_eq_append] at e
      subst e
      have hql : q ∈ B := W8.sn.sub q (by simp)
      obtain ⟨x, hx, ex⟩ := isref_iff.1 (W8.sn.is q hql)
      have hLl : (L0 ++ [q]).length ≤ 100000 := by have := W8.sn.le; have := W8.sn.len; dsimp only at *; omega
      have hll : ((L0 ++ [q]).length : Int) = L0.length + 1 := by simp
      dsimp only at hlt ⊢
      have c88 : Blk w8 b8 [.slice la8 (L0 ++ [q]).length lc8] := D8.c8
      have sl8 : SI w8 la8 lc8 (L0 ++ [q]) := D8.sl
      have sle := sl8.le
      refine ⟨_, _, _, c88.cell rfl, _, _, _, c88.cell rfl, fit64 (by omega) (by omega), sl8.get (by omega) (by omega) fun p hp => ⟨⟨by omega, by omega⟩, _, hp, _, _, _, c88.cell rfl, _, _, _, c88.cell rfl, fit64 (by omega) (by omega), ⟨by omega, by omega⟩, c88.may (by simp), fun w9 s9 => ?_⟩⟩
      have ei : Int.toNat (((L0 ++ [q]).length : Int) - 1) = L0.length := by omega
      have eq : (L0 ++ [q]).getD (Int.toNat (((L0 ++ [q]).length : Int) - 1)) 0 = q := by rw [ei]; simp [List.getD_eq_getElem?_getD]
      rw [eq]
      rw [ei] at s9
      have B9 := s9.blk c88
      have f9 : Fr [b8] w8 w9 := s9.fr (by simp)
      have R9 := R8.other f9 (by intro b hb2; rw [D8.t8 b hb2]; decide) 23
      have D9 : Rd w9 (ext own8 w8.heap.size 23) km b1 mb b5 b8 rb la8 lc8 (B, L0) := by
        obtain ⟨m, clk, hm, hkm, hv⟩ := D8.mp
        have ap8 : ∀ {F : List Nat} {i : Nat}, Tag own8 F i → i ≠ 23 → Apart F [b8] := fun t hi => t.apart D8.t8 hi
        have ap8b : ∀ {b i : Nat}, Tag own8 [b] i → i ≠ 23 → b ∉ [b8] := fun t hi hb2 => ap8 t hi _ (by simp) hb2
        have lo : ∀ {b : Nat} {cs : List Value}, Blk w8 b cs → Low [b] w8.heap.size := fun B b hb2 => by simp at hb2; subst hb2; exact B.lt
        have sl := D8.sl
        exact ⟨D8.c1.fr f9 (ap8b D8.t1 (by decide)), D8.c5.fr f9 (ap8b D8.t5 (by decide)), by simpa using B9, ⟨m, clk, hm.fr f9 (ap8b D8.tm (by omega)), hkm, hv⟩, sl.pre.fr f9 (ap8 D8.tl (by decide)), D8.t1.keep (lo D8.c1) 23, D8.tm.keep (by intro b hb2; simp at hb2; subst hb2; exact heap_lt hm.heap) 23, D8.t5.keep (lo D8.c5) 23, D8.t8.keep (lo D8.c8) 23, D8.tl.keep D8.sl.low 23⟩
      have st9 : StN 40 w8 w9 own8 (ext own8 w8.heap.size 23) := St.of f9 D8.t8 (by decide) 23
      generalize ext own8 w8.heap.size 23 = own9 at *
      refine ⟨_, D9.c1.cell rfl, PtrOK.of rfl ⟨_, R9.hd.cella rfl, xcell_c R9.H q (fun hn => absurd ex (hn x hx)) (fun y hy ey w10 f10 => fun b11 w11 n11 => ⟨n11.blk.mayL (by simp), fun w12 s12 => ?_⟩)⟩⟩
      have : y = x := R9.H.same hy hx (ey.trans ex.symm)
      subst this
      obtain ⟨X12, f12⟩ := newSet n11 s12 rfl
      have g11 := n11.ge
      have xf := R9.H.facts.2.2.2.1 y hy
      have sn0' : Seen xs (B, L0) := by
        have nl := W8.sn.nl
        dsimp only at nl
        rw [List.nodup_append] at nl
        exact ⟨W8.sn.nd, W8.sn.is, nl.1, fun r hr => W8.sn.sub r (by simp [hr]), by have := W8.sn.le; simp at this ⊢; omega⟩
      have fB : ∀ S, Fr S w9 w12 := fun S => (f10 S).more (f12 S)
      have z10 := (f10 []).size
      -- one cell's words
      obtain ⟨J, hJ⟩ : ∃ J : Int → World → Prop, ∀ i w', J i w' ↔ 0 ≤ i ∧ i ≤ y.n ∧ ∃ own' la lc ss', Rx w' own' rb hb fm G ra rc ts qa qc words taken last ss' xs fin queue ∧ ss'.length = ss.length ∧ Rd w' own' km b1 mb b5 b8 rb la lc (seeL xs (B, L0) (if kindR y.kind = true then y.vs.take i.toNat else [])) ∧ Blk w' b11 [.int .i64 y.kind, .int .i64 y.cls, .int .i64 y.n] ∧ Tag own' [b11] 50 ∧ StN 40 w w' own own' := ⟨_, fun _ _ => Iff.rfl⟩
      have start : J 0 w12 := by
        have stB : StN 13 w9 w12 own9 (ext own9 w9.heap.size 50) := ⟨⟨[], fB [], by simp⟩, fun b hb => by unfold ext; rw [if_pos hb]⟩
        have R12 : Rx w12 (ext own9 w9.heap.size 50) rb hb fm G ra rc ts qa qc words taken last ss8 xs fin queue := R9.other (fB []) (by simp) 50
        refine (hJ _ _).2 ⟨by decide, by omega, _, la8, lc8, ss8, R12, es8, ?_, X12, fun c hc => ?_, (st8.trans st9).trans (stB.up (by decide))⟩
        · have := D9.step (by omega) stB
          split <;> simpa [seeL] using this
        · simp at hc; subst hc; unfold ext; rw [if_neg (by omega)]
      refine ⟨J, fun i _ => (y.n - i).toNat, start, ?_⟩
      rintro - i w13 hj
      obtain ⟨hi0, hi1, own13, la13, lc13, ss13, R13, es13, D13, X13, t13, st13⟩ := (hJ _ _).1 hj
      have leave : (kindR y.kind = true → ¬ i < y.n) → (∃ k, Q w13 k) ∧ leastN (Q w13) < leastN (Q w8) := by
        intro hl
        have et : (if kindR y.kind = true then y.vs.take i.toNat else []) = if kindR y.kind = true then y.vs else [] := by
          split
          · rename_i hkr
            have := hl hkr
            rw [List.take_of_length_le (by omega)]
          · rfl
        rw [et] at D13
        have W13 := W8.next hx ex R9.H.facts.2.2.2.2.2.1
        have lt13 := work_less (rs := if kindR y.kind = true then y.vs else []) W8.sn
        exact next w13 _ ((hQ _ _).2 ⟨own13, la13, lc13, ss13, _, _, R13, es13, D13, W13, st13, rfl⟩) (by rw [ek8]; exact lt13)
      have body : kindR y.kind = true → i < y.n → ∃ (q52 : Option Addr), World.cell? w13 ⟨b1, 0, none⟩ = some (.pointer q52) ∧
          PtrOK q52 fun (p53 : Addr) =>
          ∃ (q54 : Option Addr), World.cell? w13 (Addr.add p53 0) = some (.pointer q54) ∧
          C84 q54 0 q i w13 fun n55 n56 w57 =>
          ∀ (b58 : Nat) (w59 : World), NewAt w57 w59 b58 #[.int .i64 n55] 3 →
          C180 (some ⟨b58, 0, none⟩) 1 1 (some ⟨b1, 0, none⟩) (some ⟨b5, 0, none⟩) (some ⟨b8, 0, none⟩) w59 fun w60 =>
          Fit .i64 (i + 1) ∧
          (J (i + 1) w60 ∧
          (y.n - (i + 1)).toNat < (y.n - i).toNat) := by
        intro hkr hlt2
        refine ⟨_, D13.c1.cell rfl, PtrOK.of rfl ⟨_, R13.hd.cella rfl, ?_⟩⟩
        refine xload_c R13.H 0 q i (fun hn2 => absurd ⟨by rw [es13, hss]; omega, y, hx, ex⟩ hn2) (fun z hz e' _ hn2 => ?_) (fun z hz e' _ _ _ w14 H14 f14 => fun b15 w15 n15 => ?_)
        · have : z = y := R13.H.same hz hx (e'.trans ex.symm)
          subst this
          omega
        · have : z = y := R13.H.same hz hx (e'.trans ex.symm)
          subst this
          obtain ⟨R14, st14⟩ := R13.heap H14 f14 (fun b hb => .inl hb)
          generalize ext own13 w13.heap.size 1 = own14 at *
          have D14 := D13.step (by omega) st14
          obtain ⟨X14, t14⟩ := st14.blk X13 t13 (by decide)
          have st15 : StN 13 w14 w15 own14 (ext own14 w14.heap.size 25) := ⟨⟨[], n15.fr [], by simp⟩, fun b hb => by unfold ext; rw [if_pos hb]⟩
          have R15 : Rx w15 (ext own14 w14.heap.size 25) rb hb fm G ra rc ts qa qc words taken last (tickA ss13 0) xs fin queue := R14.other (n15.fr []) (by simp) 25
          have D15 := D14.step (by omega) st15
          obtain ⟨X15, t15⟩ := st15.blk X14 t14 (by decide)
          have g15 := n15.ge
          have A15 : Sd w15 (ext own14 w14.heap.size 25) (some ⟨b15, 0, none⟩) 1 25 [z.vs.getD i.toNat 0] := by
            refine ⟨⟨by simp, by simp, by decide, .inr ⟨b15, 0, _, rfl, n15.blk, by simp, by simp⟩⟩, fun c hc => ?_⟩
            simp [ablk] at hc; subst hc; unfold ext; rw [if_neg (by omega)]
          have hil : i.toNat < z.vs.length := by omega
          refine see_c (s := seeL xs (B, L0) (if kindR z.kind = true then z.vs.take i.toNat else [])) hk R15 D15 (Seen.seeL _ sn0') hxl A15 (.inr rfl) fun w16 own16 la16 lc16 R16 D16 st16 => ?_
          have X16 := st16.blk X15 t15 (by decide)
          refine ⟨fit64 (by omega) (by omega), (hJ _ _).2 ⟨by omega, by omega, own16, la16, lc16, _, R16, by simp [tickA, es13], ?_, X16.1, X16.2, ((st13.trans (st14.up (by decide))).trans (st15.up (by decide))).trans st16⟩, by omega⟩
          have en : (i + 1).toNat = i.toNat + 1 := by omega
          rw [if_pos hkr] at D16 ⊢
          rw [en, List.take_succ_eq_append_getElem hil, seeL_app]
          have : z.vs.getD i.toNat 0 = z.vs[i.toNat] := by rw [List.getD_eq_getElem?_getD, List.getElem?_eq_getElem hil]; rfl
          rw [← this]
          exact D16
      refine ⟨_, X13.cell rfl, IfB.dec (fun h1 => ⟨_, X13.cell rfl, IfB.dec (fun h2 => body (by simp [kindR, h1]) h2) (fun h2 => leave (fun _ => h2))⟩) (fun h1 => ⟨_, X13.cell rfl, IfB.dec (fun h3 => ⟨_, X13.cell rfl, IfB.dec (fun h2 => body (by simp [kindR, h3]) h2) (fun h2 => leave (fun _ => h2))⟩) (fun h3 => leave (fun hkr => ?_))⟩)⟩
      simp [kindR] at hkr
      omega
    · have eL : L = [] := by
        dsimp only at hge
        exact List.eq_nil_of_length_eq_zero (by omega)
      subst eL
      exact ⟨_, D8.c5.cell rfl, hK w8 own8 ss8 mb B R8 es8 D8.mp D8.tm W8.done st8⟩
end
end Go.Proofs.Ytfpghcdjfiggiaa.V
