/- HeapActs: words, and one act. No condition. -/
import Derived.Test.YtfpghcdjfiggiaaActsJ
namespace Go.Proofs.Ytfpghcdjfiggiaa.V
open Go Go.RowKit

section
variable {W w w' : World} {own own' : Nat → Nat} {y hb b1 : Nat} {words n : Int} {G G' S : List Nat} {ss ss' : List Int} {last last' : Int} {xs xs' : List XC} {a : Option Addr} {c : Nat} {rs : List YR}

theorem steps9 (h : Yh W w own y hb words G ss last xs a c rs) (bd : Bd ss last n rs) (agent : Int) {K : Int → World → Prop} (hK : ∀ k : Int, (0 ≤ agent ∧ agent < ss.length → k = ss.getD agent.toNat 0) → 0 ≤ k → k ≤ 200000 * n → K k w) : C82 (some ⟨hb, 0, none⟩) agent w K := by
  refine xsteps_c h.H agent (hK _ (fun ha => by rw [if_pos ha]) ?_ ?_)
  · split
    · exact (bd.tk _).1
    · decide
  · have := bd.n0
    split
    · exact (bd.tk _).2
    · omega

theorem word165_c (h : Yh W w own y hb words G ss last xs a c rs) (re : Rel9 rs xs) (bd : Bd ss last n rs) (hn : n < 250) (xa xb xc xd xe xf ref : Int) {K : Bool → World → Prop} (hK : ∀ w', St9 W w' y hb words (n + 1) → K true w') : C165 (some ⟨y, 0, none⟩) xa xb xc xd xe xf ref w K := by
  refine r_f165 _ _ _ _ _ _ _ _ _ _ fun b1 w2 n1 => ?_
  obtain ⟨h2, B2, o2⟩ := h.copy n1
  generalize ext own w.heap.size 4 = own2 at h2 o2
  have B2 : Blk w2 b1 [.int .i64 xa, .int .i64 xb, .int .i64 xc, .int .i64 xd, .int .i64 xe, .int .i64 xf] := B2
  have hb0 := bd.n0; have hb1 := bd.n1; have hla := bd.la; have hrl := bd.rl
  have hfail : ∀ w' own', Yh W w' own' y hb words G ss last xs a c rs → St9 W w' y hb words (n + 1) := fun w' own' hh => ⟨own', G, ss, last, xs, a, c, rs, hh, re, bd.next hn (by omega) (by omega) (Tk.refl ss) (by decide)⟩
  -- the rest, by where the ref stands
  have rest : ∀ n3 : Int, ((n3 = -1 ∧ ∀ r ∈ rs, r.ref ≠ ref) ∨ ∃ (i : Nat) (r : YR), n3 = i ∧ rs[i]? = some r ∧ r.ref = ref) → ∀ w5 : World, Drew w2 w5 →
      ∃ (q6 : Option Addr), World.cell? w5 ⟨y, 0, none⟩ = some (.pointer q6) ∧
      ∃ (n7 : Int), World.cell? w5 ⟨b1, 1, none⟩ = some (.int .i64 n7) ∧
      C82 q6 n7 w5 fun n8 w9 =>
      ∃ M10 : Int → Int → World → Prop,
      (∃ (n14 : Int), World.cell? w9 ⟨b1, 0, none⟩ = some (.int .i64 n14) ∧
      IfB (decide ((n14 : Int) < 5))
      (∀ w15 : World, Drew w9 w15 →
      ∃ (q16 : Option Addr), World.cell? w15 ⟨y, 0, none⟩ = some (.pointer q16) ∧
      ∃ (n17 : Int), World.cell? w15 ⟨b1, 1, none⟩ = some (.int .i64 n17) ∧
      ∃ (n18 : Int), World.cell? w15 ⟨b1, 4, none⟩ = some (.int .i64 n18) ∧
      C84 q16 n17 ref n18 w15 fun n19 n20 w21 =>
      M10 n19 n20 w21)
      (∀ w22 : World, Drew w9 w22 →
      ∃ (q23 : Option Addr), World.cell? w22 ⟨y, 0, none⟩ = some (.pointer q23) ∧
      ∃ (n24 : Int), World.cell? w22 ⟨b1, 1, none⟩ = some (.int .i64 n24) ∧
      ∃ (n25 : Int), World.cell? w22 ⟨b1, 4, none⟩ = some (.int .i64 n25) ∧
      ∃ (n26 : Int), World.cell? w22 ⟨b1, 5, none⟩ = some (.int .i64 n26) ∧
      C83 q23 n24 ref n25 n26 w22 fun n27 w28 =>
      M10 0 n27 w28)) ∧
      ∀ (_ : Env) (n11 : Int) (n12 : Int) (w13 : World), M10 n11 n12 w13 →
      ∃ M29 : World → Prop,
      (∀ w31 : World, Drew w13 w31 →
      ∃ (n32 : Int), World.cell? w31 ⟨b1, 1, none⟩ = some (.int .i64 n32) ∧
      IfB (decide ((n32 : Int) < 0))
      (IfB (decide ((n12 : Int) = 904))
      (K (decide ((n11 : Int) = 0)) w31)
      (K false w31))
      (∃ (n33 : Int), World.cell? w31 ⟨b1, 1, none⟩ = some (.int .i64 n33) ∧
      ∃ (n34 : Int), World.cell? w31 ⟨y, 2, none⟩ = some (.int .i64 n34) ∧
      IfB (decide ((n34 : Int) ≤ n33))
      (IfB (decide ((n12 : Int) = 904))
      (K (decide ((n11 : Int) = 0)) w31)
      (K false w31))
      (IfB (decide ((n3 : Int) < 0))
      (IfB (decide ((n12 : Int) = 904))
      (K (decide ((n11 : Int) = 0)) w31)
      (K false w31))
      (∀ w35 : World, Drew w31 w35 →
      ∃ (n36 : Int), World.cell? w35 ⟨b1, 4, none⟩ = some (.int .i64 n36) ∧
      IfB (decide ((n36 : Int) < 0))
      (IfB (decide ((n12 : Int) = 903))
      (K (decide ((n11 : Int) = 0)) w35)
      (K false w35))
      (∃ (n37 : Int), World.cell? w35 ⟨b1, 4, none⟩ = some (.int .i64 n37) ∧
      ∃ (a38 : Option Addr) (l38 c38 : Nat), World.cell? w35 ⟨y, 3, none⟩ = some (.slice a38 l38 c38) ∧
      PtrOK a38 fun (p39 : Addr) =>
      ((0 : Int) ≤ n3 ∧ n3 < (l38 : Int)) ∧
      ∃ (a40 : Option Addr) (l40 c40 : Nat), World.cell? w35 (Addr.add (Addr.add p39 (Int.toNat n3 * 4)) 3) = some (.slice a40 l40 c40) ∧
      IfB (decide (((l40 : Int) : Int) ≤ n37))
      (IfB (decide ((n12 : Int) = 903))
      (K (decide ((n11 : Int) = 0)) w35)
      (K false w35))
      (M29 w35)))))) ∧
      ∀ (_ : Env) (w30 : World), M29 w30 →
      ∃ M41 : Int → World → Prop,
      (∃ (a44 : Option Addr) (l44 c44 : Nat), World.cell? w30 ⟨y, 3, none⟩ = some (.slice a44 l44 c44) ∧
      PtrOK a44 fun (p45 : Addr) =>
      ((0 : Int) ≤ n3 ∧ n3 < (l44 : Int)) ∧
      ∃ (n46 : Int), World.cell? w30 (Addr.add (Addr.add p45 (Int.toNat n3 * 4)) 1) = some (.int .i64 n46) ∧
      IfB (decide ((n46 : Int) = 1))
      (∃ (a47 : Option Addr) (l47 c47 : Nat), World.cell? w30 ⟨y, 3, none⟩ = some (.slice a47 l47 c47) ∧
      PtrOK a47 fun (p48 : Addr) =>
      ((0 : Int) ≤ n3 ∧ n3 < (l47 : Int)) ∧
      ∃ (a49 : Option Addr) (l49 c49 : Nat), World.cell? w30 (Addr.add (Addr.add p48 (Int.toNat n3 * 4)) 3) = some (.slice a49 l49 c49) ∧
      (4 : Int) ≠ 0 ∧
      Fit .i64 (Int.tdiv (l49 : Int) 4) ∧
      Fit .i64 (12 + (Int.tdiv (l49 : Int) 4)) ∧
      M41 (12 + (Int.tdiv (l49 : Int) 4)) w30)
      (M41 12 w30)) ∧
      ∀ (_ : Env) (n42 : Int) (w43 : World), M41 n42 w43 →
      ∃ M50 : World → Prop,
      (∀ w52 : World, Drew w43 w52 →
      IfB (!decide ((n12 : Int) = 0))
      (K false w52)
      (∃ (q53 : Option Addr), World.cell? w52 ⟨y, 0, none⟩ = some (.pointer q53) ∧
      ∃ (n54 : Int), World.cell? w52 ⟨b1, 1, none⟩ = some (.int .i64 n54) ∧
      Fit .i64 (n8 + n42) ∧
      C82 q53 n54 w52 fun n55 w56 =>
      IfB (decide (((n8 + n42) : Int) < n55))
      (K false w56)
      (M50 w56))) ∧
      ∀ (_ : Env) (w51 : World), M50 w51 →
      ∃ (n57 : Int), World.cell? w51 ⟨b1, 0, none⟩ = some (.int .i64 n57) ∧
      IfB (decide ((5 : Int) ≤ n57))
      (∀ w58 : World, Drew w51 w58 →
      ∃ (a59 : Option Addr) (l59 c59 : Nat), World.cell? w58 ⟨y, 3, none⟩ = some (.slice a59 l59 c59) ∧
      PtrOK a59 fun (p60 : Addr) =>
      ((0 : Int) ≤ n3 ∧ n3 < (l59 : Int)) ∧
      ∃ (a61 : Option Addr) (l61 c61 : Nat), World.cell? w58 (Addr.add (Addr.add p60 (Int.toNat n3 * 4)) 3) = some (.slice a61 l61 c61) ∧
      ∃ (n62 : Int), World.cell? w58 ⟨b1, 4, none⟩ = some (.int .i64 n62) ∧
      ∃ (n63 : Int), World.cell? w58 ⟨b1, 5, none⟩ = some (.int .i64 n63) ∧
      PtrOK a61 fun (p64 : Addr) =>
      ((0 : Int) ≤ n62 ∧ n62 < (l61 : Int)) ∧
      May w58 (Addr.add p64 (Int.toNat n62 * 1)) ∧ ∀ w65 : World, SetC w58 w65 (Addr.add p64 (Int.toNat n62 * 1)) (.int .i64 n63) →
      K true w65)
      (∀ w66 : World, Drew w51 w66 →
      ∃ (a67 : Option Addr) (l67 c67 : Nat), World.cell? w66 ⟨y, 3, none⟩ = some (.slice a67 l67 c67) ∧
      PtrOK a67 fun (p68 : Addr) =>
      ((0 : Int) ≤ n3 ∧ n3 < (l67 : Int)) ∧
      ∃ (a69 : Option Addr) (l69 c69 : Nat), World.cell? w66 (Addr.add (Addr.add p68 (Int.toNat n3 * 4)) 3) = some (.slice a69 l69 c69) ∧
      ∃ (n70 : Int), World.cell? w66 ⟨b1, 4, none⟩ = some (.int .i64 n70) ∧
      PtrOK a69 fun (p71 : Addr) =>
      ((0 : Int) ≤ n70 ∧ n70 < (l69 : Int)) ∧
      ∃ (n72 : Int), World.cell? w66 (Addr.add p71 (Int.toNat n70 * 1)) = some (.int .i64 n72) ∧
      K (decide ((n11 : Int) = n72)) w66) := by
    intro n3 h3 w5 d5
    have h5 := h2.still d5.fr
    have B5 := B2.fr (d5.fr []) (by simp)
    refine ⟨_, h5.hd.cell rfl, _, B5.cell rfl, steps9 h5 bd xb fun n8 hk8 hk0 hk1 => ?_⟩
    have inx : (∃ x ∈ xs, x.ref = ref) → ∃ (i : Nat) (r : YR), n3 = i ∧ rs[i]? = some r ∧ r.ref = ref := fun ⟨x, hx, ex⟩ => by
      rcases h3 with ⟨_, hno⟩ | hyes
      · obtain ⟨r, hr, er⟩ := re.of hx
        exact absurd (er.trans ex) (hno r hr)
      · exact hyes
    refine ⟨fun n11 n12 w' => ∃ own', own' b1 = 4 ∧ Blk w' b1 [.int .i64 xa, .int .i64 xb, .int .i64 xc, .int .i64 xd, .int .i64 xe, .int .i64 xf] ∧
      ((n11 = 0 ∧ Yh W w' own' y hb words G ss last xs a c rs ∧ ((¬ ((0 ≤ xb ∧ xb < ss.length) ∧ ∃ x ∈ xs, x.ref = ref) ∧ n12 = 904) ∨ ((0 ≤ xb ∧ xb < ss.length) ∧ (∃ x ∈ xs, x.ref = ref ∧ ¬ (0 ≤ xe ∧ xe < x.n)) ∧ n12 = 903))) ∨
       (n12 = 0 ∧ (0 ≤ xb ∧ xb < ss.length) ∧ (∃ x ∈ xs, x.ref = ref ∧ 0 ≤ xe ∧ xe < x.n ∧ (xa < 5 → n11 = x.vs.getD xe.toNat 0)) ∧ ∃ ss', ss'.length = ss.length ∧ Tk 2 ss ss' ∧ Yh W w' own' y hb words G ss' last (if xa < 5 then xs else xput xs ref xe xf) a c rs)), ⟨_, B5.cell rfl, IfB.dec (fun hlt => fun w15 d15 => ?_) (fun hge => fun w15 d15 => ?_)⟩, ?_⟩
    · have h15 := h5.still d15.fr
      have B15 := B5.fr (d15.fr []) (by simp)
      refine ⟨_, h15.hd.cell rfl, _, B15.cell rfl, _, B15.cell rfl, xload_c h15.H _ _ _ (fun hno w' f' => ?_) (fun x hx ex ha hi w' f' => ?_) (fun x hx ex ha h0 h1 w' H' f' => ?_)⟩
      · exact ⟨own2, o2, B15.fr (f' []) (by simp), .inl ⟨rfl, h15.still f', .inl ⟨hno, rfl⟩⟩⟩
      · exact ⟨own2, o2, B15.fr (f' []) (by simp), .inl ⟨rfl, h15.still f', .inr ⟨ha, ⟨x, hx, ex, hi⟩, rfl⟩⟩⟩
      · have t := Tk.tick ss ha.1 ha.2
        obtain ⟨Y', st'⟩ := h15.heap H' f' (fun _ h => .inl h) t.1 (Int.le_refl _)
        obtain ⟨B', o'⟩ := st'.blk B15 o2
        refine ⟨_, o', B', .inr ⟨rfl, ha, ⟨x, hx, ex, h0, h1, fun _ => rfl⟩, _, t.1, ⟨t.1, fun T hT hs a => ?_⟩, by rw [if_pos hlt]; exact Y'⟩⟩
        have := t.2 T (by omega) hs a
        omega
    · have h15 := h5.still d15.fr
      have B15 := B5.fr (d15.fr []) (by simp)
      refine ⟨_, h15.hd.cell rfl, _, B15.cell rfl, _, B15.cell rfl, _, B15.cell rfl, xput_c h15.H _ _ _ _ (fun hno w' f' => ?_) (fun x hx ex ha hi w' f' => ?_) (fun x hx ex ha h0 h1 w' ss' H' t' f' => ?_)⟩
      · exact ⟨own2, o2, B15.fr (f' []) (by simp), .inl ⟨rfl, h15.still f', .inl ⟨hno, rfl⟩⟩⟩
      · exact ⟨own2, o2, B15.fr (f' []) (by simp), .inl ⟨rfl, h15.still f', .inr ⟨ha, ⟨x, hx, ex, hi⟩, rfl⟩⟩⟩
      · obtain ⟨Y', st'⟩ := h15.heap H' f' (fun _ h => .inl h) t'.1 (Int.le_refl _)
        obtain ⟨B', o'⟩ := st'.blk B15 o2
        exact ⟨_, o', B', .inr ⟨rfl, ha, ⟨x, hx, ex, h0, h1, fun q => absurd q hge⟩, ss', t'.1, t', by rw [if_neg hge]; exact Y'⟩⟩
    rintro - n11 n12 w13 ⟨own13, o13, B13, hc⟩
    -- what holds when all is well
    refine ⟨fun w' => n12 = 0 ∧ (0 ≤ xb ∧ xb < ss.length) ∧ ∃ (i : Nat) (r : YR) (x : XC), n3 = i ∧ rs[i]? = some r ∧ r.ref = ref ∧ r.ws = x.vs ∧ xs[i]? = some x ∧ 0 ≤ xe ∧ xe < r.ws.length ∧ r.ws.length ≤ 1000 ∧ (xa < 5 → n11 = r.ws.getD xe.toNat 0) ∧ ∃ own' ss', own' b1 = 4 ∧ Blk w' b1 [.int .i64 xa, .int .i64 xb, .int .i64 xc, .int .i64 xd, .int .i64 xe, .int .i64 xf] ∧ ss'.length = ss.length ∧ Tk 2 ss ss' ∧ Yh W w' own' y hb words G ss' last (if xa < 5 then xs else xput xs ref xe xf) a c rs, fun w31 d31 => ?_, ?_⟩
    · have B31 := B13.fr (d31.fr []) (by simp)
      refine ⟨_, B31.cell rfl, ?_⟩
      rcases hc with ⟨rfl, hy, hc⟩ | ⟨rfl, ha, ⟨x, hx, ex, x0, x1, xv⟩, ss', e', t', hy⟩
      · have h31 := hy.still d31.fr
        have fin : ∀ {w' : World} {e : Int}, (∀ S, Fr S w31 w') → n12 = e → IfB (decide (n12 = e)) (K (decide ((0 : Int) = 0)) w') (K false w') := fun f e => ifb_yes (decide_eq_true e) (hK _ (hfail _ _ (h31.still f)))
        have nof : ∀ S, Fr S w31 w31 := fun S => Fr.refl S w31
        refine IfB.dec (fun q1 => ?_) (fun q1 => ⟨_, B31.cell rfl, _, h31.hd.cell rfl, IfB.dec (fun q2 => ?_) (fun q2 => IfB.dec (fun q3 => ?_) (fun q3 => ?_))⟩)
        · rcases hc with ⟨_, e⟩ | ⟨ha, _⟩
          · exact fin nof e
          · omega
        · rcases hc with ⟨_, e⟩ | ⟨ha, _⟩
          · exact fin nof e
          · omega
        · rcases hc with ⟨_, e⟩ | ⟨ha, ⟨x, hx, ex, _⟩, _⟩
          · exact fin nof e
          · obtain ⟨i, r, e, _⟩ := inx ⟨x, hx, ex⟩
            omega
        · rcases h3 with ⟨e3, _⟩ | ⟨i, r, rfl, hr, er⟩
          · omega
          obtain ⟨x, hx, e1, e2, e3, e4⟩ := re.at hr
          have hxm := List.mem_of_getElem? hx
          rcases hc with ⟨hno, _⟩ | ⟨ha, ⟨x', hx', ex', hi⟩, e⟩
          · exact absurd ⟨by omega, x, hxm, e1.symm.trans er⟩ hno
          obtain rfl := h.H.same hxm hx' (by rw [ex', ← e1, er])
          intro w35 d35
          have h35 := h31.still d35.fr
          have B35 := B31.fr (d35.fr []) (by simp)
          have hlen := (h.H.facts.2.2.2.1 x hxm).2.2
          refine ⟨_, B35.cell rfl, IfB.dec (fun _ => fin d35.fr e) (fun q4 => ⟨_, B35.cell rfl, _, _, _, h35.hd.cell rfl, h35.T.get (by omega) (by have := (List.getElem?_eq_some_iff.1 hr).1; omega) fun r' p hr' hc' _ _ _ => ⟨⟨by omega, by have := (List.getElem?_eq_some_iff.1 hr).1; omega⟩, _, _, _, hc' 3 (by decide), ?_⟩⟩)⟩
          rw [show (i : Int).toNat = i by omega, hr] at hr'
          cases hr'
          refine IfB.dec (fun _ => fin d35.fr e) (fun q5 => ?_)
          rw [e4] at q5; omega
      · have h31 := hy.still d31.fr
        obtain ⟨i, r, rfl, hr, er⟩ := inx ⟨x, hx, ex⟩
        obtain ⟨x', hx', e1, e2, e3, e4⟩ := re.at hr
        have hxm := List.mem_of_getElem? hx'
        obtain rfl := h.H.same hxm hx (by rw [ex, ← e1, er])
        have hlen := (h.H.facts.2.2.2.1 x' hxm)
        refine ifb_no (decide_eq_false (by omega)) ⟨_, B31.cell rfl, _, h31.hd.cell rfl, ifb_no (decide_eq_false (by omega)) (ifb_no (decide_eq_false (by omega)) fun w35 d35 => ?_)⟩
        have h35 := h31.still d35.fr
        have B35 := B31.fr (d35.fr []) (by simp)
        refine ⟨_, B35.cell rfl, ifb_no (decide_eq_false (by omega)) ⟨_, B35.cell rfl, _, _, _, h35.hd.cell rfl, h35.T.get (by omega) (by have := (List.getElem?_eq_some_iff.1 hr).1; omega) fun r' p hr' hc' _ _ _ => ⟨⟨by omega, by have := (List.getElem?_eq_some_iff.1 hr).1; omega⟩, _, _, _, hc' 3 (by decide), ?_⟩⟩⟩
        rw [show (i : Int).toNat = i by omega, hr] at hr'
        cases hr'
        exact ifb_no (decide_eq_false (by rw [e4]; omega)) ⟨rfl, ha, i, r, x', rfl, hr, er, e4, hx', x0, by rw [e4]; omega, by rw [e4]; omega, fun q => by rw [e4]; exact xv q, own13, ss', o13, B35, e', t', h35⟩
    · rintro - w30 ⟨rfl, ha, i, r, x, rfl, hr, er, e4, hx, x0, x1, x2, xv, own30, ss', o30, B30, e', t', h30⟩
      have hil := (List.getElem?_eq_some_iff.1 hr).1
      have ei : (i : Int).toNat = i := by omega
      refine ⟨fun n42 w' => w' = w30 ∧ 12 ≤ n42 ∧ n42 ≤ 2000, ⟨_, _, _, h30.hd.cell rfl, h30.T.get (by omega) (by omega) fun r' p hr' hc' _ _ _ => ⟨⟨by omega, by omega⟩, _, hc' 1 (by decide), IfB.dec (fun _ => ⟨_, _, _, h30.hd.cell rfl, h30.T.get (by omega) (by omega) fun r2 p2 hr2 hc2 _ _ _ => ⟨⟨by omega, by omega⟩, _, _, _, hc2 3 (by decide), by decide, ?_⟩⟩) (fun _ => ⟨rfl, by decide, by decide⟩)⟩⟩, ?_⟩
      · rw [ei, hr] at hr2; cases hr2
        rw [Int.tdiv_eq_ediv_of_nonneg (by omega)]
        exact ⟨fit64 (by omega) (by omega), fit64 (by omega) (by omega), rfl, by omega, by omega⟩
      rintro - n42 _ ⟨rfl, g0, g1⟩
      have bd' : Bd ss' last (n + 1) rs := bd.next hn (by omega) (by omega) t' (by decide)
      refine ⟨fun w' => ∃ own', own' b1 = 4 ∧ Blk w' b1 [.int .i64 xa, .int .i64 xb, .int .i64 xc, .int .i64 xd, .int .i64 xe, .int .i64 xf] ∧ Yh W w' own' y hb words G ss' last (if xa < 5 then xs else xput xs ref xe xf) a c rs, fun w52 d52 => ifb_nyes rfl ?_, ?_⟩
      · have h52 := h30.still d52.fr
        have B52 := B30.fr (d52.fr []) (by simp)
        refine ⟨_, h52.hd.cell rfl, _, B52.cell rfl, fit64 (by omega) (by omega), steps9 h52 bd' xb fun n55 k55 _ _ => ifb_no (decide_eq_false ?_) ⟨own30, o30, B52, h52⟩⟩
        have := t'.2 (200000 * n) (by omega) bd.tk xb.toNat
        have e8 := hk8 ha
        have e55 := k55 (by rw [e']; exact ha)
        omega
      rintro - w51 ⟨own51, o51, B51, h51⟩
      refine ⟨_, B51.cell rfl, IfB.dec (fun q5 => fun w58 d58 => ?_) (fun q5 => fun w58 d58 => ?_)⟩
      · have h58 := h51.still d58.fr
        have B58 := B51.fr (d58.fr []) (by simp)
        rw [if_neg (by omega)] at h58
        refine ⟨_, _, _, h58.hd.cell rfl, h58.T.get (by omega) (by omega) fun r' p hr' hc' _ _ _ => ⟨⟨by omega, by omega⟩, _, _, _, hc' 3 (by decide), _, B58.cell rfl, _, B58.cell rfl, ?_⟩⟩
        rw [ei, hr] at hr'; cases hr'
        refine (h58.V r (List.mem_of_getElem? hr)).put x0 x1 xf fun p2 m2 _ s2 => ⟨⟨x0, x1⟩, m2, fun w65 c65 => ?_⟩
        obtain ⟨S65, f65⟩ := s2 w65 c65
        obtain ⟨Y65, _⟩ := h58.word hr (by rw [List.length_set]) S65 f65
        refine hK w65 ⟨_, G, ss', last, _, a, c, _, Y65, ?_, ?_⟩
        · rw [← er]; exact re.put h.pw hr xe xf
        · exact ⟨bd'.n0, bd'.n1, bd'.la, by rw [List.length_set]; exact bd'.rl, bd'.tk⟩
      · have h58 := h51.still d58.fr
        have B58 := B51.fr (d58.fr []) (by simp)
        rw [if_pos (by omega)] at h58
        refine ⟨_, _, _, h58.hd.cell rfl, h58.T.get (by omega) (by omega) fun r' p hr' hc' _ _ _ => ⟨⟨by omega, by omega⟩, _, _, _, hc' 3 (by decide), _, B58.cell rfl, ?_⟩⟩
        rw [ei, hr] at hr'; cases hr'
        refine (h58.V r (List.mem_of_getElem? hr)).get x0 x1 fun p2 hp2 => ⟨⟨x0, x1⟩, _, hp2, ?_⟩
        rw [decide_eq_true (xv (by omega))]
        exact hK w58 ⟨_, G, ss', last, _, a, c, _, h58, re, bd'⟩
  refine at100_c h2 (by omega) ref (fun hno => ?_) (fun i r hr er => ?_)
  · exact rest (-1) (.inl ⟨rfl, hno⟩)
  · exact rest i (.inr ⟨i, r, rfl, hr, er⟩)
end
end Go.Proofs.Ytfpghcdjfiggiaa.V
