/- HeapActs: one act of any kind. No condition. -/
import Derived.Test.YtfpghcdjfiggiaaActsK
namespace Go.Proofs.Ytfpghcdjfiggiaa.V
open Go Go.RowKit

section
variable {W w w' : World} {own own' : Nat → Nat} {y hb b1 : Nat} {words n : Int} {G G' S : List Nat} {ss ss' : List Int} {last last' : Int} {xs xs' : List XC} {a : Option Addr} {c : Nat} {rs : List YR}

theorem at100b_c (h : Yh W w own y hb words G ss last xs a c rs) (hl : rs.length ≤ 1000) (ref : Int) {K : Int → World → Prop}
    (hK : ∀ n15 : Int, ((n15 = -1 ∧ ∀ r ∈ rs, r.ref ≠ ref) ∨ ∃ (i : Nat) (r : YR), n15 = i ∧ rs[i]? = some r ∧ r.ref = ref) → K n15 w) : C100 (some ⟨y, 0, none⟩) ref w K :=
  at100_c h hl ref (fun hno => hK (-1) (.inl ⟨rfl, hno⟩)) (fun i r hr er => hK i (.inr ⟨i, r, rfl, hr, er⟩))

theorem act97_c (h : Yh W w own y hb words G ss last xs a c rs) (re : Rel9 rs xs) (bd : Bd ss last n rs) (hn : n < 250) (xa xb xc xd xe xf : Int) {K : Bool → World → Prop} (hK : ∀ w', St9 W w' y hb words (n + 1) → K true w') : C97 (some ⟨y, 0, none⟩) xa xb xc xd xe xf w K := by
  refine r_f97 _ _ _ _ _ _ _ _ _ fun b1 w2 n1 => ?_
  obtain ⟨h2, B2, o2⟩ := h.copy n1
  generalize ext own w.heap.size 4 = own2 at h2 o2
  have B2 : Blk w2 b1 [.int .i64 xa, .int .i64 xb, .int .i64 xc, .int .i64 xd, .int .i64 xe, .int .i64 xf] := B2
  have hb0 := bd.n0; have hb1 := bd.n1; have hla := bd.la; have hrl := bd.rl
  have hfail : ∀ w' own', Yh W w' own' y hb words G ss last xs a c rs → St9 W w' y hb words (n + 1) := fun w' own' hh => ⟨own', G, ss, last, xs, a, c, rs, hh, re, bd.next hn (by omega) (by omega) (Tk.refl ss) (by decide)⟩
  refine ⟨_, B2.cell rfl, fun _ w' => Yh W w' own2 y hb words G ss last xs a c rs ∧ Blk w' b1 [.int .i64 xa, .int .i64 xb, .int .i64 xc, .int .i64 xd, .int .i64 xe, .int .i64 xf], ⟨_, _, _, h2.hd.cell rfl, IfB.dec (fun hlt => ⟨_, B2.cell rfl, IfB.dec (fun h0 => fun w9 d9 => ?_) (fun _ => ⟨h2, B2⟩)⟩) (fun _ => ⟨h2, B2⟩)⟩, ?_⟩
  · have h9 := h2.still d9.fr
    have B9 := B2.fr (d9.fr []) (by simp)
    have m0 : 0 ≤ Int.tmod xc (rs.length : Int) := by rw [Int.tmod_eq_emod_of_nonneg h0]; exact Int.emod_nonneg _ (by omega)
    have m1 : Int.tmod xc (rs.length : Int) < rs.length := by rw [Int.tmod_eq_emod_of_nonneg h0]; exact Int.emod_lt_of_pos _ hlt
    exact ⟨_, _, _, h9.hd.cell rfl, _, B9.cell rfl, _, _, _, h9.hd.cell rfl, by omega, h9.T.get m0 m1 fun r p hr hc _ _ _ => ⟨⟨m0, m1⟩, _, hc 0 (by decide), h9, B9⟩⟩
  rintro - ref w6 ⟨h6, B6⟩
  clear h2 B2 n1
  have hfail6 : ∀ {w'}, (∀ S, Fr S w6 w') → St9 W w' y hb words (n + 1) := fun f => hfail _ _ (h6.still f)
  refine at100b_c h6 (by omega) ref fun n15 h15 => ?_
  · skip
    have inx : (∃ x ∈ xs, x.ref = ref) → ∃ (i : Nat) (r : YR), n15 = i ∧ rs[i]? = some r ∧ r.ref = ref := fun ⟨x, hx, ex⟩ => by
      rcases h15 with ⟨_, hno⟩ | hyes
      · obtain ⟨r, hr, er⟩ := re.of hx
        exact absurd (er.trans ex) (hno r hr)
      · exact hyes
    refine ⟨_, B6.cell rfl, IfB.dec (fun _ => ⟨_, _, _, _, _, _, B6.cells, make164_c h6 re bd hn _ _ _ _ _ _ hK⟩) (fun _ => ⟨_, B6.cell rfl, IfB.dec (fun _ => ⟨_, _, _, _, _, _, B6.cells, word165_c h6 re bd hn _ _ _ _ _ _ _ hK⟩) (fun _ => ⟨_, B6.cell rfl, IfB.dec (fun _ => fun w36 d36 => ?_) (fun _ => ?_)⟩)⟩)⟩
    · have h36 := h6.still d36.fr
      have B36 := B6.fr (d36.fr []) (by simp)
      refine ⟨_, h36.hd.cell rfl, _, B36.cell rfl, xfree_c h36.H _ _ (fun hno w40 f40 => ?_) (fun hx ha w40 G40 H40 f40 g40 => ?_)⟩
      · have h40 := h36.still f40
        have B40 := B36.fr (f40 []) (by simp)
        refine ⟨fun _ => False, fun w43 d43 => ?_, fun _ _ hf => hf.elim⟩
        have h43 := h40.still d43.fr
        have B43 := B40.fr (d43.fr []) (by simp)
        have ok : K (decide ((904 : Int) = 904)) w43 := hK _ (hfail _ _ h43)
        refine ⟨_, B43.cell rfl, IfB.dec (fun _ => ok) (fun q1 => ⟨_, B43.cell rfl, _, h43.hd.cell rfl, IfB.dec (fun _ => ok) (fun q2 => IfB.dec (fun _ => ok) (fun q3 => ?_))⟩)⟩
        rcases h15 with ⟨e, _⟩ | ⟨i, r, rfl, hr, er⟩
        · omega
        · obtain ⟨x, hx, e1, _⟩ := re.at hr
          exact hno ⟨by omega, x, List.mem_of_getElem? hx, e1.symm.trans er⟩
      · obtain ⟨i, r, rfl, hr, er⟩ := inx hx
        obtain ⟨h40, st40⟩ := h36.heap H40 f40 (fun b hb => .inl (g40 b hb)) rfl (Int.le_refl _)
        obtain ⟨B40, o40⟩ := st40.blk B36 o2
        generalize ext own2 w36.heap.size 1 = own40 at h40 o40
        have hil := (List.getElem?_eq_some_iff.1 hr).1
        refine ⟨fun w' => Yh W w' own40 y hb words G40 ss last (xs.filter fun y => !(ref == y.ref)) a c rs, fun w43 d43 => ?_, ?_⟩
        · have h43 := h40.still d43.fr
          have B43 := B40.fr (d43.fr []) (by simp)
          exact ⟨_, B43.cell rfl, ifb_no (decide_eq_false (by omega)) ⟨_, B43.cell rfl, _, h43.hd.cell rfl, ifb_no (decide_eq_false (by omega)) (ifb_no (decide_eq_false (by omega)) h43)⟩⟩
        rintro - w42 h42
        refine remrec_c (F := fun w => K (decide ((0 : Int) = 0)) w) h42 (by omega) hil fun w' own' a' c' Y' st' => hK w' ⟨own', G40, ss, last, _, a', c', _, Y', ?_, bd.next hn (by omega) ?_ (Tk.refl ss) (by decide)⟩
        · rw [← er]; exact re.free h.pw hr
        · simp; omega
    · refine ⟨_, h6.hd.cell rfl, xcell_c h6.H _ (fun hno w108 f108 => fun b109 w110 n110 => told_c n110 fun w111 X f111 _ => ?_) (fun x hx ex w108 f108 => fun b109 w110 n110 => told_c n110 fun w111 X f111 _ => ?_)⟩
      · have f6 : ∀ S, Fr S w6 w111 := fun S => (f108 S).more (f111 S)
        rcases h15 with ⟨rfl, _⟩ | ⟨i, r, rfl, hr, er⟩
        · refine ifb_yes rfl (ifb_yes rfl ⟨_, _, _, X.cells, ?_⟩)
          exact cellEq_c _ _ _ _ _ _ _ _ (K := fun r => K r w111) (hK _ (hfail6 f6))
        · obtain ⟨x, hx, e1, _⟩ := re.at hr
          exact absurd (e1.symm.trans er) (hno x (List.mem_of_getElem? hx))
      · have f6 : ∀ S, Fr S w6 w111 := fun S => (f108 S).more (f111 S)
        obtain ⟨i, r, rfl, hr, er⟩ := inx ⟨x, hx, ex⟩
        obtain ⟨x', hx', e1, e2, e3, e4⟩ := re.at hr
        obtain rfl := h.H.same (List.mem_of_getElem? hx') hx (by rw [ex, ← e1, er])
        have hlen := (h.H.facts.2.2.2.1 x' hx)
        have hil := (List.getElem?_eq_some_iff.1 hr).1
        have ei : (i : Int).toNat = i := by omega
        refine ifb_no (decide_eq_false (by omega)) fun w116 d116 => ifb_yes rfl ?_
        have h116 := h6.still fun S => (f6 S).more (d116.fr S)
        have X116 := X.fr (d116.fr []) (by simp)
        refine ⟨_, _, _, X116.cells, _, _, _, h116.hd.cell rfl, h116.T.get (by omega) (by omega) fun r1 p1 hr1 hc1 _ _ _ => ⟨⟨by omega, by omega⟩, _, hc1 1 (by decide), _, _, _, h116.hd.cell rfl, h116.T.get (by omega) (by omega) fun r2 p2 hr2 hc2 _ _ _ => ⟨⟨by omega, by omega⟩, _, hc2 2 (by decide), _, _, _, h116.hd.cell rfl, h116.T.get (by omega) (by omega) fun r3 p3 hr3 hc3 _ _ _ => ⟨⟨by omega, by omega⟩, _, _, _, hc3 3 (by decide), ?_⟩⟩⟩⟩
        rw [ei, hr] at hr1 hr2 hr3
        cases hr1; cases hr2; cases hr3
        refine cellEq_c _ _ _ _ _ _ _ _ (K := fun r => K r w116) ?_
        have : ((x'.kind == r.kind) && ((x'.cls == r.cls) && (x'.n == (r.ws.length : Int)))) = true := by
          rw [e2, e3, e4, hlen.2.2]; simp
        rw [this]
        exact hK _ (hfail _ _ h116)
end
end Go.Proofs.Ytfpghcdjfiggiaa.V
