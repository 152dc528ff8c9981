/- The heap: words are read and written, cells are told and let go. No condition. -/
import Derived.Test.YtfpghcdjfiggiaaHeapC
namespace Go.Proofs.Ytfpghcdjfiggiaa.V
open Go Go.RowKit

/-- All of a heap. -/
structure Hp (w : World) (F : List Nat) (hb hm s mb ab wb sb : Nat) (g : SG) (l : List Arr) (ws ss : List Int) (la : Option Addr) (lc clk2 clk : Nat) (last room words : Int) (cs : List HC) : Prop where
  H : HpAt w F hb hm s ab last room cs clk
  S : SpAt w F s mb ab wb sb g l ws ss la lc clk2
  I : SInv g l ws
  J : HInv g l last room words cs

section
variable {w w' : World} {F S : List Nat} {hb hm s mb ab wb sb clk clk2 lc : Nat} {last room words : Int} {cs : List HC} {g : SG} {l : List Arr} {ws ss : List Int} {la : Option Addr}

theorem Hp.fr0 (h : Hp w F hb hm s mb ab wb sb g l ws ss la lc clk2 clk last room words cs) (f : ∀ S, Fr S w w') : Hp w' F hb hm s mb ab wb sb g l ws ss la lc clk2 clk last room words cs :=
  ⟨h.H.fr0 (f []), h.S.fr0 (f []), h.I, h.J⟩

theorem Hp.arr (h : Hp w F hb hm s mb ab wb sb g l ws ss la lc clk2 clk last room words cs) {c : HC} (hc : c ∈ cs) : ∃ x ∈ l, x.id = c.id ∧ x.n = c.n := by
  have : (c.id, c.n) ∈ l.map (fun x => (x.id, x.n)) := by rw [← h.J.rel]; exact List.mem_map.2 ⟨c, hc, rfl⟩
  obtain ⟨x, hx, e⟩ := List.mem_map.1 this
  exact ⟨x, hx, (Prod.mk.inj e).1, (Prod.mk.inj e).2⟩

theorem Hp.arr1 (h : Hp w F hb hm s mb ab wb sb g l ws ss la lc clk2 clk last room words cs) {c : HC} {x : Arr} (hc : c ∈ cs) (hx : x ∈ l) (e : x.id = c.id) : x.n = c.n := by
  obtain ⟨y, hy, e1, e2⟩ := h.arr hc
  rw [h.I.same hx hy (e.trans e1.symm)]; exact e2

/-- A word is read. -/
theorem hload_c (h : Hp w F hb hm s mb ab wb sb g l ws ss la lc clk2 clk last room words cs) (agent ref i : Int) {K : Int → Int → World → Prop}
    (hno : ¬ ((0 ≤ agent ∧ agent < ss.length) ∧ ∃ c ∈ cs, c.ref = ref) → ∀ w', (∀ S, Fr S w w') → K 0 904 w')
    (hbad : ∀ c ∈ cs, c.ref = ref → (0 ≤ agent ∧ agent < ss.length) → ¬ (0 ≤ i ∧ i < c.n) → ∀ w', (∀ S, Fr S w w') → K 0 903 w')
    (hok : ∀ c ∈ cs, c.ref = ref → (0 ≤ agent ∧ agent < ss.length) → ∀ x ∈ l, x.id = c.id → x.n = c.n → 0 ≤ i → i < c.n → ∀ w', Hp w' F hb hm s mb ab wb sb g l ws (tickA ss agent) la lc clk2 clk last room words cs → Fr F w w' → K (x.vs.getD i.toNat 0) 0 w') :
    C84 (some ⟨hb, 0, none⟩) agent ref i w K := by
  refine r_f84 _ _ _ _ _ _ (hfind_c h.H h.S agent ref (fun hn w1 f1 => fun b w2 n2 => ⟨n2.blk.mayL (by simp), fun w3 s3 => ?_⟩) (fun c hc e ha w1 f1 => fun b w2 n2 => ⟨n2.blk.mayL (by simp), fun w3 s3 => ?_⟩))
  · obtain ⟨X3, f3⟩ := newSet n2 s3 rfl
    exact ifb_nno rfl (hno hn w3 fun S => (f1 S).more (f3 S))
  · obtain ⟨X3, f3⟩ := newSet n2 s3 rfl
    refine ifb_nyes rfl fun w4 d4 => ?_
    have f4 : ∀ S, Fr S w w4 := fun S => ((f1 S).more (f3 S)).more (d4.fr S)
    have h4 := h.fr0 f4
    have X4 := X3.fr (d4.fr []) (by simp)
    obtain ⟨x, hx, e1, e2⟩ := h.arr hc
    have hm := h.S.mem
    refine ⟨_, h4.H.hd.cell rfl, _, X4.cell rfl, spget_c h4.S h4.I agent c.id i (fun hn => absurd ⟨ha, x, hx, e1⟩ hn) (fun y hy ey _ hn => ?_) (fun y hy ey _ h0 h1 w5 S5 f5 => ?_)⟩
    · refine r_f154 _ _ _ (ifb_t (hbad c hc e ha (by rw [h4.arr1 hc hy ey] at hn; exact hn) w4 f4))
    · have f5' : Fr F w4 w5 := f5.mono (by simp; exact ⟨.inl hm.2.2.2.1, .inl hm.2.2.2.2.1⟩)
      refine r_f154 _ _ _ (ifb_f (hok c hc e ha y hy ey (h4.arr1 hc hy ey) h0 (by rw [← h4.arr1 hc hy ey]; exact h1) w5 ⟨h4.H.sp f5' (fun b hb => .inl hb), S5, h4.I, h4.J⟩ ((f4 F).more f5')))

/-- A word is written. -/
theorem hput_c (h : Hp w F hb hm s mb ab wb sb g l ws ss la lc clk2 clk last room words cs) (agent ref i v : Int) {K : Int → World → Prop}
    (hno : ¬ ((0 ≤ agent ∧ agent < ss.length) ∧ ∃ c ∈ cs, c.ref = ref) → ∀ w', (∀ S, Fr S w w') → K 904 w')
    (hbad : ∀ c ∈ cs, c.ref = ref → (0 ≤ agent ∧ agent < ss.length) → ¬ (0 ≤ i ∧ i < c.n) → ∀ w', (∀ S, Fr S w w') → K 903 w')
    (hok : ∀ c ∈ cs, c.ref = ref → (0 ≤ agent ∧ agent < ss.length) → ∀ x ∈ l, x.id = c.id → x.n = c.n → 0 ≤ i → i < c.n → ∀ w' ws' ss', Hp w' F hb hm s mb ab wb sb g (rep l { x with vs := x.vs.set i.toNat v }) ws' ss' la lc clk2 clk last room words cs → Tk 2 ss ss' → Fr F w w' → K 0 w') :
    C83 (some ⟨hb, 0, none⟩) agent ref i v w K := by
  refine r_f83 _ _ _ _ _ _ _ (hfind_c h.H h.S agent ref (fun hn w1 f1 => fun b w2 n2 => ⟨n2.blk.mayL (by simp), fun w3 s3 => ?_⟩) (fun c hc e ha w1 f1 => fun b w2 n2 => ⟨n2.blk.mayL (by simp), fun w3 s3 => ?_⟩))
  · obtain ⟨X3, f3⟩ := newSet n2 s3 rfl
    exact ifb_nno rfl (hno hn w3 fun S => (f1 S).more (f3 S))
  · obtain ⟨X3, f3⟩ := newSet n2 s3 rfl
    refine ifb_nyes rfl fun w4 d4 => ?_
    have f4 : ∀ S, Fr S w w4 := fun S => ((f1 S).more (f3 S)).more (d4.fr S)
    have h4 := h.fr0 f4
    have X4 := X3.fr (d4.fr []) (by simp)
    obtain ⟨x, hx, e1, e2⟩ := h.arr hc
    have hm := h.S.mem
    refine ⟨_, h4.H.hd.cell rfl, _, X4.cell rfl, spset_c h4.S h4.I agent c.id i v (fun hn => absurd ⟨ha, x, hx, e1⟩ hn) (fun y hy ey _ hn => ?_) (fun y hy ey _ h0 h1 w5 ws5 ss5 S5 I5 t5 f5 => ?_)⟩
    · refine r_f154 _ _ _ (ifb_t (hbad c hc e ha (by rw [h4.arr1 hc hy ey] at hn; exact hn) w4 f4))
    · have f5' : Fr F w4 w5 := f5.mono (by simp; exact ⟨.inl hm.2.2.2.1, .inl hm.2.2.2.2.1⟩)
      have er : (rep l { y with vs := y.vs.set i.toNat v }).map (fun x => (x.id, x.n)) = l.map (fun x => (x.id, x.n)) := rep_map _ fun z hz ez => by rw [h4.I.same hz hy ez]
      refine r_f154 _ _ _ (ifb_f (hok c hc e ha y hy ey (h4.arr1 hc hy ey) h0 (by rw [← h4.arr1 hc hy ey]; exact h1) w5 ws5 ss5 ⟨h4.H.sp f5' (fun b hb => .inl hb), S5, I5, ⟨by rw [er]; exact h4.J.rel, h4.J.ids, h4.J.l0, h4.J.sz, h4.J.fit, h4.J.geo, h4.J.act⟩⟩ t5 ((f4 F).more f5')))

/-- What a cell is. -/
theorem hcell_c (h : Hp w F hb hm s mb ab wb sb g l ws ss la lc clk2 clk last room words cs) (ref : Int) {K : Int → Int → Int → Int → World → Prop}
    (hno : (∀ c ∈ cs, c.ref ≠ ref) → ∀ w', (∀ S, Fr S w w') → K 0 0 0 904 w') (hok : ∀ c ∈ cs, c.ref = ref → ∀ w', (∀ S, Fr S w w') → K c.kind c.cls c.n 0 w') : C94 (some ⟨hb, 0, none⟩) ref w K := by
  refine r_f94 _ _ _ _ fun b1 w1 n1 => ?_
  have h1 := h.fr0 n1.fr
  have tail : ∀ (kd cl nn id : Int) (b10 : Nat) (w11 : World), NewAt w1 w11 b10 #[.int .i64 0, .int .i64 0, .int .i64 0, .int .i64 0] 199 → ∀ w12 : World, SetL w11 w12 ⟨b10, 0, none⟩ [.int .i64 kd, .int .i64 cl, .int .i64 nn, .int .i64 id] →
      Blk w12 b10 [.int .i64 kd, .int .i64 cl, .int .i64 nn, .int .i64 id] ∧ (∀ S, Fr S w w12) ∧ Blk w12 b1 [.int .i64 0, .int .i64 0, .int .i64 0] := fun kd cl nn id b10 w11 n11 w12 s12 => by
    obtain ⟨X12, f12⟩ := newSet n11 s12 rfl
    exact ⟨X12, fun S => (n1.fr S).more (f12 S), n1.blk.fr (f12 []) (by simp)⟩
  have g1 := n1.ge
  refine ⟨_, h1.H.hd.cell rfl, h1.H.look ref (fun c hc e => fun b10 w11 n11 => ⟨n11.blk.mayL (by simp), fun w12 s12 => ?_⟩) (fun hn => fun b10 w11 n11 => ⟨n11.blk.mayL (by simp), fun w12 s12 => ?_⟩)⟩
  · obtain ⟨X, f, Y⟩ := tail _ _ _ _ b10 w11 n11 w12 s12
    refine ifb_nyes rfl ⟨_, _, _, X.cellsAt (o := 0) (vs := [.int .i64 c.kind, .int .i64 c.cls, .int .i64 c.n]) (fun i v hi => ?_), Y.mayL (by simp), fun w13 s13 => ?_⟩
    · match i, hi with
      | 0, hi => simpa using hi
      | 1, hi => simpa using hi
      | 2, hi => simpa using hi
    · obtain ⟨Y13, f13⟩ := s13.all Y rfl
      exact ⟨_, _, _, Y13.cells, hok c hc e w13 fun S => (f S).trans f13 (by simp; exact .inr g1)⟩
  · obtain ⟨X, f, Y⟩ := tail _ _ _ _ b10 w11 n11 w12 s12
    refine ifb_nno rfl ⟨Y.mayL (by simp), fun w13 s13 => ?_⟩
    obtain ⟨Y13, f13⟩ := s13.all Y rfl
    exact ⟨_, _, _, Y13.cells, hno hn w13 fun S => (f S).trans f13 (by simp; exact .inr g1)⟩

theorem hsteps_c (h : Hp w F hb hm s mb ab wb sb g l ws ss la lc clk2 clk last room words cs) (agent : Int) {K : Int → World → Prop} (hK : K (if 0 ≤ agent ∧ agent < (ss.length : Int) then ss.getD agent.toNat 0 else 0) w) : C82 (some ⟨hb, 0, none⟩) agent w K :=
  r_f82 _ _ _ _ ⟨_, h.H.hd.cell rfl, steps_c h.S.ar agent hK⟩
end
end Go.Proofs.Ytfpghcdjfiggiaa.V
