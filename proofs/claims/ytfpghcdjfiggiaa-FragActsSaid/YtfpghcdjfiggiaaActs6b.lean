/- The law FragActs: one act, and all. No condition. -/
import Derived.Test.YtfpghcdjfiggiaaActs6
namespace Go.Proofs.Ytfpghcdjfiggiaa.V
open Go Go.RowKit

section
variable {W w w' : World} {yb lb pb ab wb sb : Nat} {base count n : Int} {F : List Nat} {many : Int} {rs : List UsedR} {c : Nat} {free ws ss : List Int}

theorem act6_c (P : FPlay W w yb lb pb ab wb sb base count n F many rs c free ws ss) (kind ag f i v : Int) (hn : n < 300) {K : Bool → World → Prop}
    (hK : ∀ w' F many rs c free ws ss, FPlay W w' yb lb pb ab wb sb base count (n + 1) F many rs c free ws ss → K true w') : C55 (some ⟨yb, 0, none⟩) kind ag f i v w K := by
  refine r_f55 _ _ _ _ _ _ _ _ fun b w1 n1 => ?_
  have X := n1.blk
  have P1 := P.fr0 (n1.fr [])
  have bge := n1.ge
  have lw := P.low
  have s3 := P.s3
  have rg := P.pool.rg
  have hl := P.len
  have bF : b ∉ F := fun hm => by have := lw.2.2 b hm; omega
  have blb : b ≠ lb := by omega
  have byb : b ≠ yb := by omega
  -- an agent
  refine ⟨fun b4 w' => b4 = decide (0 ≤ ag ∧ ag < 3) ∧ w' = w1, ⟨_, X.cell rfl, IfB.dec (fun h => ⟨_, X.cell rfl, by simp [h], rfl⟩) (fun h => ⟨by simp [h], rfl⟩)⟩, ?_⟩
  rintro - b4 w2 ⟨hb4, rfl⟩
  -- in use
  refine ⟨fun b9 w' => b9 = decide (usedF ws base count f) ∧ Fr [] w2 w', fun w3 d3 => ⟨_, (X.fr0 (d3.fr [])).cell rfl, IfB.dec (fun h0 => ⟨_, (X.fr0 (d3.fr [])).cell rfl, _, _, _, (P1.hd.fr0 (d3.fr [])).cell rfl, IfB.dec (fun h1 => ?_) (fun h1 => ⟨?_, d3.fr []⟩)⟩) (fun h0 => ⟨?_, d3.fr []⟩)⟩, ?_⟩
  · have P3 := P1.fr0 (d3.fr [])
    refine ⟨_, _, _, P3.hd.cell rfl, _, (X.fr0 (d3.fr [])).cell rfl, P3.rc.get h0 h1 fun r p hr hc _ _ _ => ⟨⟨h0, h1⟩, r.is, hc 0 (by decide), ?_, d3.fr []⟩⟩
    obtain ⟨r', hr', his, _⟩ := P.is f h0 (by omega)
    have er : r = r' := Option.some.inj (hr.symm.trans hr')
    subst er
    rw [his, decide_eq_decide]
    unfold usedF
    constructor
    · intro h; exact ⟨h0, by omega, h⟩
    · intro h; exact h.2.2
  · rw [eq_comm, decide_eq_false_iff_not]; unfold usedF; omega
  · rw [eq_comm, decide_eq_false_iff_not]; unfold usedF; omega
  rintro - b9 w3 ⟨hb9, f3⟩
  have P3 := P1.fr0 f3
  have X3 := X.fr0 f3
  clear P1 X
  -- a place
  refine ⟨fun b20 w' => b20 = decide (usedF ws base count f ∧ 0 ≤ i ∧ i < 8) ∧ w' = w3, ifb_cases (fun h0 => ⟨_, X3.cell rfl, IfB.dec (fun h1 => ⟨_, X3.cell rfl, ?_, rfl⟩) (fun h1 => ⟨?_, rfl⟩)⟩) (fun h0 => ⟨?_, rfl⟩), ?_⟩
  · rw [hb9, decide_eq_true_eq] at h0; simp [h0, h1]
  · rw [eq_comm, decide_eq_false_iff_not]; omega
  · rw [hb9, decide_eq_false_iff_not] at h0; simp [h0]
  rintro - b20 w4 ⟨hb20, rfl⟩
  have done : ∀ w', Fr [] w4 w' → K true w' := fun w' f' => hK w' _ _ _ _ _ _ _ ((P3.fr0 f').up1 hn)
  have a4 : 0 ≤ ag ∧ ag < (ss.length : Int) → b4 = true := fun h => by rw [hb4, decide_eq_true_eq]; omega
  have a4n : ¬ (0 ≤ ag ∧ ag < (ss.length : Int)) → b4 = false := fun h => by rw [hb4, decide_eq_false_iff_not]; omega
  refine ⟨fun w' => w' = w4, ⟨_, X3.cell rfl, IfB.dec (fun _ => ?c0) (fun _ => IfB.dec (fun _ => ?c1) (fun _ => IfB.dec (fun _ => ?c2) (fun _ => IfB.dec (fun _ => ?c3) (fun _ => IfB.dec (fun _ => ?c4) (fun _ => IfB.dec (fun _ => ?c5) (fun _ => IfB.dec (fun _ => ?c6) (fun _ => rfl)))))))⟩, ?c7⟩
  case c0 | c1 | c2 =>
    refine ⟨fun g e w' => (¬ (0 ≤ ag ∧ ag < (ss.length : Int)) ∧ g = 0 ∧ e = 602 ∧ Fr [] w4 w') ∨ ((0 ≤ ag ∧ ag < (ss.length : Int)) ∧ free = [] ∧ g = 0 ∧ e = 601 ∧ Fr [] w4 w') ∨
      ((0 ≤ ag ∧ ag < (ss.length : Int)) ∧ e = 0 ∧ ∃ l ws', free = l ++ [g] ∧ Pool w' F pb ab wb sb base count l ws' ss ∧ ws'.length = ws.length ∧ (∀ h, 0 ≤ h → h < count → colF ws' base h = if h = g then 1 else colF ws base h) ∧
        (∀ h j, 0 ≤ h → h < count → 0 ≤ j → j < 8 → wrdF ws' base count h j = if h = g then 0 else wrdF ws base count h j) ∧ Fr F w4 w'), fun w5 d5 => ?_, ?_⟩
    · have P5 := P3.fr0 (d5.fr [])
      refine ⟨_, P5.hd.cell rfl, _, (X3.fr0 (d5.fr [])).cell rfl, falloc_c P5.pool ag (fun h => .inl ⟨h, rfl, rfl, d5.fr []⟩) (fun h h2 => .inr (.inl ⟨h, h2, rfl, rfl, d5.fr []⟩)) (fun h l g hl w6 ws6 Q6 hl6 hc6 hr6 _ f6 => .inr (.inr ⟨h, rfl, l, ws6, hl, Q6, hl6, hc6, hr6, (d5.fr F).more f6⟩))⟩
    rintro - g e w5 (⟨h, rfl, rfl, f5⟩ | ⟨h, he, rfl, rfl, f5⟩ | ⟨h, rfl, l, ws5, he, Q5, hl5, hc5, hr5, f5⟩)
    · exact ifb_nno (a4n h) (IfB.yes rfl (kdec rfl (done w5 f5)))
    · refine ifb_nyes (a4 h) fun w6 d6 => ?_
      have P6 := P3.fr0 (f5.more (d6.fr []))
      refine ⟨_, P6.hd.cell rfl, _, _, _, P6.hd.cell rfl, IfB.yes ?_ (IfB.yes rfl (kdec rfl (done w6 (f5.more (d6.fr [])))))⟩
      have := P.many
      rw [he] at this; simp at this; omega
    · refine ifb_nyes (a4 h) fun w6 d6 => ?_
      have H5 := P3.hd.fr f5 P.d.1
      have R5 : SR encU w5 _ _ _ := P3.rc.fr f5 (by intro k hk; simp [ablk] at hk; subst hk; exact P.d.2.1)
      have H6 := H5.fr0 (d6.fr [])
      have R6 : SR encU w6 _ _ _ := R5.fr0 (d6.fr [])
      have Q6 := Q5.fr0 (d6.fr [])
      have hm := P.many
      have hfl : (free.length : Int) = l.length + 1 := by rw [he]; simp
      have hgm := (P.pool.fr g).1 (by rw [he]; simp)
      have hle := P.pool.len
      refine ⟨_, H6.cell rfl, _, _, _, H6.cell rfl, IfB.no (by omega) (IfB.nyes rfl (IfB.no (by omega) ⟨_, _, _, H6.cell rfl, IfB.no (by omega) ⟨_, _, _, H6.cell rfl, R6.get hgm.1 (by omega) fun r p hr hc hm1 _ hA => ⟨⟨hgm.1, by omega⟩, r.is, hc 0 (by decide), ?_⟩⟩⟩))⟩
      obtain ⟨r', hr', his, _⟩ := P.is g hgm.1 hgm.2.1
      have er : r = r' := Option.some.inj (hr.symm.trans hr')
      subst er
      refine ifb_no (by rw [his, decide_eq_false_iff_not]; exact fun h => h hgm.2.2) ⟨_, _, _, H6.cell rfl, R6.get hgm.1 (by omega) fun r p hr hc hm1 _ hA => ⟨⟨hgm.1, by omega⟩, hm1, fun w7 s7 => ?_⟩⟩
      obtain ⟨R7, f7⟩ := hA ⟨true, 1, fun _ => 0⟩ w7 s7
      have f7' : Fr [lb] w6 w7 := f7
      have H7 := H6.fr f7' (by simp; exact P.d.2.2)
      refine ⟨_, H7.cell rfl, fit64 (by omega) (by omega), H7.may (by simp), fun w8 s8 => ?_⟩
      have H8 := s8.blk H7
      have f8 := s8.fr (S := [yb]) (by simp)
      refine hK w8 F (many + 1) _ c l ws5 ss ⟨?_, R7.fr f8 (by intro k hk; simp [ablk] at hk; subst hk; simpa using fun e => P.d.2.2 e.symm), (Q6.frame f7' (fun k hk => by simp; rintro rfl; exact P.d.2.1 hk)).frame f8 (fun k hk => by simp; rintro rfl; exact P.d.1 hk),
        by simpa using hl, fun h' g0 g1 => ?_, by omega, s3, fun a => by have := P.sb a; omega, by have := P.n0; omega, P.d, P.up, ?_⟩
      · simpa using H8
      · obtain ⟨rg0, hrg, his0, hval⟩ := P.is h' g0 g1
        rw [rec_set hgm.1 (by omega) g0]
        have hcg := hc5 h' g0 g1
        have hwg := fun j => hr5 h' j g0 g1
        by_cases e : h' = g
        · subst e
          rw [if_pos rfl]
          refine ⟨_, rfl, ?_, fun _ => ⟨?_, fun j j0 j1 => ?_⟩⟩
          · rw [hcg]; simp
          · rw [hcg, if_pos rfl]
          · rw [hwg j j0 j1, if_pos rfl]
        · rw [if_neg e]
          rw [if_neg e] at hcg
          refine ⟨rg0, hrg, by rw [hcg]; exact his0, fun hu => ⟨by rw [hcg]; exact (hval hu).1, fun j j0 j1 => ?_⟩⟩
          rw [hwg j j0 j1, if_neg e]; exact (hval hu).2 j j0 j1
      · have q : Fr [] W w6 := (P3.fr.trans f5 (fun k hk => .inr (P.up.2.2 k hk))).more (d6.fr [])
        exact (q.trans f7' (by simp; exact P.up.2.1)).trans f8 (by simp; exact P.up.1)
  case c3 =>
    intro w5 d5
    have P5 := P3.fr0 (d5.fr [])
    have X5 := X3.fr0 (d5.fr [])
    refine ⟨_, P5.hd.cell rfl, _, X5.cell rfl, _, X5.cell rfl, ffree_c P5.pool ag f (fun h w6 f6 => ?_) (fun h w6 F6 Q6 f6 g6 => ?_)⟩
    · have q := done w6 ((d5.fr []).more (f6 []))
      refine ifb_n (fun h1 => ifb_n (fun h2 => ?_) (fun _ => kdec rfl q)) (fun _ => kdec rfl q)
      rw [hb4, decide_eq_true_eq] at h1
      rw [hb9, decide_eq_true_eq] at h2
      exact absurd ⟨by omega, h2⟩ h
    · refine ifb_nyes (a4 h.1) (ifb_nyes (by rw [hb9, decide_eq_true_eq]; exact h.2) fun w7 d7 => ?_)
      have hf := h.2
      have lw5 := P5.low
      have H7 := (P5.hd.fr f6 P.d.1).fr0 (d7.fr [])
      have R7 : SR encU w7 _ _ _ := (P5.rc.fr f6 (by intro k hk; simp [ablk] at hk; subst hk; exact P.d.2.1)).fr0 (d7.fr [])
      have X7 := (X5.fr f6 bF).fr0 (d7.fr [])
      have Q7 := Q6.fr0 (d7.fr [])
      have hm := P.many
      have dn : yb ∉ F6 ∧ lb ∉ F6 := ⟨fun hk => by rcases g6 yb hk with h | h; exact P.d.1 h; omega, fun hk => by rcases g6 lb hk with h | h; exact P.d.2.1 h; omega⟩
      refine ⟨_, _, _, H7.cell rfl, _, X7.cell rfl, R7.get hf.1 (by have := hf.2.1; omega) fun r p hr hc hm1 _ hA => ⟨⟨hf.1, by have := hf.2.1; omega⟩, hm1, fun w8 s8 => ?_⟩⟩
      obtain ⟨R8, f8⟩ := hA ⟨false, 0, fun _ => 0⟩ w8 s8
      have f8' : Fr [lb] w7 w8 := f8
      have H8 := H7.fr f8' (by simp; exact P.d.2.2)
      have lf := P.pool.len
      refine ⟨_, H8.cell rfl, fit64 (by omega) (by omega), H8.may (by simp), fun w9 s9 => kdec rfl ?_⟩
      have H9 := s9.blk H8
      have f9 := s9.fr (S := [yb]) (by simp)
      refine hK w9 F6 (many - 1) _ c _ _ ss ⟨?_, R8.fr f9 (by intro k hk; simp [ablk] at hk; subst hk; simpa using fun e => P.d.2.2 e.symm), (Q7.frame f8' (fun k hk => by simp; rintro rfl; exact dn.2 hk)).frame f9 (fun k hk => by simp; rintro rfl; exact dn.1 hk),
        by simpa using hl, fun h' g0 g1 => ?_, by simp; omega, s3, fun a => by have := P.sb a; omega, by have := P.n0; omega, ⟨dn.1, dn.2, P.d.2.2⟩, ⟨P.up.1, P.up.2.1, g6.up P.up.2.2 P5.fr.size⟩, ?_⟩
      · simpa using H9
      · obtain ⟨rg0, hrg, his0, hval⟩ := P.is h' g0 g1
        rw [rec_set hf.1 (by have := hf.2.1; omega) g0]
        have hcg := colSet_col (ws := ws) ⟨rg.1, rg.2.2.2.1⟩ ⟨hf.1, hf.2.1⟩ 0 h' ⟨g0, g1⟩
        by_cases e : h' = f
        · subst e
          rw [if_pos rfl]
          rw [if_pos rfl] at hcg
          exact ⟨_, rfl, by rw [hcg]; simp, fun hu => by cases hu⟩
        · rw [if_neg e]
          rw [if_neg e] at hcg
          refine ⟨rg0, hrg, by rw [hcg]; exact his0, fun hu => ⟨by rw [hcg]; exact (hval hu).1, fun j j0 j1 => ?_⟩⟩
          rw [colSet_wrd ⟨rg.1, rg.2.2.2.1⟩ ⟨hf.1, hf.2.1⟩ 0 h' j ⟨g0, g1⟩ ⟨j0, j1⟩]
          exact (hval hu).2 j j0 j1
      · have q : Fr [] W w7 := (P5.fr.trans f6 (fun k hk => .inr (P.up.2.2 k hk))).more (d7.fr [])
        exact (q.trans f8' (by simp; exact P.up.2.1)).trans f9 (by simp; exact P.up.1)
  case c4 =>
    intro w5 d5
    have P5 := P3.fr0 (d5.fr [])
    have X5 := X3.fr0 (d5.fr [])
    refine ⟨_, P5.hd.cell rfl, _, X5.cell rfl, steps_c P5.pool.ar ag ?_⟩
    refine ⟨fun x e w' => (¬ (mayF ws ss base count ag f ∧ 0 ≤ i ∧ i < 8) ∧ x = 0 ∧ e = 602 ∧ Fr [] w5 w') ∨ (mayF ws ss base count ag f ∧ 0 ≤ i ∧ i < 8 ∧ x = wrdF ws base count f i ∧ e = 0 ∧ Pool w' F pb ab wb sb base count free ws (tickA ss ag) ∧ Fr F w5 w'), fun w6 d6 => ?_, ?_⟩
    · have P6 := P5.fr0 (d6.fr [])
      have X6 := X5.fr0 (d6.fr [])
      exact ⟨_, P6.hd.cell rfl, _, X6.cell rfl, _, X6.cell rfl, _, X6.cell rfl, fload_c P6.pool ag f i (fun h w7 f7 => .inl ⟨h, rfl, rfl, (d6.fr []).more (f7 [])⟩) (fun h h0 h1 w7 Q7 f7 => .inr ⟨h, h0, h1, rfl, rfl, Q7, (d6.fr F).more f7⟩)⟩
    rintro - x e w6 (⟨h, rfl, rfl, f6⟩ | ⟨h, h0, h1, rfl, rfl, Q6, f6⟩)
    · have q := done w6 ((d5.fr []).more f6)
      refine ifb_n (fun h1 => ifb_n (fun h2 => ?_) (fun _ => IfB.yes rfl (kdec rfl q))) (fun _ => IfB.yes rfl (kdec rfl q))
      rw [hb4, decide_eq_true_eq] at h1
      rw [hb20, decide_eq_true_eq] at h2
      exact absurd ⟨⟨by omega, h2.1⟩, h2.2⟩ h
    · have hf := h.2
      obtain ⟨t1, t2, t3⟩ := tick_bound s3 P.sb hn ag h.1.1 (by have := h.1.2; omega)
      refine ifb_nyes (a4 h.1) (ifb_nyes (by rw [hb20, decide_eq_true_eq]; exact ⟨h.2, h0, h1⟩) fun w7 d7 => IfB.yes rfl ?_)
      have f7 : Fr F w5 w7 := f6.more (d7.fr F)
      have H7 := P5.hd.fr f7 P.d.1
      have R7 : SR encU w7 _ _ _ := P5.rc.fr f7 (by intro k hk; simp [ablk] at hk; subst hk; exact P.d.2.1)
      have X7 := X5.fr f7 bF
      have Q7 := Q6.fr0 (d7.fr [])
      refine ⟨_, _, _, H7.cell rfl, _, X7.cell rfl, _, X7.cell rfl, R7.get hf.1 (by have := hf.2.1; omega) fun r p hr hc _ _ _ => ⟨⟨hf.1, by have := hf.2.1; omega⟩, ⟨h0, h1⟩, r.m i.toNat, ?_, ?_⟩⟩
      · rw [Addr.add_add (Addr.add p _), Nat.mul_one]
        have := hc (2 + i.toNat) (by show 2 + i.toNat < 10; omega)
        rw [encU_m r i.toNat (by omega)] at this
        exact this
      · obtain ⟨r', hr', his, hval⟩ := P.is f hf.1 hf.2.1
        have er : r = r' := Option.some.inj (hr.symm.trans hr')
        subst er
        have hv := (hval (by rw [his]; simp [hf.2.2])).2 i h0 h1
        refine IfB.yes hv.symm ⟨_, H7.cell rfl, _, X7.cell rfl, ?_, steps_c Q7.ar ag ?_⟩
        · rw [if_pos h.1]; have := P.sb ag.toNat; exact fit64 (by omega) (by omega)
        · rw [if_pos (show 0 ≤ ag ∧ ag < ((tickA ss ag).length : Int) from ⟨h.1.1, by rw [t1, ← s3]; exact h.1.2⟩), if_pos h.1, t3]
          refine kdec rfl (hK w7 F many rs c free ws _ ⟨H7, R7, Q7, hl, P.is, P.many, t1, t2, by have := P.n0; omega, P.d, P.up, P5.fr.trans f7 (fun k hk => .inr (P.up.2.2 k hk))⟩)
  case c5 | c6 =>
    intro w5 d5
    have P5 := P3.fr0 (d5.fr [])
    have X5 := X3.fr0 (d5.fr [])
    refine ⟨_, P5.hd.cell rfl, _, X5.cell rfl, steps_c P5.pool.ar ag ?_⟩
    intro w6 d6
    have P6 := P5.fr0 (d6.fr [])
    have X6 := X5.fr0 (d6.fr [])
    refine ⟨_, P6.hd.cell rfl, _, X6.cell rfl, _, X6.cell rfl, _, X6.cell rfl, _, X6.cell rfl, fstore_c P6.pool ag f i v (fun h w7 f7 => ?_) (fun h h0 h1 w7 Q7 f7 => ?_)⟩
    · have q := done w7 (((d5.fr []).more (d6.fr [])).more (f7 []))
      refine ifb_n (fun h1 => ifb_n (fun h2 => ?_) (fun _ => kdec rfl q)) (fun _ => kdec rfl q)
      rw [hb4, decide_eq_true_eq] at h1
      rw [hb20, decide_eq_true_eq] at h2
      exact absurd ⟨⟨by omega, h2.1⟩, h2.2⟩ h
    · have hf := h.2
      obtain ⟨t1, t2, t3⟩ := tick_bound s3 P.sb hn ag h.1.1 (by have := h.1.2; omega)
      refine ifb_nyes (a4 h.1) (ifb_nyes (by rw [hb20, decide_eq_true_eq]; exact ⟨h.2, h0, h1⟩) fun w8 d8 => ?_)
      have f8 : Fr F w6 w8 := f7.more (d8.fr F)
      have H8 := P6.hd.fr f8 P.d.1
      have R8 : SR encU w8 _ _ _ := P6.rc.fr f8 (by intro k hk; simp [ablk] at hk; subst hk; exact P.d.2.1)
      have X8 := X6.fr f8 bF
      have Q8 := Q7.fr0 (d8.fr [])
      refine ⟨_, _, _, H8.cell rfl, _, X8.cell rfl, _, X8.cell rfl, _, X8.cell rfl, R8.get hf.1 (by have := hf.2.1; omega) fun r p hr hc hm1 hset _ => ⟨⟨hf.1, by have := hf.2.1; omega⟩, ⟨h0, h1⟩, ?_⟩⟩
      rw [Addr.add_add (Addr.add p _), Nat.mul_one]
      refine ⟨hm1 (2 + i.toNat) (by show 2 + i.toNat < 10; omega), fun w9 s9 w10 d10 => IfB.yes rfl ?_⟩
      obtain ⟨R9, f9⟩ := hset { r with m := fun j => if j = i.toNat then v else r.m j } (2 + i.toNat) _ w9 (by show 2 + i.toNat < 10; omega) (encU_set r i.toNat (by omega) v) s9
      have f9' : Fr [lb] w8 w10 := Fr.more f9 (d10.fr [lb])
      have H10 := H8.fr f9' (by simp; exact P.d.2.2)
      have X10 := X8.fr f9' (by simpa using blb)
      have Q10 := Q8.frame f9' (fun k hk => by simp; rintro rfl; exact P.d.2.1 hk)
      refine ⟨_, H10.cell rfl, _, X10.cell rfl, ?_, steps_c Q10.ar ag ?_⟩
      · rw [if_pos h.1]; have := P.sb ag.toNat; exact fit64 (by omega) (by omega)
      · rw [if_pos (show 0 ≤ ag ∧ ag < ((tickA ss ag).length : Int) from ⟨h.1.1, by rw [t1, ← s3]; exact h.1.2⟩), if_pos h.1, t3]
        refine kdec rfl (hK w10 F many _ c free _ _ ⟨by simpa using H10, R9.fr0 (d10.fr []), Q10, by simpa using hl, fun h' g0 g1 => ?_, P.many, t1, t2, by have := P.n0; omega, P.d, P.up, ?_⟩)
        · obtain ⟨rg0, hrg, his0, hval⟩ := P.is h' g0 g1
          rw [rec_set hf.1 (by have := hf.2.1; omega) g0]
          have hcg := col_set (ws := ws) ⟨rg.1, rg.2.2.2.1⟩ ⟨hf.1, hf.2.1⟩ ⟨h0, h1⟩ v h' ⟨g0, g1⟩
          have hwg := fun j j0 j1 => wrd_set (ws := ws) ⟨rg.1, rg.2.2.2.1⟩ ⟨hf.1, hf.2.1⟩ ⟨h0, h1⟩ v h' j ⟨g0, g1⟩ ⟨j0, j1⟩
          by_cases e : h' = f
          · subst e
            rw [if_pos rfl]
            have er : r = rg0 := Option.some.inj (hr.symm.trans hrg)
            subst er
            refine ⟨_, rfl, by rw [hcg]; exact his0, fun hu => ⟨by rw [hcg]; exact (hval hu).1, fun j j0 j1 => ?_⟩⟩
            rw [hwg j j0 j1]
            show (if j.toNat = i.toNat then v else r.m j.toNat) = _
            by_cases e2 : j = i
            · rw [if_pos (by omega), if_pos ⟨rfl, e2⟩]
            · rw [if_neg (by omega), if_neg (fun h => e2 h.2)]; exact (hval hu).2 j j0 j1
          · rw [if_neg e]
            refine ⟨rg0, hrg, by rw [hcg]; exact his0, fun hu => ⟨by rw [hcg]; exact (hval hu).1, fun j j0 j1 => ?_⟩⟩
            rw [hwg j j0 j1, if_neg (fun h => e h.1)]; exact (hval hu).2 j j0 j1
        · exact (P6.fr.trans f8 (fun k hk => .inr (P.up.2.2 k hk))).trans f9' (by simp; exact P.up.2.1)
  case c7 =>
    rintro - w5 rfl
    exact ⟨_, _, _, _, _, X3.cells, paint6_c P3 kind ag f i v b4 b9 hb4 hb9 hn hK⟩
end

theorem spoil_c {w : World} {a : Option Addr} {c : Nat} {us : List Int} (U : SI w a c us) (hu : ∀ x ∈ us, -1000000 ≤ x ∧ x ≤ 1000000) (hl : us.length ≤ 1000000) {K : World → Prop} (hK : ∀ w', Fr (ablk a) w w' → K w') : C56 a us.length c w K := by
  refine r_f56 _ _ _ _ _ ⟨fun i w' => 0 ≤ i ∧ i ≤ us.length ∧ (∃ vs, SI w' a c vs ∧ vs.length = us.length ∧ ∀ j : Nat, i ≤ j → vs.getD j 0 = us.getD j 0) ∧ Fr (ablk a) w w', fun i _ => (us.length - i).toNat, ⟨by omega, by omega, ⟨us, U, rfl, fun _ _ => rfl⟩, Fr.refl _ _⟩, ?_⟩
  rintro - i w1 ⟨h0, h1, ⟨vs, V1, hv, hb⟩, f1⟩
  refine IfB.dec (fun hlt => ?_) (fun _ => hK w1 f1)
  have hm : us.getD i.toNat 0 ∈ us := by
    have hlt : i.toNat < us.length := by omega
    rw [List.getD_eq_getElem?_getD, List.getElem?_eq_getElem hlt]
    exact List.getElem_mem hlt
  have hb1 := hu _ hm
  have hb2 := hb i.toNat (by omega)
  refine V1.get h0 (by omega) fun p hp => ⟨⟨h0, hlt⟩, _, hp, fit64 (by omega) (by omega), ?_⟩
  refine V1.put h0 (by omega) (-9 - vs.getD i.toNat 0) fun p2 hm _ hs => ⟨⟨h0, hlt⟩, hm, fun w2 s2 => ⟨fit64 (by omega) (by omega), ?_, by dsimp only; omega⟩⟩
  obtain ⟨V2, f2⟩ := hs w2 s2
  refine ⟨by omega, by omega, ⟨_, V2, by simpa using hv, fun j hj => ?_⟩, f1.more f2⟩
  rw [getI_set _ _ _ _ (by omega), if_neg (by omega)]
  exact hb j (by omega)

end Go.Proofs.Ytfpghcdjfiggiaa.V
