/- The law FragActs: what it computes. No condition. -/
import Derived.Test.YtfpghcdjfiggiaaLaws1
import Derived.Test.YtfpghcdjfiggiaaRec
import Derived.Test.YtfpghcdjfiggiaaArgs
namespace Go.Proofs.Ytfpghcdjfiggiaa.V
open Go Go.RowKit

theorem kdec {p : Prop} [Decidable p] {K : Bool → World → Prop} {w : World} (h : p) (hk : K true w) : K (decide p) w := by rw [decide_eq_true h]; exact hk

structure UsedR where
  is : Bool
  col : Int
  m : Nat → Int

def encU : Enc UsedR := ⟨10, fun r => [.bool r.is, .int .i64 r.col, .int .i64 (r.m 0), .int .i64 (r.m 1), .int .i64 (r.m 2), .int .i64 (r.m 3), .int .i64 (r.m 4), .int .i64 (r.m 5), .int .i64 (r.m 6), .int .i64 (r.m 7)], fun _ => rfl, by decide⟩

theorem encU_m (r : UsedR) (i : Nat) (hi : i < 8) : (encU.f r)[2 + i]? = some (.int .i64 (r.m i)) := by
  have : i = 0 ∨ i = 1 ∨ i = 2 ∨ i = 3 ∨ i = 4 ∨ i = 5 ∨ i = 6 ∨ i = 7 := by omega
  rcases this with rfl | rfl | rfl | rfl | rfl | rfl | rfl | rfl <;> rfl

theorem encU_set (r : UsedR) (i : Nat) (hi : i < 8) (v : Int) : encU.f { r with m := fun j => if j = i then v else r.m j } = (encU.f r).set (2 + i) (.int .i64 v) := by
  have : i = 0 ∨ i = 1 ∨ i = 2 ∨ i = 3 ∨ i = 4 ∨ i = 5 ∨ i = 6 ∨ i = 7 := by omega
  rcases this with rfl | rfl | rfl | rfl | rfl | rfl | rfl | rfl <;> rfl

theorem rec_set {α : Type} {rs : List α} {f g : Int} {r : α} (h0 : 0 ≤ f) (h1 : f < rs.length) (hg0 : 0 ≤ g) : (rs.set f.toNat r)[g.toNat]? = if g = f then some r else rs[g.toNat]? := by
  rw [List.getElem?_set]
  by_cases e : g = f
  · subst e; simp; omega
  · rw [if_neg e, if_neg (by omega)]

/-- The play. -/
structure FPlay (W w : World) (yb lb pb ab wb sb : Nat) (base count n : Int) (F : List Nat) (many : Int) (rs : List UsedR) (c : Nat) (free ws ss : List Int) : Prop where
  hd : Blk w yb [.pointer (some ⟨pb, 0, none⟩), .pointer (some ⟨ab, 0, none⟩), .slice (some ⟨lb, 0, none⟩) rs.length c, .int .i64 many]
  rc : SR encU w (some ⟨lb, 0, none⟩) c rs
  pool : Pool w F pb ab wb sb base count free ws ss
  len : (rs.length : Int) = count
  is : ∀ f : Int, 0 ≤ f → f < count → ∃ r, rs[f.toNat]? = some r ∧ r.is = decide (colF ws base f ≠ 0) ∧ (r.is = true → r.col = colF ws base f ∧ ∀ i : Int, 0 ≤ i → i < 8 → r.m i.toNat = wrdF ws base count f i)
  many : many + free.length = count
  s3 : ss.length = 3
  sb : ∀ a : Nat, 0 ≤ ss.getD a 0 ∧ ss.getD a 0 ≤ n
  n0 : 0 ≤ n ∧ n ≤ 300
  d : yb ∉ F ∧ lb ∉ F ∧ yb ≠ lb
  up : W.heap.size ≤ yb ∧ W.heap.size ≤ lb ∧ ∀ k ∈ F, W.heap.size ≤ k
  fr : Fr [] W w

section
variable {W w w' : World} {yb lb pb ab wb sb : Nat} {base count n : Int} {F : List Nat} {many : Int} {rs : List UsedR} {c : Nat} {free ws ss : List Int}

theorem FPlay.fr0 (h : FPlay W w yb lb pb ab wb sb base count n F many rs c free ws ss) (f : Fr [] w w') : FPlay W w' yb lb pb ab wb sb base count n F many rs c free ws ss :=
  ⟨h.hd.fr0 f, h.rc.fr0 f, h.pool.fr0 f, h.len, h.is, h.many, h.s3, h.sb, h.n0, h.d, h.up, h.fr.more f⟩

theorem FPlay.up1 (h : FPlay W w yb lb pb ab wb sb base count n F many rs c free ws ss) (hn : n < 300) : FPlay W w yb lb pb ab wb sb base count (n + 1) F many rs c free ws ss :=
  ⟨h.hd, h.rc, h.pool, h.len, h.is, h.many, h.s3, fun a => by have := h.sb a; omega, by have := h.n0; omega, h.d, h.up, h.fr⟩

theorem FPlay.low (h : FPlay W w yb lb pb ab wb sb base count n F many rs c free ws ss) : yb < w.heap.size ∧ lb < w.heap.size ∧ ∀ k ∈ F, k < w.heap.size :=
  ⟨h.hd.lt, h.rc.low lb (by simp [ablk]), h.pool.low⟩

theorem tick_bound (hs : ss.length = 3) (hb : ∀ a : Nat, 0 ≤ ss.getD a 0 ∧ ss.getD a 0 ≤ n) (hn : n < 300) (ag : Int) (h0 : 0 ≤ ag) (h1 : ag < 3) :
    (tickA ss ag).length = 3 ∧ (∀ a : Nat, 0 ≤ (tickA ss ag).getD a 0 ∧ (tickA ss ag).getD a 0 ≤ n + 1) ∧ (tickA ss ag).getD ag.toNat 0 = ss.getD ag.toNat 0 + 1 := by
  have hw : IntKind.wrap .i64 (ss.getD ag.toNat 0 + 1) = ss.getD ag.toNat 0 + 1 := by
    have hb1 := hb ag.toNat
    have := wrap_small (n := (ss.getD ag.toNat 0 + 1).toNat) (by omega)
    rwa [Int.toNat_of_nonneg (by omega)] at this
  unfold tickA
  rw [hw]
  refine ⟨by simpa using hs, fun a => ?_, ?_⟩
  · rw [getI_set _ _ _ _ (by omega)]
    have := hb a
    have := hb ag.toNat
    split <;> omega
  · rw [getI_set _ _ _ _ (by omega), if_pos rfl]

theorem paint6_c (P : FPlay W w yb lb pb ab wb sb base count n F many rs c free ws ss) (kind ag f i v : Int) (agent inV : Bool) (ha : agent = decide (0 ≤ ag ∧ ag < 3)) (hi : inV = decide (usedF ws base count f)) (hn : n < 300) {K : Bool → World → Prop}
    (hK : ∀ w' F many rs c free ws ss, FPlay W w' yb lb pb ab wb sb base count (n + 1) F many rs c free ws ss → K true w') : C139 (some ⟨yb, 0, none⟩) kind ag f i v agent inV w K := by
  refine r_f139 _ _ _ _ _ _ _ _ _ _ fun b w1 n1 => ?_
  have X := n1.blk
  have P1 := P.fr0 (n1.fr [])
  have bge := n1.ge
  have lw := P.low
  have s3 := P.s3
  have rg := P.pool.rg
  have hag : ∀ a : Int, (0 ≤ a ∧ a < 3) = (0 ≤ a ∧ a < (ss.length : Int)) := fun a => by rw [s3]; rfl
  refine ⟨_, X.cell rfl, IfB.dec (fun _ w2 d2 => ?_) (fun _ => ?_)⟩
  · have P2 := P1.fr0 (d2.fr [])
    have X2 := X.fr0 (d2.fr [])
    refine ⟨_, P2.hd.cell rfl, _, X2.cell rfl, _, X2.cell rfl, _, X2.cell rfl, fpaint_c P2.pool ag f v (fun h w3 f3 => ?_) (fun h h2 w3 f3 => ?_) (fun h h2 w3 Q3 f3 => ?_)⟩
    · have := hK w3 _ _ _ _ _ _ _ ((P2.fr0 (f3 [])).up1 hn)
      subst ha
      refine ifb_n (fun h1 => ifb_n (fun h2 => ?_) (fun _ => kdec rfl this)) (fun _ => kdec rfl this)
      subst hi
      have h1 := of_decide_eq_true h1
      have h2 := of_decide_eq_true h2
      exact absurd ⟨by omega, h2⟩ h
    · have := hK w3 _ _ _ _ _ _ _ ((P2.fr0 (f3 [])).up1 hn)
      refine ifb_nyes (by rw [ha, decide_eq_true_eq]; have := h.1; omega) (ifb_nyes (by rw [hi, decide_eq_true_eq]; exact h.2) ⟨_, (X2.fr0 (f3 [])).cell rfl, IfB.dec (fun _ => kdec rfl this) (fun _ => ⟨_, (X2.fr0 (f3 [])).cell rfl, IfB.dec (fun _ => kdec rfl this) (fun _ => absurd (by omega) h2)⟩)⟩)
    · have bF : b ∉ F := fun hm => by have := lw.2.2 b hm; omega
      have X3 := X2.fr f3 bF
      refine ifb_nyes (by rw [ha, decide_eq_true_eq]; have := h.1; omega) (ifb_nyes (by rw [hi, decide_eq_true_eq]; exact h.2) ⟨_, X3.cell rfl, IfB.no (by omega) ⟨_, X3.cell rfl, IfB.no (by omega) fun w4 d4 => ?_⟩⟩)
      have H4 := (P2.hd.fr f3 P.d.1).fr0 (d4.fr [])
      have R4 : SR encU w4 _ _ _ := (P2.rc.fr f3 (by intro k hk; simp [ablk] at hk; subst hk; exact P.d.2.1)).fr0 (d4.fr [])
      have X4 := X3.fr0 (d4.fr [])
      have Q4 := Q3.fr0 (d4.fr [])
      have hf := h.2
      refine ⟨_, _, _, H4.cell rfl, _, X4.cell rfl, _, X4.cell rfl, R4.get hf.1 (by have := P.len; have := hf.2.1; omega) fun r p hr hc hm h1 hA => ⟨⟨hf.1, by have := P.len; have := hf.2.1; omega⟩, hm 1 (by decide), fun w5 s5 => kdec rfl ?_⟩⟩
      obtain ⟨R5, f5⟩ := h1 { r with col := v } 1 _ w5 (by decide) rfl s5
      have f5' : Fr [lb] w4 w5 := f5
      refine hK w5 F many _ c free _ ss ⟨?_, R5, Q4.frame f5' (fun k hk => by simp; rintro rfl; exact P.d.2.1 hk), by simpa using P.len, fun g g0 g1 => ?_, P.many, s3, fun a => by have := P.sb a; omega, by have := P.n0; omega, P.d, P.up, ?_⟩
      · have := H4.fr f5' (by simp; exact P.d.2.2)
        simpa using this
      · obtain ⟨rg0, hrg, his, hval⟩ := P.is g g0 g1
        rw [rec_set hf.1 (by have := P.len; have := hf.2.1; omega) g0]
        have hw : ∀ j, 0 ≤ j → j < 8 → wrdF (ws.set (base + f).toNat v) base count g j = wrdF ws base count g j := fun j j0 j1 => colSet_wrd ⟨rg.1, rg.2.2.2.1⟩ ⟨hf.1, hf.2.1⟩ v g j ⟨g0, g1⟩ ⟨j0, j1⟩
        have hcg := colSet_col (ws := ws) ⟨rg.1, rg.2.2.2.1⟩ ⟨hf.1, hf.2.1⟩ v g ⟨g0, g1⟩
        by_cases e : g = f
        · subst e
          rw [if_pos rfl]
          rw [if_pos rfl] at hcg
          have er : r = rg0 := Option.some.inj (hr.symm.trans hrg)
          subst er
          have hu : r.is = true := by rw [his]; simp [hf.2.2]
          refine ⟨_, rfl, ?_, fun _ => ⟨hcg.symm, fun j j0 j1 => ?_⟩⟩
          · show r.is = _
            rw [hu, hcg, eq_comm, decide_eq_true_eq]; omega
          · rw [hw j j0 j1]; exact (hval hu).2 j j0 j1
        · rw [if_neg e]
          rw [if_neg e] at hcg
          refine ⟨rg0, hrg, by rw [hcg]; exact his, fun hu => ⟨by rw [hcg]; exact (hval hu).1, fun j j0 j1 => ?_⟩⟩
          rw [hw j j0 j1]; exact (hval hu).2 j j0 j1
      · have q : Fr [] W w4 := (P2.fr.trans f3 (fun k hk => .inr (P.up.2.2 k hk))).more (d4.fr [])
        exact q.trans f5' (by simp; exact P.up.2.1)
  · refine ⟨fun v e w' => Fr [] w1 w' ∧ ((¬ (0 ≤ f ∧ f < count) ∧ v = 0 ∧ e = 602) ∨ (0 ≤ f ∧ f < count ∧ v = colF ws base f ∧ e = 0)), fun w2 d2 => ?_, ?_⟩
    · have P2 := P1.fr0 (d2.fr [])
      exact ⟨_, P2.hd.cell rfl, _, (X.fr0 (d2.fr [])).cell rfl, fcolour_c P2.pool f (fun h => ⟨d2.fr [], .inl ⟨h, rfl, rfl⟩⟩) (fun h w3 f3 => ⟨(d2.fr []).more (f3 []), .inr ⟨h.1, h.2, rfl, rfl⟩⟩)⟩
    rintro - cv e w2 ⟨f2, hor⟩ w3 d3
    have f3 := f2.more (d3.fr [])
    have P3 := P1.fr0 f3
    have X3 := X.fr0 f3
    have done := hK w3 _ _ _ _ _ _ _ (P3.up1 hn)
    refine ⟨_, X3.cell rfl, IfB.dec (fun h1 => ?_) (fun h1 => ⟨_, X3.cell rfl, _, _, _, P3.hd.cell rfl, IfB.dec (fun h2 => ?_) (fun h2 => ?_)⟩)⟩
    · rcases hor with ⟨_, rfl, rfl⟩ | h
      · exact IfB.yes rfl (kdec rfl done)
      · omega
    · rcases hor with ⟨_, rfl, rfl⟩ | h
      · exact IfB.yes rfl (kdec rfl done)
      · have := P.len; omega
    · have hl := P.len
      rcases hor with h | ⟨g0, g1, rfl, rfl⟩
      · omega
      refine ⟨fun x w' => x = colF ws base f ∧ Fr [] w3 w', ifb_cases (fun hu w4 d4 => ?_) (fun hu => ⟨?_, Fr.refl _ _⟩), ?_⟩
      · have P4 := P3.fr0 (d4.fr [])
        refine ⟨_, _, _, P4.hd.cell rfl, _, (X3.fr0 (d4.fr [])).cell rfl, P4.rc.get g0 (by omega) fun r p hr hc _ _ _ => ⟨⟨g0, by omega⟩, r.col, hc 1 (by decide), ?_, d4.fr []⟩⟩
        obtain ⟨r', hr', his, hval⟩ := P.is f g0 g1
        have er : r = r' := Option.some.inj (hr.symm.trans hr')
        subst er
        rw [hi] at hu
        have := of_decide_eq_true hu
        exact (hval (by rw [his]; simp [this.2.2])).1
      · rw [hi] at hu
        have := of_decide_eq_false hu
        unfold usedF at this
        omega
      · rintro - x w4 ⟨rfl, f4⟩
        exact IfB.yes rfl (kdec rfl (hK w4 _ _ _ _ _ _ _ ((P3.fr0 f4).up1 hn)))
end

end Go.Proofs.Ytfpghcdjfiggiaa.V
