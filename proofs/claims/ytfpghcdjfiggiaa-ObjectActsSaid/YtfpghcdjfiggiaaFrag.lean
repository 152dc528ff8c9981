/- The pool of fragments: what its operations do. No condition. -/
import Derived.Test.YtfpghcdjfiggiaaArena
import Derived.Test.YtfpghcdjfiggiaaSl
import Derived.Test.YtfpghcdjfiggiaaGFrag
namespace Go.Proofs.Ytfpghcdjfiggiaa.V
open Go Go.RowKit

theorem Blk.cells2 {w : World} {b o : Nat} {cs : List Value} {v0 v1 : Value} (h : Blk w b cs) (h0 : cs[o]? = some v0) (h1 : cs[o + 1]? = some v1) : CellsAt w ⟨b, o, none⟩ [v0, v1] :=
  h.cellsAt fun i v hi => by
    match i, hi with
    | 0, hi => simp at hi; subst hi; exact h0
    | 1, hi => simp at hi; subst hi; exact h1

theorem getI_set (l : List Int) (i j : Nat) (x : Int) (hi : i < l.length) : (l.set i x).getD j 0 = if i = j then x else l.getD j 0 := by
  simp only [List.getD_eq_getElem?_getD, List.getElem?_set]
  split
  · rename_i h; subst h; simp [hi]
  · rfl

/-! ### Views -/
section
variable {w : World} {ab wb sb : Nat} {ws ss : List Int}

theorem ArenaAt.fr0 (h : ArenaAt w ab wb sb ws ss) {w' : World} (f : Fr [] w w') : ArenaAt w' ab wb sb ws ss := h.fr f (by simp) (by simp) (by simp)
theorem SI.fr0 {a : Option Addr} {c : Nat} {xs : List Int} (h : SI w a c xs) {w' : World} (f : Fr [] w w') : SI w' a c xs := h.fr f (by intro b _; simp)
theorem SB.fr0 {a : Option Addr} {c : Nat} {xs : List Bool} (h : SB w a c xs) {w' : World} (f : Fr [] w w') : SB w' a c xs := h.fr f (by intro b _; simp)
theorem Blk.fr0 {b : Nat} {cs : List Value} (h : Blk w b cs) {w' : World} (f : Fr [] w w') : Blk w' b cs := h.fr f (by simp)

theorem viewOf_c (a : Nat) (base : Int) {K : Option Addr → Int → World → Prop} (hK : ∀ w', (∀ S, Fr S w w') → K (some ⟨a, 0, none⟩) base w') : C133 (some ⟨a, 0, none⟩) base w K := by
  refine r_f133 _ _ _ _ fun b w1 n1 => ⟨n1.blk.mayL (by simp), fun w2 s2 => ?_⟩
  obtain ⟨B, f⟩ := newSet n1 s2 rfl
  exact ⟨_, _, B.cells, hK _ f⟩

theorem viewSet_c (A : ArenaAt w ab wb sb ws ss) {vb i x : Int} (h0 : 0 ≤ vb + i) (h1 : vb + i < ws.length) (hl : ws.length ≤ 65536) {K : World → Prop}
    (hK : ∀ w', ArenaAt w' ab wb sb (ws.set (vb + i).toNat x) ss → Fr [wb] w w' → K w') : C134 (some ⟨ab, 0, none⟩) vb i x w K := by
  refine r_f134 _ _ _ _ _ _ fun b w1 n1 w2 d2 => ?_
  have B1 := n1.blk.fr0 (d2.fr [])
  have f2 := (n1.fr []).more (d2.fr [])
  have A2 := A.fr0 f2
  refine ⟨_, B1.cell rfl, PtrOK.of rfl ⟨_, _, _, A2.hd.cella rfl, _, B1.cell rfl, fit64 (by omega) (by omega), PtrOK.of rfl ⟨⟨h0, h1⟩, may_int A2.ws h0 h1, fun w3 s3 => ?_⟩⟩⟩
  obtain ⟨A3, f3⟩ := A2.word s3
  exact hK _ A3 ((f2.mono (by simp)).more f3)

theorem viewGet_c (A : ArenaAt w ab wb sb ws ss) {vb i : Int} (h0 : 0 ≤ vb + i) (h1 : vb + i < ws.length) (hl : ws.length ≤ 65536) {K : Int → World → Prop}
    (hK : ∀ w', (∀ S, Fr S w w') → K (ws.getD (vb + i).toNat 0) w') : C141 (some ⟨ab, 0, none⟩) vb i w K := by
  refine r_f141 _ _ _ _ _ fun b w1 n1 w2 d2 => ?_
  have B1 := n1.blk.fr0 (d2.fr [])
  have f2 := fun S => (n1.fr S).more (d2.fr S)
  have A2 := A.fr0 (f2 [])
  exact ⟨_, B1.cell rfl, PtrOK.of rfl ⟨_, _, _, A2.hd.cella rfl, _, B1.cell rfl, fit64 (by omega) (by omega), PtrOK.of rfl ⟨⟨h0, h1⟩, _, cell_int A2.ws h0 h1, hK _ f2⟩⟩⟩

theorem holdsWords_c (A : ArenaAt w ab wb sb ws ss) (base words : Int) (hb : 0 ≤ words ∧ words ≤ 1000000) (hl : ws.length ≤ 65536) {K : Bool → World → Prop}
    (hK : K (decide (0 ≤ base ∧ base ≤ ws.length ∧ words ≤ ws.length - base)) w) : C132 (some ⟨ab, 0, none⟩) base words w K := by
  refine r_f132 _ _ _ _ _ (IfB.dec (fun h1 => ?_) (fun h1 => ?_))
  · refine ⟨_, _, _, A.c0, IfB.dec (fun h2 => ?_) (fun h2 => ?_)⟩
    · refine ⟨_, _, _, A.c0, fit64 (by omega) (by omega), ?_⟩
      simpa [h1, h2] using hK
    · simpa [h1, h2] using hK
  · simpa [h1] using hK
end

/-! ### The pool -/
def colF (ws : List Int) (base f : Int) : Int := ws.getD (base + f).toNat 0
def wrdF (ws : List Int) (base count f i : Int) : Int := ws.getD (base + count + f * 8 + i).toNat 0

structure Pool (w : World) (F : List Nat) (pb ab wb sb : Nat) (base count : Int) (free ws ss : List Int) : Prop where
  ex : ∃ fa fc, F = pb :: ab :: wb :: sb :: ablk fa ∧
    Blk w pb [.pointer (some ⟨ab, 0, none⟩), .slice fa free.length fc, .pointer (some ⟨ab, 0, none⟩), .int .i64 base, .int .i64 (base + count), .int .i64 count] ∧
    SI w fa fc free ∧ Apart (ablk fa) [pb, ab, wb, sb]
  ar : ArenaAt w ab wb sb ws ss
  ne : pb ≠ ab ∧ pb ≠ wb ∧ pb ≠ sb
  rg : 0 ≤ base ∧ 1 ≤ count ∧ count ≤ 2000 ∧ base + (14 * count + 64) ≤ ws.length ∧ ws.length ≤ 65536
  nd : free.Nodup
  fr : ∀ f, f ∈ free ↔ 0 ≤ f ∧ f < count ∧ colF ws base f = 0

section
variable {w w' : World} {F S : List Nat} {pb ab wb sb : Nat} {base count : Int} {free ws ss : List Int}

theorem Pool.frame (h : Pool w F pb ab wb sb base count free ws ss) (f : Fr S w w') (hS : Apart F S) : Pool w' F pb ab wb sb base count free ws ss := by
  obtain ⟨⟨fa, fc, rfl, hb, hs, hd⟩, ar, ne, rg, nd, fr⟩ := h
  refine ⟨⟨fa, fc, rfl, hb.fr f (hS pb (by simp)), hs.fr f (fun b hb => hS b (by simp [hb])), hd⟩, ar.fr f (hS ab (by simp)) (hS wb (by simp)) (hS sb (by simp)), ne, rg, nd, fr⟩

theorem Pool.fr0 (h : Pool w F pb ab wb sb base count free ws ss) (f : Fr [] w w') : Pool w' F pb ab wb sb base count free ws ss := h.frame f (by intro b _; simp)

theorem Pool.low (h : Pool w F pb ab wb sb base count free ws ss) : Low F w.heap.size := by
  obtain ⟨⟨fa, fc, rfl, hb, hs, hd⟩, ar, ne, rg, nd, fr⟩ := h
  intro b hb'
  simp only [List.mem_cons] at hb'
  rcases hb' with rfl | rfl | rfl | rfl | h1
  · exact hb.lt
  · exact ar.hd.lt
  · exact ar.ws.lt
  · exact ar.ss.lt
  · exact hs.low b h1

/-- The words are written, none of the pool's own. -/
theorem Pool.same (h : Pool w F pb ab wb sb base count free ws ss) {ws' ss' : List Int} (A : ArenaAt w' ab wb sb ws' ss') (f : Fr [wb, sb] w w') (hl : ws'.length = ws.length)
    (hc : ∀ g, 0 ≤ g → g < count → (colF ws' base g = 0 ↔ colF ws base g = 0)) : Pool w' F pb ab wb sb base count free ws' ss' ∧ Fr F w w' := by
  obtain ⟨⟨fa, fc, rfl, hb, hs, hd⟩, ar, ne, rg, nd, fr⟩ := h
  refine ⟨⟨⟨fa, fc, rfl, hb.fr f (by simp; omega), hs.fr f (fun b hb => by have := hd b hb; simp at this ⊢; omega), hd⟩, A, ne, by rw [hl]; exact rg, nd, fun g => ?_⟩, f.mono (by simp)⟩
  rw [fr g]
  constructor
  · rintro ⟨h1, h2, h3⟩; exact ⟨h1, h2, (hc g h1 h2).2 h3⟩
  · rintro ⟨h1, h2, h3⟩; exact ⟨h1, h2, (hc g h1 h2).1 h3⟩

def usedF (ws : List Int) (base count f : Int) : Prop := 0 ≤ f ∧ f < count ∧ colF ws base f ≠ 0
def mayF (ws ss : List Int) (base count agent f : Int) : Prop := (0 ≤ agent ∧ agent < ss.length) ∧ usedF ws base count f
instance {ws : List Int} {base count f : Int} : Decidable (usedF ws base count f) := by unfold usedF; infer_instance
instance {ws ss : List Int} {base count agent f : Int} : Decidable (mayF ws ss base count agent f) := by unfold mayF; infer_instance

theorem used_c (h : Pool w F pb ab wb sb base count free ws ss) (f : Int) {K : Bool → World → Prop} (hK : ∀ w', (∀ S, Fr S w w') → K (decide (usedF ws base count f)) w') : C137 (some ⟨pb, 0, none⟩) f w K := by
  obtain ⟨⟨fa, fc, rfl, hb, hs, hd⟩, ar, ne, rg, nd, fr⟩ := h
  have r := fun S => Fr.refl S w
  refine r_f137 _ _ _ _ (IfB.dec (fun h0 => ⟨_, hb.cell rfl, IfB.dec (fun h1 => ⟨_, _, hb.cells2 rfl rfl, viewGet_c ar (by omega) (by omega) rg.2.2.2.2 (fun w1 f1 => ?_)⟩) (fun h1 => ?_)⟩) (fun h0 => ?_))
  · have := hK w1 f1
    simpa [usedF, h0, h1, colF] using this
  · have := hK w r
    simpa [usedF, h1] using this
  · have := hK w r
    simpa [usedF, h0] using this

theorem fmay_c (h : Pool w F pb ab wb sb base count free ws ss) (agent f : Int) {K : Int → World → Prop}
    (hbad : ¬ mayF ws ss base count agent f → ∀ w', (∀ S, Fr S w w') → K 602 w') (hok : mayF ws ss base count agent f → ∀ w', (∀ S, Fr S w w') → K 0 w') : C138 (some ⟨pb, 0, none⟩) agent f w K := by
  obtain ⟨fa, fc, _, hb, _⟩ := h.ex
  refine r_f138 _ _ _ _ _ ⟨_, hb.cell rfl, agent_c h.ar agent (IfB.nd (fun h0 => used_c h f fun w1 f1 => IfB.nd (fun h1 => hok ⟨h0, h1⟩ w1 f1) (fun h1 => hbad (fun h2 => h1 h2.2) w1 f1)) (fun h0 => hbad (fun h2 => h0 h2.1) w (fun S => Fr.refl S w)))⟩

theorem fplace_c (h : Pool w F pb ab wb sb base count free ws ss) (agent f i : Int) {K : Int → Int → World → Prop}
    (hbad : ¬ (mayF ws ss base count agent f ∧ 0 ≤ i ∧ i < 8) → ∀ w', (∀ S, Fr S w w') → K 0 602 w')
    (hok : mayF ws ss base count agent f → 0 ≤ i → i < 8 → ∀ w', (∀ S, Fr S w w') → K (base + count + f * 8 + i) 0 w') : C136 (some ⟨pb, 0, none⟩) agent f i w K := by
  refine r_f136 _ _ _ _ _ _ (fmay_c h agent f (fun h0 w1 f1 => IfB.nno (by decide) (hbad (fun h1 => h0 h1.1) w1 f1)) (fun h0 w1 f1 => IfB.nyes rfl (IfB.dec (fun h1 => hbad (by omega) w1 f1) (fun h1 => IfB.dec (fun h2 => hbad (by omega) w1 f1) (fun h2 => ?_)))))
  obtain ⟨fa, fc, _, hb, _⟩ := (h.fr0 (f1 [])).ex
  have rg := h.rg
  have h3 := h0.2
  unfold usedF at h3
  exact ⟨_, hb.cell rfl, fit64 (by omega) (by omega), fit64 (by omega) (by omega), fit64 (by omega) (by omega), hok h0 (by omega) (by omega) w1 f1⟩

theorem col_set (hl : 0 ≤ base ∧ base + (14 * count + 64) ≤ ws.length) {f i : Int} (hf : 0 ≤ f ∧ f < count) (hi : 0 ≤ i ∧ i < 8) (v g : Int) (hg : 0 ≤ g ∧ g < count) : colF (ws.set (base + count + f * 8 + i).toNat v) base g = colF ws base g := by
  unfold colF
  rw [getI_set _ _ _ _ (by omega), if_neg (by omega)]

theorem wrd_set (hl : 0 ≤ base ∧ base + (14 * count + 64) ≤ ws.length) {f i : Int} (hf : 0 ≤ f ∧ f < count) (hi : 0 ≤ i ∧ i < 8) (v g j : Int) (hg : 0 ≤ g ∧ g < count) (hj : 0 ≤ j ∧ j < 8) :
    wrdF (ws.set (base + count + f * 8 + i).toNat v) base count g j = if g = f ∧ j = i then v else wrdF ws base count g j := by
  unfold wrdF
  rw [getI_set _ _ _ _ (by omega)]
  by_cases e : g = f ∧ j = i
  · obtain ⟨rfl, rfl⟩ := e
    simp
  · rw [if_neg e, if_neg (by omega)]

theorem colSet_col (hl : 0 ≤ base ∧ base + (14 * count + 64) ≤ ws.length) {f : Int} (hf : 0 ≤ f ∧ f < count) (v g : Int) (hg : 0 ≤ g ∧ g < count) : colF (ws.set (base + f).toNat v) base g = if g = f then v else colF ws base g := by
  unfold colF
  rw [getI_set _ _ _ _ (by omega)]
  by_cases e : g = f
  · subst e; simp
  · rw [if_neg e, if_neg (by omega)]

theorem colSet_wrd (hl : 0 ≤ base ∧ base + (14 * count + 64) ≤ ws.length) {f : Int} (hf : 0 ≤ f ∧ f < count) (v g j : Int) (hg : 0 ≤ g ∧ g < count) (hj : 0 ≤ j ∧ j < 8) :
    wrdF (ws.set (base + f).toNat v) base count g j = wrdF ws base count g j := by
  unfold wrdF
  rw [getI_set _ _ _ _ (by omega), if_neg (by omega)]

theorem fload_c (h : Pool w F pb ab wb sb base count free ws ss) (agent f i : Int) {K : Int → Int → World → Prop}
    (hbad : ¬ (mayF ws ss base count agent f ∧ 0 ≤ i ∧ i < 8) → ∀ w', (∀ S, Fr S w w') → K 0 602 w')
    (hok : mayF ws ss base count agent f → 0 ≤ i → i < 8 → ∀ w', Pool w' F pb ab wb sb base count free ws (tickA ss agent) → Fr F w w' → K (wrdF ws base count f i) 0 w') : C52 (some ⟨pb, 0, none⟩) agent f i w K := by
  refine r_f52 _ _ _ _ _ _ (fplace_c h agent f i (fun h0 w1 f1 => IfB.nno (by decide) (hbad h0 w1 f1)) (fun h0 hi0 hi1 w1 f1 => IfB.nyes rfl ?_))
  have h1 := h.fr0 (f1 [])
  obtain ⟨fa, fc, hF, hb, _⟩ := h1.ex
  have rg := h.rg
  have h3 := h0.2
  unfold usedF at h3
  refine ⟨_, hb.cell rfl, load_c h1.ar agent _ (fun h4 => absurd ?_ h4) (fun _ w2 A2 f2 => ?_)⟩
  · unfold mayA
    have := h0.1
    rw [if_neg (by omega), if_neg (by omega)]
  · obtain ⟨h5, f5⟩ := h1.same A2 f2 rfl (fun _ _ _ => Iff.rfl)
    exact hok h0 hi0 hi1 w2 h5 ((f1 F).more f5)

theorem fstore_c (h : Pool w F pb ab wb sb base count free ws ss) (agent f i v : Int) {K : Int → World → Prop}
    (hbad : ¬ (mayF ws ss base count agent f ∧ 0 ≤ i ∧ i < 8) → ∀ w', (∀ S, Fr S w w') → K 602 w')
    (hok : mayF ws ss base count agent f → 0 ≤ i → i < 8 → ∀ w', Pool w' F pb ab wb sb base count free (ws.set (base + count + f * 8 + i).toNat v) (tickA ss agent) → Fr F w w' → K 0 w') : C49 (some ⟨pb, 0, none⟩) agent f i v w K := by
  refine r_f49 _ _ _ _ _ _ _ (fplace_c h agent f i (fun h0 w1 f1 => IfB.nno (by decide) (hbad h0 w1 f1)) (fun h0 hi0 hi1 w1 f1 => IfB.nyes rfl ?_))
  have h1 := h.fr0 (f1 [])
  obtain ⟨fa, fc, hF, hb, _⟩ := h1.ex
  have rg := h.rg
  have h3 := h0.2
  unfold usedF at h3
  refine ⟨_, hb.cell rfl, store_c h1.ar agent _ v (fun h4 => absurd ?_ h4) (fun _ w2 A2 f2 => ?_)⟩
  · unfold mayA
    have := h0.1
    rw [if_neg (by omega), if_neg (by omega)]
  · obtain ⟨h5, f5⟩ := h1.same A2 f2 (by simp) (fun g hg0 hg1 => by rw [col_set ⟨rg.1, rg.2.2.2.1⟩ ⟨h3.1, h3.2.1⟩ ⟨hi0, hi1⟩ v g ⟨hg0, hg1⟩])
    exact hok h0 hi0 hi1 w2 h5 ((f1 F).more f5)

theorem fcolour_c (h : Pool w F pb ab wb sb base count free ws ss) (f : Int) {K : Int → Int → World → Prop}
    (hbad : ¬ (0 ≤ f ∧ f < count) → K 0 602 w) (hok : 0 ≤ f ∧ f < count → ∀ w', (∀ S, Fr S w w') → K (colF ws base f) 0 w') : C131 (some ⟨pb, 0, none⟩) f w K := by
  obtain ⟨⟨fa, fc, rfl, hb, hs, hd⟩, ar, ne, rg, nd, fr⟩ := h
  exact r_f131 _ _ _ _ (IfB.dec (fun h0 => hbad (by omega)) (fun h0 => ⟨_, hb.cell rfl, IfB.dec (fun h1 => hbad (by omega)) (fun h1 => ⟨_, _, hb.cells2 rfl rfl, viewGet_c ar (by omega) (by omega) rg.2.2.2.2 (fun w1 f1 => hok (by omega) w1 f1)⟩)⟩))

theorem fpaint_c (h : Pool w F pb ab wb sb base count free ws ss) (agent f c : Int) {K : Int → World → Prop}
    (hbad : ¬ mayF ws ss base count agent f → ∀ w', (∀ S, Fr S w w') → K 602 w')
    (hcol : mayF ws ss base count agent f → ¬ (1 ≤ c ∧ c ≤ 3) → ∀ w', (∀ S, Fr S w w') → K 603 w')
    (hok : mayF ws ss base count agent f → 1 ≤ c ∧ c ≤ 3 → ∀ w', Pool w' F pb ab wb sb base count free (ws.set (base + f).toNat c) ss → Fr F w w' → K 0 w') : C53 (some ⟨pb, 0, none⟩) agent f c w K := by
  refine r_f53 _ _ _ _ _ _ (fmay_c h agent f (fun h0 w1 f1 => IfB.nno (by decide) (hbad h0 w1 f1)) (fun h0 w1 f1 => IfB.nyes rfl (IfB.dec (fun h2 => hcol h0 (by omega) w1 f1) (fun h2 => IfB.dec (fun h3 => hcol h0 (by omega) w1 f1) (fun h3 => ?_)))))
  have h1 := h.fr0 (f1 [])
  obtain ⟨fa, fc, hF, hb, _⟩ := h1.ex
  have rg := h.rg
  have h4 := h0.2
  unfold usedF at h4
  refine ⟨_, _, hb.cells2 rfl rfl, viewSet_c h1.ar (by omega) (by omega) rg.2.2.2.2 (fun w2 A2 f2 => ?_)⟩
  obtain ⟨h5, f5⟩ := h1.same A2 (f2.mono (by simp)) (by simp) (fun g hg0 hg1 => by
    rw [colSet_col ⟨rg.1, rg.2.2.2.1⟩ ⟨h4.1, h4.2.1⟩ c g ⟨hg0, hg1⟩]
    split
    · rename_i e; subst e
      have := h4.2.2
      constructor
      · intro; omega
      · intro; contradiction
    · exact Iff.rfl)
  exact hok h0 (by omega) w2 h5 ((f1 F).more f5)

theorem froom_c (h : Pool w F pb ab wb sb base count free ws ss) {K : Int → World → Prop} (hK : K free.length w) : C157 (some ⟨pb, 0, none⟩) w K := by
  obtain ⟨fa, fc, _, hb, _⟩ := h.ex
  exact r_f157 _ _ _ ⟨_, _, _, hb.cell rfl, hK⟩

theorem farena_c (h : Pool w F pb ab wb sb base count free ws ss) {K : Option Addr → World → Prop} (hK : K (some ⟨ab, 0, none⟩) w) : C156 (some ⟨pb, 0, none⟩) w K := by
  obtain ⟨fa, fc, _, hb, _⟩ := h.ex
  exact r_f156 _ _ _ ⟨_, hb.cell rfl, hK⟩

/-- The header's slice of free ones is another. -/
theorem Pool.put {w1 w2 : World} {ws1 ss1 : List Int} (h : Pool w F pb ab wb sb base count free ws ss) {fa fa' : Option Addr} {fc fc' : Nat} {free' : List Int} (hF : F = pb :: ab :: wb :: sb :: ablk fa)
    (hb : Blk w1 pb [.pointer (some ⟨ab, 0, none⟩), .slice fa free.length fc, .pointer (some ⟨ab, 0, none⟩), .int .i64 base, .int .i64 (base + count), .int .i64 count])
    (s : SetC w1 w2 ⟨pb, 1, none⟩ (.slice fa' free'.length fc')) (hs : SI w1 fa' fc' free') (hd : Apart (ablk fa') [pb, ab, wb, sb]) (A : ArenaAt w1 ab wb sb ws1 ss1) (hl : ws1.length = ws.length)
    (nd : free'.Nodup) (fr : ∀ f, f ∈ free' ↔ 0 ≤ f ∧ f < count ∧ colF ws1 base f = 0) :
    Pool w2 (pb :: ab :: wb :: sb :: ablk fa') pb ab wb sb base count free' ws1 ss1 ∧ Fr [pb] w1 w2 := by
  have f := s.fr (S := [pb]) (by simp)
  have ne := h.ne
  refine ⟨⟨⟨fa', fc', rfl, s.blk hb, hs.fr f (fun b hb => by have := hd b hb; simp at this ⊢; omega), hd⟩, A.fr f (by simp; omega) (by simp; omega) (by simp; omega), ne, by rw [hl]; exact h.rg, nd, fr⟩, f⟩

theorem ffree_c (h : Pool w F pb ab wb sb base count free ws ss) (agent f : Int) {K : Int → World → Prop}
    (hbad : ¬ mayF ws ss base count agent f → ∀ w', (∀ S, Fr S w w') → K 602 w')
    (hok : mayF ws ss base count agent f → ∀ w' F', Pool w' F' pb ab wb sb base count (free ++ [f]) (ws.set (base + f).toNat 0) ss → Fr F w w' → Grw F F' w.heap.size → K 0 w') : C54 (some ⟨pb, 0, none⟩) agent f w K := by
  refine r_f54 _ _ _ _ _ (fmay_c h agent f (fun h0 w1 f1 => IfB.no (by decide) (hbad h0 w1 f1)) (fun h0 w1 f1 => IfB.yes rfl ?_))
  have h1 := h.fr0 (f1 [])
  obtain ⟨fa, fc, hF, hb, hs, hd⟩ := h1.ex
  have rg := h.rg
  have ne := h.ne
  have h4 := h0.2
  unfold usedF at h4
  refine ⟨_, _, hb.cells2 rfl rfl, viewSet_c h1.ar (by omega) (by omega) rg.2.2.2.2 (fun w2 A2 f2 => ?_)⟩
  have hb2 := hb.fr f2 (by simp; omega)
  have hs2 : SI w2 _ _ _ := hs.fr f2 (fun b hb => by have := hd b hb; simp at this ⊢; omega)
  have hlen : free.length ≤ 2000 := by
    refine Nat.le_trans (nodup_len count.toNat free h.nd (fun x hx => by have := (h.fr x).1 hx; omega)) (by omega)
  refine ⟨_, _, _, hb2.cell rfl, fun b3 w3 n3 => ?_⟩
  obtain ⟨rfl, rfl⟩ := id n3
  refine append_int (P := Try.prog) (t := 42) (e := 3) (i := Try.t3) (by kernel_rfl) (by kernel_rfl) rfl rfl hs2 f 3 (by omega) (by decide) 42 (fun a' c' w4 S4 f4 g4 => ?_)
  have f3 : Fr (ablk fa) w2 w4 := f4
  have hb4 := hb2.fr f3 (fun hm => hd pb hm (by simp))
  have A4 := A2.fr f3 (fun hm => hd ab hm (by simp)) (fun hm => hd wb hm (by simp)) (fun hm => hd sb hm (by simp))
  refine ⟨hb4.may (by simp), fun w5 s5 => ?_⟩
  have low := h1.low
  have z2 := f2.size
  have hd' : Apart (ablk a') [pb, ab, wb, sb] := by
    refine hd.grow ?_ g4
    intro b hb
    exact Nat.lt_of_lt_of_le (low b (by rw [hF]; simp only [List.mem_cons] at hb ⊢; simp at hb; omega)) z2
  have e : free.length + 1 = (free ++ [f]).length := by simp
  rw [e] at s5
  have hnf : f ∉ free := fun hm => h4.2.2 ((h.fr f).1 hm).2.2
  obtain ⟨h6, f6⟩ := h1.put hF hb4 s5 S4 hd' A4 (by simp) (by rw [List.nodup_append]; exact ⟨h.nd, by simp, fun a ha b hb hab => by simp at hb; subst hb; subst hab; exact hnf ha⟩)
    (fun g => by
      rw [List.mem_append, h.fr g, List.mem_singleton]
      constructor
      · rintro (⟨q1, q2, q3⟩ | rfl)
        · refine ⟨q1, q2, ?_⟩
          rw [colSet_col ⟨rg.1, rg.2.2.2.1⟩ ⟨h4.1, h4.2.1⟩ 0 g ⟨q1, q2⟩]
          split
          · rfl
          · exact q3
        · refine ⟨h4.1, h4.2.1, ?_⟩
          rw [colSet_col ⟨rg.1, rg.2.2.2.1⟩ ⟨h4.1, h4.2.1⟩ 0 g ⟨h4.1, h4.2.1⟩, if_pos rfl]
      · rintro ⟨q1, q2, q3⟩
        by_cases e : g = f
        · exact .inr e
        · rw [colSet_col ⟨rg.1, rg.2.2.2.1⟩ ⟨h4.1, h4.2.1⟩ 0 g ⟨q1, q2⟩, if_neg e] at q3
          exact .inl ⟨q1, q2, q3⟩)
  refine hok h0 w5 _ h6 ?_ ?_
  · rw [hF]
    have q1 : Fr (pb :: ab :: wb :: sb :: ablk fa) w w2 := (f1 _).more (f2.mono (by simp))
    have q2 := q1.more (f3.mono (S' := pb :: ab :: wb :: sb :: ablk fa) (fun k hk => .inl (by simp [hk])))
    exact q2.more (f6.mono (by simp))
  · intro b hb
    rw [hF]
    simp only [List.mem_cons] at hb ⊢
    rcases hb with h | h | h | h | h
    · simp [h]
    · simp [h]
    · simp [h]
    · simp [h]
    · rcases g4 b h with h | h
      · simp [h]
      · right
        have := ((f1 []).size)
        omega
end

end Go.Proofs.Ytfpghcdjfiggiaa.V
