/- The pool of fragments: New, Alloc, Used. No condition. -/
import Derived.Test.YtfpghcdjfiggiaaFrag
import Derived.Test.YtfpghcdjfiggiaaInts
namespace Go.Proofs.Ytfpghcdjfiggiaa.V
open Go Go.RowKit

section
variable {w w' : World} {F S : List Nat} {pb ab wb sb : Nat} {base count : Int} {free ws ss : List Int}

theorem fnew_c (A : ArenaAt w ab wb sb ws ss) (hl : ws.length ≤ 65536) (base count : Int) {K : Option Addr → Int → World → Prop}
    (hbad : ¬ (1 ≤ count ∧ count ≤ 2000 ∧ 0 ≤ base ∧ base ≤ ws.length ∧ 14 * count + 64 ≤ ws.length - base) → K none 600 w)
    (hok : 1 ≤ count ∧ count ≤ 2000 ∧ 0 ≤ base ∧ base ≤ ws.length ∧ 14 * count + 64 ≤ ws.length - base → ∀ w' pb F free ws', Pool w' F pb ab wb sb base count free ws' ss → (free.length : Int) = count →
      (∀ f, 0 ≤ f → f < count → f ∈ free) → ws'.length = ws.length → (∀ j : Int, 0 ≤ j → (j < base ∨ base + count ≤ j) → ws'.getD j.toNat 0 = ws.getD j.toNat 0) → Fr [wb] w w' →
      (∀ b ∈ F, b ∈ [ab, wb, sb] ∨ w.heap.size ≤ b) → K (some ⟨pb, 0, none⟩) 0 w') : C47 (some ⟨ab, 0, none⟩) base count w K := by
  refine r_f47 _ _ _ _ _ (IfB.dec (fun h1 => hbad (by omega)) (fun h1 => IfB.dec (fun h2 => hbad (by omega)) (fun h2 => ⟨fit64 (by omega) (by omega), fit64 (by omega) (by omega), ?_⟩)))
  refine holdsWords_c A base _ (by omega) hl (IfB.nd (fun h3 => ?_) (fun h3 => hbad (by omega)))
  refine viewOf_c _ _ fun w1 f1 => ⟨fit64 (by omega) (by omega), fun pb w2 n2 => ⟨fit64 (by omega) (by omega), ?_⟩⟩
  have f2 : Fr [] w w2 := (f1 []).more (n2.fr [])
  have A2 := A.fr0 f2
  have z1 := (f1 []).size
  have pge := n2.ge
  have plt := n2.blk.lt
  have q1 := A.hd.lt
  have q2 := A.ws.lt
  have q3 := A.ss.lt
  have z2 := f2.size
  refine ⟨fun n w' => -1 ≤ n ∧ n ≤ count - 1 ∧ ∃ fa fc free ws', Blk w' pb [.pointer (some ⟨ab, 0, none⟩), .slice fa free.length fc, .pointer (some ⟨ab, 0, none⟩), .int .i64 base, .int .i64 (base + count), .int .i64 count] ∧
      SI w' fa fc free ∧ (∀ b ∈ ablk fa, w2.heap.size ≤ b) ∧ ArenaAt w' ab wb sb ws' ss ∧ ws'.length = ws.length ∧ free.Nodup ∧ (∀ f, f ∈ free ↔ n < f ∧ f < count) ∧ (free.length : Int) = count - 1 - n ∧
      (∀ f, n < f → f < count → colF ws' base f = 0) ∧ (∀ j : Int, 0 ≤ j → (j < base ∨ base + count ≤ j) → ws'.getD j.toNat 0 = ws.getD j.toNat 0) ∧ Fr [wb] w w',
    fun n _ => (n + 1).toNat, ⟨by omega, by omega, none, 0, [], ws, n2.blk, SI.nil _, by simp [ablk], A2, rfl, by simp, fun f => by simp; omega, by simp, fun f _ _ => by omega, fun _ _ _ => rfl, f2.mono (by simp)⟩, ?_⟩
  rintro - n w3 ⟨hn0, hn1, fa, fc, free, ws', B, Sf, hB, A3, hl3, nd, hmem, hlen, hz, hout, f3⟩
  refine IfB.dec (fun h4 => ?_) (fun h4 => ?_)
  · refine ⟨_, _, _, B.cell rfl, fun b4 w4 n4 => app_int Sf n4 (by omega) fun a' c' w5 S5 f5 g5 => ?_⟩
    have B5 := B.fr f5 (fun hm => by have := hB _ hm; omega)
    have A5 := A3.fr f5 (fun hm => by have := hB _ hm; omega) (fun hm => by have := hB _ hm; omega) (fun hm => by have := hB _ hm; omega)
    refine ⟨B5.may (by simp), fun w6 s6 => ?_⟩
    have B6 := s6.blk B5
    have f6 := s6.fr (S := [pb]) (by simp)
    have hB' : ∀ b ∈ ablk a', w2.heap.size ≤ b := g5.up hB (by
      have := f3.size
      have : w2.heap.size ≤ w3.heap.size := by
        rcases Nat.lt_or_ge w3.heap.size w2.heap.size with h | h
        · have h7 := B.lt
          have : w2.heap.size = pb + 1 := by obtain ⟨rfl, rfl⟩ := n2; simp
          omega
        · exact h
      exact this)
    have S6 : SI w6 _ _ _ := S5.fr f6 (fun b hb => by have := hB' b hb; simp; omega)
    have A6 := A5.fr f6 (by simp; omega) (by simp; omega) (by simp; omega)
    refine ⟨_, _, B6.cells2 rfl rfl, viewSet_c A6 (by omega) (by omega) (by omega) fun w7 A7 f7 => ⟨fit64 (by omega) (by omega), ⟨by omega, by omega, a', c', _, _, ?_, S6.fr f7 (fun b hb => by have := hB' b hb; simp; omega), hB', A7, by simpa using hl3, ?_, ?_, ?_, ?_, ?_, ?_⟩, by dsimp only; omega⟩⟩
    · have := B6.fr f7 (by simp; omega)
      simpa using this
    · rw [List.nodup_append]
      exact ⟨nd, by simp, fun a ha b hb hab => by simp at hb; subst hb; subst hab; have := (hmem _).1 ha; omega⟩
    · intro f
      rw [List.mem_append, hmem f, List.mem_singleton]
      omega
    · simp; omega
    · intro f hf0 hf1
      unfold colF
      rw [getI_set _ _ _ _ (by omega)]
      split
      · rfl
      · exact hz f (by omega) hf1
    · intro j hj0 hj1
      rw [getI_set _ _ _ _ (by omega), if_neg (by omega)]
      exact hout j hj0 hj1
    · have q5 : Fr [wb] w w5 := f3.trans f5 (fun k hk => .inr (by have := hB k hk; omega))
      exact (q5.trans f6 (by simp; omega)).more f7
  · refine hok (by omega) w3 pb (pb :: ab :: wb :: sb :: ablk fa) free ws' ⟨⟨fa, fc, rfl, B, Sf, fun b hb => by have := hB b hb; simp; omega⟩, A3, by omega, by omega, nd, fun f => ?_⟩ (by omega) (fun f hf0 hf1 => (hmem f).2 (by omega)) hl3 hout f3 ?_
    · rw [hmem f]
      constructor
      · intro h; exact ⟨by omega, h.2, hz f (by omega) h.2⟩
      · intro h; omega
    · intro b hb
      simp only [List.mem_cons] at hb
      rcases hb with h | h | h | h | h
      · right; omega
      · simp [h]
      · simp [h]
      · simp [h]
      · right; have := hB b h; omega

theorem falloc_c (h : Pool w F pb ab wb sb base count free ws ss) (agent : Int) {K : Int → Int → World → Prop}
    (hbad : ¬ (0 ≤ agent ∧ agent < ss.length) → K 0 602 w) (hnone : 0 ≤ agent ∧ agent < ss.length → free = [] → K 0 601 w)
    (hok : 0 ≤ agent ∧ agent < ss.length → ∀ l f, free = l ++ [f] → ∀ w' ws', Pool w' F pb ab wb sb base count l ws' ss → ws'.length = ws.length →
      (∀ g, 0 ≤ g → g < count → colF ws' base g = if g = f then 1 else colF ws base g) → (∀ g i, 0 ≤ g → g < count → 0 ≤ i → i < 8 → wrdF ws' base count g i = if g = f then 0 else wrdF ws base count g i) →
      (∀ j : Int, 0 ≤ j → (j < base ∨ base + 14 * count + 64 ≤ j) → ws'.getD j.toNat 0 = ws.getD j.toNat 0) → Fr F w w' → K f 0 w') : C48 (some ⟨pb, 0, none⟩) agent w K := by
  obtain ⟨fa, fc, hF, hb, hs, hd⟩ := h.ex
  have rg := h.rg
  have ne := h.ne
  refine r_f48 _ _ _ _ ⟨_, hb.cell rfl, agent_c h.ar agent (IfB.nd (fun h0 => ⟨_, _, _, hb.cell rfl, IfB.dec (fun h1 => hnone h0 (List.eq_nil_of_length_eq_zero (by omega))) (fun h1 => ?_)⟩) hbad)⟩
  rcases List.eq_nil_or_concat free with e | ⟨l, f, e⟩
  · rw [e] at h1; simp at h1
  rw [List.concat_eq_append] at e
  subst e
  intro w1 d1
  have b1 := hb.fr0 (d1.fr [])
  have s1 := hs.fr0 (d1.fr [])
  have hfm := (h.fr f).1 (by simp)
  have hlen : (l ++ [f]).length ≤ 2000 := Nat.le_trans (nodup_len count.toNat _ h.nd (fun x hx => by have := (h.fr x).1 hx; omega)) (by omega)
  refine ⟨_, _, _, b1.cell rfl, _, _, _, b1.cell rfl, fit64 (by omega) (by omega), s1.get (by omega) (by omega) fun p hp => ⟨by omega, _, hp, fun w2 d2 => ?_⟩⟩
  have ef : (l ++ [f]).getD (Int.toNat (((l ++ [f]).length : Int) - 1)) 0 = f := by
    have : Int.toNat (((l ++ [f]).length : Int) - 1) = l.length := by simp
    rw [this]
    simp [List.getD_eq_getElem?_getD]
  rw [ef]
  have f2 : Fr [] w w2 := (d1.fr []).more (d2.fr [])
  have b2 := hb.fr0 f2
  have lf := s1.le
  refine ⟨_, _, _, b2.cell rfl, _, _, _, b2.cell rfl, fit64 (by omega) (by omega), by omega, b2.may (by simp), fun w3 s3 => ?_⟩
  have el : Int.toNat (((l ++ [f]).length : Int) - 1) = l.length := by simp
  rw [el] at s3
  have b3 := s3.blk b2
  have f3 := s3.fr (S := [pb]) (by simp)
  have A3 := (h.ar.fr0 f2).fr f3 (by simp; omega) (by simp; omega) (by simp; omega)
  have S3 : SI w3 fa fc l := ((hs.fr0 f2).fr f3 (fun b hb => by have := hd b hb; simp at this ⊢; omega)).pre
  refine ⟨_, _, b3.cells2 rfl rfl, viewSet_c A3 (by omega) (by omega) rg.2.2.2.2 fun w4 A4 f4 => ?_⟩
  have nd := h.nd
  rw [List.nodup_append] at nd
  have P4 : Pool w4 F pb ab wb sb base count l (ws.set (base + f).toNat 1) ss := by
    refine ⟨⟨fa, fc, hF, ?_, S3.fr f4 (fun b hb => by have := hd b hb; simp at this ⊢; omega), hd⟩, A4, ne, by simpa using rg, nd.1, fun g => ?_⟩
    · have := b3.fr f4 (by simp; omega)
      simpa using this
    · have := h.fr g
      rw [List.mem_append, List.mem_singleton] at this
      constructor
      · intro hg
        have h3 := this.1 (.inl hg)
        refine ⟨h3.1, h3.2.1, ?_⟩
        rw [colSet_col ⟨rg.1, rg.2.2.2.1⟩ ⟨hfm.1, hfm.2.1⟩ 1 g ⟨h3.1, h3.2.1⟩, if_neg (fun e => nd.2.2 g hg f (by simp) e)]
        exact h3.2.2
      · rintro ⟨g0, g1, g2⟩
        rw [colSet_col ⟨rg.1, rg.2.2.2.1⟩ ⟨hfm.1, hfm.2.1⟩ 1 g ⟨g0, g1⟩] at g2
        split at g2
        · omega
        · rename_i hne
          exact (this.2 ⟨g0, g1, g2⟩).resolve_right hne
  have F4 : Fr F w w4 := by
    rw [hF]
    exact ((f2.mono (by simp)).more (f3.mono (by simp))).more (f4.mono (by simp))
  have low4 := P4.low
  obtain ⟨fa4, fc4, _, b4, _⟩ := P4.ex
  let M : Option Addr → World → Prop := fun q w' => ∃ b, q = some ⟨b, 0, none⟩ ∧ Blk w' b [.pointer (some ⟨ab, 0, none⟩), .int .i64 (base + count + f * 8)] ∧ w4.heap.size ≤ b ∧ Fr [] w4 w'
  have k2 : ∀ (w' : World) (b : Nat), Blk w' b [.pointer none, .int .i64 0] → w4.heap.size ≤ b → Fr [] w4 w' → MayL w' ⟨b, 0, none⟩ 2 ∧ ∀ w'' : World, SetL w' w'' ⟨b, 0, none⟩ [.pointer (some ⟨ab, 0, none⟩), .int .i64 (base + count + f * 8)] → M (some ⟨b, 0, none⟩) w'' := by
    intro w' b hb hge hf
    refine ⟨hb.mayL (by simp), fun w'' s => ?_⟩
    obtain ⟨g1, g2⟩ := s.all hb rfl
    exact ⟨b, rfl, g1, hge, hf.trans g2 (by simp; omega)⟩
  have k1 : ∀ w' : World, Fr [] w4 w' → ∀ (b : Nat) (w'' : World), NewAt w' w'' b #[.pointer none, .int .i64 0] 169 → MayL w'' ⟨b, 0, none⟩ 2 ∧ ∀ w3 : World, SetL w'' w3 ⟨b, 0, none⟩ [.pointer (some ⟨ab, 0, none⟩), .int .i64 (base + count + f * 8)] → M (some ⟨b, 0, none⟩) w3 := by
    intro w' hf b w'' n
    exact k2 w'' b n.blk (Nat.le_trans hf.size n.ge) (hf.more (n.fr []))
  have fit1 : Fit .i64 (f * 8) := fit64 (by omega) (by omega)
  have fit2 : Fit .i64 (base + count + f * 8) := fit64 (by omega) (by omega)
  refine ⟨M, fun w5 d5 => ?_, ?_⟩
  · have f5 := d5.fr []
    have b5 := b4.fr0 f5
    refine ⟨fit1, ⟨_, b5.cell rfl, ⟨_, b5.cell rfl, fit2, viewOf_c _ _ fun w6 f6 => k1 w6 (f5.more (f6 [])), fun b w6 n6 => viewOf_c _ _ fun w7 f7 => ?_⟩, fun b w6 n6 => ⟨_, (b5.fr0 (n6.fr [])).cell rfl, fit2, viewOf_c _ _ fun w7 f7 => ?_⟩⟩,
      ⟨_, b5.cell rfl, fit2, ⟨_, b5.cell rfl, viewOf_c _ _ fun w6 f6 => k1 w6 (f5.more (f6 [])), fun b w6 n6 => viewOf_c _ _ fun w7 f7 => ?_⟩, fun b w6 n6 => ⟨_, (b5.fr0 (n6.fr [])).cell rfl, viewOf_c _ _ fun w7 f7 => ?_⟩⟩,
      fun b w6 n6 => ⟨_, (b5.fr0 (n6.fr [])).cell rfl, _, (b5.fr0 (n6.fr [])).cell rfl, fit2, viewOf_c _ _ fun w7 f7 => ?_⟩⟩
    all_goals exact k2 w7 b (n6.blk.fr0 (f7 [])) (Nat.le_trans f5.size n6.ge) ((f5.more (n6.fr [])).more (f7 []))
  rintro - q w5 ⟨b, rfl, B5, hb5, f5⟩
  refine ⟨fun n w' => 0 ≤ n ∧ n ≤ 8 ∧ Blk w' b [.pointer (some ⟨ab, 0, none⟩), .int .i64 (base + count + f * 8)] ∧ ∃ ws', Pool w' F pb ab wb sb base count l ws' ss ∧ ws'.length = ws.length ∧
      (∀ g, 0 ≤ g → g < count → colF ws' base g = if g = f then 1 else colF ws base g) ∧ (∀ g i, 0 ≤ g → g < count → 0 ≤ i → i < 8 → wrdF ws' base count g i = if g = f ∧ i < n then 0 else wrdF ws base count g i) ∧
      (∀ j : Int, 0 ≤ j → (j < base ∨ base + 14 * count + 64 ≤ j) → ws'.getD j.toNat 0 = ws.getD j.toNat 0) ∧ Fr F w w',
    fun n _ => (8 - n).toNat, ⟨by omega, by omega, B5, _, P4.fr0 f5, by simp, fun g g0 g1 => colSet_col ⟨rg.1, rg.2.2.2.1⟩ ⟨hfm.1, hfm.2.1⟩ 1 g ⟨g0, g1⟩, fun g i g0 g1 i0 i1 => ?_, fun j j0 j1 => ?_, F4.more (f5.mono (by simp))⟩, ?_⟩
  · rw [if_neg (by omega)]; exact colSet_wrd ⟨rg.1, rg.2.2.2.1⟩ ⟨hfm.1, hfm.2.1⟩ 1 g i ⟨g0, g1⟩ ⟨i0, i1⟩
  · rw [getI_set _ _ _ _ (by omega), if_neg (by omega)]
  rintro - n w6 ⟨hn0, hn1, B6, ws', P6, hl6, hc6, hw6, ho6, f6⟩
  have bF : b ∉ F := fun hm => by have := low4 b hm; omega
  refine IfB.dec (fun hlt => PtrOK.of rfl ⟨_, _, B6.cells, viewSet_c P6.ar (by omega) (by omega) (by omega) fun w7 A7 f7 => ⟨fit64 (by omega) (by omega), ?_, by dsimp only; omega⟩⟩) (fun hge => ?_)
  · have rg6 := P6.rg
    obtain ⟨P7, f7'⟩ := P6.same A7 (f7.mono (by simp)) (by simp) (fun g g0 g1 => by rw [col_set ⟨rg6.1, rg6.2.2.2.1⟩ ⟨hfm.1, hfm.2.1⟩ ⟨hn0, hlt⟩ 0 g ⟨g0, g1⟩])
    refine ⟨by omega, by omega, B6.fr f7' bF, _, P7, by simpa using hl6, fun g g0 g1 => ?_, fun g i g0 g1 i0 i1 => ?_, fun j j0 j1 => ?_, f6.more f7'⟩
    · rw [col_set ⟨rg6.1, rg6.2.2.2.1⟩ ⟨hfm.1, hfm.2.1⟩ ⟨hn0, hlt⟩ 0 g ⟨g0, g1⟩]; exact hc6 g g0 g1
    · rw [wrd_set ⟨rg6.1, rg6.2.2.2.1⟩ ⟨hfm.1, hfm.2.1⟩ ⟨hn0, hlt⟩ 0 g i ⟨g0, g1⟩ ⟨i0, i1⟩, hw6 g i g0 g1 i0 i1]
      by_cases e1 : g = f
      · by_cases e2 : i = n
        · rw [if_pos ⟨e1, e2⟩, if_pos ⟨e1, by omega⟩]
        · rw [if_neg (fun h => e2 h.2)]
          by_cases e3 : i < n
          · rw [if_pos ⟨e1, e3⟩, if_pos ⟨e1, by omega⟩]
          · rw [if_neg (fun h => e3 h.2), if_neg (by omega)]
      · rw [if_neg (fun h => e1 h.1), if_neg (fun h => e1 h.1), if_neg (fun h => e1 h.1)]
    · rw [getI_set _ _ _ _ (by omega), if_neg (by omega)]; exact ho6 j j0 j1
  · refine hok h0 l f rfl w6 ws' P6 hl6 hc6 (fun g i g0 g1 i0 i1 => ?_) ho6 f6
    rw [hw6 g i g0 g1 i0 i1]
    by_cases e1 : g = f
    · rw [if_pos ⟨e1, by omega⟩, if_pos e1]
    · rw [if_neg (fun h => e1 h.1), if_neg e1]

def usedL (ws : List Int) (base count : Int) : List Int := (upTo count.toNat).filter fun f => decide (colF ws base f ≠ 0)

theorem fusedl_c (h : Pool w F pb ab wb sb base count free ws ss) {K : Option Addr → Nat → Nat → World → Prop}
    (hK : ∀ a c w', SI w' a c (usedL ws base count) → (∀ S, Fr S w w') → (∀ b ∈ ablk a, w.heap.size ≤ b) → K a (usedL ws base count).length c w') : C50 (some ⟨pb, 0, none⟩) w K := by
  obtain ⟨fa, fc, hF, hb, hs, hd⟩ := h.ex
  have rg := h.rg
  refine r_f50 _ _ _ ⟨_, hb.cell rfl, fun a l c n w' => 0 ≤ n ∧ n ≤ count ∧ ∃ us, us = (upTo n.toNat).filter (fun f => decide (colF ws base f ≠ 0)) ∧ l = us.length ∧ SI w' a c us ∧ (∀ b ∈ ablk a, w.heap.size ≤ b) ∧ Fr [] w w',
    fun _ _ _ n _ => (count - n).toNat, ⟨by omega, by omega, [], rfl, rfl, SI.nil _, by simp [ablk], Fr.refl _ _⟩, ?_⟩
  rintro - a l c n w1 ⟨hn0, hn1, us, hus, rfl, U, hB, f1⟩
  have up1 : upTo (n + 1).toNat = upTo n.toNat ++ [n] := by
    have : (n + 1).toNat = n.toNat + 1 := by omega
    rw [this, upTo_succ]
    congr; omega
  refine IfB.dec (fun hlt => used_c (h.fr0 f1) n fun w2 f2 => IfB.dec (fun hu => fun b3 w3 n3 => ?_) (fun hu => ?_)) (fun hge => ?_)
  · have hle : us.length ≤ n.toNat := by
      rw [hus]
      exact Nat.le_trans (List.length_filter_le _ _) (by rw [upTo_length]; exact Nat.le_refl _)
    refine app_own (U.fr0 (f2 [])) hB (f1.more (f2 [])) n3 (by omega) fun a' c' w4 U4 f4 _ hB4 _ => ⟨fit64 (by omega) (by omega), ⟨by omega, by omega, _, ?_, by simp, U4, hB4, f4⟩, by dsimp only; omega⟩
    rw [up1, List.filter_append, ← hus]
    have : colF ws base n ≠ 0 := hu.2.2
    simp [this]
  · refine ⟨fit64 (by omega) (by omega), ⟨by omega, by omega, us, ?_, rfl, U.fr0 (f2 []), hB, f1.more (f2 [])⟩, by dsimp only; omega⟩
    rw [up1, List.filter_append, ← hus]
    have : colF ws base n = 0 := by
      unfold usedF at hu
      by_cases e : colF ws base n = 0
      · exact e
      · exact absurd ⟨hn0, hlt, e⟩ hu
    simp [this]
  · have : n = count := by omega
    subst this
    have e : us = usedL ws base n := hus
    rw [e] at U ⊢
    exact hK a c w1 U (fun S => f1.mono (by simp)) hB

/-- A pool in a new arena of three agents. -/
theorem begun6_c (base count : Int) (hb : 0 ≤ base ∧ base ≤ 15) (hc : 1 ≤ count ∧ count ≤ 32) {K : Option Addr → Option Addr → Bool → World → Prop}
    (hK : ∀ w' F pb ab wb sb free ws, Pool w' F pb ab wb sb base count free ws [0, 0, 0] → (free.length : Int) = count → (∀ f, 0 ≤ f → f < count → f ∈ free) → Fr [] w w' → (∀ b ∈ F, w.heap.size ≤ b) →
      K (some ⟨pb, 0, none⟩) (some ⟨ab, 0, none⟩) true w') : C51 base count w K := by
  refine r_f51 _ _ _ _ ⟨fit64 (by omega) (by omega), fit64 (by omega) (by omega), fit64 (by omega) (by omega), ?_⟩
  refine arena_new_c _ 3 (fun h => ?_) (fun _ w1 ab wb sb A f1 l1 l2 l3 => ?_)
  · simp [newA] at h; omega
  refine fnew_c A (by simp; omega) base count (fun h => ?_) (fun _ w2 pb F free ws P h1 h2 _ _ f2 hF => ?_)
  · simp at h; omega
  refine IfB.yes rfl (IfB.yes rfl ?_)
  refine hK w2 F pb ab wb sb free ws P h1 h2 ((f1 []).trans f2 (by simp; omega)) (fun b hb => ?_)
  have := (f1 []).size
  rcases hF b hb with h | h
  · simp at h; omega
  · omega

theorem awake6_c {K : Bool → World → Prop} (hK : ∀ w', Fr [] w w' → K true w') : C46 w K := by
  refine r_f46 _ _ (begun6_c 0 1 (by decide) (by decide) fun w1 F pb ab wb sb free ws P h1 h2 f1 hF => ifb_nyes rfl ?_)
  have ha : ∀ {a : Int}, 0 ≤ a → a < 3 → (0 : Int) ≤ a ∧ a < (([0, 0, 0] : List Int).length : Int) := fun h0 h3 => ⟨h0, h3⟩
  refine falloc_c P 0 (fun h => absurd (by decide) h) (fun _ h => by rw [h] at h1; simp at h1) (fun _ l f hl w2 ws2 P2 hw2 hc2 hr2 _ f2 => ?_)
  have hll : l = [] := by rw [hl] at h1; simp at h1; exact List.eq_nil_of_length_eq_zero (by omega)
  subst hll
  have hf := (P.fr f).1 (by rw [hl]; simp)
  have : f = 0 := by omega
  subst this
  have u0 : ∀ ws : List Int, colF ws 0 0 ≠ 0 → usedF ws 0 1 0 := fun ws h => ⟨by decide, by decide, h⟩
  have c2 : colF ws2 0 0 = 1 := by rw [hc2 0 (by decide) (by decide), if_pos rfl]
  refine falloc_c P2 1 (fun h => absurd (by decide) h) (fun _ _ => ?_) (fun _ l f h => by simp at h)
  refine fstore_c P2 0 0 7 9 (fun h => absurd ⟨⟨by decide, u0 _ (by omega)⟩, by decide, by decide⟩ h) (fun _ _ _ w3 P3 f3 => ?_)
  have hl2 := P2.rg
  have c3 : colF (ws2.set (0 + 1 + 0 * 8 + 7 : Int).toNat 9) 0 0 = 1 := by
    rw [col_set (count := 1) ⟨by decide, hl2.2.2.2.1⟩ ⟨by decide, by decide⟩ ⟨by decide, by decide⟩ 9 0 ⟨by decide, by decide⟩]; exact c2
  refine fload_c P3 2 0 7 (fun h => absurd ⟨⟨by simp [tickA], u0 _ (by omega)⟩, by decide, by decide⟩ h) (fun _ _ _ w4 P4 f4 => ?_)
  rw [wrd_set (count := 1) ⟨by decide, hl2.2.2.2.1⟩ ⟨by decide, by decide⟩ ⟨by decide, by decide⟩ 9 0 7 ⟨by decide, by decide⟩ ⟨by decide, by decide⟩, if_pos ⟨rfl, rfl⟩]
  refine ffree_c P4 0 0 (fun h => absurd ⟨by simp [tickA], u0 _ (by omega)⟩ h) (fun _ w5 F5 P5 f5 g5 => ?_)
  refine fcolour_c P5 0 (fun h => absurd (by decide) h) (fun _ w6 f6 => ?_)
  have hl4 := P4.rg
  rw [colSet_col (count := 1) ⟨by decide, hl4.2.2.2.1⟩ ⟨by decide, by decide⟩ 0 0 ⟨by decide, by decide⟩, if_pos rfl]
  refine IfB.yes rfl (IfB.yes rfl (IfB.yes rfl (IfB.yes rfl (IfB.yes rfl (IfB.yes rfl (IfB.yes rfl (IfB.yes rfl ?_)))))))
  have hF' : ∀ k ∈ F, k ∈ ([] : List Nat) ∨ w.heap.size ≤ k := fun k hk => .inr (hF k hk)
  exact hK w6 (((((f1.trans f2 hF').trans f3 hF').trans f4 hF').trans f5 hF').more (f6 []))
end

end Go.Proofs.Ytfpghcdjfiggiaa.V
