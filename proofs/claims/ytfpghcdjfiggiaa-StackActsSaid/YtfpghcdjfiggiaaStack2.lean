/- The stack: New, Items, Begin, Step, and an operation alone. No condition. -/
import Derived.Test.YtfpghcdjfiggiaaStack
import Derived.Test.YtfpghcdjfiggiaaFrag2
namespace Go.Proofs.Ytfpghcdjfiggiaa.V
open Go Go.RowKit

theorem upd_upd {α : Type} (f : Nat → α) (i : Nat) (x y : α) : upd (upd f i x) i y = upd f i y := by
  funext j; unfold upd; split <;> rfl
theorem upd_same {α : Type} (f : Nat → α) (i : Nat) (x : α) (h : f i = x) : upd f i x = f := by
  funext j; unfold upd; split
  · rename_i e; subst e; exact h.symm
  · rfl

section
variable {w w' : World} {F S : List Nat} {st ab wb sb : Nat} {base cap n : Int} {op : Nat → Option OpR} {ws ss items : List Int}

theorem stnew_c (A : ArenaAt w ab wb sb ws ss) (hl : ws.length ≤ 65536) (s12 : ss.length ≤ 12) (base cap : Int) {K : Option Addr → Int → World → Prop}
    (hbad : ¬ (1 ≤ cap ∧ cap ≤ 1000 ∧ 0 ≤ base ∧ base ≤ ws.length ∧ 2 * cap + 8 ≤ ws.length - base) → K none 500 w)
    (hok : 1 ≤ cap ∧ cap ≤ 1000 ∧ 0 ≤ base ∧ base ≤ ws.length ∧ 2 * cap + 8 ≤ ws.length - base → ∀ w' st F ws', Stk w' F st ab wb sb base cap (fun _ => none) ws' ss → LInv base cap (fun _ => none) ws' [] 0 → ws'.length = ws.length →
      (∀ j : Int, 0 ≤ j → (j < base ∨ base + cap + 1 ≤ j) → ws'.getD j.toNat 0 = ws.getD j.toNat 0) → Fr [wb] w w' → (∀ b ∈ F, b ∈ [ab, wb, sb] ∨ w.heap.size ≤ b) → K (some ⟨st, 0, none⟩) 0 w') : C58 (some ⟨ab, 0, none⟩) base cap w K := by
  refine r_f58 _ _ _ _ _ (IfB.dec (fun h1 => hbad (by omega)) (fun h1 => IfB.dec (fun h2 => hbad (by omega)) (fun h2 => ⟨fit64 (by omega) (by omega), fit64 (by omega) (by omega), ?_⟩)))
  refine holdsWords_c A base _ (by omega) hl (IfB.nd (fun h3 => ?_) (fun h3 => hbad (by omega)))
  refine viewOf_c _ _ fun w1 f1 => fun vb w2 n2 => ⟨n2.blk.mayL (by simp), fun w3 s3 => ⟨fit64 (by omega) (by omega), ?_⟩⟩
  obtain ⟨B3, f3⟩ := newSet n2 s3 rfl
  have vge := n2.ge
  have f13 : Fr [] w w3 := (f1 []).more (f3 [])
  have q1 := A.hd.lt
  have q2 := A.ws.lt
  have q3 := A.ss.lt
  have z1 := (f1 []).size
  refine ⟨fun n w' => 0 ≤ n ∧ n ≤ cap + 1 ∧ Blk w' vb [.pointer (some ⟨ab, 0, none⟩), .int .i64 base] ∧ ∃ ws', ArenaAt w' ab wb sb ws' ss ∧ ws'.length = ws.length ∧ (∀ j, 0 ≤ j → j < n → wd ws' base j = 0) ∧
      (∀ j : Int, 0 ≤ j → (j < base ∨ base + cap + 1 ≤ j) → ws'.getD j.toNat 0 = ws.getD j.toNat 0) ∧ Fr [wb] w w', fun n _ => (cap + 1 - n).toNat, ⟨by omega, by omega, B3, ws, A.fr0 f13, rfl, fun j _ _ => by omega, fun _ _ _ => rfl, f13.mono (by simp)⟩, ?_⟩
  rintro - n w4 ⟨hn0, hn1, B4, ws4, A4, hl4, hz4, ho4, f4⟩
  refine IfB.dec (fun hlt => ⟨_, _, B4.cells, viewSet_c A4 (by omega) (by omega) (by omega) fun w5 A5 f5 => ⟨fit64 (by omega) (by omega), ⟨by omega, by omega, B4.fr f5 (by simp; omega), _, A5, by simpa using hl4, fun j j0 j1 => ?_, fun j j0 j1 => ?_, f4.more f5⟩, by dsimp only; omega⟩⟩) (fun hge => ?_)
  · rw [wd_set (by omega) hn0 (by omega) j0]
    split
    · rfl
    · exact hz4 j j0 (by omega)
  · rw [getI_set _ _ _ _ (by omega), if_neg (by omega)]; exact ho4 j j0 j1
  · intro st w5 n5
    have sge := n5.ge
    have f5 := n5.fr []
    have z4 := f4.size
    refine hok (by omega) w5 st (st :: ab :: wb :: sb :: (List.range 12).filterMap (fun _ => none)) ws4 ⟨⟨fun _ => none, rfl, n5.blk, fun i hi => .inl ⟨rfl, rfl⟩, fun i j b _ _ h => by cases h⟩, A4.fr0 f5, by omega, fun _ _ => rfl, s12⟩
      ⟨by omega, ?_, (fun j j0 j1 => by rw [hz4 j (by omega) (by omega)]; omega), ?_, List.nodup_nil, (fun i r h => by cases h), (fun i j r s h => by cases h)⟩ hl4 ho4 (f4.more (n5.fr _)) (fun b hb => ?_)
    · rw [hz4 0 (by omega) (by omega)]; omega
    · rw [hz4 0 (by omega) (by omega)]; rfl
    · have : (List.range 12).filterMap (fun _ => (none : Option Nat)) = [] := by decide
      rw [this] at hb
      simp only [List.mem_cons] at hb ⊢
      rcases hb with h | h | h | h | h
      · right; omega
      · simp [h]
      · simp [h]
      · simp [h]
      · simp at h

/-- Nothing is made of nothing. -/
theorem stnil_c {K : Option Addr → Int → World → Prop} (hK : K none 1 w) : C58 none 0 1 w K := r_f58z _ _ _ _ hK

theorem items_len (L : LInv base cap op ws items n) : (items.length : Int) ≤ cap := by
  have h := chain_mem L.ch
  have hl := L.len
  have := nodup_len cap.toNat items L.nd (fun x hx => by have := h x hx; omega)
  omega

theorem items_c (h : Stk w F st ab wb sb base cap op ws ss) (L : LInv base cap op ws items n) {K : Option Addr → Nat → Nat → World → Prop}
    (hK : ∀ w' a c, SI w' a c items → (∀ S, Fr S w w') → (∀ b ∈ ablk a, w.heap.size ≤ b) → K a items.length c w') : C60 (some ⟨st, 0, none⟩) w K := by
  obtain ⟨bl, _, hst, _⟩ := h.ex
  have hl := L.len
  have w0 := L.w0
  let M : Option Addr → World → Prop := fun q w' => ∃ b, q = some ⟨b, 0, none⟩ ∧ Blk w' b [.pointer (some ⟨ab, 0, none⟩), .int .i64 base] ∧ w.heap.size ≤ b ∧ Fr [] w w'
  have k2 : ∀ (w' : World) (b : Nat), Blk w' b [.pointer none, .int .i64 0] → w.heap.size ≤ b → Fr [] w w' → MayL w' ⟨b, 0, none⟩ 2 ∧ ∀ w'' : World, SetL w' w'' ⟨b, 0, none⟩ [.pointer (some ⟨ab, 0, none⟩), .int .i64 base] → M (some ⟨b, 0, none⟩) w'' := by
    intro w' b hb hge hf
    refine ⟨hb.mayL (by simp), fun w'' s => ?_⟩
    obtain ⟨g1, g2⟩ := s.all hb rfl
    exact ⟨b, rfl, g1, hge, hf.trans g2 (by simp; omega)⟩
  have k1 : ∀ w' : World, Fr [] w w' → ∀ (b : Nat) (w'' : World), NewAt w' w'' b #[.pointer none, .int .i64 0] 169 → MayL w'' ⟨b, 0, none⟩ 2 ∧ ∀ w3 : World, SetL w'' w3 ⟨b, 0, none⟩ [.pointer (some ⟨ab, 0, none⟩), .int .i64 base] → M (some ⟨b, 0, none⟩) w3 := by
    intro w' hf b w'' n
    exact k2 w'' b n.blk (Nat.le_trans hf.size n.ge) (hf.more (n.fr []))
  refine r_f60 _ _ _ ⟨M, fun w5 d5 => ?_, ?_⟩
  · have f5 := d5.fr []
    have b5 := hst.fr0 f5
    refine ⟨⟨_, b5.cell rfl, ⟨_, b5.cell rfl, viewOf_c _ _ fun w6 f6 => k1 w6 (f5.more (f6 [])), fun b w6 n6 => viewOf_c _ _ fun w7 f7 => ?_⟩, fun b w6 n6 => ⟨_, (b5.fr0 (n6.fr [])).cell rfl, viewOf_c _ _ fun w7 f7 => ?_⟩⟩,
      ⟨_, b5.cell rfl, ⟨_, b5.cell rfl, viewOf_c _ _ fun w6 f6 => k1 w6 (f5.more (f6 [])), fun b w6 n6 => viewOf_c _ _ fun w7 f7 => ?_⟩, fun b w6 n6 => ⟨_, (b5.fr0 (n6.fr [])).cell rfl, viewOf_c _ _ fun w7 f7 => ?_⟩⟩,
      fun b w6 n6 => ⟨_, (b5.fr0 (n6.fr [])).cell rfl, _, (b5.fr0 (n6.fr [])).cell rfl, viewOf_c _ _ fun w7 f7 => ?_⟩⟩
    all_goals exact k2 w7 b (n6.blk.fr0 (f7 [])) (Nat.le_trans f5.size n6.ge) ((f5.more (n6.fr [])).more (f7 []))
  rintro - q w1 ⟨b, rfl, B1, hb1, f1⟩
  have hbl := B1.lt
  have h1 := h.fr0 f1
  refine PtrOK.of rfl ⟨_, _, B1.cells, viewGet_c h1.ar (by omega) (by omega) hl.2.2.2.2 fun w2 f2 => ?_⟩
  rw [and16]
  have z1 := f1.size
  refine ⟨fun a l c at_ w' => ∃ done rest, items = done ++ rest ∧ l = done.length ∧ SI w' a c done ∧ Chain ws base cap at_ rest ∧ (∀ k ∈ ablk a, w1.heap.size ≤ k) ∧ Blk w' b [.pointer (some ⟨ab, 0, none⟩), .int .i64 base] ∧ Fr [] w1 w',
    fun _ l _ _ _ => items.length - l, ⟨[], items, rfl, rfl, SI.nil _, L.ch, by simp [ablk], B1.fr0 (f2 []), f2 []⟩, ?_⟩
  rintro - a l c at_ w3 ⟨done, rest, hit, rfl, U, hc, hB, B3, f3⟩
  have hil := items_len L
  have hst3 := (hst.fr0 f1).fr0 f3
  have fin : rest = [] → K a done.length c w3 := fun hr => by
    subst hr
    rw [List.append_nil] at hit
    subst hit
    exact hK w3 a c U (fun S => (f1.mono (by simp)).more (f3.mono (by simp))) (fun k hk => by have := hB k hk; omega)
  cases rest with
  | nil =>
    have hc : at_ = 0 := hc
    exact IfB.no (by omega) (fin rfl)
  | cons v vs =>
    have hlen : items.length = done.length + (vs.length + 1) := by rw [hit]; simp
    obtain ⟨c1, c2, c3, c4⟩ := hc
    refine IfB.yes (by omega) ⟨_, hst3.cell rfl, IfB.yes (by omega) ⟨_, hst3.cell rfl, IfB.yes (by omega) ⟨fit64 (by omega) (by omega), fun b4 w4 n4 => ?_⟩⟩⟩
    refine app_own U hB f3 n4 (by omega) fun a' c' w5 U5 f5 g5 hB5 _ => PtrOK.of rfl ?_
    have B5 := B3.fr g5 (fun hm => by have := hB b hm; omega)
    have e1 : at_ = v + 1 := c1
    refine ⟨_, _, B5.cells, viewGet_c (h1.ar.fr0 f5) (by omega) (by omega) hl.2.2.2.2 fun w6 f6 => ⟨⟨done ++ [v], vs, by rw [hit]; simp, by simp, ?_, ?_, hB5, B5.fr0 (f6 []), f5.more (f6 [])⟩, by dsimp only; omega⟩⟩
    · have : at_ - 1 = v := by omega
      rw [this] at U5
      exact U5.fr0 (f6 [])
    · have : ws.getD (base + at_).toNat 0 = wd ws base (v + 1) := by unfold wd; rw [e1]
      rw [this]
      exact c4

theorem has_c (h : Stk w F st ab wb sb base cap op ws ss) (L : LInv base cap op ws items n) (v : Int) {K : Bool → World → Prop} (hK : ∀ w', (∀ S, Fr S w w') → K (decide (v ∈ items)) w') : C143 (some ⟨st, 0, none⟩) v w K := by
  have hil := items_len L
  have hl := L.len
  refine r_f143 _ _ _ _ (items_c h L fun w1 a c U f1 _ => ?_)
  refine ⟨fun i w' => 0 ≤ i ∧ i ≤ items.length ∧ (∀ j : Nat, j < i → items.getD j 0 ≠ v) ∧ w' = w1, fun i _ => (items.length - i).toNat, ⟨by omega, by omega, fun j hj => by omega, rfl⟩, ?_⟩
  rintro - i w2 ⟨h0, h1, hne, rfl⟩
  refine IfB.dec (fun hlt => U.get h0 hlt fun p hp => ⟨⟨h0, hlt⟩, _, hp, IfB.dec (fun he => ?_) (fun he => ⟨fit64 (by omega) (by omega), ⟨by omega, by omega, fun j hj => ?_, rfl⟩, by dsimp only; omega⟩)⟩) (fun hge => ?_)
  · have hm : v ∈ items := by
      have hlt : i.toNat < items.length := by omega
      rw [← he, List.getD_eq_getElem?_getD, List.getElem?_eq_getElem hlt]
      exact List.getElem_mem hlt
    have := hK w2 f1
    rwa [decide_eq_true hm] at this
  · by_cases e : j = i.toNat
    · subst e; exact he
    · exact hne j (by omega)
  · have hm : v ∉ items := fun hm => by
      obtain ⟨j, hj, e⟩ := List.getElem_of_mem hm
      refine hne j (by omega) ?_
      rw [List.getD_eq_getElem?_getD, List.getElem?_eq_getElem hj]
      exact e
    have := hK w2 f1
    rwa [decide_eq_false hm] at this

theorem st_cells {bl : Nat → Option Nat} (h : Blk w st (stHd ab base cap bl)) : CellsAt w ⟨st, 3, none⟩ [ptrB (bl 0), ptrB (bl 1), ptrB (bl 2), ptrB (bl 3), ptrB (bl 4), ptrB (bl 5), ptrB (bl 6), ptrB (bl 7), ptrB (bl 8), ptrB (bl 9), ptrB (bl 10), ptrB (bl 11)] :=
  h.cellsAt fun i v hi => by rw [← hi, Nat.add_comm]; rfl

theorem st_idx (bl : Nat → Option Nat) {i : Nat} (h : i < 12) : ([ptrB (bl 0), ptrB (bl 1), ptrB (bl 2), ptrB (bl 3), ptrB (bl 4), ptrB (bl 5), ptrB (bl 6), ptrB (bl 7), ptrB (bl 8), ptrB (bl 9), ptrB (bl 10), ptrB (bl 11)] : List Value)[i * 1]? = some (ptrB (bl i)) := by
  rcases lt12 h with rfl | rfl | rfl | rfl | rfl | rfl | rfl | rfl | rfl | rfl | rfl | rfl <;> rfl

theorem pushed_c (h : Stk w F st ab wb sb base cap op ws ss) (v : Int) {K : Bool → World → Prop}
    (hyes : ∀ i r, op i = some r → r.op = 0 → r.v = v → K true w) (hno : (∀ i r, op i = some r → r.op = 0 → r.v ≠ v) → K false w) : C142 (some ⟨st, 0, none⟩) v w K := by
  obtain ⟨bl, _, hst, ho, _⟩ := h.ex
  refine r_f142 _ _ _ _ ⟨_, _, _, _, _, _, _, _, _, _, _, _, st_cells hst, fun i w' => 0 ≤ i ∧ i ≤ 12 ∧ (∀ j r, j < i.toNat → op j = some r → r.op = 0 → r.v ≠ v) ∧ w' = w, fun i _ => (12 - i).toNat, ⟨by omega, by omega, fun j r hj => by simp at hj, rfl⟩, ?_⟩
  rintro - i w1 ⟨h0, h1, hne, rfl⟩
  refine IfB.dec (fun hlt => ?_) (fun hge => hno fun j r hj h2 => ?_)
  · have next : (∀ r, op i.toNat = some r → r.op = 0 → r.v ≠ v) → Fit .i64 (i + 1) ∧ (0 ≤ i + 1 ∧ i + 1 ≤ 12 ∧ (∀ j r, j < (i + 1).toNat → op j = some r → r.op = 0 → r.v ≠ v) ∧ w1 = w1) ∧ (12 - (i + 1)).toNat < (12 - i).toNat := fun hi =>
      ⟨fit64 (by omega) (by omega), ⟨by omega, by omega, fun j r hj hr => by
        by_cases e : j = i.toNat
        · subst e; exact hi r hr
        · exact hne j r (by omega) hr, rfl⟩, by omega⟩
    refine ⟨⟨h0, hlt⟩, _, st_idx bl (by omega), ?_⟩
    rcases ho i.toNat (by omega) with ⟨a1, a2⟩ | ⟨b, r, a1, a2, B, _⟩
    · rw [a2]
      exact ifb_f (next fun r hr => by rw [a1] at hr; cases hr)
    · rw [a1]
      refine ifb_t (PtrOK.of rfl ⟨_, B.cella rfl, IfB.dec (fun h2 => PtrOK.of rfl ⟨_, B.cella rfl, IfB.dec (fun h3 => hyes _ r a2 h2 h3) (fun h3 => next fun r' hr' _ => ?_)⟩) (fun h2 => next fun r' hr' h3 => ?_)⟩)
      · rw [a2] at hr'; cases hr'; exact h3
      · rw [a2] at hr'; cases hr'; exact absurd h3 h2
  · rcases Nat.lt_or_ge j 12 with hj12 | hj12
    · exact hne j r (by omega) hj h2
    · rw [h.out j hj12] at hj; cases hj

/-- What may be begun. -/
def OpMay (cap : Int) (op : Nat → Option OpR) (items : List Int) (o v : Int) : Prop := (o = 0 ∨ o = 1) ∧ (o = 0 → 0 ≤ v ∧ v < cap ∧ v ∉ items ∧ ∀ j s, op j = some s → s.op = 0 → s.v ≠ v)

theorem begin_c (h : Stk w F st ab wb sb base cap op ws ss) (L : LInv base cap op ws items n) (agent o v : Int) {K : Int → World → Prop}
    (hagent : ¬ (0 ≤ agent ∧ agent < ss.length) → K 501 w) (hbusy : 0 ≤ agent → agent < ss.length → op agent.toNat ≠ none → K 502 w)
    (hval : 0 ≤ agent → agent < ss.length → op agent.toNat = none → ¬ OpMay cap op items o v → ∀ w', (∀ S, Fr S w w') → K 504 w')
    (hok : 0 ≤ agent → agent < ss.length → op agent.toNat = none → OpMay cap op items o v → ∀ w' F', Stk w' F' st ab wb sb base cap (upd op agent.toNat (some ⟨o, v, 0, 0, 0⟩)) ws ss → LInv base cap (upd op agent.toNat (some ⟨o, v, 0, 0, 0⟩)) ws items n → Fr F w w' → Grw F F' w.heap.size → K 0 w') :
    C62 (some ⟨st, 0, none⟩) agent o v w K := by
  obtain ⟨bl, _, hst, _⟩ := h.ex
  have s12 := h.s12
  refine r_f62 _ _ _ _ _ _ ⟨_, hst.cell rfl, agent_c h.ar agent (IfB.nd (fun h0 => ?_) (fun h0 => hagent h0))⟩
  have hi : agent.toNat < 12 := by omega
  refine ⟨by omega, ?_⟩
  rcases h.slot hi with ⟨a1, a2, _⟩ | ⟨b, r, a1, a2, _⟩
  rotate_left
  · exact ⟨_, a2, hbusy h0.1 h0.2 (by rw [a1]; simp)⟩
  refine ⟨_, a2, ifb_f ?_⟩
  have bad : ¬ OpMay cap op items o v → ∀ w', (∀ S, Fr S w w') → K 504 w' := hval h0.1 h0.2 a1
  have put : OpMay cap op items o v → ∀ w1, (∀ S, Fr S w w1) → ∀ (b : Nat) (w2 : World), NewAt w1 w2 b #[.int .i64 o, .int .i64 v, .int .i64 0, .int .i64 0, .int .i64 0] 180 → ((0 : Int) ≤ agent ∧ agent < (12 : Int)) ∧
      May w2 (Addr.add ⟨st, 3, none⟩ (Int.toNat agent * 1)) ∧ ∀ w3 : World, SetC w2 w3 (Addr.add ⟨st, 3, none⟩ (Int.toNat agent * 1)) (.pointer (some ⟨b, 0, none⟩)) → K 0 w3 := by
    intro hm w1 f1 b w2 n2
    have h2 := (h.fr0 (f1 [])).fr0 (n2.fr [])
    have ge := n2.ge
    have hlow := h.low
    have z1 := (f1 []).size
    have hm2 : May w2 (Addr.add ⟨st, 3, none⟩ (agent.toNat * 1)) := by
      rcases h2.slot hi with ⟨_, _, q⟩ | ⟨_, _, _, _, q, _⟩ <;> exact q
    refine ⟨by omega, hm2, fun w3 s3 => ?_⟩
    obtain ⟨F', h3, f3, g3⟩ := h2.setSlot hi (x := some b) (r := some ⟨o, v, 0, 0, 0⟩) s3 (.inr ⟨b, _, rfl, rfl, n2.blk, fun hk => by have := hlow b hk; omega⟩)
    refine hok h0.1 h0.2 a1 hm w3 F' h3 (L.begin a1 hm.1 hm.2) (((f1 F).more (n2.fr F)).more f3) (fun k hk => ?_)
    rcases g3 k hk with q | q
    · exact .inl q
    · cases q; right; omega
  have r0 : ∀ S, Fr S w w := fun S => Fr.refl S w
  have chk : o = 0 → (IfB (decide (v < 0)) (K 504 w) (∃ n5 : Int, w.cell? ⟨st, 2, none⟩ = some (.int .i64 n5) ∧ IfB (decide (n5 ≤ v)) (K 504 w) (C142 (some ⟨st, 0, none⟩) v w fun b6 w7 => IfB b6 (K 504 w7) (C143 (some ⟨st, 0, none⟩) v w7 fun b8 w9 => IfB b8 (K 504 w9)
      (∀ (b : Nat) (w2 : World), NewAt w9 w2 b #[.int .i64 o, .int .i64 v, .int .i64 0, .int .i64 0, .int .i64 0] 180 → ((0 : Int) ≤ agent ∧ agent < (12 : Int)) ∧
      May w2 (Addr.add ⟨st, 3, none⟩ (Int.toNat agent * 1)) ∧ ∀ w3 : World, SetC w2 w3 (Addr.add ⟨st, 3, none⟩ (Int.toNat agent * 1)) (.pointer (some ⟨b, 0, none⟩)) → K 0 w3))))) := by
    intro ho
    refine IfB.dec (fun h1 => bad (fun hm => by have := hm.2 ho; omega) w r0) (fun h1 => ⟨_, hst.cell rfl, IfB.dec (fun h2 => bad (fun hm => by have := hm.2 ho; omega) w r0) (fun h2 => ?_)⟩)
    refine pushed_c h v (fun j r hj q1 q2 => bad (fun hm => (hm.2 ho).2.2.2 j r hj q1 q2) w r0) (fun hno => ?_)
    refine has_c h L v fun w1 f1 => IfB.dec (fun h3 => bad (fun hm => (hm.2 ho).2.2.1 h3) w1 f1) (fun h3 => put ⟨.inl ho, fun _ => ⟨by omega, by omega, h3, hno⟩⟩ w1 f1)
  refine IfB.nd (fun ho => IfB.yes ho (chk ho)) (fun ho => IfB.nd (fun h1 => IfB.no ho (put ⟨.inr h1, fun h => absurd h ho⟩ w r0)) (fun h1 => bad (fun hm => by have := hm.1; omega) w r0))

theorem ststep_c (h : Stk w F st ab wb sb base cap op ws ss) (L : LInv base cap op ws items n) (hn : n ≤ 100000) (agent : Int) {K : Bool → Int → Bool → Int → World → Prop}
    (hagent : ¬ (0 ≤ agent ∧ agent < ss.length) → K false 0 false 501 w) (hidle : 0 ≤ agent → agent < ss.length → op agent.toNat = none → K false 0 false 503 w)
    (hgo : ∀ r, 0 ≤ agent → agent < ss.length → op agent.toNat = some r → ∀ w' r' ws', Stk w' F st ab wb sb base cap (upd op agent.toNat (some r')) ws' (tickA ss agent) → Fr F w w' → LInv base cap (upd op agent.toNat (some r')) ws' items n → r'.op = r.op → r'.v = r.v →
      lft r' (wd ws' base 0) < lft r (wd ws base 0) → wd ws' base 0 = wd ws base 0 → Keeps base cap ws ws' → K false 0 false 0 w')
    (hpush : ∀ r, 0 ≤ agent → agent < ss.length → op agent.toNat = some r → r.op = 0 → ∀ w' F' ws', Stk w' F' st ab wb sb base cap (upd op agent.toNat none) ws' (tickA ss agent) → Fr F w w' → Grw F F' w.heap.size → LInv base cap (upd op agent.toNat none) ws' (r.v :: items) (n + 1) → Keeps base cap ws ws' → K true 0 true 0 w')
    (hpop : ∀ r x rest, 0 ≤ agent → agent < ss.length → op agent.toNat = some r → r.op = 1 → items = x :: rest → ∀ w' F' ws', Stk w' F' st ab wb sb base cap (upd op agent.toNat none) ws' (tickA ss agent) → Fr F w w' → Grw F F' w.heap.size →
      LInv base cap (upd op agent.toNat none) ws' rest (n + 1) → Keeps base cap ws ws' → K true x true 0 w')
    (hempty : ∀ r, 0 ≤ agent → agent < ss.length → op agent.toNat = some r → r.op = 1 → items = [] → ∀ w' F', Stk w' F' st ab wb sb base cap (upd op agent.toNat none) ws (tickA ss agent) → Fr F w w' → Grw F F' w.heap.size → LInv base cap (upd op agent.toNat none) ws items n → K true 0 false 0 w') :
    C63 (some ⟨st, 0, none⟩) agent w K := by
  obtain ⟨bl, _, hst, _⟩ := h.ex
  have s12 := h.s12
  refine r_f63 _ _ _ _ ⟨_, hst.cell rfl, agent_c h.ar agent (IfB.nd (fun h0 => ?_) (fun h0 => hagent h0))⟩
  have hi : agent.toNat < 12 := by omega
  refine ⟨by omega, ?_⟩
  rcases h.slot hi with ⟨a1, a2, _⟩ | ⟨b, r, a1, a2, _, B, _, hb⟩
  · exact ⟨_, a2, ifb_t (hidle h0.1 h0.2 a1)⟩
  refine ⟨_, a2, ifb_f ⟨by omega, _, a2, ?_⟩⟩
  -- the slot is cleared
  have clr : ∀ (w1 : World) (r' : OpR) (ws' : List Int), Stk w1 F st ab wb sb base cap (upd op agent.toNat (some r')) ws' (tickA ss agent) → Fr F w w1 → ∀ {G : World → Prop}, (∀ w2 F', Stk w2 F' st ab wb sb base cap (upd op agent.toNat none) ws' (tickA ss agent) → Fr F w w2 → Grw F F' w.heap.size → G w2) →
      (((0 : Int) ≤ agent ∧ agent < (12 : Int)) ∧ May w1 (Addr.add ⟨st, 3, none⟩ (Int.toNat agent * 1)) ∧ ∀ w2 : World, SetC w1 w2 (Addr.add ⟨st, 3, none⟩ (Int.toNat agent * 1)) (.pointer none) → G w2) := by
    intro w1 r' ws' h1 f1 G hG
    have hm1 : May w1 (Addr.add ⟨st, 3, none⟩ (agent.toNat * 1)) := by
      rcases h1.slot hi with ⟨_, _, q⟩ | ⟨_, _, _, _, q, _⟩ <;> exact q
    refine ⟨by omega, hm1, fun w2 s2 => ?_⟩
    obtain ⟨F', h2, f2, g2⟩ := h1.setSlot hi (x := none) (r := none) s2 (.inl ⟨rfl, rfl⟩)
    rw [upd_upd] at h2
    exact hG w2 F' h2 (f1.more f2) (fun k hk => .inl ((g2 k hk).resolve_right (by simp)))
  refine step_c h L hn h0.1 h0.2 a1 a2 B hb (fun w1 r' ws' S1 f1 L1 e1 e2 lt e0 ks => ?_) (fun w1 r' ws' ho S1 f1 L1 ks => ?_) (fun w1 r' ws' x rest ho hit S1 f1 L1 ks => ?_) (fun w1 r' ho hit S1 f1 => ?_)
  · refine ⟨fun w' => w' = w1, ifb_f rfl, ?_⟩
    rintro - w2 rfl
    exact hgo r h0.1 h0.2 a1 w2 r' ws' S1 f1 L1 e1 e2 lt e0 ks
  · refine ⟨fun w' => ∃ F', Stk w' F' st ab wb sb base cap (upd op agent.toNat none) ws' (tickA ss agent) ∧ Fr F w w' ∧ Grw F F' w.heap.size, ifb_t (clr w1 r' ws' S1 f1 fun w2 F' q1 q2 q3 => ⟨F', q1, q2, q3⟩), ?_⟩
    rintro - w2 ⟨F', q1, q2, q3⟩
    exact hpush r h0.1 h0.2 a1 ho w2 F' ws' q1 q2 q3 L1 ks
  · refine ⟨fun w' => ∃ F', Stk w' F' st ab wb sb base cap (upd op agent.toNat none) ws' (tickA ss agent) ∧ Fr F w w' ∧ Grw F F' w.heap.size, ifb_t (clr w1 r' ws' S1 f1 fun w2 F' q1 q2 q3 => ⟨F', q1, q2, q3⟩), ?_⟩
    rintro - w2 ⟨F', q1, q2, q3⟩
    exact hpop r x rest h0.1 h0.2 a1 ho hit w2 F' ws' q1 q2 q3 L1 ks
  · refine ⟨fun w' => ∃ F', Stk w' F' st ab wb sb base cap (upd op agent.toNat none) ws (tickA ss agent) ∧ Fr F w w' ∧ Grw F F' w.heap.size, ifb_t (clr w1 r' ws S1 f1 fun w2 F' q1 q2 q3 => ⟨F', q1, q2, q3⟩), ?_⟩
    rintro - w2 ⟨F', q1, q2, q3⟩
    exact hempty r h0.1 h0.2 a1 ho hit w2 F' q1 q2 q3 (L.drop _)

theorem lft_pos {r : OpR} (ok : OpOK ws base cap items r) (w0 : Int) : 1 ≤ lft r w0 ∧ lft r w0 ≤ 5 := by
  unfold lft
  have := ok.ph
  split
  · omega
  · split <;> omega

/-- An operation whose agent alone steps. -/
theorem alone_c (h : Stk w F st ab wb sb base cap op ws ss) (L : LInv base cap op ws items n) (hn : n ≤ 99999) (agent o v : Int) {K : Int → Bool → Int → Bool → World → Prop}
    (hfail : ¬ (0 ≤ agent ∧ agent < ss.length ∧ op agent.toNat = none ∧ OpMay cap op items o v) → ∀ w', (∀ S, Fr S w w') → K 0 false 0 false w')
    (hpush : o = 0 → OpMay cap op items o v → ∀ k w' F' ws' ss', Stk w' F' st ab wb sb base cap op ws' ss' → ss'.length = ss.length → Fr F w w' → Grw F F' w.heap.size → LInv base cap op ws' (v :: items) (n + 1) → Keeps base cap ws ws' → K 0 true k true w')
    (hpop : o = 1 → ∀ k x rest, items = x :: rest → ∀ w' F' ws' ss', Stk w' F' st ab wb sb base cap op ws' ss' → ss'.length = ss.length → Fr F w w' → Grw F F' w.heap.size → LInv base cap op ws' rest (n + 1) → Keeps base cap ws ws' → K x true k true w')
    (hempty : o = 1 → items = [] → ∀ k w' F' ws' ss', Stk w' F' st ab wb sb base cap op ws' ss' → ss'.length = ss.length → Fr F w w' → Grw F F' w.heap.size → LInv base cap op ws' items n → Keeps base cap ws ws' → K 0 false k true w') : C59 (some ⟨st, 0, none⟩) agent o v w K := by
  have r0 : ∀ S, Fr S w w := fun S => Fr.refl S w
  refine r_f59 _ _ _ _ _ _ (begin_c h L agent o v (fun h0 => IfB.nno (by decide) (hfail (fun h1 => h0 ⟨h1.1, h1.2.1⟩) w r0)) (fun h0 h1 h2 => IfB.nno (by decide) (hfail (fun h3 => h2 h3.2.2.1) w r0)) (fun h0 h1 h2 h3 w1 f1 => IfB.nno (by decide) (hfail (fun h4 => h3 h4.2.2.2) w1 f1)) (fun h0 h1 h2 hm w1 F1 S1 L1 f1 g1 => IfB.nyes rfl ?_))
  refine ⟨fun i w' => 1 ≤ i ∧ ∃ F' ws' ss' r, Stk w' F' st ab wb sb base cap (upd op agent.toNat (some r)) ws' ss' ∧ ss'.length = ss.length ∧ LInv base cap (upd op agent.toNat (some r)) ws' items n ∧ r.op = o ∧ r.v = v ∧ lft r (wd ws' base 0) ≤ 4 - i ∧ Fr F w w' ∧ Grw F F' w.heap.size ∧ Keeps base cap ws ws',
    fun i _ => (17 - i).toNat, ⟨by omega, F1, ws, ss, _, S1, rfl, L1, rfl, rfl, by show (3 : Int) ≤ 4 - 1; omega, f1, g1, Keeps.refl _ _ _⟩, ?_⟩
  rintro - i w2 ⟨hi1, F2, ws2, ss2, r, S2, hl2, L2, ho, hv, hlf, f2, g2, k2⟩
  have lp := lft_pos (L2.ops agent.toNat r (upd_self _ _ _)) (wd ws2 base 0)
  have eu : upd op agent.toNat none = op := upd_same _ _ _ h2
  have gF : ∀ {k : Nat}, k ∈ F2 → k ∈ F ∨ w.heap.size ≤ k := fun hk => g2 _ hk
  have fz := f2.size
  refine IfB.yes (by omega) (ststep_c S2 L2 (by omega) agent (fun q => absurd (by omega) q) (fun _ _ q => by rw [upd_self] at q; cases q) (fun r' _ _ hr w3 r3 ws3 S3 f3 L3 e1 e2 lt e0 k3 => ?_) (fun r' _ _ hr hop w3 F3 ws3 S3 f3 g3 L3 k3 => ?_) (fun r' x rest _ _ hr hop hit w3 F3 ws3 S3 f3 g3 L3 k3 => ?_) (fun r' _ _ hr hop hit w3 F3 S3 f3 g3 L3 => ?_))
  all_goals (rw [upd_self] at hr; cases hr; rw [upd_upd] at S3 L3)
  · refine IfB.nyes rfl (ifb_f ⟨fit64 (by omega) (by omega), ⟨by omega, F2, ws3, _, r3, S3, by simpa [tickA] using hl2, L3, by rw [e1]; exact ho, by rw [e2]; exact hv, by omega, f2.trans f3 (fun k hk => gF hk), g2, k2.trans k3⟩, by dsimp only; omega⟩)
  · rw [eu] at S3 L3
    refine IfB.nyes rfl (ifb_t (hpush (by omega) hm i w3 F3 ws3 _ S3 (by simpa [tickA] using hl2) (f2.trans f3 (fun k hk => gF hk)) (g2.trans g3 fz) (by rw [← hv]; exact L3) (k2.trans k3)))
  · rw [eu] at S3 L3
    refine IfB.nyes rfl (ifb_t (hpop (by omega) i x rest hit w3 F3 ws3 _ S3 (by simpa [tickA] using hl2) (f2.trans f3 (fun k hk => gF hk)) (g2.trans g3 fz) L3 (k2.trans k3)))
  · rw [eu] at S3 L3
    refine IfB.nyes rfl (ifb_t (hempty (by omega) hit i w3 F3 ws2 _ S3 (by simpa [tickA] using hl2) (f2.trans f3 (fun k hk => gF hk)) (g2.trans g3 fz) L3 k2))
end

end Go.Proofs.Ytfpghcdjfiggiaa.V
