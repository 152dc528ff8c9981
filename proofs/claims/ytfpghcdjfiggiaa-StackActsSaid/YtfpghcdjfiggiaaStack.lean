/- The stack: what its operations do. No condition. -/
import Derived.Test.YtfpghcdjfiggiaaFrag
import Derived.Test.YtfpghcdjfiggiaaInts
import Derived.Test.YtfpghcdjfiggiaaStackP
import Derived.Test.YtfpghcdjfiggiaaGStack
namespace Go.Proofs.Ytfpghcdjfiggiaa.V
open Go Go.RowKit

theorem and16 (x : Int) : bits .and .i64 x 65535 = x % 65536 := bits_low 65535 16 (by decide) (by decide) x

theorem SetC.blka {w w' : World} {b o i : Nat} {v : Value} {cs : List Value} (h : SetC w w' (Addr.add ⟨b, o, none⟩ i) v) (hb : Blk w b cs) : Blk w' b (cs.set (o + i) v) := by
  rw [addr_add] at h; exact h.blk hb
theorem SetC.fra {w w' : World} {b o i : Nat} {v : Value} (h : SetC w w' (Addr.add ⟨b, o, none⟩ i) v) : Fr [b] w w' := h.fr (by rw [addr_add]; simp)

def encOp (r : OpR) : List Value := [.int .i64 r.op, .int .i64 r.v, .int .i64 r.ph, .int .i64 r.top, .int .i64 r.bel]
def ptrB (x : Option Nat) : Value := .pointer (x.map fun b => ⟨b, 0, none⟩)
def stHd (ab : Nat) (base cap : Int) (bl : Nat → Option Nat) : List Value :=
  [.pointer (some ⟨ab, 0, none⟩), .int .i64 base, .int .i64 cap, ptrB (bl 0), ptrB (bl 1), ptrB (bl 2), ptrB (bl 3), ptrB (bl 4), ptrB (bl 5), ptrB (bl 6), ptrB (bl 7), ptrB (bl 8), ptrB (bl 9), ptrB (bl 10), ptrB (bl 11)]

theorem lt12 {i : Nat} (h : i < 12) : i = 0 ∨ i = 1 ∨ i = 2 ∨ i = 3 ∨ i = 4 ∨ i = 5 ∨ i = 6 ∨ i = 7 ∨ i = 8 ∨ i = 9 ∨ i = 10 ∨ i = 11 := by omega

theorem stHd_get (ab : Nat) (base cap : Int) (bl : Nat → Option Nat) {i : Nat} (h : i < 12) : (stHd ab base cap bl)[3 + i]? = some (ptrB (bl i)) := by
  rcases lt12 h with rfl | rfl | rfl | rfl | rfl | rfl | rfl | rfl | rfl | rfl | rfl | rfl <;> rfl
theorem stHd_set (ab : Nat) (base cap : Int) (bl : Nat → Option Nat) {i : Nat} (h : i < 12) (x : Option Nat) : (stHd ab base cap bl).set (3 + i) (ptrB x) = stHd ab base cap (upd bl i x) := by
  rcases lt12 h with rfl | rfl | rfl | rfl | rfl | rfl | rfl | rfl | rfl | rfl | rfl | rfl <;> rfl

/-- A stack lies at block st. -/
structure Stk (w : World) (F : List Nat) (st ab wb sb : Nat) (base cap : Int) (op : Nat → Option OpR) (ws ss : List Int) : Prop where
  ex : ∃ bl : Nat → Option Nat, F = st :: ab :: wb :: sb :: (List.range 12).filterMap bl ∧ Blk w st (stHd ab base cap bl) ∧
    (∀ i, i < 12 → (op i = none ∧ bl i = none) ∨ ∃ b r, bl i = some b ∧ op i = some r ∧ Blk w b (encOp r) ∧ b ≠ st ∧ b ≠ ab ∧ b ≠ wb ∧ b ≠ sb) ∧
    (∀ i j b, i < 12 → j < 12 → bl i = some b → bl j = some b → i = j)
  ar : ArenaAt w ab wb sb ws ss
  ne : st ≠ ab ∧ st ≠ wb ∧ st ≠ sb
  out : ∀ i, 12 ≤ i → op i = none
  s12 : ss.length ≤ 12

section
variable {w w' : World} {F S : List Nat} {st ab wb sb : Nat} {base cap n : Int} {op : Nat → Option OpR} {ws ss items : List Int}

theorem Stk.frame (h : Stk w F st ab wb sb base cap op ws ss) (f : Fr S w w') (hS : Apart F S) : Stk w' F st ab wb sb base cap op ws ss := by
  obtain ⟨⟨bl, rfl, hb, ho, hd⟩, ar, ne, out, s12⟩ := h
  refine ⟨⟨bl, rfl, hb.fr f (hS st (by simp)), fun i hi => ?_, hd⟩, ar.fr f (hS ab (by simp)) (hS wb (by simp)) (hS sb (by simp)), ne, out, s12⟩
  rcases ho i hi with h | ⟨b, r, h1, h2, h3, h4⟩
  · exact .inl h
  · refine .inr ⟨b, r, h1, h2, h3.fr f (hS b ?_), h4⟩
    simp only [List.mem_cons, List.mem_filterMap, List.mem_range]
    exact .inr (.inr (.inr (.inr ⟨i, hi, h1⟩)))

theorem Stk.fr0 (h : Stk w F st ab wb sb base cap op ws ss) (f : Fr [] w w') : Stk w' F st ab wb sb base cap op ws ss := h.frame f (by intro b _; simp)

theorem Stk.low (h : Stk w F st ab wb sb base cap op ws ss) : Low F w.heap.size := by
  obtain ⟨⟨bl, rfl, hb, ho, hd⟩, ar, ne, out, s12⟩ := h
  intro b hb'
  simp only [List.mem_cons, List.mem_filterMap, List.mem_range] at hb'
  rcases hb' with rfl | rfl | rfl | rfl | ⟨i, hi, h1⟩
  · exact hb.lt
  · exact ar.hd.lt
  · exact ar.ws.lt
  · exact ar.ss.lt
  · rcases ho i hi with h | ⟨b', r, h2, _, h3, _⟩
    · rw [h.2] at h1; cases h1
    · rw [h2] at h1; cases h1; exact h3.lt

/-- The cells of an agent's place. -/
theorem Stk.slot (h : Stk w F st ab wb sb base cap op ws ss) {i : Nat} (hi : i < 12) :
    (op i = none ∧ w.cell? (Addr.add ⟨st, 3, none⟩ (i * 1)) = some (.pointer none) ∧ May w (Addr.add ⟨st, 3, none⟩ (i * 1))) ∨
    ∃ b r, op i = some r ∧ w.cell? (Addr.add ⟨st, 3, none⟩ (i * 1)) = some (.pointer (some ⟨b, 0, none⟩)) ∧ May w (Addr.add ⟨st, 3, none⟩ (i * 1)) ∧ Blk w b (encOp r) ∧ b ∈ F ∧ b ≠ st ∧ b ≠ ab ∧ b ≠ wb ∧ b ≠ sb := by
  obtain ⟨⟨bl, rfl, hb, ho, hd⟩, ar, ne, out, s12⟩ := h
  have hg := stHd_get ab base cap bl hi
  have hm : May w (Addr.add ⟨st, 3, none⟩ (i * 1)) := hb.maya (by rw [Nat.mul_one]; exact (List.getElem?_eq_some_iff.1 hg).1)
  rcases ho i hi with ⟨h1, h2⟩ | ⟨b, r, h1, h2, h3, h4⟩
  · rw [h2] at hg
    exact .inl ⟨h1, hb.cella (by rw [Nat.mul_one]; exact hg), hm⟩
  · rw [h1] at hg
    refine .inr ⟨b, r, h2, hb.cella (by rw [Nat.mul_one]; exact hg), hm, h3, ?_, h4⟩
    simp only [List.mem_cons, List.mem_filterMap, List.mem_range]
    exact .inr (.inr (.inr (.inr ⟨i, hi, h1⟩)))

/-- An operation's cells, and the words, are others. -/
theorem Stk.setOp (h : Stk w F st ab wb sb base cap op ws ss) {i b : Nat} (hi : i < 12) (hc : w.cell? (Addr.add ⟨st, 3, none⟩ (i * 1)) = some (.pointer (some ⟨b, 0, none⟩))) {r' : OpR} {ws' ss' : List Int}
    (f : Fr [b, wb, sb] w w') (B : Blk w' b (encOp r')) (A : ArenaAt w' ab wb sb ws' ss') (hl : ss'.length = ss.length) : Stk w' F st ab wb sb base cap (upd op i (some r')) ws' ss' ∧ Fr F w w' := by
  obtain ⟨⟨bl, rfl, hb, ho, hd⟩, ar, ne, out, s12⟩ := h
  have hg := stHd_get ab base cap bl hi
  have hg2 := hb.cella (o := 3) (i := i * 1) (by rw [Nat.mul_one]; exact hg)
  rw [hc] at hg2
  have hbl : bl i = some b := by
    cases hx : bl i with
    | none => rw [hx] at hg2; simp [ptrB] at hg2
    | some b' => rw [hx] at hg2; simp [ptrB] at hg2; rw [hg2]
  have hib : b ≠ st ∧ b ≠ ab ∧ b ≠ wb ∧ b ≠ sb := by
    rcases ho i hi with h | ⟨b', r, h1, _, _, h4⟩
    · rw [h.2] at hbl; cases hbl
    · rw [h1] at hbl; cases hbl; exact h4
  refine ⟨⟨⟨bl, rfl, hb.fr f (by simp; omega), fun j hj => ?_, hd⟩, A, ne, fun j hj => ?_, by omega⟩, f.mono (fun k hk => .inl ?_)⟩
  · by_cases e : j = i
    · subst e
      exact .inr ⟨b, r', hbl, upd_self _ _ _, B, hib⟩
    · rcases ho j hj with ⟨h1, h2⟩ | ⟨b', r, h1, h2, h3, h4⟩
      · exact .inl ⟨by rw [upd_ne _ _ e]; exact h1, h2⟩
      · have : b' ≠ b := fun e2 => e (hd j i b' hj hi h1 (by rw [hbl, e2]))
        exact .inr ⟨b', r, h1, by rw [upd_ne _ _ e]; exact h2, h3.fr f (by simp; omega), h4⟩
  · rw [upd_ne _ _ (by omega)]; exact out j hj
  · simp only [List.mem_cons, List.mem_filterMap, List.mem_range] at hk ⊢
    rcases hk with h | h | h | h
    · exact .inr (.inr (.inr (.inr ⟨i, hi, by rw [h]; exact hbl⟩)))
    · simp [h]
    · simp [h]
    · simp at h

/-- An agent's place is another. -/
theorem Stk.setSlot (h : Stk w F st ab wb sb base cap op ws ss) {i : Nat} (hi : i < 12) {x : Option Nat} {r : Option OpR} (s : SetC w w' (Addr.add ⟨st, 3, none⟩ (i * 1)) (ptrB x))
    (hx : (x = none ∧ r = none) ∨ ∃ b r', x = some b ∧ r = some r' ∧ Blk w b (encOp r') ∧ b ∉ F) : ∃ F', Stk w' F' st ab wb sb base cap (upd op i r) ws ss ∧ Fr F w w' ∧ ∀ k ∈ F', k ∈ F ∨ x = some k := by
  have s' := s.fra
  obtain ⟨⟨bl, rfl, hb, ho, hd⟩, ar, ne, out, s12⟩ := h
  have hb' := s.blka hb
  rw [Nat.mul_one, stHd_set ab base cap bl hi x] at hb'
  refine ⟨_, ⟨⟨upd bl i x, rfl, hb', fun j hj => ?_, fun j k b hj hk h1 h2 => ?_⟩, ar.fr s' (by simp; omega) (by simp; omega) (by simp; omega), ne, fun j hj => ?_, s12⟩, s'.mono (by simp), fun k hk => ?_⟩
  · by_cases e : j = i
    · subst e
      rcases hx with ⟨h1, h2⟩ | ⟨b, r', h1, h2, h3, h4⟩
      · exact .inl ⟨by rw [upd_self]; exact h2, by rw [upd_self]; exact h1⟩
      · simp only [List.mem_cons, not_or] at h4
        exact .inr ⟨b, r', by rw [upd_self]; exact h1, by rw [upd_self]; exact h2, h3.fr s' (by simp; exact h4.1), h4.1, h4.2.1, h4.2.2.1, h4.2.2.2.1⟩
    · rcases ho j hj with ⟨h1, h2⟩ | ⟨b', r, h1, h2, h3, h4⟩
      · exact .inl ⟨by rw [upd_ne _ _ e]; exact h1, by rw [upd_ne _ _ e]; exact h2⟩
      · exact .inr ⟨b', r, by rw [upd_ne _ _ e]; exact h1, by rw [upd_ne _ _ e]; exact h2, h3.fr s' (by simp; exact h4.1), h4⟩
  · have fresh : ∀ m, m < 12 → bl m = some b → x = some b → False := fun m hm h3 h4 => by
      rcases hx with ⟨h5, _⟩ | ⟨b', _, h5, _, _, h6⟩
      · rw [h5] at h4; cases h4
      · rw [h5] at h4; cases h4
        refine h6 ?_
        simp only [List.mem_cons, List.mem_filterMap, List.mem_range]
        exact .inr (.inr (.inr (.inr ⟨m, hm, h3⟩)))
    by_cases e : j = i
    · by_cases e2 : k = i
      · rw [e, e2]
      · subst e
        rw [upd_self] at h1
        rw [upd_ne _ _ e2] at h2
        exact (fresh k hk h2 h1).elim
    · by_cases e2 : k = i
      · subst e2
        rw [upd_self] at h2
        rw [upd_ne _ _ e] at h1
        exact (fresh j hj h1 h2).elim
      · rw [upd_ne _ _ e] at h1
        rw [upd_ne _ _ e2] at h2
        exact hd j k b hj hk h1 h2
  · rw [upd_ne _ _ (by omega)]; exact out j hj
  · simp only [List.mem_cons, List.mem_filterMap, List.mem_range] at hk ⊢
    rcases hk with h | h | h | h | ⟨j, hj, h⟩
    · simp [h]
    · simp [h]
    · simp [h]
    · simp [h]
    · by_cases e : j = i
      · subst e; rw [upd_self] at h; exact .inr h
      · rw [upd_ne _ _ e] at h
        exact .inl (.inr (.inr (.inr (.inr ⟨j, hj, h⟩))))

/-- How many steps an agent alone still needs. -/
def lft (r : OpR) (w0 : Int) : Int := if r.ph = 0 then 3 else if r.top = w0 then 3 - r.ph else 6 - r.ph

theorem wd0 (ws : List Int) (base : Int) : wd ws base 0 = ws.getD base.toNat 0 := by unfold wd; rw [Int.add_zero]

theorem step_c (h : Stk w F st ab wb sb base cap op ws ss) (L : LInv base cap op ws items n) (hn : n ≤ 100000) {agent : Int} (h0 : 0 ≤ agent) (h1 : agent < ss.length) {b : Nat} {r : OpR} (hr : op agent.toNat = some r)
    (hc : w.cell? (Addr.add ⟨st, 3, none⟩ (agent.toNat * 1)) = some (.pointer (some ⟨b, 0, none⟩))) (B : Blk w b (encOp r)) (hb : b ≠ st ∧ b ≠ ab ∧ b ≠ wb ∧ b ≠ sb) {K : Bool → Int → Bool → World → Prop}
    (hgo : ∀ w' r' ws', Stk w' F st ab wb sb base cap (upd op agent.toNat (some r')) ws' (tickA ss agent) → Fr F w w' → LInv base cap (upd op agent.toNat (some r')) ws' items n → r'.op = r.op → r'.v = r.v → lft r' (wd ws' base 0) < lft r (wd ws base 0) →
      wd ws' base 0 = wd ws base 0 → Keeps base cap ws ws' → K false 0 false w')
    (hpush : ∀ w' r' ws', r.op = 0 → Stk w' F st ab wb sb base cap (upd op agent.toNat (some r')) ws' (tickA ss agent) → Fr F w w' → LInv base cap (upd op agent.toNat none) ws' (r.v :: items) (n + 1) → Keeps base cap ws ws' → K true 0 true w')
    (hpop : ∀ w' r' ws' x rest, r.op = 1 → items = x :: rest → Stk w' F st ab wb sb base cap (upd op agent.toNat (some r')) ws' (tickA ss agent) → Fr F w w' → LInv base cap (upd op agent.toNat none) ws' rest (n + 1) → Keeps base cap ws ws' → K true x true w')
    (hempty : ∀ w' r', r.op = 1 → items = [] → Stk w' F st ab wb sb base cap (upd op agent.toNat (some r')) ws (tickA ss agent) → Fr F w w' → K true 0 false w') : C144 (some ⟨st, 0, none⟩) agent (some ⟨b, 0, none⟩) w K := by
  have ok := L.ops _ r hr
  have hl := L.len
  have hi : agent.toNat < 12 := by have := h.s12; omega
  obtain ⟨bl, _, hst, _⟩ := h.ex
  have tl : (tickA ss agent).length = ss.length := by simp [tickA]
  have w0 := L.w0
  have may0 : ∀ j : Int, 0 ≤ j → j < ws.length → mayA ws ss agent j = 0 := fun j j0 j1 => by unfold mayA; rw [if_neg (by omega), if_neg (by omega)]
  refine r_f144 _ _ _ _ _ (PtrOK.of rfl ⟨_, B.cella rfl, IfB.dec (fun hp => ?_) (fun hp => IfB.dec (fun hp1 => ?_) (fun hp1 => ?_))⟩)
  · have hp : r.ph = 0 := hp
    refine ⟨fun w' => Blk w' b (encOp { r with top := wd ws base 0 }) ∧ ArenaAt w' ab wb sb ws (tickA ss agent) ∧ Fr [b, wb, sb] w w', fun w1 d1 => ?_, ?_⟩
    · have hst1 := hst.fr0 (d1.fr [])
      refine ⟨_, hst1.cell rfl, _, hst1.cell rfl, load_c (h.ar.fr0 (d1.fr [])) agent base (fun hm => absurd (may0 base (by omega) (by omega)) hm) (fun _ w2 A2 f2 => PtrOK.of rfl ?_)⟩
      have B2 := (B.fr0 (d1.fr [])).fr f2 (by simp; omega)
      refine ⟨B2.maya (by simp [encOp]), fun w3 s3 => ?_⟩
      have B3 := s3.blka B2
      have f3 := s3.fra
      rw [← wd0] at B3
      exact ⟨B3, A2.fr f3 (by simp; omega) (by simp; omega) (by simp; omega), ((d1.fr _).more (f2.mono (by simp))).more (f3.mono (by simp))⟩
    · rintro - w1 ⟨B1, A1, f1⟩
      refine PtrOK.of rfl ⟨B1.maya (by simp [encOp]), fun w2 s2 => ?_⟩
      have B2 := s2.blka B1
      have f2 := s2.fra
      have A2 := A1.fr f2 (by simp; omega) (by simp; omega) (by simp; omega)
      have f12 : Fr [b, wb, sb] w w2 := f1.more (f2.mono (by simp))
      have B2' : Blk w2 b (encOp { r with top := wd ws base 0, ph := 1 }) := B2
      obtain ⟨S2, fF⟩ := h.setOp hi hc f12 B2' A2 tl
      have go : (r.op = 1 → wd ws base 0 % 65536 ≠ 0) → K false 0 false w2 := fun hpop0 => by
        refine hgo w2 _ ws S2 fF (L.p0 hr hp hpop0) rfl rfl ?_ rfl (Keeps.refl _ _ _)
        unfold lft
        rw [if_neg (by show ¬ (1 : Int) = 0; omega), if_pos rfl, if_pos hp]
        show 3 - 1 < (3 : Int)
        omega
      refine PtrOK.of rfl ⟨_, B2.cella rfl, IfB.dec (fun ho => PtrOK.of rfl ⟨_, B2.cella rfl, ?_⟩) (fun ho => go (fun h => absurd h ho))⟩
      rw [and16]
      refine IfB.dec (fun hz => ?_) (fun hz => go (fun _ => hz))
      refine hempty w2 _ ho ?_ S2 fF
      have hch := L.ch
      have hz : wd ws base 0 % 65536 = 0 := hz
      rw [hz] at hch
      cases items with
      | nil => rfl
      | cons v vs => have := hch.1; have := hch.2.1; omega
  · have hp1 : r.ph = 1 := hp1
    have ht := ok.top (by omega)
    refine PtrOK.of rfl ⟨_, B.cella rfl, PtrOK.of rfl ⟨_, B.cella rfl, ?_⟩⟩
    rw [and16]
    refine IfB.dec (fun ho => fun w1 d1 => ?_) (fun ho => fun w1 d1 => ?_)
    · have ho : r.op = 0 := ho
      have hv := ok.push ho
      have hst1 := hst.fr0 (d1.fr [])
      have B1 := B.fr0 (d1.fr [])
      refine ⟨_, hst1.cell rfl, _, hst1.cell rfl, fit64 (by omega) (by omega), PtrOK.of rfl ⟨_, B1.cella rfl, fit64 (by omega) (by omega), ?_⟩⟩
      rw [show base + 1 + r.v = base + (r.v + 1) by omega]
      refine store_c (h.ar.fr0 (d1.fr [])) agent _ _ (fun hm => absurd (may0 _ (by omega) (by omega)) hm) (fun _ w2 A2 f2 => PtrOK.of rfl ?_)
      have B2 := B1.fr f2 (by simp; omega)
      refine ⟨_, B2.cella rfl, fit64 (by omega) (by omega), PtrOK.of rfl ⟨B2.maya (by simp [encOp]), fun w3 s3 => PtrOK.of rfl ?_⟩⟩
      have B3 := s3.blka B2
      have f3 := s3.fra
      refine ⟨B3.maya (by simp [encOp]), fun w4 s4 => ?_⟩
      have B4 := s4.blka B3
      have f4 := s4.fra
      have A4 := (A2.fr f3 (by simp; omega) (by simp; omega) (by simp; omega)).fr f4 (by simp; omega) (by simp; omega) (by simp; omega)
      have f14 : Fr [b, wb, sb] w w4 := (((d1.fr _).more (f2.mono (by simp))).more (f3.mono (by simp))).more (f4.mono (by simp))
      have B4' : Blk w4 b (encOp { r with bel := r.v + 1, ph := 2 }) := B4
      obtain ⟨S4, fF⟩ := h.setOp hi hc f14 B4' A4 tl
      have e0 : wd (ws.set (base + (r.v + 1)).toNat (r.top % 65536)) base 0 = wd ws base 0 := by rw [wd_set hl.1 (by omega) (by omega) (by omega), if_neg (by omega)]
      refine hgo w4 _ _ S4 fF (L.p1push hr hp1 ho) rfl rfl ?_ e0 (Keeps.set hl.1 (by omega) (by omega) (by omega))
      rw [e0]
      unfold lft
      rw [if_neg (show ¬ (2 : Int) = 0 by omega), if_neg (show ¬ r.ph = 0 by omega)]
      show (if r.top = wd ws base 0 then 3 - 2 else 6 - 2) < (if r.top = wd ws base 0 then 3 - r.ph else 6 - r.ph)
      split <;> omega
    · have ho' : r.op = 1 := ok.op.resolve_left ho
      have hz := ht.2.2.2 ho'
      have hst1 := hst.fr0 (d1.fr [])
      have B1 := B.fr0 (d1.fr [])
      refine ⟨_, hst1.cell rfl, _, hst1.cell rfl, fit64 (by omega) (by omega), load_c (h.ar.fr0 (d1.fr [])) agent _ (fun hm => absurd (may0 _ (by omega) (by omega)) hm) (fun _ w2 A2 f2 => PtrOK.of rfl ?_)⟩
      have B2 := B1.fr f2 (by simp; omega)
      refine ⟨B2.maya (by simp [encOp]), fun w3 s3 => PtrOK.of rfl ?_⟩
      have B3 := s3.blka B2
      have f3 := s3.fra
      refine ⟨B3.maya (by simp [encOp]), fun w4 s4 => ?_⟩
      have B4 := s4.blka B3
      have f4 := s4.fra
      have A4 := (A2.fr f3 (by simp; omega) (by simp; omega) (by simp; omega)).fr f4 (by simp; omega) (by simp; omega) (by simp; omega)
      have f14 : Fr [b, wb, sb] w w4 := (((d1.fr _).more (f2.mono (by simp))).more (f3.mono (by simp))).more (f4.mono (by simp))
      have B4' : Blk w4 b (encOp { r with bel := wd ws base (r.top % 65536), ph := 2 }) := B4
      obtain ⟨S4, fF⟩ := h.setOp hi hc f14 B4' A4 tl
      refine hgo w4 _ _ S4 fF (L.p1pop hr hp1 ho') rfl rfl ?_ rfl (Keeps.refl _ _ _)
      unfold lft
      rw [if_neg (show ¬ (2 : Int) = 0 by omega), if_neg (show ¬ r.ph = 0 by omega)]
      show (if r.top = wd ws base 0 then 3 - 2 else 6 - 2) < (if r.top = wd ws base 0 then 3 - r.ph else 6 - r.ph)
      split <;> omega
  · have hp2 : r.ph = 2 := by have := ok.ph; have : ¬ r.ph = 0 := hp; have : ¬ r.ph = 1 := hp1; omega
    have ht := ok.top (by omega)
    have tb : r.top / 65536 ≤ 100000 := by
      rcases ht.2.2.1 with e | e
      · rw [e]; omega
      · omega
    have bb : 0 ≤ r.bel ∧ r.bel < 65536 := by
      rcases ok.op with ho | ho
      · have := ok.b0 hp2 ho; have := ok.push ho; omega
      · have := ok.b1 hp2 ho; omega
    intro w1 d1
    have B1 := B.fr0 (d1.fr [])
    have e16 : (2 : Int) ^ Int.toNat 16 = 65536 := by decide
    refine PtrOK.of rfl ⟨_, B1.cella rfl, by decide, ?_, by decide, PtrOK.of rfl ⟨_, B1.cella rfl, ?_⟩⟩
    · rw [e16]; exact fit64 (by omega) (by omega)
    refine ⟨fun is w' => ∃ ws', ArenaAt w' ab wb sb ws' (tickA ss agent) ∧ Blk w' b (encOp r) ∧ Fr [b, wb, sb] w w' ∧ ((is = false ∧ ws' = ws ∧ r.top ≠ wd ws base 0) ∨ (is = true ∧ r.top = wd ws base 0 ∧ ws' = ws.set (base + 0).toNat ((wd ws base 0 / 65536 + 1) * 65536 + r.bel))), fun w2 d2 => ?_, ?_⟩
    · have hst2 := (hst.fr0 (d1.fr [])).fr0 (d2.fr [])
      have B2 := B1.fr0 (d2.fr [])
      refine ⟨_, hst2.cell rfl, _, hst2.cell rfl, PtrOK.of rfl ⟨_, B2.cella rfl, ?_⟩⟩
      rw [next_top ht.1 (by omega) bb.1 bb.2]
      refine swap_c ((h.ar.fr0 (d1.fr [])).fr0 (d2.fr [])) agent base _ _ (fun hm => absurd (may0 base (by omega) (by omega)) hm) (fun _ hne w3 A3 f3 => ?_) (fun _ he w3 A3 f3 => ?_)
      · exact ⟨ws, A3, B2.fr f3 (by simp; omega), ((d1.fr _).more (d2.fr _)).more (f3.mono (by simp)), .inl ⟨rfl, rfl, fun e => hne (by rw [← wd0]; exact e.symm)⟩⟩
      · refine ⟨_, A3, B2.fr f3 (by simp; omega), ((d1.fr _).more (d2.fr _)).more (f3.mono (by simp)), .inr ⟨rfl, by rw [wd0]; exact he.symm, ?_⟩⟩
        have e : r.top = wd ws base 0 := by rw [wd0]; exact he.symm
        rw [Int.add_zero, ← e]
    · rintro - is w2 ⟨ws', A2, B2, f2, hor⟩
      rcases hor with ⟨rfl, rfl, hne⟩ | ⟨rfl, he, rfl⟩
      · refine ifb_nno rfl (PtrOK.of rfl ⟨B2.maya (by simp [encOp]), fun w3 s3 => ?_⟩)
        have B3 := s3.blka B2
        have f3 := s3.fra
        have B3' : Blk w3 b (encOp { r with ph := 0 }) := B3
        obtain ⟨S3, fF⟩ := h.setOp hi hc (f2.more (f3.mono (by simp))) B3' (A2.fr f3 (by simp; omega) (by simp; omega) (by simp; omega)) tl
        refine hgo w3 _ _ S3 fF (L.p2fail hr) rfl rfl ?_ rfl (Keeps.refl _ _ _)
        unfold lft
        rw [if_pos rfl, if_neg (by omega), if_neg hne, hp2]
        omega
      · refine ifb_nyes rfl (PtrOK.of rfl ⟨_, B2.cella rfl, IfB.dec (fun ho => ?_) (fun ho w3 d3 => PtrOK.of rfl ⟨_, (B2.fr0 (d3.fr [])).cella rfl, ?_⟩)⟩)
        · obtain ⟨S2, fF⟩ := h.setOp hi hc f2 B2 A2 tl
          exact hpush w2 r _ ho S2 fF (L.p2push hr hp2 ho he) (Keeps.set hl.1 (by omega) (by omega) (by omega))
        · rw [and16]
          have ho' : r.op = 1 := ok.op.resolve_left ho
          obtain ⟨rest, hit, L'⟩ := L.p2pop hr hp2 ho' he
          obtain ⟨S3, fF⟩ := h.setOp hi hc (f2.more (d3.fr _)) (B2.fr0 (d3.fr [])) (A2.fr0 (d3.fr [])) tl
          exact ⟨fit64 (by omega) (by omega), hpop w3 r _ _ rest ho' hit S3 fF L' (Keeps.set hl.1 (by omega) (by omega) (by omega))⟩
end

end Go.Proofs.Ytfpghcdjfiggiaa.V
