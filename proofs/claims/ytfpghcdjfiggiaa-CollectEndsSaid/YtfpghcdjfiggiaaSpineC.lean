/- Arrays that move: what the operations do. No condition. -/
import Derived.Test.YtfpghcdjfiggiaaSpineW
namespace Go.Proofs.Ytfpghcdjfiggiaa.V
open Go Go.RowKit

/-- Steps of agents: at most c more. -/
def Tk (c : Int) (ss ss' : List Int) : Prop := ss'.length = ss.length ∧ ∀ T : Int, T + c ≤ 1000000000 → (∀ a : Nat, 0 ≤ ss.getD a 0 ∧ ss.getD a 0 ≤ T) → ∀ a : Nat, ss.getD a 0 ≤ ss'.getD a 0 ∧ ss'.getD a 0 ≤ ss.getD a 0 + c
theorem Tk.refl (ss : List Int) : Tk 0 ss ss := ⟨rfl, fun T hT hs a => by omega⟩
theorem Tk.tick (ss : List Int) {ag : Int} (h0 : 0 ≤ ag) (h1 : ag < ss.length) : Tk 1 ss (tickA ss ag) := by
  refine ⟨by simp [tickA], fun T hT hs a => ?_⟩
  have hw : IntKind.wrap .i64 (ss.getD ag.toNat 0 + 1) = ss.getD ag.toNat 0 + 1 := by
    have hb1 := hs ag.toNat
    have := wrap_small (n := (ss.getD ag.toNat 0 + 1).toNat) (by omega)
    rwa [Int.toNat_of_nonneg (by omega)] at this
  unfold tickA
  rw [hw, getI_set' _ _ _ _ (by omega)]
  split
  · rename_i e; subst e; omega
  · omega
theorem Tk.trans {c d : Int} {a b e : List Int} (h : Tk c a b) (h' : Tk d b e) (hc : 0 ≤ c) (hd : 0 ≤ d) : Tk (c + d) a e := by
  refine ⟨h'.1.trans h.1, fun T hT hs j => ?_⟩
  have h1 := h.2 T (by omega) hs
  have h2 := h'.2 (T + c) (by omega) (fun j => by have := h1 j; have := hs j; omega) j
  have := h1 j
  omega
theorem Tk.up {c d : Int} {a b : List Int} (h : Tk c a b) (hcd : c ≤ d) : Tk d a b := ⟨h.1, fun T hT hs j => by have := h.2 T (by omega) hs j; omega⟩

theorem entry_ip {P : Program} {sm : Sem Value} {w w' : World} {n : Int} {q : Option Addr} {K : Int → Option Addr → World → Prop} (h : sm.run P w = .ok (.tuple #[.int .i64 n, .pointer q]) w') (hK : K n q w') : RunF P sm w [.leaf (.int .i64), .leaf .ptr] K := ⟨[.int .i64 n, .pointer q], w', h, hK⟩

section
variable {w w' : World} {F S : List Nat} {s mb ab wb sb clk lc : Nat} {g : SG} {l : List Arr} {ws ss : List Int} {la : Option Addr}

theorem spHolds_c (A : ArenaAt w ab wb sb ws ss) (base words : Int) (hb : 0 ≤ words ∧ words ≤ 1000000) (hl : ws.length ≤ 65536) {K : Bool → World → Prop}
    (hK : K (decide (0 ≤ base ∧ base ≤ ws.length ∧ words ≤ ws.length - base)) w) : C132 (some ⟨ab, 0, none⟩) base words w K := by
  refine r_f132 _ _ _ _ _ (IfB.dec (fun h1 => ?_) (fun h1 => ?_))
  · refine ⟨_, _, _, A.c0, IfB.dec (fun h2 => ?_) (fun h2 => ?_)⟩
    · refine ⟨_, _, _, A.c0, fit64 (by omega) (by omega), ?_⟩
      simpa [h1, h2] using hK
    · simpa [h1, h2] using hK
  · simpa [h1] using hK

/-- A new space. -/
theorem spnew_c (A : ArenaAt w ab wb sb ws ss) (base words : Int) (h1 : 32 ≤ words) (h2 : words ≤ 65536) (hl : ws.length ≤ 65536) (hb : 0 ≤ base ∧ base + words ≤ ws.length) {K : Option Addr → Int → World → Prop}
    (hK : ∀ w' s mb, SpAt w' [s, mb, ab, wb, sb] s mb ab wb sb ⟨base, words / 2, false, false, 0, 0, 0, 0, []⟩ [] ws ss none 0 0 → SInv ⟨base, words / 2, false, false, 0, 0, 0, 0, []⟩ [] ws → (∀ S, Fr S w w') → w.heap.size ≤ s → w.heap.size ≤ mb → K (some ⟨s, 0, none⟩) 0 w') :
    C146 (some ⟨ab, 0, none⟩) base words w K := by
  refine r_f146 _ _ _ _ _ (IfB.no (by omega) (spHolds_c A base words (by omega) hl ?_))
  rw [decide_eq_true (by omega)]
  refine ifb_nyes rfl ⟨by decide, by rw [Int.tdiv_eq_ediv_of_nonneg (by omega)]; exact fit64 (by omega) (by omega), fun b1 w1 n1 b2 w2 n2 => ?_⟩
  rw [Int.tdiv_eq_ediv_of_nonneg (by omega)] at n2
  have f := fun S => (n1.fr S).more (n2.fr S)
  have g1 := n1.ge
  have g2 := n2.ge
  have z1 := (n1.fr []).size
  have l1 := A.hd.lt
  have l2 := A.ws.lt
  have l3 := A.ss.lt
  have hm := n1.mp
  have hmi : MI w1 b1 [] 0 := ⟨by unfold Mp at hm; simpa using hm, by simp, by simp, by simp⟩
  have hbl := heap_lt hmi.heap
  refine hK w2 b2 b1 ⟨n2.blk, hmi.fr (n2.fr []) (by simp), by simp, SI.nil _, A.fr (f []) (by simp) (by simp) (by simp), by omega, by simp [ablk], by simp, by simp, by simp [ablk]⟩ ?_ f (by omega) g1
  refine ⟨by dsimp only; omega, ⟨Int.le_refl 0, Int.le_refl 0⟩, rfl, by show (0 : Int) + 0 ≤ words / 2; omega, by simp, by simp, Int.le_refl 0, by simp, by simp, by simp, (fun h => by cases h), (fun h => by cases h), (fun h => by cases h), (fun h => by cases h), by simp, (fun h => by cases h)⟩

/-- Where a half begins. -/
theorem spbegin_c (h : SpAt w F s mb ab wb sb g l ws ss la lc clk) (I : SInv g l ws) (o : Bool) {K : Int → World → Prop} (hK : ∀ w', (∀ S, Fr S w w') → K (hb g o) w') : C147 (some ⟨s, 0, none⟩) o w K := by
  have hg := I.geo
  refine r_f147 _ _ _ _ ?_
  cases o with
  | true =>
    refine ifb_t fun w1 d1 => ?_
    have h1 := h.fr0 (d1.fr [])
    exact ⟨_, h1.hd.cell rfl, _, h1.hd.cell rfl, fit64 (by omega) (by omega), hK w1 d1.fr⟩
  | false => exact ifb_f ⟨_, h.hd.cell rfl, hK w (fun S => Fr.refl S w)⟩

theorem sumK_perm2 {l : List Arr} {done : List Ent} (h : done.Perm (l.map ent)) (ids : (l.map (·.id)).Nodup) : sumK (needK l) (done.map (·.1)) = need l := by
  have hp := List.Perm.map (·.1) h
  rw [List.map_map] at hp
  have e : l.map ((fun x : Ent => x.1) ∘ ent) = l.map (·.id) := rfl
  rw [e] at hp
  rw [sumK_perm _ hp, sumK_ids _ (fun x => x.n + 4) l (fun x hx => needK_some ids hx), need_fold]

/-- How much room there is. -/
theorem room_c (h : SpAt w F s mb ab wb sb g l ws ss la lc clk) (I : SInv g l ws) {K : Int → World → Prop} (hK : ∀ w', (∀ S, Fr S w w') → K (g.half - g.owed - need l) w') : C76 (some ⟨s, 0, none⟩) w K := by
  have hg := I.geo
  have ho := I.ow
  have hr := I.rm
  have hp := I.top_le
  refine r_f76 _ _ _ fun w1 d1 => ?_
  have h1 := h.fr0 (d1.fr [])
  refine ⟨_, h1.hd.cell rfl, _, h1.hd.cell rfl, fit64 (by omega) (by omega), _, h1.hd.cell rfl, ?_⟩
  refine range_c (kt := 3) (et := 188) h1.mi (by kernel_rfl) fun w2 R2 f2 _ => ?_
  have hrs : w.heap.size ≤ w1.heap.size := (d1.fr []).size
  generalize w1.heap.size = r at *
  have inv : ∀ done : List Ent, (∀ e ∈ done, e ∈ l.map ent) → (done.map (·.2.2)).Nodup → 0 ≤ sumK (needK l) (done.map (·.1)) ∧ sumK (needK l) (done.map (·.1)) ≤ need l := by
    intro done hs hn
    classical
    have all : ∀ k, 0 ≤ needK l k := fun k => by
      unfold needK
      cases hf : l.find? (fun x => x.id == k) with
      | none => simp
      | some x => have := I.sz x (List.mem_of_find?_eq_some hf); simp; omega
    have nn : ∀ r : List Int, 0 ≤ sumK (needK l) r := fun r => by
      induction r with
      | nil => simp [sumK]
      | cons k r ih => have := all k; simp [sumK]; omega
    refine ⟨nn _, ?_⟩
    -- what has come is part of all
    have hsub : done.Nodup := nodup_of_map _ hn
    have hm : (l.map ent).Nodup := nodup_of_map (·.2.2) h.mi.born
    have rest : (done ++ (l.map ent).filter (fun e => decide (e ∉ done))).Perm (l.map ent) := by
      refine perm_of_mem ?_ hm fun e => ?_
      · rw [List.nodup_append]
        refine ⟨hsub, hm.filter _, fun a ha b hb e => ?_⟩
        have := (List.mem_filter.1 hb).2
        simp at this
        exact this (e ▸ ha)
      · rw [List.mem_append, List.mem_filter]
        constructor
        · rintro (h | h)
          · exact hs e h
          · exact h.1
        · intro h
          by_cases hd : e ∈ done
          · exact .inl hd
          · exact .inr ⟨h, by simpa using hd⟩
    rw [← sumK_perm2 rest I.ids, List.map_append, sumK_app]
    have := nn (((l.map ent).filter (fun e => decide (e ∉ done))).map (·.1))
    omega
  refine ⟨fun v w' => ∃ done, v = g.half - g.owed - sumK (needK l) (done.map (·.1)) ∧ RangeAt w' r mb (l.map ent) clk done ∧ ∀ S, Fr (r :: S) w1 w', fun v _ => v.toNat + 0, ⟨[], by simp [sumK], R2, fun S => f2 _⟩, ?_⟩
  rintro - v w3 ⟨done, rfl, R3, f3⟩
  have hrl : w.heap.size ≤ r := hrs
  rcases R3.next (P := Try.prog) 0 with ⟨hperm, hrun⟩ | ⟨e, he, hnd, w4, hrun, R4, f4, _, hent⟩
  · refine ⟨false, [], w3, hrun, ifb_f ?_⟩
    rw [sumK_perm2 hperm I.ids]
    exact hK w3 fun S => (d1.fr S).trans (f3 S) (fun k hk => by
      rcases List.mem_cons.1 hk with rfl | hk
      · exact .inr hrl
      · exact .inl hk)
  · obtain ⟨x, hx, rfl⟩ := List.mem_map.1 he
    have sz := I.sz x hx
    refine ⟨true, _, w4, hrun, ifb_t (entry_ip (q := some ⟨x.b, 0, none⟩) hent ?_)⟩
    have f14 : ∀ S, Fr (r :: S) w1 w4 := fun S => (f3 S).trans f4 (fun k hk => by simp at hk; subst hk; exact .inl (by simp))
    have hxr : x.b ≠ r := fun e => by have := (h1.rc x hx).lt; have := R3.lt; have := (h.rc x hx).lt; omega
    have B4 := (h1.rc x hx).fr (f14 []) (by simpa using hxr)
    have i3 := inv _ R3.sub R3.nd
    have i4 := inv _ R4.sub R4.nd
    have e4 : sumK (needK l) ((done ++ [ent x]).map (·.1)) = sumK (needK l) (done.map (·.1)) + (x.n + 4) := by
      rw [List.map_append, sumK_app]
      simp only [List.map_cons, List.map_nil, sumK]
      have : (ent x).1 = x.id := rfl
      rw [this, needK_some I.ids hx]
      omega
    rw [e4] at i4
    refine PtrOK.of rfl ⟨_, B4.cella rfl, fit64 (by omega) (by omega), fit64 (by omega) (by omega), ⟨_, by rw [e4]; omega, R4, f14⟩, by dsimp only; omega⟩

/-- An array's record is found. -/
theorem find_c (h : SpAt w F s mb ab wb sb g l ws ss la lc clk) (agent id i : Int) {K : Option Addr → Int → World → Prop}
    (hno : ¬ ((0 ≤ agent ∧ agent < ss.length) ∧ ∃ x ∈ l, x.id = id) → K none 704 w) (hb : ∀ x ∈ l, x.id = id → (0 ≤ agent ∧ agent < ss.length) → ¬ (0 ≤ i ∧ i < x.n) → K none 703 w)
    (hok : ∀ x ∈ l, x.id = id → (0 ≤ agent ∧ agent < ss.length) → 0 ≤ i → i < x.n → K (some ⟨x.b, 0, none⟩) 0 w) : C148 (some ⟨s, 0, none⟩) agent id i w K := by
  refine r_f148 _ _ _ _ _ _ ⟨_, h.hd.cell rfl, h.look id (fun x hx e => ?_) (fun hn => ?_)⟩
  · refine ⟨_, h.hd.cell rfl, agent_c h.ar agent (IfB.nd (fun h0 => ?_) (fun h0 => hno (fun p => h0 p.1)))⟩
    refine ifb_nyes rfl (IfB.dec (fun h2 => hb x hx e h0 (by omega)) (fun h2 => PtrOK.of rfl ⟨_, (h.rc x hx).cella rfl, IfB.dec (fun h3 => hb x hx e h0 (by omega)) (fun h3 => hok x hx e h0 (by omega) (by omega))⟩))
  · have no := hno (fun p => by obtain ⟨x, hx, e⟩ := p.2; exact hn x hx e)
    exact ⟨_, h.hd.cell rfl, agent_c h.ar agent (IfB.nd (fun h0 => ifb_nno rfl no) (fun h0 => no))⟩

theorem mayA_ok {agent a : Int} (h0 : 0 ≤ agent ∧ agent < ss.length) (h1 : 0 ≤ a ∧ a < ws.length) : mayA ws ss agent a = 0 := by
  unfold mayA; rw [if_neg (by omega), if_neg (by omega)]

/-- A word is read. -/
theorem spget_c (h : SpAt w F s mb ab wb sb g l ws ss la lc clk) (I : SInv g l ws) (agent id i : Int) {K : Int → Int → World → Prop}
    (hno : ¬ ((0 ≤ agent ∧ agent < ss.length) ∧ ∃ x ∈ l, x.id = id) → K 0 704 w) (hb : ∀ x ∈ l, x.id = id → (0 ≤ agent ∧ agent < ss.length) → ¬ (0 ≤ i ∧ i < x.n) → K 0 703 w)
    (hok : ∀ x ∈ l, x.id = id → (0 ≤ agent ∧ agent < ss.length) → 0 ≤ i → i < x.n → ∀ w', SpAt w' F s mb ab wb sb g l ws (tickA ss agent) la lc clk → Fr [wb, sb] w w' → K (x.vs.getD i.toNat 0) 0 w') : C75 (some ⟨s, 0, none⟩) agent id i w K := by
  refine r_f75 _ _ _ _ _ _ (find_c h agent id i (fun hn => ifb_nno rfl (hno hn)) (fun x hx e h0 hn => ifb_nno rfl (hb x hx e h0 hn)) (fun x hx e h0 h1 h2 => ifb_nyes rfl fun w1 d1 => ?_))
  have H1 := h.fr0 (d1.fr [])
  have hin := I.inn hx
  have hsz := I.sz x hx
  have hg := I.geo
  refine ⟨_, H1.hd.cell rfl, PtrOK.of rfl ⟨_, (H1.rc x hx).cella rfl, fit64 (by omega) (by omega), fit64 (by omega) (by omega), load_c H1.ar agent _ (fun hn => absurd (mayA_ok h0 (by omega)) hn) (fun _ w2 A2 f2 => ?_)⟩⟩
  rw [I.W x hx i h1 h2]
  exact hok x hx e h0 h1 h2 w2 (H1.words A2 f2) ((d1.fr _).more f2)

/-- A word is written. -/
theorem spset_c (h : SpAt w F s mb ab wb sb g l ws ss la lc clk) (I : SInv g l ws) (agent id i v : Int) {K : Int → World → Prop}
    (hno : ¬ ((0 ≤ agent ∧ agent < ss.length) ∧ ∃ x ∈ l, x.id = id) → K 704 w) (hb : ∀ x ∈ l, x.id = id → (0 ≤ agent ∧ agent < ss.length) → ¬ (0 ≤ i ∧ i < x.n) → K 703 w)
    (hok : ∀ x ∈ l, x.id = id → (0 ≤ agent ∧ agent < ss.length) → 0 ≤ i → i < x.n → ∀ w' ws' ss', SpAt w' F s mb ab wb sb g (rep l { x with vs := x.vs.set i.toNat v }) ws' ss' la lc clk → SInv g (rep l { x with vs := x.vs.set i.toNat v }) ws' → Tk 2 ss ss' → Fr [wb, sb] w w' → K 0 w') : C70 (some ⟨s, 0, none⟩) agent id i v w K := by
  refine r_f70 _ _ _ _ _ _ _ (find_c h agent id i (fun hn => ifb_nno rfl (hno hn)) (fun x hx e h0 hn => ifb_nno rfl (hb x hx e h0 hn)) (fun x hx e h0 h1 h2 => ifb_nyes rfl ?_))
  have hin := I.inn hx
  have hsz := I.sz x hx
  have hg := I.geo
  refine ⟨fun w' => ∃ ws2 ss2, SpAt w' F s mb ab wb sb g l ws2 ss2 la lc clk ∧ Tk 1 ss ss2 ∧ Fr [wb, sb] w w' ∧ ws2.length = ws.length ∧
    ((g.act = true ∧ x.mv = false ∧ i < x.cp ∧ ws2 = ws.set (x.to + 4 + i).toNat v) ∨ (¬ (g.act = true ∧ x.mv = false ∧ i < x.cp) ∧ ws2 = ws)), ?_, ?_⟩
  · have same : ¬ (g.act = true ∧ x.mv = false ∧ i < x.cp) → ∃ ws2 ss2, SpAt w F s mb ab wb sb g l ws2 ss2 la lc clk ∧ Tk 1 ss ss2 ∧ Fr [wb, sb] w w ∧ ws2.length = ws.length ∧
        ((g.act = true ∧ x.mv = false ∧ i < x.cp ∧ ws2 = ws.set (x.to + 4 + i).toNat v) ∨ (¬ (g.act = true ∧ x.mv = false ∧ i < x.cp) ∧ ws2 = ws)) := fun hn => ⟨ws, ss, h, (Tk.refl ss).up (by decide), Fr.refl _ _, rfl, .inr ⟨hn, rfl⟩⟩
    refine ⟨g.act, h.hd.cell rfl, ?_⟩
    cases ha : g.act with
    | false => exact ifb_f (by simpa [ha] using same (by simp [ha]))
    | true =>
      refine ifb_t (PtrOK.of rfl ⟨x.mv, (h.rc x hx).cella rfl, ?_⟩)
      cases hm : x.mv with
      | true => exact ifb_f (by simpa [ha, hm] using same (by simp [hm]))
      | false =>
        refine ifb_t (PtrOK.of rfl ⟨_, (h.rc x hx).cella rfl, IfB.dec (fun h3 => fun w1 d1 => ?_) (fun h3 => by simpa [ha, hm, h3] using same (fun p => h3 p.2.2))⟩)
        have H1 := h.fr0 (d1.fr [])
        have hin2 := I.inn2 ha hx hm
        refine ⟨_, H1.hd.cell rfl, PtrOK.of rfl ⟨_, (H1.rc x hx).cella rfl, fit64 (by omega) (by omega), fit64 (by omega) (by omega), store_c H1.ar agent _ v (fun hn => absurd (mayA_ok h0 (by omega)) hn) (fun _ w2 A2 f2 => ?_)⟩⟩
        exact ⟨_, _, H1.words A2 f2, Tk.tick ss h0.1 h0.2, (d1.fr _).more f2, by simp, .inl ⟨rfl, rfl, h3, rfl⟩⟩
  · rintro - w1 ⟨ws2, ss2, H1, t1, f1, l1, hw⟩
    intro w2 d2
    have H2 := H1.fr0 (d2.fr [])
    have e2 := t1.1
    refine ⟨_, H2.hd.cell rfl, PtrOK.of rfl ⟨_, (H2.rc x hx).cella rfl, fit64 (by omega) (by omega), fit64 (by omega) (by omega), store_c H2.ar agent _ v (fun hn => absurd (mayA_ok (by omega) (by omega)) hn) (fun _ w3 A3 f3 => ?_)⟩⟩
    have H3 := (H2.words A3 f3).ghost (l' := rep l { x with vs := x.vs.set i.toNat v }) (fun f q hq => rep_map f fun y hy ey => by rw [I.same hy hx ey, hq, hq])
    have I3 := I.set hx h1 h2 v hw
    exact hok x hx e h0 h1 h2 w3 _ _ H3 I3 (by simpa using t1.trans (Tk.tick ss2 h0.1 (by omega)) (by decide) (by decide)) ((f1.more (d2.fr _)).more f3)

/-- How long an array is. -/
theorem splen_c (h : SpAt w F s mb ab wb sb g l ws ss la lc clk) (id : Int) {K : Int → Int → World → Prop} (hno : (∀ x ∈ l, x.id ≠ id) → K 0 704 w) (hok : ∀ x ∈ l, x.id = id → K x.n 0 w) : C74 (some ⟨s, 0, none⟩) id w K :=
  r_f74 _ _ _ _ ⟨_, h.hd.cell rfl, h.look id (fun x hx e => ifb_nyes rfl (PtrOK.of rfl ⟨_, (h.rc x hx).cella rfl, hok x hx e⟩)) (fun hn => ifb_nno rfl (hno hn))⟩

/-- An array is let go. -/
theorem spdrop_c (h : SpAt w F s mb ab wb sb g l ws ss la lc clk) (I : SInv g l ws) (id : Int) {K : Int → World → Prop} (hno : (∀ x ∈ l, x.id ≠ id) → K 704 w)
    (hok : ∀ x ∈ l, x.id = id → ∀ w' F', SpAt w' F' s mb ab wb sb { g with owed := g.owed + (x.n + 4), late := if g.act = true then g.late + (x.n + 4) else g.late } (l.filter fun y => !(x.id == y.id)) ws ss la lc clk → Fr F w w' → (∀ b ∈ F', b ∈ F) → K 0 w') : C71 (some ⟨s, 0, none⟩) id w K := by
  obtain ⟨d1, d2, d3, d4, d5, d6, d7⟩ := h.d0
  refine r_f71 _ _ _ _ ⟨_, h.hd.cell rfl, h.look id (fun x hx e => ifb_nyes rfl ⟨_, h.hd.cell rfl, ?_⟩) (fun hn => ifb_nno rfl (hno hn))⟩
  have sz := I.sz x hx
  have ho := I.ow
  have hr := I.rm
  have hp := I.top_le
  have hnl := need_le l (fun y hy => (I.sz y hy).1) hx
  have hg := I.geo
  obtain ⟨w1, hrun, M1, f1⟩ := run_delete (P := Try.prog) h.mi (t := 185) (kt := 3) (et := 188) (by kernel_rfl) (by kernel_rfl) id 0
  refine ⟨[], w1, hrun, fun w2 d2' => ?_⟩
  have f2 := f1.more (d2'.fr _)
  have hb2 := h.hd.fr f2 (by simp; omega)
  have rx2 := (h.rc x hx).fr f2 (by have := h.d2 x hx; simp; omega)
  have efilter : mdel (l.map ent) id = (l.filter fun y => !(x.id == y.id)).map ent := by
    unfold mdel
    rw [List.filter_map, ← e]
    rfl
  have sub : ∀ y ∈ l.filter (fun y => !(x.id == y.id)), y ∈ l := fun y hy => (List.mem_filter.1 hy).1
  -- the space at any world that follows with this head
  have fin : ∀ (w3 : World) (g' : SG), g'.left = g.left → Blk w3 s (spHd ab mb g' la g'.left.length lc) → Fr [s] w2 w3 → ∃ F', SpAt w3 F' s mb ab wb sb g' (l.filter fun y => !(x.id == y.id)) ws ss la lc clk ∧ Fr F w w3 ∧ ∀ b ∈ F', b ∈ F := by
    intro w3 g' hl B3 f3
    have f := f2.trans f3 (S' := [s]) (S := [mb]) |> fun _ => (f2.mono (S' := F) (fun k hk => .inl (by simp at hk; subst hk; exact h.mem.2.1))).trans f3 (fun k hk => .inl (by simp at hk; subst hk; exact h.mem.1))
    refine ⟨_, ⟨B3, ?_, fun y hy => ((h.rc y (sub y hy)).fr f2 (by have := h.d2 y (sub y hy); simp; omega)).fr f3 (by have := h.d2 y (sub y hy); simp; omega), ?_, (h.ar.fr f2 (by simp; omega) (by simp; omega) (by simp; omega)).fr f3 (by simp; omega) (by simp; omega) (by simp; omega), h.d0, h.d1, fun y hy => h.d2 y (sub y hy), h.d3.sublist (List.Sublist.map _ List.filter_sublist), rfl⟩, f, ?_⟩
    · rw [← efilter]
      exact (M1.fr (d2'.fr []) (by simp)).fr f3 (by simp; omega)
    · rw [hl]
      exact (h.lf.fr f2 (fun b hb hb2 => by have := h.d1 b hb; simp at hb2; omega)).fr f3 (fun b hb hb2 => by have := h.d1 b hb; simp at hb2; omega)
    · intro b hb
      rw [h.F]
      simp only [List.mem_cons, List.mem_append, List.mem_map] at hb ⊢
      rcases hb with h | h | h | h | h | h | ⟨y, hy, e⟩
      · exact .inl h
      · exact .inr (.inl h)
      · exact .inr (.inr (.inl h))
      · exact .inr (.inr (.inr (.inl h)))
      · exact .inr (.inr (.inr (.inr (.inl h))))
      · exact .inr (.inr (.inr (.inr (.inr (.inl h)))))
      · exact .inr (.inr (.inr (.inr (.inr (.inr ⟨y, sub y hy, e⟩)))))
  refine ⟨_, hb2.cell rfl, PtrOK.of rfl ⟨_, rx2.cella rfl, fit64 (by omega) (by omega), fit64 (by omega) (by omega), hb2.may (by simp [spHd]), fun w3 s3 => ?_⟩⟩
  have B3 := s3.blk hb2
  have f3 : Fr [s] w2 w3 := s3.fr (by simp)
  refine ⟨g.act, B3.cell rfl, ?_⟩
  cases ha : g.act with
  | false =>
    obtain ⟨F', H, f, hF⟩ := fin w3 { g with owed := g.owed + (x.n + 4), late := if g.act = true then g.late + (x.n + 4) else g.late } rfl (by simpa [ha, spHd] using B3) f3
    exact ifb_f (hok x hx e w3 F' H f hF)
  | true =>
    refine ifb_t fun w4 d4 => ?_
    have B4 := B3.fr (d4.fr []) (by simp)
    have rx4 := (rx2.fr f3 (by have := h.d2 x hx; simp; omega)).fr (d4.fr []) (by simp)
    refine ⟨_, B4.cell rfl, PtrOK.of rfl ⟨_, rx4.cella rfl, fit64 (by omega) (by omega), fit64 (by omega) (by omega), B4.may (by simp [spHd]), fun w5 s5 => ?_⟩⟩
    have B5 := s5.blk B4
    have f5 : Fr [s] w2 w5 := (f3.more (d4.fr _)).more (s5.fr (by simp))
    obtain ⟨F', H, f, hF⟩ := fin w5 { g with owed := g.owed + (x.n + 4), late := if g.act = true then g.late + (x.n + 4) else g.late } rfl (by simpa [ha, spHd] using B5) f5
    exact hok x hx e w5 F' H f hF
end
end Go.Proofs.Ytfpghcdjfiggiaa.V
