/- Arrays that move: a cycle begins. No condition. -/
import Derived.Test.YtfpghcdjfiggiaaSpineE
namespace Go.Proofs.Ytfpghcdjfiggiaa.V
open Go Go.RowKit

theorem len_sub : ∀ {l m : List Int}, l.Nodup → (∀ k ∈ l, k ∈ m) → l.length ≤ m.length
  | [], _, _, _ => by simp
  | x :: l, m, h, hs => by
    have h' := List.nodup_cons.1 h
    have h1 := len_sub (l := l) (m := m.erase x) h'.2 (fun k hk => (List.mem_erase_of_ne (fun e => h'.1 (by rw [← e]; exact hk))).2 (hs k (by simp [hk])))
    rw [List.length_erase_of_mem (hs x (by simp))] at h1
    have := List.length_pos_of_mem (hs x (by simp))
    simp
    omega

theorem len_need : ∀ l : List Arr, (∀ x ∈ l, 0 ≤ x.n) → (l.length : Int) ≤ need l
  | [], _ => by simp [need]
  | x :: l, hp => by have := hp x (by simp); have := len_need l (fun y hy => hp y (by simp [hy])); simp [need]; omega

section
variable {w w' : World} {F S : List Nat} {s mb ab wb sb clk lc : Nat} {g : SG} {l : List Arr} {ws ss : List Int} {la : Option Addr}

/-- The row of what is left is another. -/
theorem SpAt.row (h : SpAt w F s mb ab wb sb g l ws ss la lc clk) {left' : List Int} {la' : Option Addr} {lc' : Nat} {w1 : World} (L : SI w1 la' lc' left') (f1 : Fr (ablk la) w w1) (gr : Grw (ablk la) (ablk la') w.heap.size)
    {ll : Nat} (hl : ll = left'.length) (s2 : SetC w1 w' ⟨s, 9, none⟩ (.slice la' ll lc')) : ∃ F', SpAt w' F' s mb ab wb sb { g with left := left' } l ws ss la' lc' clk ∧ Fr F w w' ∧ Grw F F' w.heap.size := by
  obtain ⟨d1, d2, d3, d4, d5, d6, d7⟩ := h.d0
  obtain ⟨m1, m2, m3, m4, m5, m6, m7⟩ := h.mem
  have low := h.low
  subst hl
  have a1 : ∀ k ∈ F, k ∉ ablk la → k ∉ ablk la' := fun k hk hn hm => by
    rcases gr k hm with q | q
    · exact hn q
    · have := low k hk; omega
  have sla : s ∉ ablk la := fun hb => (h.d1 s hb).1 rfl
  have B1 := s2.blk (h.hd.fr f1 sla)
  have f2 : Fr [s] w1 w' := s2.fr (by simp)
  refine ⟨s :: mb :: ab :: wb :: sb :: (ablk la' ++ l.map (·.b)), ⟨by simpa [spHd] using B1, (h.mi.fr f1 (fun hb => (h.d1 _ hb).2.1 rfl)).fr f2 (by simp; omega), fun x hx => ((h.rc x hx).fr f1 (h.d2 x hx).2.2.2.2.2).fr f2 (by have := h.d2 x hx; simp; omega),
    L.fr f2 (fun b hb hb2 => by simp at hb2; subst hb2; exact a1 b m1 sla hb), (h.ar.fr f1 (fun hb => (h.d1 _ hb).2.2.1 rfl) (fun hb => (h.d1 _ hb).2.2.2.1 rfl) (fun hb => (h.d1 _ hb).2.2.2.2 rfl)).fr f2 (by simp; omega) (by simp; omega) (by simp; omega),
    h.d0, fun k hk => ?_, fun x hx => ?_, h.d3, rfl⟩, (f1.mono (fun k hk => .inl (m6 k hk))).trans f2 (by simpa using .inl m1), ?_⟩
  · rcases gr k hk with q | q
    · exact h.d1 k q
    · have := low s m1; have := low mb m2; have := low ab m3; have := low wb m4; have := low sb m5; omega
  · have := h.d2 x hx
    exact ⟨this.1, this.2.1, this.2.2.1, this.2.2.2.1, this.2.2.2.2.1, a1 _ (m7 x hx) this.2.2.2.2.2⟩
  · intro b hb
    rw [h.F]
    simp only [List.mem_cons, List.mem_append] at hb ⊢
    rcases hb with h | h | h | h | h | h | h
    · exact .inl (.inl h)
    · exact .inl (.inr (.inl h))
    · exact .inl (.inr (.inr (.inl h)))
    · exact .inl (.inr (.inr (.inr (.inl h))))
    · exact .inl (.inr (.inr (.inr (.inr (.inl h)))))
    · rcases gr b h with q | q
      · exact .inl (.inr (.inr (.inr (.inr (.inr (.inl q))))))
      · exact .inr q
    · exact .inl (.inr (.inr (.inr (.inr (.inr (.inr h))))))

theorem needK_pos (I : SInv g l ws) (k : Int) : 0 ≤ needK l k := by
  unfold needK
  cases hf : l.find? (fun x => x.id == k) with
  | none => simp
  | some x => have := I.sz x (List.mem_of_find?_eq_some hf); simp; omega

theorem sumK_take (I : SInv g l ws) {r : List Int} (nd : r.Nodup) (hr : ∀ k ∈ r, ∃ x ∈ l, x.id = k) (hl : ∀ x ∈ l, x.id ∈ r) (j : Nat) (hj : j < r.length) : 0 ≤ sumK (needK l) (r.take j) ∧ sumK (needK l) (r.take j) + needK l r[j] ≤ need l ∧ sumK (needK l) (r.take (j + 1)) = sumK (needK l) (r.take j) + needK l r[j] := by
  have pm : r.Perm (l.map (·.id)) := perm_of_mem nd I.ids fun k => by
    constructor
    · intro hk; obtain ⟨x, hx, e⟩ := hr k hk; exact List.mem_map.2 ⟨x, hx, e⟩
    · intro hk; obtain ⟨x, hx, e⟩ := List.mem_map.1 hk; rw [← e]; exact hl x hx
  have esum : sumK (needK l) r = need l := by
    rw [sumK_perm _ pm, sumK_ids _ (fun x => x.n + 4) l (fun x hx => needK_some I.ids hx), need_fold]
  have nn : ∀ r : List Int, 0 ≤ sumK (needK l) r := fun r => by
    induction r with
    | nil => simp [sumK]
    | cons k r ih => have := needK_pos I k; simp [sumK]; omega
  have e1 : sumK (needK l) (r.take (j + 1)) = sumK (needK l) (r.take j) + needK l r[j] := by
    rw [List.take_succ_eq_append_getElem hj, sumK_app]; simp [sumK]
  have e2 : sumK (needK l) r = sumK (needK l) (r.take (j + 1)) + sumK (needK l) (r.drop (j + 1)) := by rw [← sumK_app, List.take_append_drop]
  have := nn (r.drop (j + 1))
  exact ⟨nn _, by omega, e1⟩

theorem core_rep {l1 : List Arr} {x x' : Arr} (hc : l1.map core = l.map core) (hx : x ∈ l1) (hu : ∀ y ∈ l1, y.id = x.id → y = x) (e : core x' = core x) : (rep l1 x').map core = l.map core := by
  have e1 := (core_eq e).1
  rw [rep_map core fun y hy ey => by rw [hu y hy (ey.trans e1), e], hc]

/-- A cycle begins. -/
theorem spcycle_c (h : SpAt w F s mb ab wb sb g l ws ss la lc clk) (I : SInv g l ws) (hlast : g.last ≤ 1000000) {K : Int → World → Prop} (hon : g.act = true → K 701 w)
    (hok : g.act = false → ∀ w' F' l' left' la' lc' t, SpAt w' F' s mb ab wb sb { g with act := true, top := t, late := 0, left := left' } l' ws ss la' lc' clk → SInv { g with act := true, top := t, late := 0, left := left' } l' ws → l'.map core = l.map core → mu l' left' ≤ need l → Fr F w w' → Grw F F' w.heap.size → K 0 w') :
    C72 (some ⟨s, 0, none⟩) w K := by
  obtain ⟨d1, d2, d3, d4, d5, d6, d7⟩ := h.d0
  obtain ⟨m1, m2, m3, m4, m5, m6, m7⟩ := h.mem
  have hg := I.geo
  have htl := I.top_le
  have how := I.ow
  have hrm := I.rm
  have hl0 := I.l0
  refine r_f72 _ _ _ ⟨g.act, h.hd.cell rfl, ?_⟩
  cases ha : g.act with
  | true => exact ifb_t (hon ha)
  | false =>
  refine ifb_f ⟨h.hd.may (by simp [spHd]), fun w1 s1 => ?_⟩
  have B1 := s1.blk h.hd
  refine ⟨B1.may (by simp [spHd]), fun w2 s2 => ?_⟩
  have B2 := s2.blk B1
  refine ⟨B2.may (by simp [spHd]), fun w3 s3 => ?_⟩
  have B3 := s3.blk B2
  have f3 : Fr [s] w w3 := ((s1.fr (by simp)).more (s2.fr (by simp))).more (s3.fr (by simp))
  have H3 := h.head (g' := { g with act := true, top := 0, late := 0 }) rfl (by simpa [spHd] using B3) f3
  refine ⟨B3.may (by simp [spHd]), fun w4 s4 => ?_⟩
  obtain ⟨F4, H4, f4, g4⟩ := H3.row (SI.nil w3) (Fr.refl _ w3) (la' := none) (fun b hb => by simp [ablk] at hb) rfl s4
  have f04 : Fr F w w4 := (f3.mono (by simpa using .inl m1)).more f4
  have z3 := f3.size
  have g04 : Grw F F4 w.heap.size := fun b hb => (g4 b hb).imp id (fun h => by omega)
  -- ids are one's own in any l1 with the same core
  have own : ∀ {l1 : List Arr}, l1.map core = l.map core → ∀ {x y : Arr}, x ∈ l1 → y ∈ l1 → y.id = x.id → y = x := fun {l1} hc {x y} hx hy e => by
    have : (l1.map (·.id)).Nodup := by rw [core_map hc (·.id) (fun p => p.1) (fun _ => rfl)]; exact I.ids
    exact map_inj_of_nodup _ this hy hx e
  have back : ∀ {l1 : List Arr}, l1.map core = l.map core → ∀ {x : Arr}, x ∈ l1 → ∃ y ∈ l, y.id = x.id ∧ y.n = x.n := fun {l1} hc {x} hx => by
    obtain ⟨y, hy, e⟩ := core_mem hc hx
    obtain ⟨q1, _, _, q2, _, _⟩ := core_eq e
    exact ⟨y, hy, q1, q2⟩
  refine ⟨fun w' => ∃ F' l1 left la1 lc1, SpAt w' F' s mb ab wb sb { g with act := true, top := 0, late := 0, left := left } l1 ws ss la1 lc1 clk ∧ l1.map core = l.map core ∧ left.Nodup ∧ (∀ k ∈ left, ∃ x ∈ l1, x.id = k) ∧ (∀ x ∈ l1, x.mv = false ∧ x.id ∈ left) ∧ Fr F w w' ∧ Grw F F' w.heap.size, ?_, ?_⟩
  · let Q := fun (i : Int) (w' : World) => 1 ≤ i ∧ ∃ F' l1 left la1 lc1, SpAt w' F' s mb ab wb sb { g with act := true, top := 0, late := 0, left := left } l1 ws ss la1 lc1 clk ∧ l1.map core = l.map core ∧ left.Nodup ∧ (∀ k ∈ left, k < i ∧ ∃ x ∈ l1, x.id = k) ∧ (∀ x ∈ l1, x.id < i → x.mv = false ∧ x.id ∈ left) ∧ Fr F w w' ∧ Grw F F' w.heap.size
    refine ⟨fun i w' => Q i w', fun i _ => (g.last + 1 - i).toNat, ⟨by decide, F4, l, [], none, 0, H4, rfl, by simp, by simp, fun x hx hi => by have := I.lst x hx; omega, f04, g04⟩, ?_⟩
    rintro - i w5 ⟨hi1, F5, l5, left, la5, lc5, H5, hc5, nd5, hk5, hx5, f5, g5⟩
    have len5 : l5.length = l.length := by have := congrArg List.length hc5; simpa using this
    refine ⟨fun w' => i ≤ g.last ∧ Q i w', fun w6 t6 => ?_, ?_⟩
    · have H6 := H5.fr0 (t6.fr [])
      have f6 := f5.more (t6.fr F)
      have q6 : Q i w6 := ⟨hi1, F5, l5, left, la5, lc5, H6, hc5, nd5, hk5, hx5, f6, g5⟩
      have out : (∀ x ∈ l5, x.id ∈ left) → ∃ F' l1 left la1 lc1, SpAt w6 F' s mb ab wb sb { g with act := true, top := 0, late := 0, left := left } l1 ws ss la1 lc1 clk ∧ l1.map core = l.map core ∧ left.Nodup ∧ (∀ k ∈ left, ∃ x ∈ l1, x.id = k) ∧ (∀ x ∈ l1, x.mv = false ∧ x.id ∈ left) ∧ Fr F w w6 ∧ Grw F F' w.heap.size := fun hall =>
        ⟨F5, l5, left, la5, lc5, H6, hc5, nd5, fun k hk => (hk5 k hk).2, fun x hx => ⟨(hx5 x hx (hk5 _ (hall x hx)).1).1, hall x hx⟩, f6, g5⟩
      have full : ¬ (left.length : Int) < (l5.length : Int) → ∀ x ∈ l5, x.id ∈ left := fun hge => by
        have ids5 : (l5.map (·.id)).Nodup := by rw [core_map hc5 (·.id) (fun p => p.1) (fun _ => rfl)]; exact I.ids
        intro x hx
        by_cases hm : x.id ∈ left
        · exact hm
        · exfalso
          have hsub : ∀ k ∈ left, k ∈ (l5.map (·.id)).erase x.id := fun k hk => by
            obtain ⟨y, hy, e⟩ := (hk5 k hk).2
            rw [ids5.mem_erase_iff]
            exact ⟨fun e2 => hm (by rw [← e2]; exact hk), List.mem_map.2 ⟨y, hy, e⟩⟩
          have h1 := len_sub nd5 hsub
          rw [List.length_erase_of_mem (List.mem_map.2 ⟨x, hx, rfl⟩), List.length_map] at h1
          have : 0 < l5.length := List.length_pos_of_mem hx
          omega
      refine ⟨_, H6.hd.cell rfl, IfB.dec (fun hle => ⟨_, H6.hd.cell rfl, ⟨_, _, _, H6.hd.cell rfl, H6.len (IfB.dec (fun _ => ⟨hle, q6⟩) (fun hge => out (full hge)))⟩, H6.len ⟨_, _, _, H6.hd.cell rfl, IfB.dec (fun _ => ⟨hle, q6⟩) (fun hge => out (full hge))⟩⟩) (fun hgt => ?_)⟩
      have all : ∀ x ∈ l5, x.id ∈ left := fun x hx => by
        obtain ⟨y, hy, q1, _⟩ := back hc5 hx
        have := I.lst y hy
        dsimp only at hgt
        exact (hx5 x hx (by omega)).2
      exact ⟨out all, out all⟩
    · rintro - w6 ⟨hle, _, F6, l6, left6, la6, lc6, H6, hc6, nd6, hk6, hx6, f6, g6⟩
      refine ⟨_, H6.hd.cell rfl, H6.look i (fun x hx e => ifb_t (PtrOK.of rfl ⟨(H6.rc x hx).maya (by simp [encR]), fun w7 s7 => ?_⟩)) (fun hn => ifb_f ⟨fit64 (by omega) (by omega), ⟨by omega, F6, l6, left6, la6, lc6, H6, hc6, nd6, fun k hk => ⟨by have := (hk6 k hk).1; omega, (hk6 k hk).2⟩, fun x hx hlt => hx6 x hx (by have := hn x hx; omega), f6, g6⟩, by dsimp only; omega⟩)⟩
      have B7 := s7.blka (H6.rc x hx)
      have f7 : Fr [x.b] w6 w7 := s7.fra
      have H7 := H6.rec_ (x' := { x with mv := false }) hx (fun y hy e => own hc6 hx hy e) rfl rfl rfl (by simpa [encR] using B7) f7
      have f07 := f6.trans f7 (by simp; exact g6 _ (H6.mem.2.2.2.2.2.2 x hx))
      refine ⟨_, _, _, H7.hd.cell rfl, fun b8 w8 n8 => ?_⟩
      have hil : left6.length ≤ 65536 := by
        have h1 : left6.length ≤ (l6.map (·.id)).length := len_sub nd6 (fun k hk => by obtain ⟨y, hy, e⟩ := (hk6 k hk).2; exact List.mem_map.2 ⟨y, hy, e⟩)
        have h2 : (l6.length : Int) ≤ need l := by
          have e : l6.length = l.length := by have := congrArg List.length hc6; simpa using this
          rw [e]
          have : ∀ l : List Arr, (∀ x ∈ l, 0 ≤ x.n) → (l.length : Int) ≤ need l := fun l => by
            induction l with
            | nil => intro _; simp [need]
            | cons x l ih => intro hp; have := hp x (by simp); have := ih (fun y hy => hp y (by simp [hy])); simp [need]; omega
          exact this l (fun x hx => (I.sz x hx).1)
        rw [List.length_map] at h1
        omega
      refine app_int H7.lf n8 (by dsimp only; omega) fun a9 c9 w9 L9 f9 g9 => ⟨(H7.hd.fr f9 (fun hb => (H7.d1 s hb).1 rfl)).may (by simp [spHd]), fun w10 s10 => ?_⟩
      obtain ⟨F10, H10, f10, g10⟩ := H7.row L9 f9 g9 (by simp) s10
      have z6 := f6.size
      have z7 := f7.size
      have low6 := g6
      refine ⟨fit64 (by omega) (by omega), ⟨by omega, F10, _, _, _, _, H10, core_rep hc6 hx (fun y hy e => own hc6 hx hy e) rfl, ?_, fun k hk => ?_, fun y hy hlt => ?_, f07.trans f10 (fun k hk => g6 k hk), fun b hb => ?_⟩, by dsimp only; omega⟩
      · show (left6 ++ [i]).Nodup
        rw [List.nodup_append]
        refine ⟨nd6, by simp, fun a ha b hb e => ?_⟩
        simp at hb
        have := (hk6 a ha).1
        omega
      · rcases List.mem_append.1 hk with hk | hk
        · obtain ⟨q1, y, hy, q2⟩ := hk6 k hk
          refine ⟨by omega, y, rep_mem hy ?_, q2⟩
          dsimp only; omega
        · simp at hk
          subst hk
          exact ⟨by omega, _, rep_self hx rfl, e⟩
      · rcases mem_rep hy with rfl | ⟨hy, hne⟩
        · exact ⟨rfl, by dsimp only; rw [e]; simp⟩
        · dsimp only at hne
          have := hx6 y hy (by omega)
          exact ⟨this.1, List.mem_append.2 (.inl this.2)⟩
      · rcases g10 b hb with q | q
        · exact g6 b q
        · exact .inr (by omega)
  · rintro - w5 ⟨F5, l5, left, la5, lc5, H5, hc5, nd5, hk5, hx5, f5, g5⟩
    have z5 := f5.size
    have hkl : ∀ k ∈ left, ∃ x ∈ l, x.id = k := fun k hk => by
      obtain ⟨x, hx, e⟩ := hk5 k hk
      obtain ⟨y, hy, q1, _⟩ := back hc5 hx
      exact ⟨y, hy, q1.trans e⟩
    have hll : ∀ x ∈ l, x.id ∈ left := fun x hx => by
      obtain ⟨y, hy, e⟩ := core_mem hc5.symm hx
      rw [← (core_eq e).1]; exact (hx5 y hy).2
    have hlen : (left.length : Int) ≤ 65536 := by
      have h1 : left.length ≤ (l.map (·.id)).length := len_sub nd5 (fun k hk => by obtain ⟨y, hy, e⟩ := hkl k hk; exact List.mem_map.2 ⟨y, hy, e⟩)
      rw [List.length_map] at h1
      have := len_need l (fun x hx => (I.sz x hx).1)
      omega
    have hbo : 0 ≤ hb g (!g.other) ∧ hb g (!g.other) ≤ 65536 ∧ hb g (!g.other) + g.half ≤ ws.length := by
      cases g.other <;> simp [hb] <;> omega
    refine ⟨_, _, _, H5.hd.cell rfl, ?_⟩
    refine ⟨fun j w' => 0 ≤ j ∧ j ≤ left.length ∧ ∃ l2 t, t = sumK (needK l) (left.take j.toNat) ∧ SpAt w' F5 s mb ab wb sb { g with act := true, top := t, late := 0, left := left } l2 ws ss la5 lc5 clk ∧ l2.map core = l.map core ∧ (∀ x ∈ l2, x.mv = false) ∧
        (∀ x ∈ l2, x.id ∈ left.take j.toNat → x.cp = 0 ∧ hb g (!g.other) ≤ x.to ∧ x.to + x.n + 4 ≤ hb g (!g.other) + t) ∧
        (∀ x ∈ l2, ∀ y ∈ l2, x.id ∈ left.take j.toNat → y.id ∈ left.take j.toNat → x.id ≠ y.id → x.to + x.n + 4 ≤ y.to ∨ y.to + y.n + 4 ≤ x.to) ∧ Fr F w w', fun j _ => (left.length - j).toNat,
      ⟨by decide, by omega, l5, 0, by simp [sumK], H5, hc5, fun x hx => (hx5 x hx).1, fun x hx hm => by simp at hm, fun x hx y hy hm => by simp at hm, f5⟩, ?_⟩
    rintro - j w6 ⟨hj0, hj1, l6, t, ht, H6, hc6, hm6, ha6, hd6, f6⟩
    have low6 : ∀ k ∈ F5, k ∈ F ∨ w.heap.size ≤ k := fun k hk => g5 k hk
    refine IfB.dec (fun hlt => ?_) (fun hge => ?_)
    · have hlt : j < (left.length : Int) := hlt
      have hjl : j.toNat < left.length := by omega
      obtain ⟨t0, t1, t2⟩ := sumK_take I nd5 hkl hll j.toNat hjl
      have hkj : left.getD j.toNat 0 = left[j.toNat] := by rw [List.getD_eq_getElem?_getD, List.getElem?_eq_getElem hjl]; rfl
      obtain ⟨x0, hx0, e0⟩ := hkl _ (List.getElem_mem hjl)
      obtain ⟨x, hx, ec⟩ := core_mem hc6.symm hx0
      obtain ⟨ei, _, _, en, _, _⟩ := core_eq ec
      have exk : x.id = left[j.toNat] := ei.trans e0
      have hneed : needK l left[j.toNat] = x.n + 4 := by rw [← e0, needK_some I.ids hx0, en]
      have sz := I.sz x0 hx0
      refine H6.lf.get hj0 (by exact hlt) fun p hp => ⟨⟨hj0, hlt⟩, x.id, by rw [hp]; show some (Value.int .i64 (left.getD j.toNat 0)) = _; rw [hkj, exk], _, H6.hd.cell rfl, H6.look1 hx ?_⟩
      refine ⟨fun w' => SpAt w' F5 s mb ab wb sb { g with act := true, top := t, late := 0, left := left } (rep l6 { x with to := hb g (!g.other) + t, cp := 0 }) ws ss la5 lc5 clk ∧ Fr F w w', fun w7 t7 => ?_, ?_⟩
      · have H7 := H6.fr0 (t7.fr [])
        have f7 := f6.more (t7.fr F)
        have fin : ∀ w8, (∀ S, Fr S w7 w8) → (PtrOK (some ⟨x.b, 0, none⟩) fun (p52 : Addr) =>
            May w8 (Addr.add p52 2) ∧ ∀ w53 : World, SetC w8 w53 (Addr.add p52 2) (.int .i64 (hb g (!g.other) + t)) →
            PtrOK (some ⟨x.b, 0, none⟩) fun (p54 : Addr) =>
            May w53 (Addr.add p54 3) ∧ ∀ w55 : World, SetC w53 w55 (Addr.add p54 3) (.int .i64 0) →
            (SpAt w55 F5 s mb ab wb sb { g with act := true, top := t, late := 0, left := left } (rep l6 { x with to := hb g (!g.other) + t, cp := 0 }) ws ss la5 lc5 clk ∧ Fr F w w55)) := by
          intro w8 f8
          have H8 := H7.fr0 (f8 [])
          refine PtrOK.of rfl ⟨(H8.rc x hx).maya (by simp [encR]), fun w9 s9 => ?_⟩
          have B9 := s9.blka (H8.rc x hx)
          refine PtrOK.of rfl ⟨B9.maya (by simp [encR]), fun w10 s10 => ?_⟩
          have B10 := s10.blka B9
          have f10 : Fr [x.b] w8 w10 := (show Fr [x.b] w8 w9 from s9.fra).more s10.fra
          exact ⟨H8.rec_ (x' := { x with to := hb g (!g.other) + t, cp := 0 }) hx (fun y hy e => own hc6 hx hy e) rfl rfl rfl (by simpa [encR] using B10) f10, (f7.more (f8 F)).trans f10 (by simp; exact low6 _ (H8.mem.2.2.2.2.2.2 x hx))⟩
        -- where the other half begins
        have beg : ∀ {G : Int → World → Prop}, (∀ w8, (∀ S, Fr S w7 w8) → G (hb g (!g.other)) w8) → C147 (some ⟨s, 0, none⟩) (!g.other) w7 G := fun {G} hG => by
          refine r_f147 _ _ _ _ ?_
          cases ho : g.other with
          | false =>
            refine ifb_t fun w8 t8 => ?_
            have H8 := H7.fr0 (t8.fr [])
            have := hG w8 t8.fr
            rw [ho] at this
            exact ⟨_, H8.hd.cell rfl, _, H8.hd.cell rfl, fit64 (by dsimp only; omega) (by dsimp only; omega), this⟩
          | true =>
            have := hG w7 (fun S => Fr.refl S w7)
            rw [ho] at this
            exact ifb_f ⟨_, H7.hd.cell rfl, this⟩
        have hft : Fit .i64 (hb g (!g.other) + t) := fit64 (by omega) (by omega)
        refine ⟨_, H7.hd.cell rfl, beg fun w8 f8 => ⟨_, (H7.fr0 (f8 [])).hd.cell rfl, hft, fin w8 f8⟩, ⟨_, H7.hd.cell rfl, beg fun w8 f8 => ⟨hft, fin w8 f8⟩⟩⟩
      rintro - w7 ⟨H7, f7⟩
      intro w8 t8
      have H8 := H7.fr0 (t8.fr [])
      have hx8 : { x with to := hb g (!g.other) + t, cp := 0 } ∈ rep l6 { x with to := hb g (!g.other) + t, cp := 0 } := rep_self hx rfl
      refine ⟨_, H8.hd.cell rfl, PtrOK.of rfl ⟨_, (H8.rc _ hx8).cella rfl, fit64 (by dsimp only; omega) (by dsimp only; omega), fit64 (by dsimp only; omega) (by dsimp only; omega), H8.hd.may (by simp [spHd]), fun w9 s9 => ?_⟩⟩
      have B9 := s9.blk H8.hd
      have f9 : Fr [s] w8 w9 := s9.fr (by simp)
      have H9 := H8.head (g' := { g with act := true, top := t + (x.n + 4), late := 0, left := left }) rfl (by simpa [spHd] using B9) f9
      have ej : (j + 1).toNat = j.toNat + 1 := by omega
      have mt : ∀ k, k ∈ left.take (j + 1).toNat ↔ k ∈ left.take j.toNat ∨ k = x.id := fun k => by
        rw [ej, List.take_succ_eq_append_getElem hjl, List.mem_append, exk]; simp
      have bk := fun {y : Arr} (hy : y ∈ l6) => back hc6 hy
      refine ⟨fit64 (by omega) (by omega), ⟨by omega, by omega, _, t + (x.n + 4), by rw [ej, t2, ← ht, hneed], H9, core_rep hc6 hx (fun y hy e => own hc6 hx hy e) rfl, fun y hy => ?_, fun y hy hm => ?_, fun y hy z hz hy2 hz2 hn => ?_, (f7.more (t8.fr F)).trans f9 (by simpa using .inl m1)⟩, by dsimp only; omega⟩
      · rcases mem_rep hy with rfl | ⟨hy, _⟩
        · exact hm6 x hx
        · exact hm6 y hy
      · rcases mem_rep hy with rfl | ⟨hy, hne⟩
        · exact ⟨rfl, by dsimp only; omega, by dsimp only; omega⟩
        · dsimp only at hne
          rcases (mt _).1 hm with q | q
          · have := ha6 y hy q
            exact ⟨this.1, this.2.1, by omega⟩
          · exact absurd q hne
      · rcases mem_rep hy with e1 | ⟨hy1, hne1⟩
        · rcases mem_rep hz with e2 | ⟨hz1, hne2⟩
          · exact absurd (by rw [e1, e2]) hn
          · subst e1
            dsimp only at hne2 ⊢
            rcases (mt _).1 hz2 with q | q
            · have := ha6 z hz1 q
              exact .inr (by omega)
            · exact absurd q hne2
        · rcases mem_rep hz with e2 | ⟨hz1, hne2⟩
          · subst e2
            dsimp only at hne1 ⊢
            rcases (mt _).1 hy2 with q | q
            · have := ha6 y hy1 q
              exact .inl (by omega)
            · exact absurd q hne1
          · dsimp only at hne1 hne2
            exact hd6 y hy1 z hz1 (((mt _).1 hy2).resolve_right hne1) (((mt _).1 hz2).resolve_right hne2) hn
    · have hge : ¬ j < (left.length : Int) := hge
      have ejl : left.take j.toNat = left := List.take_of_length_le (by omega)
      rw [ejl] at ht ha6 hd6
      have inl6 : ∀ x ∈ l6, x.id ∈ left := fun x hx => by
        obtain ⟨y, hy, q1, _⟩ := back hc6 hx
        rw [← q1]; exact hll y hy
      obtain ⟨I6, mu6, _⟩ := I.begins ha hc6 nd5 (fun k hk => by
        obtain ⟨x0, hx0, e0⟩ := hkl k hk
        obtain ⟨x, hx, ec⟩ := core_mem hc6.symm hx0
        exact ⟨x, hx, (core_eq ec).1.trans e0⟩) (fun x hx => by
        have := ha6 x hx (inl6 x hx)
        rw [ht] at this
        exact ⟨hm6 x hx, inl6 x hx, this⟩) (fun x hx y hy hn => hd6 x hx y hy (inl6 x hx) (inl6 y hy) hn)
      rw [← ht] at I6
      exact hok ha w6 F5 l6 left la5 lc5 t H6 I6 hc6 mu6 f6 g5
end
end Go.Proofs.Ytfpghcdjfiggiaa.V
