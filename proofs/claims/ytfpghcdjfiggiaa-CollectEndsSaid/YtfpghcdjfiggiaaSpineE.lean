/- Arrays that move: a new array, and the beginning of a cycle. No condition. -/
import Derived.Test.YtfpghcdjfiggiaaSpineD
namespace Go.Proofs.Ytfpghcdjfiggiaa.V
open Go Go.RowKit

section
variable {w w' : World} {F S : List Nat} {s mb ab wb sb clk lc : Nat} {g : SG} {l : List Arr} {ws ss : List Int} {la : Option Addr}

theorem cur_eq (g : SG) : (!(g.other == g.act)) = cur g := by
  unfold cur
  cases g.act <;> cases g.other <;> rfl

/-- A new array. -/
theorem spmake_c (h : SpAt w F s mb ab wb sb g l ws ss la lc clk) (I : SInv g l ws) (hlast : g.last ≤ 1000000) (agent n : Int) {K : Int → Int → World → Prop}
    (hag : ¬ (0 ≤ agent ∧ agent < ss.length) → K 0 704 w) (hsz : (0 ≤ agent ∧ agent < ss.length) → ¬ (0 ≤ n ∧ n ≤ 1000) → K 0 700 w)
    (hfull : (0 ≤ agent ∧ agent < ss.length) → (0 ≤ n ∧ n ≤ 1000) → g.half - g.owed - need l < n + 4 → ∀ w', (∀ S, Fr S w w') → K 0 702 w')
    (hok : (0 ≤ agent ∧ agent < ss.length) → (0 ≤ n ∧ n ≤ 1000) → ¬ g.half - g.owed - need l < n + 4 → ∀ w' F' x ws' ss', x.id = g.last + 1 → x.n = n → x.vs = List.replicate n.toNat 0 →
      SpAt w' F' s mb ab wb sb { g with last := g.last + 1, top := g.top + (n + 4) } (l ++ [x]) ws' ss' la lc (clk + 1) → SInv { g with last := g.last + 1, top := g.top + (n + 4) } (l ++ [x]) ws' → Fr F w w' → Grw F F' w.heap.size → Tk n ss ss' → K (g.last + 1) 0 w') :
    C69 (some ⟨s, 0, none⟩) agent n w K := by
  obtain ⟨d1, d2, d3, d4, d5, d6, d7⟩ := h.d0
  obtain ⟨m1, m2, m3, m4, m5, m6, m7⟩ := h.mem
  have hg := I.geo
  have hl0 := I.l0
  have htl := I.top_le
  have how := I.ow
  refine r_f69 _ _ _ _ _ ⟨_, h.hd.cell rfl, agent_c h.ar agent (IfB.nd (fun h0 => ?_) (fun h0 => hag h0))⟩
  refine IfB.dec (fun h1 => hsz h0 (by omega)) (fun h1 => IfB.dec (fun h2 => hsz h0 (by omega)) (fun h2 => ⟨fit64 (by omega) (by omega), room_c h I fun w1 f1 => ?_⟩))
  have hn : 0 ≤ n ∧ n ≤ 1000 := by omega
  refine IfB.dec (fun h3 => hfull h0 hn h3 w1 f1) (fun h3 => ?_)
  have H1 := h.fr0 (f1 [])
  refine ⟨_, H1.hd.cell rfl, fit64 (by omega) (by omega), H1.hd.may (by simp [spHd]), fun w2 s2 => ?_⟩
  have B2 := s2.blk H1.hd
  have f2 : Fr [s] w1 w2 := s2.fr (by simp)
  have H2 := H1.head (g' := { g with last := g.last + 1 }) rfl (by simpa [spHd] using B2) f2
  have lowF := h.low
  -- where it will lie
  obtain ⟨q, hq⟩ : ∃ q, q = hb g (cur g) + g.top := ⟨_, rfl⟩
  have bb := hb_two g (cur g)
  have htop : g.top ≤ need l + g.owed := by have := I.tp; split at this <;> omega
  have hqr : 0 ≤ q ∧ q + n + 4 ≤ ws.length := by
    rcases bb.2.2.2.2 with e | e <;> rw [hq, e] <;> simp [hb] <;> omega
  refine ⟨fun p w' => ∃ xb, p = some ⟨xb, 0, none⟩ ∧ w.heap.size ≤ xb ∧ Blk w' xb [.int .i64 n, .int .i64 q, .int .i64 0, .int .i64 0, .bool g.act] ∧ SpAt w' F s mb ab wb sb { g with last := g.last + 1 } l ws ss la lc clk ∧ Fr F w w', fun w3 t3 => ?_, ?_⟩
  · have H3 := H2.fr0 (t3.fr [])
    have f3 : Fr F w w3 := ((f1 F).trans f2 (by simpa using .inl m1)).more (t3.fr F)
    have z3 := f3.size
    have I3 : SInv { g with last := g.last + 1 } l ws := ⟨I.geo, I.ow, I.tp, I.rm, I.ids, fun x hx => by have := I.lst x hx; dsimp only; omega, by dsimp only; omega, I.sz, I.A, I.B, I.C, I.D, I.E, fun ha => ⟨(I.Lf ha).1, (I.Lf ha).2.1, fun k hk => by have := (I.Lf ha).2.2 k hk; dsimp only; omega⟩, I.W, I.X⟩
    have fin : ∀ (w4 w5 : World) (b : Nat), (∀ S, Fr S w3 w4) → NewAt w4 w5 b #[.int .i64 n, .int .i64 (hb g (cur g) + g.top), .int .i64 0, .int .i64 0, .bool g.act] 191 → ∃ xb, (some ⟨b, 0, none⟩ : Option Addr) = some ⟨xb, 0, none⟩ ∧ w.heap.size ≤ xb ∧ Blk w5 xb [.int .i64 n, .int .i64 q, .int .i64 0, .int .i64 0, .bool g.act] ∧ SpAt w5 F s mb ab wb sb { g with last := g.last + 1 } l ws ss la lc clk ∧ Fr F w w5 := by
      intro w4 w5 b f4 n5
      have hb5 := n5.blk
      rw [← hq] at hb5
      have := n5.ge
      have := (f4 []).size
      exact ⟨b, rfl, by omega, hb5, (H3.fr0 (f4 [])).fr0 (n5.fr []), (f3.more (f4 F)).more (n5.fr F)⟩
    have ebeg : ∀ {G : Int → World → Prop}, (∀ w4, (∀ S, Fr S w3 w4) → G (hb g (cur g)) w4) → C147 (some ⟨s, 0, none⟩) (!(g.other == g.act)) w3 G := fun hG => spbegin_c H3 I3 _ fun w4 f4 => by
      have := hG w4 f4
      rw [← cur_eq] at this
      exact this
    have ht : Fit .i64 (hb g (cur g) + g.top) := fit64 (by omega) (by omega)
    refine ⟨_, H3.hd.cell rfl, _, H3.hd.cell rfl, ebeg fun w4 f4 => ?_, ⟨_, H3.hd.cell rfl, ebeg fun w4 f4 => ?_, ⟨_, H3.hd.cell rfl, ebeg fun w4 f4 => ?_⟩⟩, ⟨_, H3.hd.cell rfl, ebeg fun w4 f4 => ?_, ⟨_, H3.hd.cell rfl, ebeg fun w4 f4 => ?_⟩⟩⟩
    · exact ⟨_, (H3.fr0 (f4 [])).hd.cell rfl, ht, _, (H3.fr0 (f4 [])).hd.cell rfl, fun b w5 n5 => fin w4 w5 b f4 n5⟩
    · exact ⟨ht, _, (H3.fr0 (f4 [])).hd.cell rfl, fun b w5 n5 => fin w4 w5 b f4 n5⟩
    · exact ⟨ht, fun b w5 n5 => fin w4 w5 b f4 n5⟩
    · exact ⟨_, (H3.fr0 (f4 [])).hd.cell rfl, ht, fun b w5 n5 => fin w4 w5 b f4 n5⟩
    · exact ⟨ht, fun b w5 n5 => fin w4 w5 b f4 n5⟩
  rintro - p w3 ⟨xb, rfl, hxb, X3, H3, f3⟩
  have xF : xb ∉ F := fun hx => by have := lowF xb hx; omega
  refine ⟨_, H3.hd.cell rfl, fit64 (by omega) (by omega), fit64 (by dsimp only; omega) (by dsimp only; omega), H3.hd.may (by simp [spHd]), fun w4 s4 => ?_⟩
  have B4 := s4.blk H3.hd
  have f4 : Fr [s] w3 w4 := s4.fr (by simp)
  have H4 := H3.head (g' := { g with last := g.last + 1, top := g.top + (n + 4) }) rfl (by simpa [spHd] using B4) f4
  have X4 := X3.fr f4 (by simp; exact fun e => xF (e ▸ m1))
  refine ⟨fun i w' => 0 ≤ i ∧ i ≤ n ∧ ∃ ws' ss', SpAt w' F s mb ab wb sb { g with last := g.last + 1, top := g.top + (n + 4) } l ws' ss' la lc clk ∧ ws'.length = ws.length ∧ (∀ j : Int, 0 ≤ j → j < i → ws'.getD (q + 4 + j).toNat 0 = 0) ∧
      (∀ p : Int, 0 ≤ p → p < q + 4 ∨ q + 4 + n ≤ p → ws'.getD p.toNat 0 = ws.getD p.toNat 0) ∧ Tk i ss ss' ∧ Fr F w w' ∧ Blk w' xb [.int .i64 n, .int .i64 q, .int .i64 0, .int .i64 0, .bool g.act], fun i _ => (n - i).toNat,
    ⟨by omega, by omega, ws, ss, H4, rfl, fun j h0 h1 => by omega, fun _ _ _ => rfl, Tk.refl ss, f3.trans f4 (by simpa using .inl m1), X4⟩, ?_⟩
  rintro - i w5 ⟨hi0, hi1, ws5, ss5, H5, l5, z5, o5, t5, f5, X5⟩
  have ts5 := t5.1
  refine IfB.dec (fun hlt => fun w6 t6 => ?_) (fun hge => fun w6 t6 => ?_)
  · have H6 := H5.fr0 (t6.fr [])
    have X6 := X5.fr (t6.fr []) (by simp)
    refine ⟨_, H6.hd.cell rfl, PtrOK.of rfl ⟨_, X6.cella rfl, fit64 (by omega) (by omega), fit64 (by omega) (by omega), store_c H6.ar agent _ 0 (fun hn => absurd (mayA_ok (by omega) (by omega)) hn) (fun _ w7 A7 f7 => ⟨fit64 (by omega) (by omega), ⟨by omega, by omega, _, _, H6.words A7 f7, by simpa using l5, fun j j0 j1 => ?_, fun p p0 p1 => ?_, t5.trans (Tk.tick ss5 (by omega) (by omega)) (by omega) (by decide), (f5.more (t6.fr F)).trans f7 (by simp; exact ⟨.inl m4, .inl m5⟩), X6.fr f7 ?_⟩, by dsimp only; omega⟩)⟩⟩
    · rw [getZ_set _ _ (by omega) (by omega) (by omega)]
      split
      · rfl
      · exact z5 j j0 (by omega)
    · rw [getZ_set _ _ (by omega) (by omega) p0, if_neg (by omega)]
      exact o5 p p0 p1
    · simp; exact ⟨fun e => xF (e ▸ m4), fun e => xF (e ▸ m5)⟩
  · have H6 := H5.fr0 (t6.fr [])
    have X6 := X5.fr (t6.fr []) (by simp)
    have ei : i = n := by omega
    subst ei
    have hnone : mget (l.map ent) (g.last + 1) = none := mget_no fun e he => by
      obtain ⟨y, hy, rfl⟩ := List.mem_map.1 he
      have := I.lst y hy
      show y.id ≠ g.last + 1
      omega
    obtain ⟨w7, m', clk', hrun, M7, f7, hm⟩ := run_update (P := Try.prog) H6.mi (t := 185) (kt := 3) (et := 188) (by kernel_rfl) (by kernel_rfl) (g.last + 1) (ptrV xb)
    rcases hm with ⟨hm, _⟩ | ⟨_, rfl, rfl⟩
    · exact absurd hnone hm
    have hd7 := H6.hd.fr f7 (by simp; omega)
    refine ⟨_, H6.hd.cell rfl, _, H6.hd.cell rfl, w7, hrun, _, hd7.cell rfl, ?_⟩
    have f7' := (f5.more (t6.fr F)).trans f7 (by simpa using .inl m2)
    have hxn : ∀ k ∈ F, xb ≠ k := fun k hk e => xF (e ▸ hk)
    have I7 := I.make (ws' := ws5) (n := i) (b := xb) (st := clk) hn.1 hn.2 (by omega) l5 (by rw [← hq]; exact z5) (by rw [← hq]; exact o5)
    rw [← hq] at I7
    refine hok h0 hn h3 w7 (s :: mb :: ab :: wb :: sb :: (ablk la ++ (l ++ [(⟨g.last + 1, xb, clk, i, q, 0, 0, g.act, List.replicate i.toNat 0⟩ : Arr)]).map (·.b))) ⟨g.last + 1, xb, clk, i, q, 0, 0, g.act, List.replicate i.toNat 0⟩ ws5 ss5 rfl rfl rfl
      ⟨hd7, by rw [List.map_append]; exact M7, fun y hy => ?_, H6.lf.fr f7 (fun b hb hb2 => by have := h.d1 b hb; simp at hb2; omega), H6.ar.fr f7 (by simp; omega) (by simp; omega) (by simp; omega), h.d0, h.d1, fun y hy => ?_, ?_, rfl⟩ I7 f7' ?_ t5
    · rcases List.mem_append.1 hy with hy | hy
      · exact (H6.rc y hy).fr f7 (by have := h.d2 y hy; simp; omega)
      · simp at hy; subst hy
        exact X6.fr f7 (by simp; exact hxn _ m2)
    · rcases List.mem_append.1 hy with hy | hy
      · exact h.d2 y hy
      · simp at hy; subst hy
        exact ⟨hxn _ m1, hxn _ m2, hxn _ m3, hxn _ m4, hxn _ m5, fun hb => xF (m6 _ hb)⟩
    · rw [List.map_append, List.nodup_append]
      refine ⟨h.d3, by simp, fun a ha b hb e => ?_⟩
      simp at hb
      obtain ⟨y, hy, e2⟩ := List.mem_map.1 ha
      exact hxn _ (m7 y hy) (by rw [e2, e, hb])
    · intro b hb
      simp only [List.mem_cons, List.mem_append, List.map_append, List.map_cons, List.map_nil, List.not_mem_nil, or_false] at hb
      rcases hb with rfl | rfl | rfl | rfl | rfl | hb | hb | rfl
      · exact .inl m1
      · exact .inl m2
      · exact .inl m3
      · exact .inl m4
      · exact .inl m5
      · exact .inl (m6 b hb)
      · obtain ⟨y, hy, rfl⟩ := List.mem_map.1 hb
        exact .inl (m7 y hy)
      · exact .inr hxb
end
end Go.Proofs.Ytfpghcdjfiggiaa.V
