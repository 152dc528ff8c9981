/- The heap: a cell is let go; all refs. No condition. -/
import Derived.Test.YtfpghcdjfiggiaaHeapX
import Derived.Test.YtfpghcdjfiggiaaSortC
namespace Go.Proofs.Ytfpghcdjfiggiaa.V
open Go Go.RowKit

section
variable {w w' : World} {F G S : List Nat} {hb hm s mb ab wb sb clk clk2 lc : Nat} {last room words : Int} {cs : List HC} {g : SG} {l : List Arr} {ws ss : List Int} {la : Option Addr} {xs : List XC}

/-- A cell is let go. -/
theorem hfree_c (h : Hp w F hb hm s mb ab wb sb g l ws ss la lc clk2 clk last room words cs) (agent ref : Int) {K : Int → World → Prop}
    (hno : ¬ ((0 ≤ agent ∧ agent < ss.length) ∧ ∃ c ∈ cs, c.ref = ref) → ∀ w', (∀ S, Fr S w w') → K 904 w')
    (hok : ∀ c ∈ cs, c.ref = ref → (0 ≤ agent ∧ agent < ss.length) → ∀ x ∈ l, x.id = c.id → ∀ w' F' g', Hp w' F' hb hm s mb ab wb sb g' (l.filter fun y => !(x.id == y.id)) ws ss la lc clk2 clk last room words (cs.filter fun y => !(c.ref == y.ref)) → g'.last = g.last →
      Fr (hb :: hm :: F) w w' → (∀ b ∈ F', b ∈ F) → K 0 w') : C96 (some ⟨hb, 0, none⟩) agent ref w K := by
  obtain ⟨n1, n2, n3⟩ := h.H.ne
  refine r_f96 _ _ _ _ _ (hfind_c h.H h.S agent ref (fun hn w1 f1 => fun b w2 n2 => ⟨n2.blk.mayL (by simp), fun w3 s3 => ?_⟩) (fun c hc e ha w1 f1 => fun b w2 n2' => ⟨n2'.blk.mayL (by simp), fun w3 s3 => ?_⟩))
  · obtain ⟨X3, f3⟩ := newSet n2 s3 rfl
    exact ifb_nno rfl (hno hn w3 fun S => (f1 S).more (f3 S))
  · obtain ⟨X3, f3⟩ := newSet n2' s3 rfl
    have fA : ∀ S, Fr S w w3 := fun S => (f1 S).more (f3 S)
    have h3 := h.fr0 fA
    obtain ⟨w4, hrun, M4, f4⟩ := run_delete (P := Try.prog) h3.H.mi (t := 195) (kt := 3) (et := 199) (by kernel_rfl) (by kernel_rfl) ref 0
    have gb := n2'.ge
    have z1 := (f1 []).size
    have lhm := heap_lt h.H.mi.heap
    refine ifb_nyes rfl ⟨_, h3.H.hd.cell rfl, [], w4, hrun, fun w5 d5 => ?_⟩
    have f5 : Fr [hm] w3 w5 := f4.more (d5.fr _)
    have B5 := h3.H.hd.fr f5 (by simpa using n1)
    have X5 := X3.fr f5 (by simp; omega)
    have M5 := M4.fr (d5.fr []) (by simp)
    have S5 := h3.S.frame f5 (fun k hk hk2 => by simp at hk2; subst hk2; exact n3 hk)
    obtain ⟨x, hx, e1, e2⟩ := h3.arr hc
    refine ⟨_, B5.cell rfl, _, X5.cell rfl, spdrop_c S5 h3.I c.id (fun hn => absurd e1 (hn x hx)) (fun y hy ey w6 F6 S6 f6 g6 => ?_)⟩
    have B6 := B5.fr f6 n2
    have M6 := M5.fr f6 n3
    have I6 := h3.I.drop hy
    have ed : mdel (cs.map hent) ref = (cs.filter fun y => !(c.ref == y.ref)).map hent := by
      unfold mdel
      rw [List.filter_map, ← e]
      rfl
    rw [ed] at M6
    have sub : ∀ z ∈ cs.filter (fun y => !(c.ref == y.ref)), z ∈ cs := fun z hz => (List.mem_filter.1 hz).1
    refine hok c hc e ha y hy ey w6 F6 _ ⟨⟨B6, M6, n1, fun q => n2 (g6 _ q), fun q => n3 (g6 _ q)⟩, S6, I6, ⟨rel_drop2 h.J.rel h.H.nd h.I.ids hc ey, fun z hz => h.J.ids z (sub z hz), h.J.l0, fun z hz => h.J.sz z (sub z hz), Int.le_trans (csum_filter h.J.sz _) h.J.fit, h.J.geo, h.J.act⟩⟩ rfl ?_ g6
    have a1 : Fr (hb :: hm :: F) w w5 := (fA _).trans f5 (fun k hk => .inl (by simp at hk; simp [hk]))
    exact a1.trans f6 (fun k hk => .inl (by simp [hk]))

/-- Both rows lose one and the same place. -/
theorem filter_two {α β : Type} {p : α → Bool} {q : β → Bool} {γ : Type} {f : α → γ} {k : β → γ} : ∀ {l : List α} {m : List β}, l.map f = m.map k → l.map p = m.map q → (l.filter p).map f = (m.filter q).map k
  | [], [], _, _ => rfl
  | [], _ :: _, h, _ => by simp at h
  | _ :: _, [], h, _ => by simp at h
  | a :: l, b :: m, h1, h2 => by
    simp only [List.map_cons, List.cons.injEq] at h1 h2
    have ih := filter_two h1.2 h2.2
    rw [List.filter_cons, List.filter_cons, h2.1]
    split
    · simp only [List.map_cons, h1.1, ih]
    · exact ih

theorem xfree_c (h : Hx w G hb ss words last xs) (agent ref : Int) {K : Int → World → Prop}
    (hno : ¬ ((0 ≤ agent ∧ agent < ss.length) ∧ ∃ x ∈ xs, x.ref = ref) → ∀ w', (∀ S, Fr S w w') → K 904 w')
    (hok : (∃ x ∈ xs, x.ref = ref) → (0 ≤ agent ∧ agent < ss.length) → ∀ w' G', Hx w' G' hb ss words last (xs.filter fun y => !(ref == y.ref)) → Fr G w w' → (∀ b ∈ G', b ∈ G) → K 0 w') : C96 (some ⟨hb, 0, none⟩) agent ref w K := by
  obtain ⟨F, hm, s, mb, ab, wb, sb, g, l, ws, la, lc, clk2, clk, cs, h, rfl, e0, e1, e2, e3⟩ := h
  refine hfree_c h agent ref (fun hn => hno fun p => hn ⟨p.1, hx_in e1 p.2⟩) (fun c hc e ha a hx ex w' F' g' h' eg f' gr => ?_)
  obtain ⟨x, hxx, q1, q2, q3, q4⟩ := hx_of e1 hc
  have nd : (cs.map (·.id)).Nodup := by
    have q := map_fst Prod.fst h.J.rel
    dsimp only at q
    rw [q]; exact h.I.ids
  subst e
  refine hok ⟨x, hxx, q1⟩ ha w' (hb :: hm :: F') ⟨F', hm, s, mb, ab, wb, sb, g', _, ws, la, lc, clk2, clk, _, h', rfl, by omega, ?_, ?_, e3.sublist (List.Sublist.map _ List.filter_sublist)⟩ f' ?_
  · refine filter_two e1 ?_
    have q := map_fst (fun p : Int × Int × Int × Int => !(c.ref == p.1)) e1
    exact q
  · refine filter_two e2 ?_
    -- the same places
    apply List.ext_getElem?
    intro j
    rw [List.getElem?_map, List.getElem?_map]
    cases hj : xs[j]? with
    | none =>
      have : l[j]? = none := by
        have q := congrArg List.length e2
        simp only [List.length_map] at q
        rw [List.getElem?_eq_none_iff] at hj ⊢
        omega
      rw [this]; rfl
    | some y =>
      obtain ⟨c', a', r1, r2, r3, r4, r5, r6⟩ := hx_trip h e1 e2 hj
      rw [r2]
      simp only [xc4, hc4, Prod.mk.injEq] at r3
      simp only [Option.map_some]
      congr 2
      rw [Bool.eq_iff_iff]
      simp only [beq_iff_eq]
      constructor
      · intro e
        have : c' = c := map_inj_of_nodup (·.id) nd (List.mem_of_getElem? r1) hc (by omega)
        rw [← this]; omega
      · intro e
        have : c' = c := map_inj_of_nodup (·.ref) h.H.nd (List.mem_of_getElem? r1) hc (by omega)
        rw [r4, this]; omega
  · intro b hb2
    rcases List.mem_cons.1 hb2 with rfl | hb2
    · simp
    · rcases List.mem_cons.1 hb2 with rfl | hb2
      · simp
      · simp [gr b hb2]

theorem entry_k {P : Program} {sm : Sem Value} {w w' : World} {c : HC} {K : Int → Int → Int → Int → Int → World → Prop} (h : sm.run P w = .ok (.tuple #[.int .i64 (hent c).1, (hent c).2.1]) w') (hK : K c.ref c.kind c.cls c.n c.id w') :
    RunF P sm w [.leaf (.int .i64), .agg [.int .i64, .int .i64, .int .i64, .int .i64]] K := ⟨[.int .i64 c.ref, .int .i64 c.kind, .int .i64 c.cls, .int .i64 c.n, .int .i64 c.id], w', h, hK⟩

/-- All refs, rising. -/
theorem hrefs_c (h : HpAt w F hb hm s ab last room cs clk) (hn : cs.length ≤ 100000) (srt : (cs.map (·.ref)).Pairwise (· < ·)) {K : Option Addr → Nat → Nat → World → Prop}
    (hK : ∀ a c w', SI w' a c (cs.map (·.ref)) → (∀ S, Fr S w w') → (∀ b ∈ ablk a, w.heap.size ≤ b) → K a cs.length c w') : C95 (some ⟨hb, 0, none⟩) w K := by
  refine r_f95 _ _ _ ⟨_, h.hd.cell rfl, range_c (kt := 3) (et := 199) h.mi (by kernel_rfl) fun w2 R2 f2 _ => ?_⟩
  generalize hrr : w.heap.size = r at *
  have hle : ∀ done : List Ent, (∀ e ∈ done, e ∈ cs.map hent) → (done.map (·.2.2)).Nodup → done.length ≤ cs.length := fun done hs hd => by
    classical
    have rest : (done ++ (cs.map hent).filter (fun e => decide (e ∉ done))).Perm (cs.map hent) := by
      refine perm_of_mem ?_ (nodup_of_map (·.2.2) h.mi.born) fun e => ?_
      · rw [List.nodup_append]
        refine ⟨nodup_of_map _ hd, (nodup_of_map (·.2.2) h.mi.born).filter _, fun a ha b hb e => ?_⟩
        have := (List.mem_filter.1 hb).2
        simp at this
        exact this (e ▸ ha)
      · rw [List.mem_append, List.mem_filter]
        constructor
        · rintro (h | h)
          · exact hs e h
          · exact h.1
        · intro h
          by_cases hd : e ∈ done
          · exact .inl hd
          · exact .inr ⟨h, by simpa using hd⟩
    have := rest.length_eq
    simp at this
    omega
  refine ⟨fun a l c w' => ∃ done, l = done.length ∧ SI w' a c (done.map (·.1)) ∧ RangeAt w' r hm (cs.map hent) clk done ∧ (∀ b ∈ ablk a, r < b) ∧ ∀ S, Fr (r :: S) w w', fun a l c _ => cs.length - l, ⟨[], rfl, SI.nil _, R2, by simp [ablk], fun S => f2 _⟩, ?_⟩
  rintro - a l c w3 ⟨done, rfl, U3, R3, hB3, f3⟩
  rcases R3.next (P := Try.prog) 0 with ⟨hperm, hrun⟩ | ⟨e, he, hnd2, w4, hrun, R4, f4, hsz4, hent4⟩
  · refine ⟨false, [], w3, hrun, ifb_f ?_⟩
    have hl : done.length = cs.length := by simpa using hperm.length_eq
    have eu : (done.map (·.1)).length = done.length := by simp
    rw [← eu]
    refine sort_c U3 (by simp; omega) fun w4 U4 f4 => ?_
    have hp := List.Perm.map (·.1) hperm
    rw [List.map_map] at hp
    rw [sorted_eq hp srt] at U4
    have e5 : ((fun x : Ent => x.1) ∘ hent) = (·.ref) := rfl
    rw [eu, hl]
    refine hK a c w4 U4 (fun S => ?_) (fun b hb => by have := hB3 b hb; omega)
    have a1 : Fr S w w3 := (f3 S).mono (fun k hk => by
      rcases List.mem_cons.1 hk with rfl | hk
      · exact .inr (by omega)
      · exact .inl hk)
    exact a1.trans f4 (fun k hk => .inr (by have := hB3 k hk; omega))
  · obtain ⟨c2, hc2, rfl⟩ := List.mem_map.1 he
    have lr := R3.lt
    have U4 := U3.fr f4 (fun b hb hb2 => by simp at hb2; subst hb2; have := hB3 b hb; omega)
    refine ⟨true, _, w4, hrun, ifb_t (entry_k hent4 fun b5 w5 n5 => ?_)⟩
    have eu : done.length = (done.map (·.1)).length := by simp
    have hlen := hle _ R4.sub R4.nd
    simp at hlen
    rw [eu]
    refine app_int U4 n5 (by simp; omega) fun a' c' w6 U6 f6 g6 => ⟨⟨done ++ [hent c2], by simp, by rw [List.map_append]; exact U6, ?_, ?_, ?_⟩, by simp; omega⟩
    · exact R4.fr f6 (fun hb => by have := hB3 hm hb; have := heap_lt h.mi.heap; omega) (fun hb => by have := hB3 r hb; omega)
    · intro b hb
      rcases g6 b hb with q | q
      · exact hB3 b q
      · omega
    · intro S
      exact ((f3 S).trans f4 (fun k hk => by simp at hk; subst hk; exact .inl (by simp))).trans f6 (fun k hk => .inr (by have := hB3 k hk; omega))

theorem xrefs_c (h : Hx w G hb ss words last xs) (hn : xs.length ≤ 100000) {K : Option Addr → Nat → Nat → World → Prop}
    (hK : ∀ a c w', SI w' a c (xs.map (·.ref)) → (∀ S, Fr S w w') → (∀ b ∈ ablk a, w.heap.size ≤ b) → K a xs.length c w') : C95 (some ⟨hb, 0, none⟩) w K := by
  obtain ⟨F, hm, s, mb, ab, wb, sb, g, l, ws, la, lc, clk2, clk, cs, h, rfl, e0, e1, e2, e3⟩ := h
  have e4 : cs.map (·.ref) = xs.map (·.ref) := map_fst Prod.fst e1
  have e5 : cs.length = xs.length := by simpa using congrArg List.length e1
  rw [← e4, ← e5] at hK
  exact hrefs_c h.H (by omega) (by rw [e4]; exact e3) hK
end
end Go.Proofs.Ytfpghcdjfiggiaa.V
