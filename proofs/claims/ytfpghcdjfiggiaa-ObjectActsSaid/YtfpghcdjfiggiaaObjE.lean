/- Objects over fragments: a new store, all refs, sizes; what the laws begin with. No condition. -/
import Derived.Test.YtfpghcdjfiggiaaObjD
import Derived.Test.YtfpghcdjfiggiaaGObjectL
namespace Go.Proofs.Ytfpghcdjfiggiaa.V
open Go Go.RowKit

/-- Blocks G are the call's own; all else is as it was. -/
structure Own (W w : World) (G : List Nat) : Prop where
  up : ∀ k ∈ G, W.heap.size ≤ k
  fr : Fr [] W w

section
variable {W w w' : World} {G G' : List Nat}
theorem Own.step (o : Own W w G) (f : Fr G w w') (g : Grw G G' w.heap.size) : Own W w' G' := ⟨g.up o.up o.fr.size, o.fr.trans f (fun k hk => .inr (o.up k hk))⟩
theorem Own.same (o : Own W w G) (f : Fr G w w') : Own W w' G := o.step f (fun _ h => .inl h)
theorem Own.still (o : Own W w G) (f : ∀ S, Fr S w w') : Own W w' G := o.same (f G)
end

theorem wu_pos8 (z : Int) : 0 ≤ IntKind.wrap .u64 z := by
  simp only [IntKind.wrap, IntKind.signed, IntKind.bits]
  simp
  omega
theorem w64_8 {z : Int} (h0 : -9223372036854775808 ≤ z) (h1 : z < 9223372036854775808) : IntKind.wrap .i64 z = z := by
  simp only [IntKind.wrap, IntKind.signed, IntKind.bits]
  simp
  omega

/-- A store of the law's own. -/
def Oq (W w : World) (G : List Nat) (s pb : Nat) (count : Int) (fr : Nat) (ss : List Int) (os : List Ob) (last : Int) : Prop :=
  ∃ om F ab wb sb free ws clk, Ox w F s om pb ab wb sb count free ws ss clk os last ∧ G = s :: om :: F ∧ free.length = fr ∧ Own W w G

section
variable {W w w' : World} {F G S : List Nat} {s om pb ab wb sb clk fr : Nat} {count last : Int} {free ws ss : List Int} {os : List Ob}

theorem Oq.own (h : Oq W w G s pb count fr ss os last) : Own W w G := by obtain ⟨_, _, _, _, _, _, _, _, _, _, _, o⟩ := h; exact o
theorem Oq.low (h : Oq W w G s pb count fr ss os last) : Low G w.heap.size := by obtain ⟨_, _, _, _, _, _, _, _, h, rfl, _, _⟩ := h; exact h.low
theorem Oq.inv (h : Oq W w G s pb count fr ss os last) : ∃ ws free, OInv ws 0 count free os last ∧ free.length = fr := by obtain ⟨_, _, _, _, _, free, ws, _, h, _, e, _⟩ := h; exact ⟨ws, free, h.I, e⟩
theorem Oq.frame (h : Oq W w G s pb count fr ss os last) (f : Fr S w w') (hS : ∀ k ∈ S, k ∉ G ∧ W.heap.size ≤ k) : Oq W w' G s pb count fr ss os last := by
  obtain ⟨om, F, ab, wb, sb, free, ws, clk, h, rfl, e, o⟩ := h
  exact ⟨om, F, ab, wb, sb, free, ws, clk, h.frame f (fun b hb hs => (hS b hs).1 hb), rfl, e, ⟨o.up, o.fr.trans f (fun k hk => .inr (hS k hk).2)⟩⟩
theorem Oq.still (h : Oq W w G s pb count fr ss os last) (f : ∀ S, Fr S w w') : Oq W w' G s pb count fr ss os last := h.frame (f []) (by simp)

theorem onew_c {F : List Nat} (P : Pool w F pb ab wb sb 0 count free ws ss) (hf : ∀ f, 0 ≤ f → f < count → f ∈ free) {K : Option Addr → Int → World → Prop}
    (hK : ∀ w' s om, Ox w' F s om pb ab wb sb count free ws ss 0 [] 0 → (∀ S, Fr S w w') → w.heap.size ≤ s → w.heap.size ≤ om → K (some ⟨s, 0, none⟩) 0 w') : C155 (some ⟨pb, 0, none⟩) w K := by
  refine r_f155 _ _ _ fun b1 w1 n1 b2 w2 n2 => ?_
  have f := fun S => (n1.fr S).more (n2.fr S)
  have g1 := n1.ge
  have g2 := n2.ge
  have z1 := (n1.fr []).size
  have hm := n1.mp
  have hmi : MI w1 b1 [] 0 := ⟨by unfold Mp at hm; simpa using hm, by simp, by simp, by simp⟩
  have hbl := heap_lt hmi.heap
  have lF := P.low
  refine hK w2 b2 b1 ⟨P.fr0 (f []), n2.blk, hmi.fr (n2.fr []) (by simp), ⟨by simp, Int.le_refl 0, by simp, by simp, by simp, by simp, by simp, by simp, fun g hg => ?_⟩, by omega, fun hb => by have := lF b2 hb; omega, fun hb => by have := lF b1 hb; omega⟩ f (by omega) g1
  exact absurd ((P.fr g).1 (hf g hg.1 hg.2.1)).2.2 hg.2.2

theorem begun8_c (count : Int) (hc : 1 ≤ count ∧ count ≤ 2000) {K : Option Addr → Option Addr → Option Addr → Bool → World → Prop}
    (hK : ∀ w' F s om pb ab wb sb free ws, Ox w' F s om pb ab wb sb count free ws [0, 0, 0] 0 [] 0 → (free.length : Int) = count → (∀ S, Fr S w w') → (∀ k ∈ s :: om :: F, w.heap.size ≤ k) → K (some ⟨s, 0, none⟩) (some ⟨pb, 0, none⟩) (some ⟨ab, 0, none⟩) true w') : C86 count w K := by
  refine r_f86 _ _ _ ?_
  unfold V_f86
  rw [w64_8 (z := 14 * count) (by omega) (by omega), w64_8 (z := 14 * count + 64) (by omega) (by omega)]
  refine arena_new_c _ 3 (fun h => ?_) (fun _ w1 ab wb sb A f1 l1 l2 l3 => ?_)
  · simp [newA] at h; omega
  refine fnew_c A (by simp; omega) 0 count (fun h => ?_) (fun _ w2 pb F free ws P h1 h2 _ _ f2 hF => ?_)
  · simp at h; omega
  have z1 := (f1 []).size
  have z2 := f2.size
  refine onew_c P h2 fun w3 s om H3 f3 g3 g4 => ifb_t (ifb_t (ifb_t (hK w3 F s om pb ab wb sb free ws H3 h1 (fun S => ((f1 S).trans f2 (by simp; exact .inr l2)).more (f3 S)) ?_)))
  intro k hk
  rcases List.mem_cons.1 hk with rfl | hk
  · omega
  · rcases List.mem_cons.1 hk with rfl | hk
    · omega
    · rcases hF k hk with q | q
      · simp at q; omega
      · omega

theorem qobegun {W : World} (count : Int) (hc : 1 ≤ count ∧ count ≤ 2000) (f0 : Fr [] W w) {K : Option Addr → Option Addr → Option Addr → Bool → World → Prop}
    (hK : ∀ w' G s pb ab, Oq W w' G s pb count count.toNat [0, 0, 0] [] 0 → K (some ⟨s, 0, none⟩) (some ⟨pb, 0, none⟩) (some ⟨ab, 0, none⟩) true w') : C86 count w K :=
  begun8_c count hc fun w' F s om pb ab wb sb free ws H hl f hG => hK w' _ s pb ab ⟨om, F, ab, wb, sb, free, ws, 0, H, rfl, by omega, ⟨fun k hk => by have := hG k hk; have := f0.size; omega, f0.more (f [])⟩⟩

theorem Oq.same (h : Oq W w G s pb count fr ss os last) {o o' : Ob} (h1 : o ∈ os) (h2 : o' ∈ os) (e : o.ref = o'.ref) : o = o' := by
  obtain ⟨ws, free, I, _⟩ := h.inv
  exact I.same h1 h2 e

theorem qomake (h : Oq W w G s pb count fr ss os last) (hl : last ≤ 1000000) {agent n : Int} (ha : 0 ≤ agent ∧ agent < ss.length) (hn : 0 ≤ n ∧ n ≤ 64) (hr : 1 + (n + 5) / 6 ≤ (fr : Int)) {K : Int → Int → World → Prop}
    (hok : ∀ w' fr' ss' st fs, Oq W w' G s pb count fr' ss' (os ++ [⟨last + 1, n, st, fs, List.replicate n.toNat 0⟩]) (last + 1) → fr' + fcnt n = fr → Tk 64 ss ss' → Fr G w w' → K (last + 1) 0 w') : C87 (some ⟨s, 0, none⟩) agent n w K := by
  obtain ⟨om, F, ab, wb, sb, free, ws, clk, h, rfl, e, o⟩ := h
  exact omake_c h hl agent n (fun hn2 => absurd ha hn2) (fun _ hn2 => absurd hn hn2) (fun _ _ hn2 => absurd hr (by omega)) fun _ _ _ w' l ws' ss' clk' fs h' hl' t' f' => hok w' l.length ss' clk fs ⟨om, F, ab, wb, sb, l, ws', clk', h', rfl, rfl, o.same f'⟩ (by omega) t' f'

theorem qoload (h : Oq W w G s pb count fr ss os last) {agent ref i : Int} (ha : 0 ≤ agent ∧ agent < ss.length) {o : Ob} (ho : o ∈ os) (e : o.ref = ref) (hi : 0 ≤ i ∧ i < o.n) {K : Int → Int → World → Prop}
    (hok : ∀ w' ss', Oq W w' G s pb count fr ss' os last → Tk (i / 7 + 1) ss ss' → Fr G w w' → K (o.vs.getD i.toNat 0) 0 w') : C89 (some ⟨s, 0, none⟩) agent ref i w K := by
  have hs := fun o' ho' e' => h.same (o := o') (o' := o) ho' ho e'
  obtain ⟨om, F, ab, wb, sb, free, ws, clk, h, rfl, e2, ow⟩ := h
  refine oload_c h agent ref i (fun hn => absurd ⟨ha, o, ho, e⟩ hn) (fun y hy e' _ hn => absurd hi (by rw [hs y hy (e'.trans e.symm)] at hn; exact hn)) (fun y hy e' _ _ _ w' ss' h' t' f' => ?_)
  rw [hs y hy (e'.trans e.symm)]
  have f2 : Fr (s :: om :: F) w w' := f'.mono fun k hk => .inl (by simp [hk])
  exact hok w' ss' ⟨om, F, ab, wb, sb, free, ws, clk, h', rfl, e2, ow.same f2⟩ t' f2

theorem qoput (h : Oq W w G s pb count fr ss os last) {agent ref i : Int} (v : Int) (ha : 0 ≤ agent ∧ agent < ss.length) {o : Ob} (ho : o ∈ os) (e : o.ref = ref) (hi : 0 ≤ i ∧ i < o.n) {K : Int → World → Prop}
    (hok : ∀ w' ss', Oq W w' G s pb count fr ss' (oput os ref i v) last → Tk (i / 7 + 1) ss ss' → Fr G w w' → K 0 w') : C88 (some ⟨s, 0, none⟩) agent ref i v w K := by
  have hs := fun o' ho' e' => h.same (o := o') (o' := o) ho' ho e'
  obtain ⟨om, F, ab, wb, sb, free, ws, clk, h, rfl, e2, ow⟩ := h
  refine oput_c h agent ref i v (fun hn => absurd ⟨ha, o, ho, e⟩ hn) (fun y hy e' _ hn => absurd hi (by rw [hs y hy (e'.trans e.symm)] at hn; exact hn)) (fun y hy e' _ _ _ w' ws' ss' h' t' f' => ?_)
  have f2 : Fr (s :: om :: F) w w' := f'.mono fun k hk => .inl (by simp [hk])
  exact hok w' ss' ⟨om, F, ab, wb, sb, free, ws', clk, h', rfl, e2, ow.same f2⟩ t' f2

theorem qofree (h : Oq W w G s pb count fr ss os last) {agent ref : Int} (ha : 0 ≤ agent ∧ agent < ss.length) {o : Ob} (ho : o ∈ os) (e : o.ref = ref) {K : Int → World → Prop}
    (hok : ∀ w' G' fr' ss', Oq W w' G' s pb count fr' ss' (os.filter fun y => !(ref == y.ref)) last → fr' = fr + fcnt o.n → Tk 64 ss ss' → Fr G w w' → Grw G G' w.heap.size → K 0 w') : C90 (some ⟨s, 0, none⟩) agent ref w K := by
  have hs := fun o' ho' e' => h.same (o := o') (o' := o) ho' ho e'
  obtain ⟨om, F, ab, wb, sb, free, ws, clk, h, rfl, e2, ow⟩ := h
  refine ofree_c h agent ref (fun hn => absurd ⟨ha, o, ho, e⟩ hn) (fun y hy e' _ w' F' free' ws' ss' h' hl' t' f' g' => ?_)
  have g2 : Grw (s :: om :: F) (s :: om :: F') w.heap.size := fun b hb => by
    rcases List.mem_cons.1 hb with rfl | hb
    · exact .inl (by simp)
    · rcases List.mem_cons.1 hb with rfl | hb
      · exact .inl (by simp)
      · exact (g' b hb).imp (fun q => by simp [q]) id
  exact hok w' _ free'.length ss' ⟨om, F', ab, wb, sb, free', ws', clk, h', rfl, rfl, ow.step f' g2⟩ (by rw [hl', hs y hy (e'.trans e.symm)]; omega) t' f' g2

theorem entry_o {P : Program} {sm : Sem Value} {w w' : World} {o : Ob} {K : Int → Int → Int → World → Prop} (h : sm.run P w = .ok (.tuple #[.int .i64 (oent o).1, (oent o).2.1]) w') (hK : K o.ref o.n (nx o.fs - 1) w') :
    RunF P sm w [.leaf (.int .i64), .agg [.int .i64, .int .i64]] K := ⟨[.int .i64 o.ref, .int .i64 o.n, .int .i64 (nx o.fs - 1)], w', h, hK⟩

/-- All refs, rising. -/
theorem orefs_c (h : Ox w F s om pb ab wb sb count free ws ss clk os last) (hn : os.length ≤ 100000) {K : Option Addr → Nat → Nat → World → Prop}
    (hK : ∀ a c w', SI w' a c (os.map (·.ref)) → (∀ S, Fr S w w') → (∀ b ∈ ablk a, w.heap.size ≤ b) → K a os.length c w') : C91 (some ⟨s, 0, none⟩) w K := by
  refine r_f91 _ _ _ ⟨_, h.hd.cell rfl, range_c (kt := 3) (et := 210) h.mi (by kernel_rfl) fun w2 R2 f2 _ => ?_⟩
  generalize hrr : w.heap.size = r at *
  have hle : ∀ done : List Ent, (∀ e ∈ done, e ∈ os.map oent) → (done.map (·.2.2)).Nodup → done.length ≤ os.length := fun done hs hd => by
    classical
    have rest : (done ++ (os.map oent).filter (fun e => decide (e ∉ done))).Perm (os.map oent) := by
      refine perm_of_mem ?_ (nodup_of_map (·.2.2) h.mi.born) fun e => ?_
      · rw [List.nodup_append]
        refine ⟨nodup_of_map _ hd, (nodup_of_map (·.2.2) h.mi.born).filter _, fun a ha b hb e => ?_⟩
        have := (List.mem_filter.1 hb).2
        simp at this
        exact this (e ▸ ha)
      · rw [List.mem_append, List.mem_filter]
        constructor
        · rintro (h | h)
          · exact hs e h
          · exact h.1
        · intro h
          by_cases hd : e ∈ done
          · exact .inl hd
          · exact .inr ⟨h, by simpa using hd⟩
    have := rest.length_eq
    simp at this
    omega
  refine ⟨fun a l c w' => ∃ done, l = done.length ∧ SI w' a c (done.map (·.1)) ∧ RangeAt w' r om (os.map oent) clk done ∧ (∀ b ∈ ablk a, r < b) ∧ ∀ S, Fr (r :: S) w w', fun a l c _ => os.length - l, ⟨[], rfl, SI.nil _, R2, by simp [ablk], fun S => f2 _⟩, ?_⟩
  rintro - a l c w3 ⟨done, rfl, U3, R3, hB3, f3⟩
  rcases R3.next (P := Try.prog) 0 with ⟨hperm, hrun⟩ | ⟨e, he, hnd2, w4, hrun, R4, f4, hsz4, hent4⟩
  · refine ⟨false, [], w3, hrun, ifb_f ?_⟩
    have hl : done.length = os.length := by simpa using hperm.length_eq
    have eu : (done.map (·.1)).length = done.length := by simp
    rw [← eu]
    refine sort_c U3 (by simp; omega) fun w4 U4 f4 => ?_
    have hp := List.Perm.map (·.1) hperm
    rw [List.map_map] at hp
    rw [sorted_eq hp h.I.srt] at U4
    rw [eu, hl]
    refine hK a c w4 U4 (fun S => ?_) (fun b hb => by have := hB3 b hb; omega)
    have a1 : Fr S w w3 := (f3 S).mono (fun k hk => by
      rcases List.mem_cons.1 hk with rfl | hk
      · exact .inr (by omega)
      · exact .inl hk)
    exact a1.trans f4 (fun k hk => .inr (by have := hB3 k hk; omega))
  · obtain ⟨c2, hc2, rfl⟩ := List.mem_map.1 he
    have lr := R3.lt
    have U4 := U3.fr f4 (fun b hb hb2 => by simp at hb2; subst hb2; have := hB3 b hb; omega)
    refine ⟨true, _, w4, hrun, ifb_t (entry_o hent4 fun b5 w5 n5 => ?_)⟩
    have eu : done.length = (done.map (·.1)).length := by simp
    have hlen := hle _ R4.sub R4.nd
    simp at hlen
    rw [eu]
    refine app_int U4 n5 (by simp; omega) fun a' c' w6 U6 f6 g6 => ⟨⟨done ++ [oent c2], by simp, by rw [List.map_append]; exact U6, ?_, ?_, ?_⟩, by simp; omega⟩
    · exact R4.fr f6 (fun hb => by have := hB3 om hb; have := heap_lt h.mi.heap; omega) (fun hb => by have := hB3 r hb; omega)
    · intro b hb
      rcases g6 b hb with q | q
      · exact hB3 b q
      · omega
    · intro S
      exact ((f3 S).trans f4 (fun k hk => by simp at hk; subst hk; exact .inl (by simp))).trans f6 (fun k hk => .inr (by have := hB3 k hk; omega))

theorem qorefs (h : Oq W w G s pb count fr ss os last) (hn : os.length ≤ 100000) {K : Option Addr → Nat → Nat → World → Prop}
    (hK : ∀ a c w', SI w' a c (os.map (·.ref)) → (∀ S, Fr S w w') → (∀ b ∈ ablk a, w.heap.size ≤ b) → K a os.length c w') : C91 (some ⟨s, 0, none⟩) w K := by
  obtain ⟨om, F, ab, wb, sb, free, ws, clk, h, _⟩ := h
  exact orefs_c h hn hK

/-- What is used. -/
theorem qoused (h : Oq W w G s pb count fr ss os last) {K : Option Addr → Nat → Nat → World → Prop} (hK : ∀ a (l c : Nat) w', (∀ S, Fr S w w') → (l : Int) = count - fr → K a l c w') : C50 (some ⟨pb, 0, none⟩) w K := by
  obtain ⟨om, F, ab, wb, sb, free, ws, clk, h, rfl, e, o⟩ := h
  exact fusedl_c h.P fun a c w' _ f' _ => hK a _ c w' f' (by rw [used_len h.P]; omega)

/-- How many fields an object has. -/
theorem osize_c (h : Ox w F s om pb ab wb sb count free ws ss clk os last) (ref : Int) {K : Int → Int → World → Prop} (hno : (∀ o ∈ os, o.ref ≠ ref) → ∀ w', (∀ S, Fr S w w') → K 0 803 w') (hok : ∀ o ∈ os, o.ref = ref → ∀ w', (∀ S, Fr S w w') → K o.n 0 w') : C163 (some ⟨s, 0, none⟩) ref w K := by
  refine r_f163 _ _ _ _ ⟨_, h.hd.cell rfl, h.look ref (fun o ho e => fun b1 w1 n1 => ⟨n1.blk.mayL (by simp), fun w2 s2 => ?_⟩) (fun hn => fun b1 w1 n1 => ⟨n1.blk.mayL (by simp), fun w2 s2 => ?_⟩)⟩
  · obtain ⟨X2, f2⟩ := newSet n1 s2 rfl
    exact ifb_nyes rfl ⟨_, X2.cell rfl, hok o ho e w2 f2⟩
  · obtain ⟨X2, f2⟩ := newSet n1 s2 rfl
    exact ifb_nno rfl (hno hn w2 f2)

theorem awake8_c {K : Bool → World → Prop} (hK : ∀ w', Fr [] w w' → K true w') : C85 w K := by
  refine r_f85 _ _ (qobegun 8 (by decide) (Fr.refl [] w) fun w1 G s pb ab Q1 => ifb_nyes rfl ?_)
  refine qomake Q1 (by decide) (by decide) (by decide) (by decide) fun w2 fr2 ss2 st fs Q2 e2 t2 _ => ?_
  rw [List.nil_append] at Q2
  have l2 : ss2.length = 3 := t2.1
  refine qoput Q2 5 (by rw [l2]; decide) (List.mem_singleton.2 rfl) rfl (by dsimp only; omega) fun w3 ss3 Q3 t3 _ => ?_
  have l3 : ss3.length = 3 := t3.1.trans l2
  have e3 : oput [⟨0 + 1, 10, st, fs, List.replicate (Int.toNat 10) 0⟩] (0 + 1) 9 5 = [⟨0 + 1, 10, st, fs, (List.replicate 10 0).set 9 5⟩] := rfl
  rw [e3] at Q3
  refine qoload Q3 (by rw [l3]; decide) (List.mem_singleton.2 rfl) rfl (by dsimp only; omega) fun w4 ss4 Q4 t4 _ => ?_
  have l4 : ss4.length = 3 := t4.1.trans l3
  have ev : ((List.replicate 10 (0 : Int)).set 9 5).getD (Int.toNat 9) 0 = 5 := rfl
  dsimp only
  rw [ev]
  obtain ⟨om, F, ab4, wb, sb, free, ws, clk, H4, rfl, _, O4⟩ := Q4
  refine oload_c H4 0 _ 10 (fun hn => absurd ⟨by rw [l4]; decide, _, List.mem_singleton.2 rfl, rfl⟩ hn) (fun o ho _ _ _ w5 f5 => ?_) (fun o ho _ _ _ hn => ?_)
  · refine omake_c (H4.fr0 f5) (by decide) 0 65 (fun hn => absurd (by rw [l4]; decide) hn) (fun _ _ w6 f6 => ?_) (fun _ hn => absurd hn (by decide)) (fun _ hn => absurd hn (by decide))
    refine r_f155z _ _ ?_
    unfold V_f155z
    refine ifb_t (IfB.yes (by decide) (ifb_t (ifb_t (ifb_t (ifb_t (ifb_t ?_))))))
    exact hK w6 ((O4.still f5).still f6).fr
  · simp only [List.mem_singleton] at ho
    subst ho
    dsimp only at hn
    omega
end
end Go.Proofs.Ytfpghcdjfiggiaa.V
