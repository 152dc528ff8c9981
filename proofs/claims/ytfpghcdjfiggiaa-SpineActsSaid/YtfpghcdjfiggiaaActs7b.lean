/- The law SpineActs: a new array, and the end of a cycle. No condition. -/
import Derived.Test.YtfpghcdjfiggiaaActs7
namespace Go.Proofs.Ytfpghcdjfiggiaa.V
open Go Go.RowKit

section
variable {W w w' : World} {F F' S : List Nat} {s ab y : Nat} {g g' : SG} {l l' : List Arr} {ss ss' : List Int} {aa : Option Addr} {ac : Nat} {rs : List PR} {beg n : Int} {und : Bool}

theorem appPR {P : Program} (hP : P = Try.prog) {a : Option Addr} {c : Nat} {w1 : World} {b : Nat} {r : PR} (h : SR encPR w a c rs) (n1 : NewAt w w1 b #[.int .i64 r.id, .slice r.wa r.ws.length r.wc, .bool r.gone, .int .i64 r.by_] 113) (h63 : rs.length + 1 ≤ 1048576) {K : Option Addr → Nat → Nat → World → Prop}
    (hK : ∀ a' c' w', SR encPR w' a' c' (rs ++ [r]) → Fr (ablk a) w w' → Grw (ablk a) (ablk a') w.heap.size → K a' (rs.length + 1) c' w') :
    RunF Try.prog (Builtin.append_ #[106, 106] 106 #[.slice a rs.length c, .slice (some ⟨b, 0, none⟩) 1 1]) w1 [.leaf .slice] K :=
  SR.append (P := Try.prog) (t := 106) (e := 113) (i := Try.t113) (z := .agg #[.int .i64 0, .slice none 0 0, .bool false, .int .i64 0]) (by kernel_rfl) (by kernel_rfl) rfl rfl rfl h n1 rfl (by simp [encPR, isCell]) h63 (by decide) 106 hK

def keepP (beg : Int) (r : PR) : Bool := !r.gone || decide (beg ≤ r.by_)

/-- A cycle is over. -/
theorem over174_c (h : Y17 W w F s ab y g l ss aa ac rs beg und) (nd : (rs.map (·.id)).Nodup) (hl : rs.length ≤ 1000) {K : World → Prop}
    (hK : ∀ w' aa' ac', Y17 W w' F s ab y g l ss aa' ac' (rs.filter (keepP beg)) beg false → K w') : C174 (some ⟨y, 0, none⟩) w K := by
  refine r_f174 _ _ _ ⟨h.Y.may (by simp), fun w1 s1 => ?_⟩
  have B1 := s1.blk h.Y
  have H1 := h.head (beg' := beg) (und' := false) (by simpa using B1) (s1.fr (by simp))
  have y1 := H1.Y.lt
  have lF := H1.lowF
  have lA := H1.R.low
  have lV := fun r (hr : r ∈ rs) => (H1.V r hr).low
  refine ⟨fun a4 l4 c4 i w' => 0 ≤ i ∧ i ≤ rs.length ∧ l4 = ((rs.take i.toNat).filter (keepP beg)).length ∧ SR encPR w' a4 c4 ((rs.take i.toNat).filter (keepP beg)) ∧ (∀ b ∈ ablk a4, w1.heap.size ≤ b) ∧ Fr [] w1 w' ∧ Y17 W w' F s ab y g l ss aa ac rs beg false, fun _ _ _ i _ => (rs.length - i).toNat,
    ⟨by decide, by omega, by simp, by simpa using SR.nil encPR w1, by simp [ablk], Fr.refl _ _, H1⟩, ?_⟩
  rintro - a4 l4 c4 i w2 ⟨hi0, hi1, rfl, R2, hB2, f2, H2⟩
  refine ⟨_, _, _, H2.Y.cell rfl, IfB.dec (fun hlt => fun w3 d3 => ?_) (fun hge => ?_)⟩
  · have H3 := H2.fr0 d3.fr
    have R3 : SR encPR w3 a4 c4 _ := R2.fr0 (d3.fr [])
    have f3 := f2.more (d3.fr [])
    refine ⟨_, _, _, H3.Y.cell rfl, H3.R.get hi0 hlt fun r p hr hc _ _ _ => ⟨⟨hi0, hlt⟩, _, hc 2 (by decide), ?_⟩⟩
    have hil := (List.getElem?_eq_some_iff.1 hr).1
    have he := (List.getElem?_eq_some_iff.1 hr).2
    have ei : (i + 1).toNat = i.toNat + 1 := by omega
    have etk : (rs.take (i + 1).toNat).filter (keepP beg) = (rs.take i.toNat).filter (keepP beg) ++ (if keepP beg r = true then [r] else []) := by
      rw [ei, List.take_succ_eq_append_getElem hil, List.filter_append, he]
      congr 1
      rw [List.filter_cons]
      split <;> simp_all
    have hfl : ((rs.take i.toNat).filter (keepP beg)).length + 1 ≤ 1048576 := by
      have h1 := List.length_filter_le (keepP beg) (rs.take i.toNat)
      have h2 := List.length_take_le i.toNat rs
      omega
    -- the record is kept
    have keep : keepP beg r = true → ∀ (w19 : World) (b18 : Nat), NewAt w3 w19 b18 #[.int .i64 r.id, .slice r.wa r.ws.length r.wc, .bool r.gone, .int .i64 r.by_] 113 →
        RunF Try.prog (Builtin.append_ #[106, 106] 106 #[.slice a4 ((rs.take i.toNat).filter (keepP beg)).length c4, .slice (some ⟨b18, 0, none⟩) 1 1]) w19 [.leaf .slice] fun (a20 : Option Addr) (l20 c20 : Nat) (w21 : World) =>
          Fit .i64 (i + 1) ∧ ((0 ≤ i + 1 ∧ i + 1 ≤ rs.length ∧ l20 = ((rs.take (i + 1).toNat).filter (keepP beg)).length ∧ SR encPR w21 a20 c20 ((rs.take (i + 1).toNat).filter (keepP beg)) ∧ (∀ b ∈ ablk a20, w1.heap.size ≤ b) ∧ Fr [] w1 w21 ∧ Y17 W w21 F s ab y g l ss aa ac rs beg false) ∧ (rs.length - (i + 1)).toNat < (rs.length - i).toNat) := by
      intro hk w19 b18 n18
      refine appPR rfl R3 n18 hfl fun a' c' w' R' f' gr' => ⟨fit64 (by omega) (by omega), ⟨by omega, by omega, ?_, ?_, gr'.up hB2 f3.size, f3.trans f' (fun k hk => .inr (hB2 k hk)), ?_⟩, by omega⟩
      · rw [etk, if_pos hk]; simp
      · rw [etk, if_pos hk]; exact R'
      · have hdis : ∀ {G : List Nat}, Low G w1.heap.size → Apart G (ablk a4) := fun hG b hb hb2 => by have := hG b hb; have := hB2 b hb2; omega
        obtain ⟨mb, wb, sb, ws, la, lc, clk, H, I⟩ := H3.S
        have hyn : y ∉ ablk a4 := fun hb => by have := hB2 y hb; omega
        refine ⟨⟨mb, wb, sb, ws, la, lc, clk, H.frame f' (hdis lF), I⟩, H3.Y.fr f' hyn, H3.R.fr f' (hdis lA), fun q hq => (H3.V q hq).fr f' (hdis (lV q hq)), H3.fw.trans f' (fun k hk => .inr ?_), H3.s3, H3.sep, H3.sv, H3.sw, H3.up⟩
        have h1 := hB2 k hk
        have h2 := H1.fw.size
        omega
    have skip : keepP beg r = false → Fit .i64 (i + 1) ∧ ((0 ≤ i + 1 ∧ i + 1 ≤ rs.length ∧ ((rs.take i.toNat).filter (keepP beg)).length = ((rs.take (i + 1).toNat).filter (keepP beg)).length ∧ SR encPR w3 a4 c4 ((rs.take (i + 1).toNat).filter (keepP beg)) ∧ (∀ b ∈ ablk a4, w1.heap.size ≤ b) ∧ Fr [] w1 w3 ∧ Y17 W w3 F s ab y g l ss aa ac rs beg false) ∧ (rs.length - (i + 1)).toNat < (rs.length - i).toNat) := fun hk => by
      rw [etk, hk, if_neg (by simp), List.append_nil]
      exact ⟨fit64 (by omega) (by omega), ⟨by omega, by omega, rfl, R3, hB2, f3, H3⟩, by omega⟩
    cases hg : r.gone with
    | false =>
      refine ifb_t ⟨_, _, _, H3.Y.cell rfl, H3.R.get hi0 hlt fun r2 p2 hr2 hc2 _ _ _ => ⟨⟨hi0, hlt⟩, _, _, _, _, _, _, cells_all (k := 4) rfl hc2, fun b18 w19 n18 => ?_⟩⟩
      rw [hr] at hr2
      cases hr2
      exact keep (by simp [keepP, hg]) w19 b18 n18
    | true =>
      refine ifb_f ⟨_, _, _, H3.Y.cell rfl, H3.R.get hi0 hlt fun r2 p2 hr2 hc2 _ _ _ => ⟨⟨hi0, hlt⟩, _, hc2 3 (by decide), _, H3.Y.cell rfl, ?_⟩⟩
      rw [hr] at hr2
      cases hr2
      refine IfB.dec (fun hb => ⟨_, _, _, H3.Y.cell rfl, H3.R.get hi0 hlt fun r2 p2 hr2 hc2 _ _ _ => ⟨⟨hi0, hlt⟩, _, _, _, _, _, _, cells_all (k := 4) rfl hc2, fun b18 w19 n18 => ?_⟩⟩) (fun hb => skip (by simp [keepP, hg, hb]))
      rw [hr] at hr2
      cases hr2
      exact keep (by simp [keepP, hb]) w19 b18 n18
  · have etk : rs.take i.toNat = rs := List.take_of_length_le (by omega)
    rw [etk] at R2 ⊢
    refine ⟨H2.Y.may (by simp), fun w3 s3 => hK w3 a4 c4 ?_⟩
    have B3 := s3.blk H2.Y
    have f3 : Fr [y] w2 w3 := s3.fr (by simp)
    obtain ⟨mb, wb, sb, ws, la, lc, clk, H, I⟩ := H2.S
    obtain ⟨s1', s2', s3'⟩ := H2.sep
    have hy : ∀ {G : List Nat}, y ∉ G → Apart G [y] := fun hG b hb hb2 => by simp at hb2; subst hb2; exact hG hb
    have ya : y ∉ ablk a4 := fun hb => by have := hB2 y hb; omega
    have sub : ∀ q ∈ rs.filter (keepP beg), q ∈ rs := fun q hq => (List.mem_filter.1 hq).1
    have z1 := H1.fw.size
    refine ⟨⟨mb, wb, sb, ws, la, lc, clk, H.frame f3 (hy s1'), I⟩, by simpa using B3, R2.fr f3 (hy ya), fun q hq => (H2.V q (sub q hq)).fr f3 (hy (H2.sv q (sub q hq)).2.1), H2.fw.trans f3 (by simp; exact H2.up.1), H2.s3, ⟨s1', ya, fun b hb hb2 => by have := hB2 b hb; have := lF b hb2; omega⟩,
      fun q hq => ⟨(H2.sv q (sub q hq)).1, (H2.sv q (sub q hq)).2.1, fun b hb hb2 => by have := lV q (sub q hq) b hb; have := hB2 b hb2; omega⟩, fun q hq p hp => H2.sw q (sub q hq) p (sub p hp), H2.up.1, fun b hb => by have := hB2 b hb; omega, fun q hq => H2.up.2.2.1 q (sub q hq), H2.up.2.2.2⟩

theorem B17.over (b : B17 g l ss rs beg n) (ha : g.act = true) : B17 { g with act := false, other := !g.other, owed := g.late, late := 0 } l ss (rs.filter (keepP beg)) beg n := by
  have sub : ∀ q ∈ rs.filter (keepP beg), q ∈ rs := fun q hq => (List.mem_filter.1 hq).1
  refine ⟨?_, ?_, (fun h => by cases h), fun r hr => b.by_ r (sub r hr), b.nd.sublist (List.Sublist.map _ List.filter_sublist), fun r hr => b.ids r (sub r hr), b.nn, b.tk⟩
  · rw [← b.rel, List.filter_filter]
    congr 1
    refine List.filter_congr fun r _ => ?_
    unfold keepP
    cases r.gone <;> simp
  · rw [gsum_filter, ← b.lt ha]
    refine gsum_congr rs fun r _ => ?_
    unfold keepP
    cases r.gone <;> simp

/-- A new array. -/
theorem make150_c (h : Y17 W w F s ab y g l ss aa ac rs beg g.act) (b : B17 g l ss rs beg n) (hn : n < 400) (hl : rs.length ≤ n) (xa ag xc xd v : Int) {K : Bool → World → Prop}
    (hK : ∀ w' F' g' l' ss' aa' ac' rs', Y17 W w' F' s ab y g' l' ss' aa' ac' rs' beg g'.act → B17 g' l' ss' rs' beg (n + 1) → rs'.length ≤ n + 1 → K true w') : C150 (some ⟨y, 0, none⟩) xa ag xc xd v w K := by
  have hnn := b.nn
  have more : B17 g l ss rs beg (n + 1) := ⟨b.rel, b.ow, b.lt, b.by_, b.nd, b.ids, by omega, fun a => by have := b.tk a; omega⟩
  refine r_f150 _ _ _ _ _ _ _ _ fun b1 w1 n1 => ?_
  have H1 := h.fr0 n1.fr
  have X1 := n1.blk
  have x1 := n1.ge
  have lF := h.lowF
  have lA := h.R.low
  have yl := h.Y.lt
  refine room78_c H1 b ?_
  refine ⟨fun id e w' => Blk w' b1 [.int .i64 xa, .int .i64 ag, .int .i64 xc, .int .i64 xd, .int .i64 v] ∧ ((Y17 W w' F s ab y g l ss aa ac rs beg g.act ∧ id = 0 ∧ ((e = 704 ∧ ¬ (0 ≤ ag ∧ ag < 3)) ∨ (e = 700 ∧ (0 ≤ ag ∧ ag < 3) ∧ ¬ (0 ≤ v ∧ v ≤ 1000)) ∨ (e = 702 ∧ (0 ≤ ag ∧ ag < 3) ∧ (0 ≤ v ∧ v ≤ 1000) ∧ g.half - g.owed - need l < v + 4))) ∨
      (id = g.last + 1 ∧ e = 0 ∧ (0 ≤ ag ∧ ag < 3) ∧ (0 ≤ v ∧ v ≤ 1000) ∧ ¬ g.half - g.owed - need l < v + 4 ∧ ∃ F' x ss', b1 ∉ F' ∧ x.id = g.last + 1 ∧ x.vs = List.replicate v.toNat 0 ∧ Y17 W w' F' s ab y { g with last := g.last + 1, top := g.top + (v + 4) } (l ++ [x]) ss' aa ac rs beg g.act ∧ Tk v ss ss')), fun w2 d2 => ?_, ?_⟩
  · have H2 := H1.fr0 d2.fr
    have X2 := X1.fr (d2.fr []) (by simp)
    obtain ⟨mb, wb, sb, ws, la, lc, clk, H, I⟩ := H2.S
    have s3 := H2.s3
    have b1F : b1 ∉ F := fun hb => by have := lF b1 hb; omega
    refine ⟨_, H2.Y.cell rfl, ag, X2.cell rfl, v, X2.cell rfl, spmake_c H I (by omega) ag v (fun hb => ⟨X2, .inl ⟨H2, rfl, .inl ⟨rfl, by omega⟩⟩⟩) (fun ha hb => ⟨X2, .inl ⟨H2, rfl, .inr (.inl ⟨rfl, by omega, hb⟩)⟩⟩)
      (fun ha hv hf w3 f3 => ⟨X2.fr (f3 []) (by simp), .inl ⟨H2.fr0 f3, rfl, .inr (.inr ⟨rfl, by omega, hv, hf⟩)⟩⟩) (fun ha hv hf w3 F3 x ws3 ss3 e1 e2 e3 H3 I3 f3 g3 t3 => ⟨X2.fr f3 b1F, .inr ⟨rfl, rfl, by omega, hv, hf, F3, x, ss3, fun hb => ?_, e1, e3, ?_, t3⟩⟩)⟩
    · have := X2.lt
      rcases g3 b1 hb with q | q
      · exact b1F q
      · omega
    · exact H2.stk ⟨mb, wb, sb, ws3, la, lc, _, H3, I3⟩ rfl (t3.1.trans s3) f3 g3
  rintro - id e w2 ⟨X2, hcase⟩
  rcases hcase with ⟨H2, rfl, hbad⟩ | ⟨rfl, rfl, ha, hv, hf, F2, x, ss2, b1F, e1, e3, H2, t2⟩
  · refine ⟨fun _ => False, ?_, fun _ _ h => h.elim⟩
    have fin := hK w2 F g l ss aa ac rs H2 more (by omega)
    rcases hbad with ⟨rfl, hb⟩ | ⟨rfl, hb1, hb⟩ | ⟨rfl, hb1, hb2, hb⟩
    · exact ⟨ag, X2.cell rfl, IfB.dec (fun _ => ifb_t fin) (fun h0 => ⟨ag, X2.cell rfl, IfB.yes (by omega) (ifb_t fin)⟩)⟩
    · exact ⟨ag, X2.cell rfl, IfB.no (by omega) ⟨ag, X2.cell rfl, IfB.no (by omega) ⟨v, X2.cell rfl, IfB.dec (fun _ => ifb_t fin) (fun h0 => ⟨v, X2.cell rfl, IfB.yes (by omega) (ifb_t fin)⟩)⟩⟩⟩
    · exact ⟨ag, X2.cell rfl, IfB.no (by omega) ⟨ag, X2.cell rfl, IfB.no (by omega) ⟨v, X2.cell rfl, IfB.no (by omega) ⟨v, X2.cell rfl, IfB.no (by omega) ⟨v, X2.cell rfl, fit64 (by omega) (by omega), IfB.yes hb (ifb_t fin)⟩⟩⟩⟩⟩
  refine ⟨fun w' => w' = w2, ⟨ag, X2.cell rfl, IfB.no (by omega) ⟨ag, X2.cell rfl, IfB.no (by omega) ⟨v, X2.cell rfl, IfB.no (by omega) ⟨v, X2.cell rfl, IfB.no (by omega) ⟨v, X2.cell rfl, fit64 (by omega) (by omega), IfB.no hf rfl⟩⟩⟩⟩⟩, ?_⟩
  rintro - w3 rfl
  have hl0 : 0 ≤ g.last := by obtain ⟨_, _, _, _, _, _, _, _, I⟩ := h.S; exact I.l0
  refine ⟨fun w' => w' = w3, ifb_nyes rfl (IfB.no (by omega) rfl), ?_⟩
  rintro - w4 rfl
  have hids := b.ids
  refine ⟨fun i w' => 0 ≤ i ∧ i ≤ rs.length ∧ w' = w4, fun i _ => (rs.length - i).toNat, ⟨by decide, by omega, rfl⟩, ?_⟩
  rintro - i w5 ⟨hi0, hi1, rfl⟩
  refine ⟨_, _, _, H2.Y.cell rfl, IfB.dec (fun hlt => ⟨_, _, _, H2.Y.cell rfl, ?_⟩) (fun hge => fun w6 d6 => ?_)⟩
  · refine H2.R.get hi0 hlt fun r p hr hc _ _ _ => ⟨⟨hi0, hlt⟩, _, hc 0 (by decide), ?_⟩
    have := hids r (List.mem_of_getElem? hr)
    exact IfB.no (by omega) ⟨fit64 (by omega) (by omega), ⟨by omega, by omega, rfl⟩, by dsimp only; omega⟩
  · have H6 := H2.fr0 d6.fr
    have X6 := X2.fr (d6.fr []) (by simp)
    -- the record of the new array
    have last : ∀ (w7 : World) (vb : Nat), Y17 W w7 F2 s ab y { g with last := g.last + 1, top := g.top + (v + 4) } (l ++ [x]) ss2 aa ac rs beg g.act → SI w7 (some ⟨vb, 0, none⟩) v.toNat (List.replicate v.toNat 0) → w6.heap.size ≤ vb → ∀ (w8 : World) (b8 : Nat), NewAt w7 w8 b8 #[.int .i64 (g.last + 1), .slice (some ⟨vb, 0, none⟩) v.toNat v.toNat, .bool false, .int .i64 0] 113 →
        RunF Try.prog (Builtin.append_ #[106, 106] 106 #[.slice aa rs.length ac, .slice (some ⟨b8, 0, none⟩) 1 1]) w8 [.leaf .slice] fun (a40 : Option Addr) (l40 c40 : Nat) (w41 : World) =>
          May w41 ⟨y, 3, none⟩ ∧ ∀ w42 : World, SetC w41 w42 ⟨y, 3, none⟩ (.slice a40 l40 c40) → K true w42 := by
      intro w7 vb H7 V7 hvb w8 b8 n8
      have n8' : NewAt w7 w8 b8 #[.int .i64 (⟨g.last + 1, some ⟨vb, 0, none⟩, v.toNat, false, 0, List.replicate v.toNat 0⟩ : PR).id, .slice (some ⟨vb, 0, none⟩) (List.replicate v.toNat (0 : Int)).length v.toNat, .bool false, .int .i64 0] 113 := by
        rw [List.length_replicate]; exact n8
      refine appPR rfl (r := ⟨g.last + 1, some ⟨vb, 0, none⟩, v.toNat, false, 0, List.replicate v.toNat 0⟩) H7.R n8' (by omega) fun a9 c9 w9 R9 f9 gr9 => ?_
      obtain ⟨mb, wb, sb, ws, la, lc, clk, H, I⟩ := H7.S
      obtain ⟨q1, q2, q3⟩ := H7.sep
      obtain ⟨u1, u2, u3, u4⟩ := H7.up
      have lF7 := H7.lowF
      have Y9 := H7.Y.fr f9 q2
      refine ⟨Y9.may (by simp), fun w10 s10 => ?_⟩
      have B10 := s10.blk Y9
      have f10 : Fr [y] w9 w10 := s10.fr (by simp)
      have hy : ∀ {G : List Nat}, y ∉ G → Apart G [y] := fun hG b hb hb2 => by simp at hb2; subst hb2; exact hG hb
      have z6 := H6.fw.size
      have lF6 := H6.lowF
      have lA6 := H6.R.low
      have y6 := H6.Y.lt
      have vbF : vb ∉ F2 := fun hb => by have := lF6 vb hb; omega
      have vba : vb ∉ ablk aa := fun hb => by have := lA6 vb hb; omega
      have ya9 : y ∉ ablk a9 := fun hb => by
        rcases gr9 y hb with p | p
        · exact q2 p
        · have := H7.Y.lt; omega
      have vba9 : vb ∉ ablk a9 := fun hb => by
        rcases gr9 vb hb with p | p
        · exact vba p
        · have := V7.low vb (by simp [ablk]); omega
      refine hK w10 F2 { g with last := g.last + 1, top := g.top + (v + 4) } (l ++ [x]) ss2 a9 c9 (rs ++ [⟨g.last + 1, some ⟨vb, 0, none⟩, v.toNat, false, 0, List.replicate v.toNat 0⟩]) ?_ ?_ (by simp; omega)
      · refine ⟨⟨mb, wb, sb, ws, la, lc, clk, (H.frame f9 q3.symm).frame f10 (hy q1), I⟩, by simpa using B10, R9.fr f10 (hy ya9), fun r hr => ?_, (H7.fw.trans f9 (fun k hk => .inr (u2 k hk))).trans f10 (by simp; exact u1), H7.s3, ⟨q1, ya9, q3.grow lF7 gr9⟩, fun r hr => ?_, fun r hr p hp hne => ?_, u1, gr9.up u2 H7.fw.size, fun r hr => ?_, u4⟩
        · rcases List.mem_append.1 hr with hr | hr
          · exact ((H7.V r hr).fr f9 (H7.sv r hr).2.2).fr f10 (hy (H7.sv r hr).2.1)
          · simp at hr; subst hr
            exact (V7.fr f9 (by simp [Apart, ablk]; exact vba)).fr f10 (by simp [Apart, ablk]; omega)
        · rcases List.mem_append.1 hr with hr | hr
          · exact ⟨(H7.sv r hr).1, (H7.sv r hr).2.1, (H7.sv r hr).2.2.growr (H7.V r hr).low gr9⟩
          · simp at hr; subst hr
            exact ⟨by simp [Apart, ablk]; exact vbF, by simp [ablk]; omega, by simp [Apart, ablk]; exact vba9⟩
        · have other : ∀ q ∈ rs, vb ∉ ablk q.wa := fun q hq hb => by have := (H6.V q hq).low vb hb; omega
          rcases List.mem_append.1 hr with hr | hr
          · rcases List.mem_append.1 hp with hp | hp
            · exact H7.sw r hr p hp hne
            · simp at hp; subst hp
              intro k hk hk2
              have e5 : k = vb := by simpa [ablk] using hk2
              rw [e5] at hk
              exact other r hr hk
          · rcases List.mem_append.1 hp with hp | hp
            · simp at hr; subst hr
              intro k hk hk2
              have e5 : k = vb := by simpa [ablk] using hk
              rw [e5] at hk2
              exact other p hp hk2
            · simp at hr hp; subst hr; subst hp; exact absurd rfl hne
        · rcases List.mem_append.1 hr with hr | hr
          · exact u3 r hr
          · simp at hr; subst hr
            simp [ablk]; omega
      · refine ⟨?_, ?_, fun ha => ?_, fun r hr => ?_, ?_, fun r hr => ?_, by dsimp only; omega, fun a => ?_⟩
        · rw [List.filter_append, List.map_append, b.rel]
          simp [vw, e1, e3]
        · rw [gsum_app, b.ow]; simp [gsum]
        · rw [gsum_app, b.lt ha]; simp [gsum]
        · rcases List.mem_append.1 hr with hr | hr
          · exact b.by_ r hr
          · simp at hr; subst hr; show (0 : Int) ≤ beg; omega
        · rw [List.map_append, List.nodup_append]
          refine ⟨b.nd, by simp, fun k hk m hm e => ?_⟩
          simp at hm
          obtain ⟨r, hr, e2⟩ := List.mem_map.1 hk
          have := hids r hr
          omega
        · rcases List.mem_append.1 hr with hr | hr
          · have := hids r hr; dsimp only; omega
          · simp at hr; subst hr; dsimp only; omega
        · have h1 := t2.2 (1100 * n) (by omega) b.tk a
          have h2 := b.tk a
          omega
    refine ⟨v, X6.cell rfl, ⟨_, _, _, H6.Y.cell rfl, mk_int hv.1 (by omega) fun vb w7 V7 f7 hvb => fun b8 w8 n8 => last w7 vb (H6.fr0 f7) V7 hvb w8 b8 n8⟩, mk_int hv.1 (by omega) fun vb w7 V7 f7 hvb => ⟨⟨_, _, _, (H6.fr0 f7).Y.cell rfl, fun b8 w8 n8 => last w7 vb (H6.fr0 f7) V7 hvb w8 b8 n8⟩, fun b8 w8 n8 => ⟨_, _, _, ((H6.fr0 f7).fr0 n8.fr).Y.cell rfl, last w7 vb (H6.fr0 f7) V7 hvb w8 b8 n8⟩⟩⟩
end
end Go.Proofs.Ytfpghcdjfiggiaa.V
