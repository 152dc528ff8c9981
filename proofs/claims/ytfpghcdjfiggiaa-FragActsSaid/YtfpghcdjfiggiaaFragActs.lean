/- The law FragActs. No condition. -/
import Derived.Test.YtfpghcdjfiggiaaActs6b
namespace Go.Proofs.Ytfpghcdjfiggiaa.V
open Go Go.RowKit

theorem filter_at (p : Int → Bool) : ∀ (n : Nat) (f : Int), 0 ≤ f → f < n → p f = true → ((upTo f.toNat).filter p).length < ((upTo n).filter p).length ∧ ((upTo n).filter p).getD ((upTo f.toNat).filter p).length 0 = f
  | 0, f, h0, h1, _ => by omega
  | n + 1, f, h0, h1, hp => by
    rw [upTo_succ, List.filter_append]
    by_cases e : f = n
    · subst e
      simp only [Int.toNat_natCast]
      have : List.filter p [(n : Int)] = [(n : Int)] := by simp [hp]
      rw [this]
      simp [List.getD_eq_getElem?_getD]
    · obtain ⟨g1, g2⟩ := filter_at p n f h0 (by omega) hp
      rw [List.length_append]
      refine ⟨by omega, ?_⟩
      rw [List.getD_eq_getElem?_getD, List.getElem?_append_left g1, ← List.getD_eq_getElem?_getD]
      exact g2

theorem upTo_next {f : Int} (h0 : 0 ≤ f) : upTo (f + 1).toNat = upTo f.toNat ++ [f] := by
  have : (f + 1).toNat = f.toNat + 1 := by omega
  rw [this, upTo_succ]
  congr; omega

theorem rep_flat {α : Type} (E : Enc α) (n : Nat) (r : α) : (List.replicate n (E.f r)).flatten = (List.replicate n r).flatMap E.f := by
  induction n with
  | zero => rfl
  | succ n ih => simp [List.replicate_succ, ih]

section
variable {W w w' : World} {yb lb pb ab wb sb : Nat} {base count n : Int} {F : List Nat} {many : Int} {rs : List UsedR} {c : Nat} {free ws ss : List Int}

theorem FPlay.frS (h : FPlay W w yb lb pb ab wb sb base count n F many rs c free ws ss) {S : List Nat} (f : Fr S w w') (hS : ∀ k ∈ S, k ≠ yb ∧ k ≠ lb ∧ k ∉ F ∧ W.heap.size ≤ k) : FPlay W w' yb lb pb ab wb sb base count n F many rs c free ws ss :=
  ⟨h.hd.fr f (fun hm => (hS _ hm).1 rfl), h.rc.fr f (by intro k hk; simp [ablk] at hk; subst hk; exact fun hm => (hS _ hm).2.1 rfl), h.pool.frame f (fun k hk hm => (hS k hm).2.2.1 hk), h.len, h.is, h.many, h.s3, h.sb, h.n0, h.d, h.up, h.fr.trans f (fun k hk => .inr (hS k hk).2.2.2)⟩

theorem fragActs_c (base count : Int) {W : World} {a : Option Addr} {l : Nat} (c : Nat) {z : Nat → Nat → Int} (g : ArgS W.heap.size W a l 5 z) {K : Bool → World → Prop} (hK : ∀ w', Fr [] W w' → K true w') : C9 base count a l c W K := by
  obtain ⟨g1, g2⟩ := and_range 31 5 (by decide) (by decide) count
  obtain ⟨r1, r2⟩ := and_range 15 4 (by decide) (by decide) base
  refine r_f9 _ _ _ _ _ _ _ ⟨fit64 (by omega) (by omega), ?_⟩
  generalize bits .and .i64 count 31 = cn at *
  generalize bits .and .i64 base 15 = bs at *
  refine begun6_c bs (1 + cn) (by omega) (by omega) fun w1 F pb ab wb sb free ws P hfl hall f1 hF => ifb_nyes rfl ?_
  refine make_c 65 73 Try.t73 (.agg #[.bool false, .int .i64 0, .int .i64 0, .int .i64 0, .int .i64 0, .int .i64 0, .int .i64 0, .int .i64 0, .int .i64 0, .int .i64 0]) 10 (by kernel_rfl) (by kernel_rfl) rfl rfl rfl (by decide) (by decide) (by decide) (by omega) (by omega) _ fun lb w2 L f2 glb => fun yb w3 n3 => ?_
  have lowP := P.low
  have z1 := f1.size
  have z2 := (f2 []).size
  have gy := n3.ge
  have llb := L.low lb (by simp [ablk])
  have R : SR encU w2 (some ⟨lb, 0, none⟩) (1 + cn).toNat (List.replicate (1 + cn).toNat ⟨false, 0, fun _ => 0⟩) := by
    unfold SR
    rw [List.length_replicate, ← rep_flat]
    exact L
  have P0 : ∃ F many rs c free ws ss, FPlay W w3 yb lb pb ab wb sb bs (1 + cn) 0 F many rs c free ws ss := by
    refine ⟨F, 0, _, _, free, ws, [0, 0, 0], ⟨?_, R.fr0 (n3.fr []), (P.fr0 (f2 [])).fr0 (n3.fr []), by simp; omega, fun f h0 h1 => ⟨_, List.getElem?_replicate_of_lt (by omega), ?_, fun h => by cases h⟩, by omega, rfl, fun a => ?_, by omega, ?_, ⟨by omega, by omega, fun k hk => by have := hF k hk; omega⟩, (f1.more (f2 [])).more (n3.fr [])⟩⟩
    · simpa using n3.blk
    · rw [eq_comm, decide_eq_false_iff_not]
      have := (P.fr f).1 (hall f h0 h1)
      simp [this.2.2]
    · match a with
      | 0 => decide
      | 1 => decide
      | 2 => decide
      | a + 3 => simp
    · refine ⟨fun hm => by have := lowP yb hm; omega, fun hm => by have := lowP lb hm; omega, by omega⟩
  refine ⟨fun n w' => 0 ≤ n ∧ n ≤ 300 ∧ ∃ F many rs c free ws ss, FPlay W w' yb lb pb ab wb sb bs (1 + cn) n F many rs c free ws ss, fun n _ => (300 - n).toNat, ⟨by omega, by omega, P0⟩, ?_⟩
  clear P0 R L n3 f1 f2 P hF hall hfl
  rintro - n w4 ⟨hn0, hn1, F, many, rs, c4, free, ws, ss, P⟩
  have fin : C46 w4 fun b46 w47 => K b46 w47 := awake6_c fun w' f => hK w' (P.fr.more f)
  refine IfB.dec (fun hil => IfB.dec (fun hi2 => ?_) (fun _ => fin)) (fun _ => fin)
  refine (g.fr P.fr (by simp)).get hn0 hil fun p hp => ⟨⟨hn0, hil⟩, _, _, _, _, _, argCells5 hp, act6_c P _ _ _ _ _ hi2 fun w5 F many rs c free ws ss P5 => ifb_nyes rfl ?_⟩
  have lw := P5.low
  have hl := P5.len
  refine ⟨_, P5.hd.cell rfl, fusedl_c P5.pool fun a1 c1 w6 U1 f6 g6 => ?_⟩
  have P6 := P5.fr0 (f6 [])
  refine ⟨_, P6.hd.cell rfl, fusedl_c P6.pool fun a2 c2 w7 U2 f7 g7 => ?_⟩
  have P7 := P6.fr0 (f7 [])
  have U17 : SI w7 _ _ _ := U1.fr0 (f7 [])
  have lu1 := U1.low
  let p : Int → Bool := fun f => decide (colF ws bs f ≠ 0)
  have hu : usedL ws bs (1 + cn) = (upTo (1 + cn).toNat).filter p := rfl
  have hmem : ∀ f ∈ usedL ws bs (1 + cn), 0 ≤ f ∧ f < 1 + cn ∧ colF ws bs f ≠ 0 := fun f hf => by
    rw [hu, List.mem_filter] at hf
    have := mem_upTo.1 hf.1
    exact ⟨this.1, by omega, of_decide_eq_true hf.2⟩
  have hul : (usedL ws bs (1 + cn)).length ≤ 32 := by
    rw [hu]
    exact Nat.le_trans (List.length_filter_le _ _) (by rw [upTo_length]; omega)
  refine ⟨fun k f w' => 0 ≤ f ∧ f ≤ 1 + cn ∧ k = (((upTo f.toNat).filter p).length : Int) ∧ w' = w7, fun _ f _ => (1 + cn - f).toNat, ⟨by omega, by omega, by simp [upTo], rfl⟩, ?_⟩
  rintro - k f w8 ⟨hf0, hf1, rfl, rfl⟩
  have rd : ∀ (f : Int), 0 ≤ f → f < 1 + cn → ∀ {G : Addr → Prop}, (∀ p, w8.cell? (Addr.add (Addr.add p (Int.toNat f * 10)) 0) = some (.bool (decide (colF ws bs f ≠ 0))) → G p) → PtrOK (some ⟨lb, 0, none⟩) G := by
    intro f h0 h1 G hG
    refine P7.rc.get h0 (by omega) fun r p hr hc _ _ _ => hG p ?_
    obtain ⟨r', hr', his, _⟩ := P5.is f h0 h1
    have er : r = r' := Option.some.inj (hr.symm.trans hr')
    subst er
    rw [← his]
    exact hc 0 (by decide)
  refine IfB.dec (fun hlt => ⟨_, _, _, P7.hd.cell rfl, rd f hf0 hlt fun q hq => ⟨⟨hf0, by omega⟩, _, hq, ?_⟩⟩) (fun hge => ?_)
  · refine ifb_n (fun hp => ?_) (fun hp => ⟨fit64 (by omega) (by omega), ⟨by omega, by omega, ?_, rfl⟩, by dsimp only; omega⟩)
    · obtain ⟨q1, q2⟩ := filter_at p (1 + cn).toNat f hf0 (by omega) hp
      rw [← hu] at q1 q2
      refine IfB.no (by omega) (U17.get (by omega) (by omega) fun q hq => ⟨⟨by omega, by omega⟩, _, hq, IfB.nyes (by rw [Int.toNat_natCast]; exact q2) ⟨fit64 (by omega) (by omega), fit64 (by omega) (by omega), ⟨by omega, by omega, ?_, rfl⟩, by dsimp only; omega⟩⟩)
      rw [upTo_next hf0, List.filter_append]
      have : List.filter p [f] = [f] := by simp [p]; exact of_decide_eq_true hp
      rw [this]; simp
    · rw [upTo_next hf0, List.filter_append]
      have : List.filter p [f] = [] := by
        rw [List.filter_eq_nil_iff]
        intro x hx
        simp at hx; subst hx
        show ¬ (decide (colF ws bs x ≠ 0)) = true
        rw [hp]; simp
      rw [this]; simp
  · have hff : f = 1 + cn := by omega
    subst hff
    rw [← hu]
    refine IfB.nyes rfl (spoil_c U17 (fun x hx => by have := hmem x hx; omega) (by omega) fun w9 f9 => fun w10 d10 => IfB.nyes rfl ?_)
    have f10 : Fr (ablk a1) w8 w10 := f9.more (d10.fr _)
    have P10 := P7.frS f10 (fun k hk => by
      have h1 := g6 k hk
      have h2 := P5.fr.size
      exact ⟨by omega, by omega, fun hm => by have := lw.2.2 k hm; omega, by omega⟩)
    have U2' : SI w10 _ _ _ := U2.fr f10 (fun k hk hm => by have := g7 k hk; have := lu1 k hm; omega)
    have done : (0 ≤ n + 1 ∧ n + 1 ≤ 300 ∧ ∃ F many rs c free ws ss, FPlay W w10 yb lb pb ab wb sb bs (1 + cn) (n + 1) F many rs c free ws ss) ∧ (300 - (n + 1)).toNat < (300 - n).toNat := ⟨⟨by omega, by omega, _, _, _, _, _, _, _, P10⟩, by omega⟩
    refine IfB.dec (fun hpos => ?_) (fun _ => ⟨fit64 (by omega) (by omega), done⟩)
    have hm0 : (usedL ws bs (1 + cn)).getD (Int.toNat 0) 0 ∈ usedL ws bs (1 + cn) := by
      have hlt : Int.toNat 0 < (usedL ws bs (1 + cn)).length := by omega
      rw [List.getD_eq_getElem?_getD, List.getElem?_eq_getElem hlt]
      exact List.getElem_mem hlt
    have hv := hmem _ hm0
    refine U2'.get (by omega) hpos fun q hq => ⟨⟨by omega, hpos⟩, _, hq, IfB.no (by have := hv.1; omega) ⟨_, _, _, P10.hd.cell rfl, U2'.get (by omega) hpos fun q2 hq2 => ⟨⟨by omega, hpos⟩, _, hq2, ?_⟩⟩⟩
    refine P10.rc.get hv.1 (by have := hv.2.1; have := P10.len; omega) fun r p hr hc _ _ _ => ⟨⟨hv.1, by have := hv.2.1; omega⟩, r.is, hc 0 (by decide), ?_⟩
    obtain ⟨r', hr', his, _⟩ := P10.is _ hv.1 hv.2.1
    have er : r = r' := Option.some.inj (hr.symm.trans hr')
    subst er
    exact ifb_nyes (by rw [his]; exact decide_eq_true hv.2.2) ⟨fit64 (by omega) (by omega), done⟩
end

end Go.Proofs.Ytfpghcdjfiggiaa.V
