/- The laws of the heap: the calls they make; HeapSteps, HeapKinds. No condition. -/
import Derived.Test.YtfpghcdjfiggiaaHeapG
import Derived.Test.YtfpghcdjfiggiaaCellEq
import Derived.Test.YtfpghcdjfiggiaaGHeapL
namespace Go.Proofs.Ytfpghcdjfiggiaa.V
open Go Go.RowKit

/-- Blocks G are the call's own; all else is as it was. -/
structure Own (W w : World) (G : List Nat) : Prop where
  up : ∀ k ∈ G, W.heap.size ≤ k
  fr : Fr [] W w

section
variable {W w w' : World} {G G' : List Nat}
theorem Own.step (o : Own W w G) (f : Fr G w w') (g : Grw G G' w.heap.size) : Own W w' G' := ⟨g.up o.up o.fr.size, o.fr.trans f (fun k hk => .inr (o.up k hk))⟩
theorem Own.same (o : Own W w G) (f : Fr G w w') : Own W w' G := o.step f (fun _ h => .inl h)
theorem Own.still (o : Own W w G) (f : ∀ S, Fr S w w') : Own W w' G := o.same (f G)
theorem Own.less (o : Own W w G) (f : Fr G w w') (g : ∀ b ∈ G', b ∈ G) : Own W w' G' := o.step f (fun b hb => .inl (g b hb))
end

section
variable {W w w' : World} {G : List Nat} {hb : Nat} {words last : Int} {ss : List Int} {xs : List XC}

theorem formE_of {kind cls n : Int} (h : (kind = 1 ∧ 0 ≤ n ∧ n ≤ 64 ∨ (kind = 2 ∨ kind = 3) ∧ 0 ≤ n ∧ n ≤ 1000 ∨ kind = 4 ∧ n = 1) ∧ 0 ≤ cls) : formE kind cls n = 0 := by
  unfold formE
  by_cases h1 : kind = 1
  · rw [if_pos h1, if_pos (by omega)]
  · rw [if_neg h1]
    by_cases h2 : kind = 2 ∨ kind = 3
    · rw [if_pos h2, if_pos (by omega)]
    · rw [if_neg h2, if_pos (by omega), if_pos (by omega)]

/-- A cell that may be is made. -/
theorem qxmake (h : Hx w G hb ss words last xs) (o : Own W w G) (hl : last ≤ 100000) {agent kind cls n : Int} (ha : 0 ≤ agent ∧ agent < ss.length) (hf : (kind = 1 ∧ 0 ≤ n ∧ n ≤ 64 ∨ (kind = 2 ∨ kind = 3) ∧ 0 ≤ n ∧ n ≤ 1000 ∨ kind = 4 ∧ n = 1) ∧ 0 ≤ cls)
    (hr : n + 16 ≤ (words + 3) / 4 - xsum xs) {K : Int → Int → World → Prop}
    (hok : ∀ w' G' ss', Hx w' G' hb ss' words (last + 1) (xs ++ [⟨last + 1, kind, cls, n, List.replicate n.toNat 0⟩]) → Own W w' G' → Fr G w w' → Grw G G' w.heap.size → ss'.length = ss.length → Tk 100000 ss ss' → K (last + 1) 0 w') :
    C81 (some ⟨hb, 0, none⟩) agent kind cls n w K :=
  xmake_c h hl agent kind cls n (fun hn => absurd ha hn) (fun _ hn => absurd (formE_of hf) hn) (fun _ _ hn => absurd hr (by omega)) fun _ _ _ w' G' ss' h' f' g' t' => hok w' G' ss' h' (o.step f' g') f' g' t'.1 t'

theorem qxload (h : Hx w G hb ss words last xs) (o : Own W w G) {agent ref i : Int} (ha : 0 ≤ agent ∧ agent < ss.length) {x : XC} (hx : x ∈ xs) (e : x.ref = ref) (hi : 0 ≤ i ∧ i < x.n) {K : Int → Int → World → Prop}
    (hok : ∀ w', Hx w' G hb (tickA ss agent) words last xs → Own W w' G → Fr G w w' → K (x.vs.getD i.toNat 0) 0 w') : C84 (some ⟨hb, 0, none⟩) agent ref i w K :=
  xload_c h agent ref i (fun hn => absurd ⟨ha, x, hx, e⟩ hn) (fun y hy e' _ hn => absurd hi (by rw [h.same hy hx (e'.trans e.symm)] at hn; exact hn))
    (fun y hy e' _ _ _ w' h' f' => by rw [h.same hy hx (e'.trans e.symm)]; exact hok w' h' (o.same f') f')

theorem qxput (h : Hx w G hb ss words last xs) (o : Own W w G) {agent ref i : Int} (v : Int) (ha : 0 ≤ agent ∧ agent < ss.length) {x : XC} (hx : x ∈ xs) (e : x.ref = ref) (hi : 0 ≤ i ∧ i < x.n) {K : Int → World → Prop}
    (hok : ∀ w' ss', Hx w' G hb ss' words last (xput xs ref i v) → Own W w' G → Fr G w w' → Tk 2 ss ss' → K 0 w') : C83 (some ⟨hb, 0, none⟩) agent ref i v w K :=
  xput_c h agent ref i v (fun hn => absurd ⟨ha, x, hx, e⟩ hn) (fun y hy e' _ hn => absurd hi (by rw [h.same hy hx (e'.trans e.symm)] at hn; exact hn))
    (fun y hy e' _ _ _ w' ss' h' t' f' => hok w' ss' h' (o.same f') f' t')

/-- A compared cell, in a new block. -/
theorem told_c {a b c : Int} {b1 : Nat} {w1 : World} (n1 : NewAt w w1 b1 #[.int .i64 0, .int .i64 0, .int .i64 0] 133) {F : World → Prop} (hF : ∀ w2, Blk w2 b1 [.int .i64 a, .int .i64 b, .int .i64 c] → (∀ S, Fr S w w2) → w.heap.size ≤ b1 → F w2) :
    MayL w1 ⟨b1, 0, none⟩ 3 ∧ ∀ w2 : World, SetL w1 w2 ⟨b1, 0, none⟩ [.int .i64 a, .int .i64 b, .int .i64 c] → F w2 :=
  ⟨n1.blk.mayL (by simp), fun w2 s2 => by obtain ⟨X, f⟩ := newSet n1 s2 rfl; exact hF w2 X f n1.ge⟩

theorem awake9_c {K : Bool → World → Prop} (hK : ∀ w', Fr [] w w' → K true w') : C79 w K := by
  refine r_f79 _ _ (xnew_c 2000 2 (fun h => absurd (by decide) h) (fun _ w1 G1 hb H1 f1 hG => ?_))
  have O1 : Own w w1 G1 := ⟨hG, f1 []⟩
  refine qxmake H1 O1 (by decide) (by decide) (by decide) (by decide) fun w2 G2 ss2 H2 O2 _ _ e2 _ => ?_
  refine qxput H2 O2 (-7) (by rw [e2]; decide) (x := ⟨1, 2, 3, 20, List.replicate 20 0⟩) (by simp) (by decide) (by decide) fun w3 ss3 H3 O3 _ t3 => ?_
  have e3 : xput ([] ++ [⟨0 + 1, 2, 3, 20, List.replicate (Int.toNat 20) 0⟩]) (0 + 1) 19 (-7) = [⟨1, 2, 3, 20, (List.replicate 20 0).set 19 (-7)⟩] := rfl
  rw [e3] at H3
  refine qxload H3 O3 (by rw [t3.1, e2]; decide) (x := ⟨1, 2, 3, 20, (List.replicate 20 0).set 19 (-7)⟩) (by simp) (by decide) (by decide) fun w4 H4 O4 _ => ?_
  refine xcell_c H4 _ (fun hn => absurd rfl (hn _ (List.mem_singleton.2 rfl))) (fun x hx _ w5 f5 => fun b6 w6 n6 => told_c n6 fun w7 X7 f7 g7 => ?_)
  simp only [List.mem_singleton] at hx
  subst hx
  have H7 := (H4.fr0 f5).fr0 f7
  have O7 := (O4.still f5).still f7
  refine xmake_c H7 (by decide) 0 4 0 2 (fun hn => absurd (by simp [tickA, t3.1, e2]) hn) (fun _ _ w8 f8 => ?_) (fun _ hn => absurd hn (by decide)) (fun _ hn => absurd hn (by decide))
  have ef : formE 4 0 2 = 900 := by decide
  rw [ef]
  refine xnew_c 511 1 (fun _ => ?_) (fun h => absurd h (by decide))
  refine ifb_t (ifb_t (ifb_t (ifb_t (ifb_t (ifb_t ⟨_, _, _, (X7.fr (f8 []) (by simp)).cells, cellEq_c _ _ _ _ _ _ _ _ (ifb_t (ifb_t (ifb_t ?_)))⟩)))))
  exact hK w8 ((O7.still f8).fr)

theorem heapSteps_c (size at_ : Int) {W : World} {K : Bool → World → Prop} (hK : ∀ w', Fr [] W w' → K true w') : C18 size at_ W K := by
  refine r_f18 _ _ _ _ ?_
  unfold V_f18
  have wpos : ∀ z : Int, 0 ≤ IntKind.wrap .u64 z := fun z => by
    simp only [IntKind.wrap, IntKind.signed, IntKind.bits]
    simp
    omega
  have w64 : ∀ {z : Int}, 0 ≤ z → z < 9223372036854775808 → IntKind.wrap .i64 z = z := fun {z} h0 h1 => by
    have := wrap_small (n := z.toNat) (by omega)
    rwa [Int.toNat_of_nonneg h0] at this
  obtain ⟨k, hk, k1, k2⟩ : ∃ k, IntKind.wrap .i64 (1 + IntKind.wrap .i64 (Int.tmod (IntKind.wrap .u64 size) 1000)) = k ∧ 1 ≤ k ∧ k ≤ 1000 := by
    have h1 := wpos size
    have h2 : Int.tmod (IntKind.wrap .u64 size) 1000 = (IntKind.wrap .u64 size) % 1000 := Int.tmod_eq_emod_of_nonneg h1
    rw [h2, w64 (z := IntKind.wrap .u64 size % 1000) (by omega) (by omega), w64 (by omega) (by omega)]
    exact ⟨_, rfl, by omega, by omega⟩
  rw [hk]
  have hku : IntKind.wrap .u64 k = k := by
    simp only [IntKind.wrap, IntKind.signed, IntKind.bits]
    simp
    omega
  rw [hku]
  obtain ⟨i, hi, i1, i2⟩ : ∃ i, IntKind.wrap .i64 (Int.tmod (IntKind.wrap .u64 at_) k) = i ∧ 0 ≤ i ∧ i < k := by
    have h1 := wpos at_
    have h2 : Int.tmod (IntKind.wrap .u64 at_) k = (IntKind.wrap .u64 at_) % k := Int.tmod_eq_emod_of_nonneg h1
    have h3 := Int.emod_nonneg (IntKind.wrap .u64 at_) (b := k) (by omega)
    have h4 := Int.emod_lt_of_pos (IntKind.wrap .u64 at_) (b := k) (by omega)
    rw [h2, w64 h3 (by omega)]
    exact ⟨_, rfl, h3, h4⟩
  rw [hi]
  refine awake9_c fun w0 f0 => ifb_nyes rfl (xnew_c 16384 1 (fun h => absurd (by decide) h) (fun _ w1 G1 hb H1 f1 hG => ⟨by decide, ?_⟩))
  have z0 := f0.size
  have O1 : Own W w1 G1 := ⟨fun b hb => by have := hG b hb; omega, f0.more (f1 [])⟩
  refine qxmake H1 O1 (by decide) (by decide) ⟨.inr (.inl ⟨.inl rfl, by omega, by omega⟩), by decide⟩ (by simp [xsum]; omega) fun w2 G2 ss2 H2 O2 _ _ e2 t2 => ?_
  have e2' : ss2.length = 1 := by rw [e2]; rfl
  refine ⟨by omega, xsteps_c H2 0 ?_⟩
  rw [if_pos (by rw [e2']; decide)]
  have tz : ∀ a : Nat, ([0] : List Int).getD a 0 = 0 := fun a => by
    match a with
    | 0 => rfl
    | a + 1 => simp
  have s2 : 0 ≤ ss2.getD 0 0 ∧ ss2.getD 0 0 ≤ 100000 := by
    have := t2.2 0 (by decide) (fun a => by show 0 ≤ ([0] : List Int).getD a 0 ∧ ([0] : List Int).getD a 0 ≤ 0; rw [tz]; decide) 0
    have h0 : (List.replicate (Int.toNat 1) (0 : Int)).getD 0 0 = 0 := rfl
    omega
  refine qxput H2 O2 77 (by rw [e2']; decide) (x := ⟨0 + 1, 2, 0, k, List.replicate k.toNat 0⟩) (by simp) rfl ⟨i1, i2⟩ fun w3 ss3 H3 O3 _ t3 => ?_
  have e3 : ss3.length = 1 := t3.1.trans e2'
  have bnd : ∀ ss : List Int, ss.length = 1 → 0 ≤ ss.getD 0 0 → ss.getD 0 0 ≤ 100005 → ∀ a : Nat, 0 ≤ ss.getD a 0 ∧ ss.getD a 0 ≤ 100005 := fun ss hl h0 h1 a => by
    match a with
    | 0 => exact ⟨h0, h1⟩
    | a + 1 => rw [List.getD_eq_getElem?_getD, List.getElem?_eq_none (by omega)]; simp
  have s3 := t3.2 100005 (by decide) (bnd ss2 e2' s2.1 (by omega)) 0
  have e4 : xput ([] ++ [⟨0 + 1, 2, 0, k, List.replicate k.toNat 0⟩]) (0 + 1) i 77 = [⟨0 + 1, 2, 0, k, (List.replicate k.toNat 0).set i.toNat 77⟩] := rfl
  rw [e4] at H3
  refine xsteps_c H3 0 ?_
  rw [if_pos (by rw [e3]; decide)]
  refine qxload H3 O3 (by rw [e3]; decide) (x := ⟨0 + 1, 2, 0, k, (List.replicate k.toNat 0).set i.toNat 77⟩) (by simp) rfl ⟨i1, i2⟩ fun w4 H4 O4 _ => ?_
  have ev : ((List.replicate k.toNat (0 : Int)).set i.toNat 77).getD i.toNat 0 = 77 := by
    rw [getI_set' _ _ _ _ (by simp; omega), if_pos rfl]
  dsimp only
  rw [ev]
  have t4 := Tk.tick ss3 (ag := 0) (by decide) (by rw [e3]; decide)
  have s4 := t4.2 100008 (by decide) (fun a => by have := bnd ss3 e3 (by omega) (by omega) a; omega) 0
  have i0 : Int.toNat 0 = 0 := rfl
  rw [i0]
  refine ifb_t (ifb_t (ifb_t (ifb_t (ifb_t (IfB.yes (by rw [w64 (by omega) (by omega)]; omega) (xsteps_c H4 0 ?_))))))
  rw [if_pos (by rw [t4.1, e3]; decide)]
  refine IfB.yes (by rw [i0, w64 (by omega) (by omega)]; omega) (xsteps_c H4 1 ?_)
  rw [if_neg (by rw [t4.1, e3]; decide)]
  exact hK w4 O4.fr

theorem heapKinds_c (kind cls size : Int) {W : World} {K : Bool → World → Prop} (hK : ∀ w', Fr [] W w' → K true w') : C21 kind cls size W K := by
  refine r_f21 _ _ _ _ _ ?_
  unfold V_f21
  generalize hkk : Int.tmod kind 7 = k
  obtain ⟨s, hs, s1, s2⟩ : ∃ s, Int.tmod size 1100 = s ∧ -1100 < s ∧ s < 1100 := ⟨_, rfl, by have := Int.lt_tmod_of_pos size (b := 1100) (by decide); omega, Int.tmod_lt_of_pos size (by decide)⟩
  rw [hs]
  refine awake9_c fun w0 f0 => ifb_nyes rfl (xnew_c 8192 2 (fun h => absurd (by decide) h) (fun _ w1 G1 hb H1 f1 hG => ⟨by decide, by decide, ?_⟩))
  have z0 := f0.size
  have O1 : Own W w1 G1 := ⟨fun b hb => by have := hG b hb; omega, f0.more (f1 [])⟩
  obtain ⟨fine, hfine⟩ : ∃ fine : Bool, fine = decide (k = 1 ∧ 0 ≤ s ∧ s ≤ 64 ∨ (k = 2 ∨ k = 3) ∧ 0 ≤ s ∧ s ≤ 1000 ∨ k = 4 ∧ s = 1) := ⟨_, rfl⟩
  have fT : (k = 1 ∧ 0 ≤ s ∧ s ≤ 64 ∨ (k = 2 ∨ k = 3) ∧ 0 ≤ s ∧ s ≤ 1000 ∨ k = 4 ∧ s = 1) → true = fine := fun h => by rw [hfine]; exact (decide_eq_true h).symm
  have fF : ¬ (k = 1 ∧ 0 ≤ s ∧ s ≤ 64 ∨ (k = 2 ∨ k = 3) ∧ 0 ≤ s ∧ s ≤ 1000 ∨ k = 4 ∧ s = 1) → false = fine := fun h => by rw [hfine]; exact (decide_eq_false h).symm
  have fD : k = 4 → decide (s = 1) = fine := fun h => by rw [hfine]; exact decide_eq_decide.2 (by omega)
  refine xmake_c H1 (by decide) 1 k cls s (fun hn => absurd (by decide) hn) (fun _ hf w2 f2 => ?_) (fun _ hf hn => ?_) (fun _ hf hr w2 G2 ss2 H2 f2 g2 t2 => ?_)
  · have e1 : formE k cls s = 902 ∧ ¬ (1 ≤ k ∧ k ≤ 4) ∨ formE k cls s = 900 ∧ (1 ≤ k ∧ k ≤ 4) ∧ (fine = false ∨ cls < 0) := by
      by_cases h1 : (k = 1 ∧ 0 ≤ s ∧ s ≤ 64 ∨ (k = 2 ∨ k = 3) ∧ 0 ≤ s ∧ s ≤ 1000 ∨ k = 4 ∧ s = 1) ∧ 0 ≤ cls
      · exact absurd (formE_of h1) hf
      · have hfc : fine = false ∨ cls < 0 := by
          by_cases h2 : cls < 0
          · exact .inr h2
          · exact .inl (fF (fun h => h1 ⟨h, by omega⟩)).symm
        unfold formE at hf ⊢
        by_cases q1 : k = 1
        · rw [if_pos q1, if_neg (by omega)]; exact .inr ⟨rfl, by omega, hfc⟩
        · rw [if_neg q1]
          by_cases q2 : k = 2 ∨ k = 3
          · rw [if_pos q2, if_neg (by omega)]; exact .inr ⟨rfl, by omega, hfc⟩
          · rw [if_neg q2]
            by_cases q3 : k = 4
            · rw [if_pos q3, if_neg (by omega)]; exact .inr ⟨rfl, by omega, hfc⟩
            · rw [if_neg q3]; exact .inl ⟨rfl, by omega⟩
    have hend := hK w2 (O1.still f2).fr
    refine ⟨fun b w' => b = fine ∧ w' = w2, ?_, ?_⟩
    · repeat' (first | refine IfB.dec (fun _ => ?_) (fun _ => ?_) | exact ⟨fT (by omega), rfl⟩ | exact ⟨fF (by omega), rfl⟩ | exact ⟨fD (by omega), rfl⟩)
    · rintro - b w3 ⟨rfl, rfl⟩
      refine ⟨fun _ => False, ifb_f ?_, fun _ _ h => h.elim⟩
      rcases e1 with ⟨e1, q⟩ | ⟨e1, q, hc⟩
      · rw [e1]
        exact IfB.dec (fun _ => ifb_t hend) (fun _ => IfB.yes (by omega) (ifb_t hend))
      · rw [e1]
        refine IfB.no (by omega) (IfB.no (by omega) (ifb_n (fun hb => ?_) (fun hb => ifb_t hend)))
        have : cls < 0 := by
          rcases hc with h | h
          · rw [h] at hb; cases hb
          · exact h
        exact IfB.yes this (ifb_t hend)
  · have := formE_ok hf
    simp [xsum] at hn
    omega
  · have O2 := O1.step f2 g2
    have hff : true = fine ∧ 1 ≤ k ∧ k ≤ 4 ∧ 0 ≤ cls := by
      have hb : (k = 1 ∧ 0 ≤ s ∧ s ≤ 64 ∨ (k = 2 ∨ k = 3) ∧ 0 ≤ s ∧ s ≤ 1000 ∨ k = 4 ∧ s = 1) ∧ 0 ≤ cls := by
        unfold formE at hf
        by_cases q1 : k = 1
        · rw [if_pos q1] at hf; split at hf <;> omega
        · rw [if_neg q1] at hf
          by_cases q2 : k = 2 ∨ k = 3
          · rw [if_pos q2] at hf; split at hf <;> omega
          · rw [if_neg q2] at hf
            by_cases q3 : k = 4
            · rw [if_pos q3] at hf; split at hf <;> omega
            · rw [if_neg q3] at hf; omega
      exact ⟨fT hb.1, by omega, by omega, hb.2⟩
    have hs0 := formE_ok hf
    refine ⟨fun b w' => b = fine ∧ w' = w2, ?_, ?_⟩
    · repeat' (first | refine IfB.dec (fun _ => ?_) (fun _ => ?_) | exact ⟨fT (by omega), rfl⟩ | exact ⟨fF (by omega), rfl⟩ | exact ⟨fD (by omega), rfl⟩)
    · rintro - b w3 ⟨rfl, rfl⟩
      refine ⟨fun w' => w' = w3, ifb_f (IfB.no (by omega) (IfB.no (by omega) (ifb_nyes hff.1.symm (IfB.no (by omega) rfl)))), ?_⟩
      rintro - w4 rfl
      refine xcell_c H2 _ (fun hn => absurd rfl (hn _ (List.mem_singleton.2 rfl))) (fun x hx _ w5 f5 => fun b6 w6 n6 => told_c n6 fun w7 X7 f7 g7 => ?_)
      simp only [List.nil_append, List.mem_singleton] at hx
      subst hx
      have H7 := (H2.fr0 f5).fr0 f7
      have O7 := (O2.still f5).still f7
      have l2 : ss2.length = 2 := t2.1
      refine xload_c H7 0 _ s (fun hn => absurd ⟨by rw [l2]; decide, _, List.mem_singleton.2 rfl, rfl⟩ hn) (fun x hx _ _ _ w8 f8 => ?_) (fun x hx _ _ _ hn => ?_)
      · refine ifb_t ⟨_, _, _, (X7.fr (f8 []) (by simp)).cells, cellEq_c _ _ _ _ _ _ _ _ (ifb_yes (by simp) (ifb_t (ifb_t (xrefs_c (H7.fr0 f8) (by simp) fun a c w9 _ f9 _ => ?_))))⟩
        have := hK w9 ((O7.still f8).still f9).fr
        simpa using this
      · simp only [List.nil_append, List.mem_singleton] at hx
        subst hx
        dsimp only at hn
        omega
end
end Go.Proofs.Ytfpghcdjfiggiaa.V
