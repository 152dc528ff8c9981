/- The law MarkActs: what it computes. No condition. -/
import Derived.Test.YtmlhdmnnijapjaaMarkL
import Derived.Test.YtmlhdmnnijapjaaGMarkL
import Derived.Test.YtmlhdmnnijapjaaArgs
namespace Go.Proofs.Ytmlhdmnnijapjaa.V
open Go Go.RowKit

/-- The play: the colours, as the law has noted them. -/
structure MPlay (W w : World) (q : Option Addr) (ab c : Nat) (n : Int) (ra : Option Addr) (rc : Nat) (cs row : List Int) : Prop where
  fr : Fr [] W w
  F : ∃ F, Mq F w q cs row ∧ (∀ b ∈ F, W.heap.size ≤ b) ∧ ab ∉ F ∧ Apart F (ablk ra)
  A : SI w (some ⟨ab, 0, none⟩) c cs
  R : SI w ra rc row
  len : (cs.length : Int) = n
  d : W.heap.size ≤ ab ∧ ab ∉ ablk ra ∧ ∀ b ∈ ablk ra, W.heap.size ≤ b

theorem MPlay.fr0 {W w w' : World} {q : Option Addr} {ab c : Nat} {n : Int} {ra : Option Addr} {rc : Nat} {cs row : List Int} (h : MPlay W w q ab c n ra rc cs row) (f : Fr [] w w') : MPlay W w' q ab c n ra rc cs row := by
  obtain ⟨F, hF, g⟩ := h.F
  exact ⟨h.fr.more f, ⟨F, hF.fr0 f, g⟩, h.A.fr f (by simp [Apart]), h.R.fr f (by simp [Apart]), h.len, h.d⟩

theorem w64 {n : Int} (h : 0 ≤ n) (h2 : n ≤ 1000000000) : IntKind.wrap .i64 n = n := fit_wrap (by unfold Fit IntKind.min IntKind.max IntKind.signed IntKind.bits; simp; omega)

theorem markActs_c (cap0 : Int) {W : World} {a : Option Addr} {l : Nat} (c : Nat) {z : Nat → Nat → Int} (g : ArgS W.heap.size W a l 2 z) {K : Bool → World → Prop} (hK : ∀ w', Fr [] W w' → K true w') : C5 cap0 a l c W K := by
  refine r_f5 _ _ _ _ _ _ (qmnew_c cap0 (fun h => ?_) (fun hcap w3 q F Q3 f3 l3 => ?_))
  · refine ⟨fun _ => False, IfB.dec (fun _ => IfB.yes rfl (awake11_c hK)) (fun h1 => IfB.dec (fun _ => IfB.yes rfl (awake11_c hK)) (fun h2 => absurd ⟨by omega, by omega⟩ h)), fun _ _ h => h.elim⟩
  refine ⟨fun w' => w' = w3, IfB.no (by omega) (IfB.no (by omega) rfl), ?_⟩
  rintro - w5 rfl
  refine make_int 38 3 Try.t3 (by kernel_rfl) (by kernel_rfl) rfl rfl (by decide) (by omega) (by omega) _ fun ab w11 A11 f11 l11 => ?_
  have Q11 := Q3.fr0 (f11 [])
  have hab : ab ∉ F := fun hm => by have := Q3.low ab hm; omega
  have lab : W.heap.size ≤ ab := Nat.le_trans f3.size l11
  generalize hcc : cap0.toNat = cc at A11
  have rl : (List.replicate cap0.toNat (1 : Int)).length = cap0.toNat := by simp
  refine ⟨fun i w' => 0 ≤ i ∧ i ≤ cap0 ∧ Fr [] W w' ∧ Mq F w' q (List.replicate cap0.toNat 1) [] ∧ ∃ cs, SI w' (some ⟨ab, 0, none⟩) cc cs ∧ (cs.length : Int) = cap0 ∧ ∀ j : Nat, j < i → cs.getD j 0 = 1, fun i _ => (cap0 - i).toNat,
    ⟨by omega, hcap.1 |> (fun h => by omega), f3.more (f11 []), Q11, _, A11, by simp; omega, fun j hj => by omega⟩, ?_⟩
  rintro - i w15 ⟨h0, h1, f15, Q15, cs, A15, hl, hall⟩
  have lF : ∀ b ∈ F, W.heap.size ≤ b := l3
  refine IfB.dec (fun hlt => ?_) (fun hge => ?_)
  · rw [w64 (by omega) (by omega)]
    refine A15.put h0 (by omega) 1 fun p hm _ s => ⟨⟨h0, by omega⟩, hm, fun w17 s17 => ?_⟩
    obtain ⟨A17, f17⟩ := s w17 s17
    refine ⟨⟨by omega, by omega, f15.trans f17 (by simp [ablk]; omega), Q15.fr f17 (fun b hb hb2 => by simp [ablk] at hb2; subst hb2; exact hab hb), _, A17, by rw [List.length_set]; exact hl, fun j hj => ?_⟩, by dsimp only; omega⟩
    rw [getI_set' _ _ _ _ (by omega)]
    split
    · rfl
    · exact hall j (by omega)
  have ecs : cs = List.replicate cap0.toNat 1 := by
    apply List.ext_getElem (by simp; omega)
    intro j g1 g2
    have := hall j (by omega)
    rw [List.getD_eq_getElem?_getD, List.getElem?_eq_getElem g1] at this
    simpa using this
  rw [← ecs] at Q15
  clear hall ecs hge h0 h1 Q11 Q3 A11
  refine ⟨fun w' => ∃ ra rc cs row, MPlay W w' q ab cc cap0 ra rc cs row, ⟨fun ra rl rc i w' => 0 ≤ i ∧ i ≤ 300 ∧ ∃ cs row, row.length = rl ∧ (row.length : Int) ≤ i ∧ MPlay W w' q ab cc cap0 ra rc cs row, fun _ _ _ i _ => (300 - i).toNat,
    ⟨by omega, by omega, cs, [], rfl, by simp, f15, ⟨F, Q15, lF, hab, by simp [ablk, Apart]⟩, A15, SI.nil _, hl, lab, by simp [ablk], by simp [ablk]⟩, ?_⟩, ?_⟩
  · rintro - ra _ rc i w24 ⟨h0, h1, cs, row, rfl, hri, P⟩
    refine IfB.dec (fun hil => IfB.dec (fun hi2 => ?_) (fun _ => ⟨_, _, _, _, P⟩)) (fun _ => ⟨_, _, _, _, P⟩)
    rw [w64 (by omega) (by omega)]
    refine (g.fr P.fr (by simp)).get h0 hil fun p hp => ⟨⟨h0, hil⟩, _, _, argCells2 hp, fun xb w29 n29 => ⟨n29.blk.mayL (by simp), fun w30 s30 => ?_⟩⟩
    obtain ⟨X, fx⟩ := newSet n29 s30 rfl
    have xge := n29.ge
    have P30 := P.fr0 (fx [])
    have next : ∀ w' ra rc cs row, (row.length : Int) ≤ i + 1 → MPlay W w' q ab cc cap0 ra rc cs row → (0 ≤ i + 1 ∧ i + 1 ≤ 300 ∧ ∃ cs' row', row'.length = row.length ∧ (row'.length : Int) ≤ i + 1 ∧ MPlay W w' q ab cc cap0 ra rc cs' row') ∧ (300 - (i + 1)).toNat < (300 - i).toNat :=
      fun w' ra rc cs row hr P => ⟨⟨by omega, by omega, cs, row, rfl, hr, P⟩, by omega⟩
    have lo24 : ∀ F, Mq F w24 q cs row → Low F w24.heap.size := fun F h => h.low
    have loA : ab < w24.heap.size := P.A.low ab (by simp [ablk])
    have loR : Low (ablk ra) w24.heap.size := P.R.low
    obtain ⟨F, Q24, lF, hab, hap⟩ := P.F
    have loF := Q24.low
    have Q := Q24.fr0 (fx [])
    have xF : xb ∉ F := fun hm => by have := loF xb hm; omega
    have xab : xb ≠ ab := by omega
    clear P lo24
    generalize z i.toNat 0 = kind at *
    generalize z i.toNat 1 = r at *
    obtain ⟨fr30, _, A, R, hlen, hd⟩ := P30
    have P30 : MPlay W w30 q ab cc cap0 ra rc cs row := ⟨fr30, ⟨F, Q, lF, hab, hap⟩, A, R, hlen, hd⟩
    refine ⟨fun b' w' => b' = decide (0 ≤ r ∧ r < cap0) ∧ w' = w30, ⟨_, X.cell rfl, IfB.dec (fun h1 => ⟨_, X.cell rfl, by simp [h1], rfl⟩) (fun h1 => ⟨by simp [h1], rfl⟩)⟩, ?_⟩
    rintro - b' w33 ⟨rfl, rfl⟩
    refine ⟨_, X.cell rfl, IfB.dec (fun _ => ?c0) (fun _ => ⟨_, X.cell rfl, IfB.dec (fun _ => ?c1) (fun _ => ⟨_, X.cell rfl, IfB.dec (fun _ => ?c2) (fun _ => ?c3)⟩)⟩)⟩
    case c0 =>
      refine ⟨_, X.cell rfl, ?_⟩
      by_cases hr : 0 ≤ r ∧ r < cap0
      · refine qmgrey_c Q (by omega) r (fun h => absurd ⟨hr.1, by omega⟩ h) (fun _ h1 => ?_) (fun _ h1 w' F' Q' f' g' => ?_)
        · refine ifb_nyes (by simp [hr]) ⟨fun w' => w' = w33, IfB.nyes rfl ⟨_, X.cell rfl, A.get hr.1 (by omega) fun p hp => ⟨⟨hr.1, by omega⟩, _, hp, ifb_nbeq (decide_eq_false h1).symm rfl⟩⟩, ?_⟩
          rintro - w42 rfl
          exact ifb_f (next _ _ _ _ _ (by omega) P30)
        · have lF' : ∀ b ∈ F', W.heap.size ≤ b := g'.up lF fr30.size
          have X' := X.fr f' xF
          have A' : SI w' _ _ _ := A.fr f' (fun b hb hb2 => by simp [ablk] at hb; subst hb; exact hab hb2)
          have R' : SI w' _ _ _ := R.fr f' hap.symm
          have hab' : ab ∉ F' := fun hm => (g' ab hm).elim hab (fun h => by have := A.low ab (by simp [ablk]); omega)
          have hap' : Apart F' (ablk ra) := hap.grow R.low g'
          refine ifb_nyes (by simp [hr]) ⟨fun w'' => w'' = w', IfB.nyes rfl ⟨_, X'.cell rfl, A'.get hr.1 (by omega) fun p hp => ⟨⟨hr.1, by omega⟩, _, hp, ifb_nbeq (decide_eq_true h1).symm rfl⟩⟩, ?_⟩
          rintro - w42 rfl
          refine ifb_t ⟨_, X'.cell rfl, A'.put hr.1 (by omega) 2 fun p hm _ s => ⟨⟨hr.1, by omega⟩, hm, fun w48 s48 => ?_⟩⟩
          obtain ⟨A48, f48⟩ := s w48 s48
          refine ⟨_, (X'.fr f48 (by simp [ablk]; exact xab)).cell rfl, fun b50 w51 n51 => ?_⟩
          have R48 : SI w48 _ _ _ := R'.fr f48 (fun b hb hb2 => by simp [ablk] at hb2; subst hb2; exact hd.2.1 hb)
          have Q48 := Q'.fr f48 (fun b hb hb2 => by simp [ablk] at hb2; subst hb2; exact hab' hb)
          refine app38 R48 n51 (by omega) fun a52 c52 w53 R53 f53 g53 => ?_
          have := next w53 a52 c52 (cs.set r.toNat 2) (row ++ [r]) (by simp; omega) ⟨?_, ⟨F', Q48.fr f53 hap', lF', hab', hap'.growr Q48.low g53⟩, A48.fr f53 (fun b hb hb2 => by simp [ablk] at hb; subst hb; exact hd.2.1 hb2), R53, by rw [List.length_set]; exact hlen, hd.1, fun hm => (g53 ab hm).elim hd.2.1 (fun h => by have := A48.low ab (by simp [ablk]); omega), g53.up hd.2.2 ?_⟩
          · simpa using this
          · exact (((fr30.trans f' (fun k hk => .inr (lF k hk))).trans f48 (by simp [ablk]; exact hd.1))).trans f53 (fun k hk => .inr (hd.2.2 k hk))
          · exact Nat.le_trans (Nat.le_trans fr30.size f'.size) f48.size
      · refine qmgrey_c Q (by omega) r (fun _ => ?_) (fun h => absurd ⟨h.1, by omega⟩ hr) (fun h => absurd ⟨h.1, by omega⟩ hr)
        exact ifb_nno (by simp [hr]) (IfB.nyes rfl (ifb_f (next _ _ _ _ _ (by omega) P30)))
    case c1 =>
      refine qmnext_c Q (fun he => ?_) (fun f q' he hf w' Q' f' => ?_)
      · subst he
        refine ⟨fun w'' => w'' = w33, ifb_nbeq rfl (ifb_f (ifb_t (IfB.nyes rfl rfl))), ?_⟩
        rintro - w59 rfl
        exact ifb_f (next _ _ _ _ _ (by simp; omega) P30)
      · subst he
        have X' := X.fr f' xF
        have A' : SI w' _ _ _ := A.fr f' (fun b hb hb2 => by simp [ablk] at hb; subst hb; exact hab hb2)
        have R' : SI w' _ _ _ := R.fr f' hap.symm
        refine ⟨fun w'' => w'' = w', ifb_nbeq (by simp) (ifb_t (R'.get (by decide) (by simp) fun p hp => ⟨⟨by decide, by simp⟩, _, hp, IfB.nyes rfl (ifb_f rfl)⟩)), ?_⟩
        rintro - w59 rfl
        refine ifb_t (A'.put hf.1 hf.2 3 fun p hm _ s => ⟨⟨hf.1, by omega⟩, hm, fun w63 s63 => ⟨⟨by decide, by rw [List.length_cons]; omega⟩, ?_⟩⟩)
        obtain ⟨A63, f63⟩ := s w63 s63
        have R63 : SI w63 _ _ _ := R'.fr f63 (fun b hb hb2 => by simp [ablk] at hb2; subst hb2; exact hd.2.1 hb)
        have Q63 := Q'.fr f63 (fun b hb hb2 => by simp [ablk] at hb2; subst hb2; exact hab hb)
        obtain ⟨C1, ea⟩ := R63.cut (lo := 1) (hi := (f :: q').length) (by simp) (Nat.le_refl _)
        have e1 : ((f :: q').drop 1).take ((f :: q').length - 1) = q' := by simp
        rw [e1] at C1
        simp at hri
        have := next w63 (Adv ra rc 1 1) (rc - 1) (cs.set f.toNat 3) q' (by omega) ⟨?_, ⟨F, Q63, lF, hab, by rw [ea]; exact hap⟩, A63, C1, by rw [List.length_set]; exact hlen, by rw [ea]; exact hd⟩
        · simpa using this
        · exact ((fr30.trans f' (fun k hk => .inr (lF k hk))).trans f63 (by simp [ablk]; exact hd.1))
    case c2 =>
      refine ⟨_, X.cell rfl, qmcolour_c Q r (fun hr => ?_) (fun hr => ?_)⟩
      · have hr' : ¬ (0 ≤ r ∧ r < cap0) := fun h => hr ⟨h.1, by omega⟩
        exact ifb_nbeq (by simp [hr']) (ifb_no (by simp [hr']) (ifb_nno (by simp [hr']) (IfB.nyes rfl (IfB.nyes rfl (next _ _ _ _ _ (by omega) P30)))))
      · have hr' : 0 ≤ r ∧ r < cap0 := ⟨hr.1, by omega⟩
        refine ifb_nbeq (by simp [hr']) (ifb_yes (by simp [hr']) ⟨_, X.cell rfl, A.get hr.1 (by omega) fun p hp => ⟨⟨hr.1, by omega⟩, _, hp, IfB.nyes rfl (ifb_nyes (by simp [hr']) (next _ _ _ _ _ (by omega) P30))⟩⟩)
    case c3 =>
      refine qmreset_c Q (by omega) fun w72 F' Q72 f72 g72 => ?_
      have A72 : SI w72 _ _ _ := A.fr f72 (fun b hb hb2 => by simp [ablk] at hb; subst hb; exact hab hb2)
      have lF' : ∀ b ∈ F', W.heap.size ≤ b := fun b hb => lF b (g72 b hb)
      have hab' : ab ∉ F' := fun hm => hab (g72 ab hm)
      have f72' := fr30.trans f72 (fun k hk => .inr (lF k hk))
      have lc : cs.length = cap0.toNat := by omega
      rw [lc] at Q72
      refine ⟨fun k w' => 0 ≤ k ∧ k ≤ cap0 ∧ Fr [] W w' ∧ Mq F' w' q (List.replicate cap0.toNat 1) [] ∧ ∃ cs, SI w' (some ⟨ab, 0, none⟩) cc cs ∧ (cs.length : Int) = cap0 ∧ ∀ j : Nat, j < k → cs.getD j 0 = 1, fun k _ => (cap0 - k).toNat,
        ⟨by omega, by omega, f72', Q72, _, A72, hlen, fun j hj => by omega⟩, ?_⟩
      rintro - k w76 ⟨k0, k1, f76, Q76, ds, A76, hl76, hall⟩
      refine IfB.dec (fun hlt => ?_) (fun hge => ?_)
      · rw [w64 (by omega) (by omega)]
        refine A76.put k0 (by omega) 1 fun p hm _ s => ⟨⟨k0, by omega⟩, hm, fun w17 s17 => ?_⟩
        obtain ⟨A17, f17⟩ := s w17 s17
        refine ⟨⟨by omega, by omega, f76.trans f17 (by simp [ablk]; omega), Q76.fr f17 (fun b hb hb2 => by simp [ablk] at hb2; subst hb2; exact hab' hb), _, A17, by rw [List.length_set]; exact hl76, fun j hj => ?_⟩, by dsimp only; omega⟩
        rw [getI_set' _ _ _ _ (by omega)]
        split
        · rfl
        · exact hall j (by omega)
      · have ecs : ds = List.replicate cap0.toNat 1 := by
          apply List.ext_getElem (by simp; omega)
          intro j g1 g2
          have := hall j (by omega)
          rw [List.getD_eq_getElem?_getD, List.getElem?_eq_getElem g1] at this
          simpa using this
        rw [← ecs] at Q76
        exact next w76 none 0 ds [] (by simp; omega) ⟨f76, ⟨F', Q76, lF', hab', by simp [Apart, ablk]⟩, A76, SI.nil _, hl76, hd.1, by simp [ablk], by simp [ablk]⟩
  · rintro - w19 ⟨ra, rc, cs, row, P⟩
    obtain ⟨fr30, ⟨F, Q, lF, hab, hap⟩, A, R, hlen, hd⟩ := P
    refine IfB.yes rfl ?_
    have lc : cc = cs.length := by omega
    rw [lc] at A ⊢
    exact blacks_c Q (by omega) A fun w80 f80 => ifb_t (awake11_c fun w' f' => hK w' ((fr30.more f80).more f'))
end Go.Proofs.Ytmlhdmnnijapjaa.V
