/- The law MarkRows: what it computes. No condition. -/
import Derived.Test.YtmlhdmnnijapjaaMarkActs
namespace Go.Proofs.Ytmlhdmnnijapjaa.V
open Go Go.RowKit

theorem mod_ix (x : Int) {c : Int} (h0 : 1 ≤ c) (h1 : c ≤ 64) : 0 ≤ IntKind.wrap .i64 (Int.tmod (IntKind.wrap .u64 x) (IntKind.wrap .u64 c)) ∧ IntKind.wrap .i64 (Int.tmod (IntKind.wrap .u64 x) (IntKind.wrap .u64 c)) < c := by
  have hc : IntKind.wrap .u64 c = c := fit_wrap (by unfold Fit IntKind.min IntKind.max IntKind.signed IntKind.bits; simp; omega)
  have hx : 0 ≤ IntKind.wrap .u64 x := by unfold IntKind.wrap IntKind.signed IntKind.bits; simp; omega
  rw [hc]
  generalize IntKind.wrap .u64 x = y at hx
  have h2 : 0 ≤ Int.tmod y c := Int.tmod_nonneg _ hx
  have h3 : Int.tmod y c < c := Int.tmod_lt_of_pos _ (by omega)
  rw [w64 h2 (by omega)]
  exact ⟨h2, h3⟩

/-- The play: what became grey, in its row; the colours hang on it alone. -/
structure MRow (W w : World) (q : Option Addr) (n : Int) (ra : Option Addr) (rc : Nat) (cs queue row : List Int) : Prop where
  fr : Fr [] W w
  F : ∃ F, Mq F w q cs queue ∧ (∀ b ∈ F, W.heap.size ≤ b) ∧ Apart F (ablk ra)
  R : SI w ra rc row
  len : (cs.length : Int) = n
  up : ∀ b ∈ ablk ra, W.heap.size ≤ b

theorem MRow.fr0 {W w w' : World} {q : Option Addr} {n : Int} {ra : Option Addr} {rc : Nat} {cs queue row : List Int} (h : MRow W w q n ra rc cs queue row) (f : Fr [] w w') : MRow W w' q n ra rc cs queue row := by
  obtain ⟨F, hF, g⟩ := h.F
  exact ⟨h.fr.more f, ⟨F, hF.fr0 f, g⟩, h.R.fr f (by simp [Apart]), h.len, h.up⟩

/-- Which are not white. -/
def Told (cs row : List Int) : Prop := row.Nodup ∧ (∀ x ∈ row, 0 ≤ x ∧ x < (cs.length : Int)) ∧ ∀ x, 0 ≤ x → x < (cs.length : Int) → (cs.getD x.toNat 0 = 1 ↔ x ∉ row)

theorem Told.snoc {cs row : List Int} {r : Int} (h : Told cs row) (hr : 0 ≤ r ∧ r < (cs.length : Int)) (h1 : cs.getD r.toNat 0 = 1) : Told (cs.set r.toNat 2) (row ++ [r]) := by
  obtain ⟨hn, hb, hw⟩ := h
  have hnr := (hw r hr.1 hr.2).1 h1
  refine ⟨List.nodup_append.2 ⟨hn, by simp, fun a ha b hb e => by simp at hb; subst hb; subst e; exact hnr ha⟩, fun x hx => ?_, fun x h0 h2 => ?_⟩
  · rw [List.length_set]
    rcases List.mem_append.1 hx with h | h
    · exact hb x h
    · simp at h; subst h; exact hr
  · rw [List.length_set] at h2
    rw [getI_set' _ _ _ _ (by omega)]
    by_cases e : r.toNat = x.toNat
    · have : x = r := by omega
      subst this
      simp
    · rw [if_neg e, hw x h0 h2]
      have : x ≠ r := fun e2 => e (by rw [e2])
      simp [this]

/-- How many are black. -/
theorem ofc_set {cs : List Int} {i : Nat} (hi : i < cs.length) (h : cs.getD i 0 ≠ 3) : (ofc 3 (cs.set i 3)).length = (ofc 3 cs).length + 1 := by
  have key : ∀ n, n ≤ cs.length → ((List.range n).filter fun j => (cs.set i 3).getD j 0 == 3).length = ((List.range n).filter fun j => cs.getD j 0 == 3).length + (if i < n then 1 else 0) := by
    intro n
    induction n with
    | zero => intro _; simp
    | succ n ih =>
      intro hn
      have := ih (by omega)
      rw [List.range_succ, List.filter_append, List.filter_append, List.length_append, List.length_append, this]
      by_cases e : i = n
      · subst e
        have e1 : (cs.set i 3).getD i 0 = 3 := by rw [getI_set' _ _ _ _ hi, if_pos rfl]
        have e2 : (cs.getD i 0 == 3) = false := by rw [beq_eq_false_iff_ne]; exact h
        simp only [List.filter_cons, List.filter_nil, e1, e2]
        simp
      · have e1 : (cs.set i 3).getD n 0 = cs.getD n 0 := by rw [getI_set' _ _ _ _ hi, if_neg e]
        simp only [List.filter_cons, List.filter_nil, e1]
        split <;> split <;> (try simp) <;> omega
  have := key cs.length (Nat.le_refl _)
  unfold ofc
  rw [List.length_map, List.length_map, List.length_set, this, if_pos hi]

theorem markRows_c (cap0 : Int) {W : World} {a : Option Addr} (c : Nat) {zs : List Int} (g : ArgI W.heap.size W a zs) {K : Bool → World → Prop} (hK : ∀ w', Fr [] W w' → K true w') : C6 cap0 a zs.length c W K := by
  refine r_f6 _ _ _ _ _ _ (awake11_c fun w2 f2 => ifb_f ?_)
  have hrg := and_range 63 6 (by decide) (by decide) cap0
  generalize bits .and .i64 cap0 63 = m at hrg
  rw [w64 (by omega) (by omega)]
  generalize hn : 1 + m = n at *
  have h1 : 1 ≤ n := by omega
  have h64 : n ≤ 64 := by omega
  clear hn hrg
  refine qmnew_c n (fun h => absurd ⟨h1, by omega⟩ h) (fun _ w5 q F Q5 f5 l5 => ?_)
  have f5' := f2.more f5
  have l5' : ∀ b ∈ F, W.heap.size ≤ b := fun b hb => Nat.le_trans f2.size (l5 b hb)
  have M5 : MRow W w5 q n none 0 (List.replicate n.toNat 1) [] [] := ⟨f5', ⟨F, Q5, l5', by simp [ablk, Apart]⟩, SI.nil _, by simp; omega, by simp [ablk]⟩
  have T5 : Told (List.replicate n.toNat 1) [] := ⟨by simp, by simp, fun x h0 h2 => by
    simp at h2
    simp [List.getD_eq_getElem?_getD, List.getElem?_replicate, show x.toNat < n.toNat by omega]⟩
  have N5 : ofc 3 (List.replicate n.toNat 1) = [] := by
    unfold ofc
    rw [List.map_eq_nil_iff, List.filter_eq_nil_iff]
    intro j hj
    rw [List.mem_range, List.length_replicate] at hj
    simp [List.getD_eq_getElem?_getD, List.getElem?_replicate, hj]
  refine ⟨fun ra rl rc w' => ∃ cs row, row.length = rl ∧ row.length ≤ 100 ∧ MRow W w' q n ra rc cs row row ∧ Told cs row ∧ ofc 3 cs = [] ∧ ∀ x ∈ row, cs.getD x.toNat 0 ≠ 3, ⟨fun ra rl rc i w' => 0 ≤ i ∧ i ≤ 100 ∧ ∃ cs row, row.length = rl ∧ (row.length : Int) ≤ i ∧ MRow W w' q n ra rc cs row row ∧ Told cs row ∧ ofc 3 cs = [] ∧ ∀ x ∈ row, cs.getD x.toNat 0 ≠ 3, fun _ _ _ i _ => (100 - i).toNat,
    ⟨by omega, by omega, _, [], rfl, by simp, M5, T5, N5, by simp⟩, ?_⟩, ?_⟩
  · rintro - ra _ rc i w13 ⟨h0, hi1, cs, row, rfl, hri, P, hT, hN, hB⟩
    refine IfB.dec (fun hil => IfB.dec (fun hi2 => ?_) (fun _ => ⟨_, _, rfl, by omega, P, hT, hN, hB⟩)) (fun _ => ⟨_, _, rfl, by omega, P, hT, hN, hB⟩)
    rw [w64 (n := i + 1) (by omega) (by omega)]
    refine (g.fr P.fr (by simp)).get h0 hil fun p hp _ => ⟨⟨h0, hil⟩, _, hp, ?_, ?_⟩
    · rw [show IntKind.wrap .u64 n = n from fit_wrap (by unfold Fit IntKind.min IntKind.max IntKind.signed IntKind.bits; simp; omega)]
      omega
    have hr := mod_ix (zs.getD i.toNat 0) h1 h64
    generalize IntKind.wrap .i64 (Int.tmod (IntKind.wrap .u64 (zs.getD i.toNat 0)) (IntKind.wrap .u64 n)) = r at *
    obtain ⟨fr, ⟨F, Q, lF, hap⟩, R, hlen, hup⟩ := P
    have P : MRow W w13 q n ra rc cs row row := ⟨fr, ⟨F, Q, lF, hap⟩, R, hlen, hup⟩
    have hr' : 0 ≤ r ∧ r < (cs.length : Int) := ⟨hr.1, by omega⟩
    refine qmgrey_c Q (by omega) r (fun h => absurd hr' h) (fun _ _ => ?_) (fun _ hw w18 F' Q' f' g' => ?_)
    · exact IfB.nyes rfl (ifb_f ⟨⟨by omega, by omega, _, _, rfl, by omega, P, hT, hN, hB⟩, by dsimp only; omega⟩)
    · refine IfB.nyes rfl (ifb_t fun b19 w20 n20 => ?_)
      have lF' : ∀ b ∈ F', W.heap.size ≤ b := g'.up lF fr.size
      have R' : SI w18 _ _ _ := R.fr f' hap.symm
      have hap' : Apart F' (ablk ra) := hap.grow R.low g'
      refine app38 R' n20 (by omega) fun a22 c22 w22 R22 f22 g22 => ?_
      refine ⟨⟨by omega, by omega, cs.set r.toNat 2, row ++ [r], by simp, by simp; omega, ⟨(fr.trans f' (fun k hk => .inr (lF k hk))).trans f22 (fun k hk => .inr (hup k hk)), ⟨F', Q'.fr f22 hap', lF', hap'.growr Q'.low g22⟩, R22, by rw [List.length_set]; exact hlen, g22.up hup (Nat.le_trans fr.size f'.size)⟩, hT.snoc hr' hw, ?_, fun x hx => ?_⟩, by dsimp only; omega⟩
      · unfold ofc at hN ⊢
        rw [List.map_eq_nil_iff, List.filter_eq_nil_iff] at hN ⊢
        intro j hj
        rw [List.length_set] at hj
        rw [getI_set' _ _ _ _ (by omega)]
        split
        · decide
        · exact hN j hj
      · rw [getI_set' _ _ _ _ (by omega)]
        split
        · decide
        · rename_i hne
          rcases List.mem_append.1 hx with h | h
          · exact hB x h
          · simp at h; subst h; exact absurd rfl hne
  · rintro - ra _ rc w8 ⟨cs, row, rfl, hl, P, hT, hN, hB⟩
    refine ⟨fun i w' => 0 ≤ i ∧ i ≤ row.length ∧ ∃ cs', MRow W w' q n ra rc cs' (row.drop i.toNat) row ∧ ((ofc 3 cs').length : Int) = i ∧ ∀ x ∈ row.drop i.toNat, cs'.getD x.toNat 0 ≠ 3, fun i _ => (row.length - i).toNat,
      ⟨by omega, by omega, cs, by simpa using P, by simp [hN], by simpa using hB⟩, ?_⟩
    rintro - i w26 ⟨h0, hi1, cs', P26, hc, hB'⟩
    refine IfB.dec (fun hlt => ?_) (fun hge => ?_)
    · rw [w64 (n := i + 1) (by omega) (by omega)]
      refine ⟨fun j w' => 0 ≤ j ∧ j ≤ i ∧ Fr [] w26 w', fun j _ => (i - j).toNat, ⟨by omega, by omega, Fr.refl _ _⟩, ?_⟩
      rintro - j w30 ⟨j0, j1, f30⟩
      refine IfB.dec (fun hjlt => ?_) (fun hjge => ?_)
      · intro w31 d31
        rw [w64 (n := j + 1) (by omega) (by omega)]
        have P31 := P26.fr0 (f30.more (d31.fr []))
        refine P31.R.get j0 (by omega) fun p hp => ⟨⟨j0, by omega⟩, _, hp, P31.R.get h0 (by omega) fun p2 hp2 => ⟨⟨h0, by omega⟩, _, hp2, IfB.no ?_ ⟨⟨by omega, by omega, f30.more (d31.fr [])⟩, by dsimp only; omega⟩⟩⟩
        intro he
        have hnd := hT.1
        rw [List.nodup_iff_pairwise_ne, List.pairwise_iff_getElem] at hnd
        have := hnd j.toNat i.toNat (by omega) (by omega) (by omega)
        rw [List.getD_eq_getElem?_getD, List.getD_eq_getElem?_getD, List.getElem?_eq_getElem (by omega), List.getElem?_eq_getElem (by omega)] at he
        exact this (by simpa using he)
      · have P30 := P26.fr0 f30
        obtain ⟨fr, ⟨F, Q, lF, hap⟩, R, hlen, hup⟩ := P30
        have hd : row.drop i.toNat = row.getD i.toNat 0 :: row.drop (i.toNat + 1) := by
          rw [List.drop_eq_getElem_cons (by omega), List.getD_eq_getElem?_getD, List.getElem?_eq_getElem (by omega)]
          rfl
        rw [hd] at Q hB'
        refine qmnext_c Q (fun he => by simp at he) (fun f q' he hf w38 Q38 f38 => ?_)
        simp only [List.cons.injEq] at he
        obtain ⟨rfl, rfl⟩ := he
        have R38 : SI w38 _ _ _ := R.fr f38 hap.symm
        have h3 := hB' (row.getD i.toNat 0) (by simp)
        refine ifb_f (R38.get h0 hlt fun p hp => ⟨⟨h0, hlt⟩, _, hp, IfB.nyes rfl ⟨⟨by omega, by omega, cs'.set (row.getD i.toNat 0).toNat 3, ?_, ?_, fun x hx => ?_⟩, by dsimp only; omega⟩⟩)
        · rw [show (i + 1).toNat = i.toNat + 1 by omega]
          exact ⟨fr.trans f38 (fun k hk => .inr (lF k hk)), ⟨F, Q38, lF, hap⟩, R38, by rw [List.length_set]; exact hlen, hup⟩
        · rw [ofc_set (by omega) h3]
          omega
        · rw [show (i + 1).toNat = i.toNat + 1 by omega] at hx
          have hxr := hB' x (by simp [hx])
          rw [getI_set' _ _ _ _ (by omega)]
          split
          · rename_i e
            have hnd := hT.1
            rw [← List.take_append_drop i.toNat row, List.nodup_append, hd] at hnd
            have hnd2 := hnd.2.1
            rw [List.nodup_cons] at hnd2
            have hxb := hT.2.1 x (List.mem_of_mem_drop hx)
            have : x = row.getD i.toNat 0 := by omega
            exact absurd (this ▸ hx) hnd2.1
          · exact hxr
    · have ei : i.toNat = row.length := by omega
      rw [ei, List.drop_length] at P26
      obtain ⟨fr, ⟨F, Q, lF, hap⟩, R, hlen, hup⟩ := P26
      refine qmnext_c Q (fun _ => ?_) (fun f q' he => by simp at he)
      refine qmblack_c Q (by omega) fun w45 ba bc B45 f45 l45 => ?_
      refine qmreset_c (Q.fr0 f45) (by omega) fun w46 F' Q46 f46 g46 => ?_
      have f46' := (fr.more f45).trans f46 (fun k hk => .inr (lF k hk))
      refine IfB.yes rfl (ifb_t (IfB.yes (by omega) (qmblack_c Q46 (by simp; omega) fun w48 ka kc K48 f48 l48 => ?_)))
      have e0 : (ofc 3 (List.replicate cs'.length 1)).length = 0 := by
        unfold ofc
        rw [List.length_map, List.length_eq_zero_iff, List.filter_eq_nil_iff]
        intro j hj
        rw [List.mem_range, List.length_replicate] at hj
        simp [List.getD_eq_getElem?_getD, List.getElem?_replicate, hj]
      rw [e0]
      exact hK w48 (f46'.more f48)
end Go.Proofs.Ytmlhdmnnijapjaa.V
