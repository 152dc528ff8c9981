/- The law ShakeActs: what it computes. No condition. -/
import Derived.Test.YtfpghcdjfiggiaaRounds
import Derived.Test.YtfpghcdjfiggiaaSl
import Derived.Test.YtfpghcdjfiggiaaArgs
namespace Go.Proofs.Ytfpghcdjfiggiaa.V
open Go Go.RowKit

theorem ShakeAt.low {w : World} {sb mb : Nat} {n : Int} {ks : List Int} {what rounds : Int} (h : ShakeAt w sb mb n ks what rounds) : sb < w.heap.size ∧ mb < w.heap.size := by
  obtain ⟨m, clk, hm, _⟩ := h.mp
  exact ⟨h.hd.lt, heap_lt hm.heap⟩

/-- The play: who is asked; what the law has noted of it. -/
def ShPlay (w : World) (sb mb : Nat) (th : Int) (ab c : Nat) (b : Bool) (wh rounds : Int) : Prop :=
  ∃ ks what, ShakeAt w sb mb th ks what rounds ∧ b = decide (ks ≠ []) ∧ (ks ≠ [] → wh = what) ∧ (∀ t ∈ ks, 0 ≤ t ∧ t < th) ∧
    ∃ bs, SB w (some ⟨ab, 0, none⟩) c bs ∧ (bs.length : Int) = th ∧ ∀ t, 0 ≤ t → t < th → bs.getD t.toNat false = decide (t ∈ ks)

theorem ShPlay.fr {w w' : World} {sb mb : Nat} {th : Int} {ab c : Nat} {b : Bool} {wh rounds : Int} (h : ShPlay w sb mb th ab c b wh rounds) (f : Fr [] w w') : ShPlay w' sb mb th ab c b wh rounds := by
  obtain ⟨ks, what, A, h1, h2, h3, bs, B, h4⟩ := h
  exact ⟨ks, what, A.fr f (by simp) (by simp), h1, h2, h3, bs, B.fr f (by intro b _; simp), h4⟩

theorem getD_set (l : List Bool) (i j : Nat) (x : Bool) (hi : i < l.length) : (l.set i x).getD j false = if i = j then x else l.getD j false := by
  simp only [List.getD_eq_getElem?_getD, List.getElem?_set]
  split
  · rename_i h; subst h; simp [hi]
  · rfl

theorem shActs_c (th : Int) {W : World} {a : Option Addr} {l : Nat} (c : Nat) {z : Nat → Nat → Int} (g : ArgS W.heap.size W a l 3 z) {K : Bool → World → Prop} (hK : ∀ w', Fr [] W w' → K true w') : C3 th a l c W K := by
  refine r_f3 _ _ _ _ _ _ (shakeNew_c th (fun h => ?_) (fun hth w1 sb mb A f1 l1 l2 => ?_))
  · refine IfB.dec (fun h1 => IfB.yes rfl (awake10_c hK)) (fun h1 => IfB.dec (fun h2 => IfB.yes rfl (awake10_c hK)) (fun h2 => absurd (by omega) h))
  refine IfB.no (by omega) (IfB.no (by omega) ?_)
  refine make_bool 29 4 Try.t4 (by kernel_rfl) (by kernel_rfl) rfl rfl (by decide) (by omega) (by omega) _ fun ab w2 B2 f2 l3 => ?_
  obtain ⟨lo1, lo2⟩ := A.low
  have l4 : W.heap.size ≤ ab := Nat.le_trans (f1 []).size l3
  have lS : ∀ k ∈ [sb, mb], k ∈ ([] : List Nat) ∨ W.heap.size ≤ k := by simp; omega
  have lm : ∀ k ∈ [mb], k ∈ ([] : List Nat) ∨ W.heap.size ≤ k := by simp; omega
  have la : ∀ k ∈ [ab], k ∈ ([] : List Nat) ∨ W.heap.size ≤ k := by simp; omega
  have las : Apart (ablk (some ⟨ab, 0, none⟩)) [sb, mb] := by intro b hb; simp [ablk] at hb; subst hb; simp; omega
  have lam : Apart (ablk (some ⟨ab, 0, none⟩)) [mb] := by intro b hb; simp [ablk] at hb; subst hb; simp; omega
  generalize hcc : th.toNat = cc at B2
  refine ⟨fun b wh r i w' => ShPlay w' sb mb th ab cc b wh r ∧ 0 ≤ r ∧ r ≤ i ∧ i ≤ 200 ∧ Fr [] W w', fun _ _ _ i _ => (200 - i).toNat, ⟨⟨[], 0, A.fr (f2 []) (by simp) (by simp), by simp, by simp, by simp, _, B2, by simp; omega, ?_⟩, by omega, by omega, by omega, (f1 []).more (f2 [])⟩, ?_⟩
  · intro t h0 h1
    simp [List.getD_eq_getElem?_getD, List.getElem?_replicate]
    split <;> rfl
  rintro - b wh r i w3 ⟨P, hr0, hri, hi, f3⟩
  have fin : IfB (decide ((0 : Int) = 0)) (C34 w3 fun b93 w94 => K b93 w94) (K false w3) := IfB.yes rfl (awake10_c fun w' f => hK w' (f3.more f))
  refine IfB.dec (fun hil => IfB.dec (fun hi2 => ?_) (fun _ => fin)) (fun _ => fin)
  have hi0 : 0 ≤ i := by omega
  refine (g.fr f3 (by simp)).get hi0 hil fun p hp => ⟨⟨hi0, hil⟩, _, _, _, argCells3 hp, fun xb w4 n4 => ⟨n4.blk.mayL (by simp), fun w5 s5 => ?_⟩⟩
  obtain ⟨X, fx⟩ := newSet n4 s5 rfl
  have xge := n4.ge
  have P5 := P.fr (fx [])
  have f5 := f3.more (fx [])
  generalize z i.toNat 0 = kind at *
  generalize z i.toNat 1 = t at *
  generalize z i.toNat 2 = x at *
  refine ⟨fun b' w' => b' = decide (0 ≤ t ∧ t < th) ∧ w' = w5, ⟨_, X.cell rfl, IfB.dec (fun h1 => ⟨_, X.cell rfl, by simp [h1], rfl⟩) (fun h1 => ⟨by simp [h1], rfl⟩)⟩, ?_⟩
  rintro - b' w6 ⟨rfl, rfl⟩
  refine ⟨fun b wh r w' => ShPlay w' sb mb th ab cc b wh r ∧ 0 ≤ r ∧ r ≤ i + 1 ∧ Fr [] W w', ⟨_, X.cell rfl, ?_⟩, ?_⟩
  · obtain ⟨ks, what, A5, rfl, hw, hks, bs, B5, hl, hb⟩ := P5
    have xne : xb ≠ sb ∧ xb ≠ mb ∧ xb ≠ ab := by
      obtain ⟨ks, what, A, _, _, _, bs, B, _⟩ := P
      have h1 := A.low
      have h2 := B.low ab (by simp [ablk])
      omega
    refine IfB.dec (fun _ => ⟨_, X.cell rfl, ?_⟩) (fun _ => ⟨_, X.cell rfl, IfB.dec (fun _ => ⟨_, X.cell rfl, ?_⟩) (fun _ => ⟨_, X.cell rfl, ?_⟩)⟩)
    · refine shakeAsk_c A5 x (by omega) (by omega) (fun h => ?_) (fun h w7 A7 f7 => ?_)
      · exact ifb_nbeq (by simp [h]) (ifb_nyes (by simp [h]) (ifb_nyes (by simp [h]) ⟨⟨ks, what, A5, rfl, hw, hks, bs, B5, hl, hb⟩, hr0, by omega, f5⟩))
      · subst h
        refine ifb_nbeq (by simp) (ifb_nno (by simp) (IfB.nyes rfl (ifb_nno (by simp) fun w8 d8 => ⟨_, (X.fr f7 (by simp; omega)).fr (d8.fr []) (by simp) |>.cell rfl, fit64 (by omega) (by omega), ?_⟩)))
        have A8 := A7.fr (d8.fr []) (by simp) (by simp)
        have B8 : SB w8 _ _ _ := (B5.fr f7 las).fr (d8.fr []) (by intro b _; simp)
        have f8 := (f5.trans f7 lS).more (d8.fr [])
        refine ⟨fun k w' => 0 ≤ k ∧ k ≤ th ∧ ShakeAt w' sb mb th (upTo th.toNat) x (r + 1) ∧ (∃ bs, SB w' (some ⟨ab, 0, none⟩) cc bs ∧ (bs.length : Int) = th ∧ ∀ t, 0 ≤ t → t < k → bs.getD t.toNat false = true) ∧ Fr [] W w',
          fun k _ => (th - k).toNat, ⟨by omega, by omega, A8, ⟨bs, B8, hl, fun t h0 h1 => by omega⟩, f8⟩, ?_⟩
        rintro - k w9 ⟨hk0, hk1, A9, ⟨cs, B9, hl9, hb9⟩, f9⟩
        refine IfB.dec (fun hlt => ?_) (fun hge => ?_)
        · refine B9.put hk0 (by omega) true fun p hm _ hs => ⟨⟨hk0, by omega⟩, hm, fun w10 s10 => ⟨fit64 (by omega) (by omega), ?_, by dsimp only; omega⟩⟩
          obtain ⟨B10, f10⟩ := hs _ s10
          refine ⟨by omega, by omega, A9.fr f10 (by simp [ablk]; omega) (by simp [ablk]; omega), ⟨_, B10, by rw [List.length_set]; exact hl9, fun t h0 h1 => ?_⟩, f9.trans f10 la⟩
          rw [getD_set _ _ _ _ (by omega)]
          split
          · rfl
          · exact hb9 t h0 (by omega)
        · refine ⟨⟨upTo th.toNat, x, A9, ?_, fun _ => rfl, fun t ht => by have := mem_upTo.1 ht; omega, cs, B9, hl9, fun t h0 h1 => ?_⟩, by omega, by omega, f9⟩
          · have : (0 : Int) ∈ upTo th.toNat := mem_upTo.2 (by omega)
            have : upTo th.toNat ≠ [] := fun e => by rw [e] at this; simp at this
            simp [this]
          · rw [hb9 t h0 (by omega)]
            have : t ∈ upTo th.toNat := mem_upTo.2 (by omega)
            simp [this]
    · refine shakeSee_c A5 t ?_
      refine ⟨fun b' w' => b' = decide ((0 ≤ t ∧ t < th) ∧ t ∈ ks) ∧ w' = w6, IfB.dec (fun h => ⟨_, X.cell rfl, B5.get h.1 (by omega) fun p hp => ⟨⟨h.1, by omega⟩, _, hp, ?_, rfl⟩⟩) (fun h => ⟨by simp [h], rfl⟩), ?_⟩
      · rw [hb t h.1 h.2]; simp [h]
      rintro - b' w7 ⟨rfl, rfl⟩
      have same : ShPlay w7 sb mb th ab cc (decide (ks ≠ [])) wh r ∧ 0 ≤ r ∧ r ≤ i + 1 ∧ Fr [] W w7 := ⟨⟨ks, what, A5, rfl, hw, hks, bs, B5, hl, hb⟩, hr0, by omega, f5⟩
      by_cases h1 : 0 ≤ t ∧ t < th
      · rw [if_pos h1]
        refine ifb_nbeq (by simp [h1]) (ifb_nyes (by simp [h1]) (ifb_nbeq rfl ?_))
        by_cases h2 : t ∈ ks
        · rw [if_pos ⟨h1, h2⟩]
          refine ifb_yes (by simp [h1, h2]) (IfB.nyes (hw (fun e => by rw [e] at h2; simp at h2)).symm (ifb_nyes (by simp [h1, h2]) same))
        · rw [if_neg (fun h => h2 h.2)]
          exact ifb_no (by simp [h2]) (ifb_nno (by simp [h2]) (IfB.nyes rfl same))
      · rw [if_neg h1, if_neg (fun h => h1 h.1)]
        exact ifb_nbeq (by simp [h1]) (ifb_nno (by simp [h1]) (IfB.nyes rfl (ifb_nbeq rfl (ifb_no (by simp [h1]) (ifb_nno (by simp [h1]) (IfB.nyes rfl same))))))
    · refine shakeAnswer_c A5 t (fun h => ?_) (fun h w7 A7 f7 => ?_)
      · exact ifb_nbeq (by simp [h]) (ifb_nno (by simp [h]) (IfB.nyes rfl (ifb_no (by simp [h]) ⟨⟨ks, what, A5, rfl, hw, hks, bs, B5, hl, hb⟩, hr0, by omega, f5⟩)))
      · refine ifb_nbeq (by simp [h]) (ifb_nyes (by simp [h]) (ifb_yes (by simp [h]) ⟨_, (X.fr f7 (by simp; omega)).cell rfl, ?_⟩))
        have B7 : SB w7 _ _ _ := B5.fr f7 lam
        refine B7.put h.1 (by omega) false fun p hm _ hs => ⟨⟨h.1, by omega⟩, hm, fun w8 s8 => ?_⟩
        obtain ⟨B8, f8⟩ := hs _ s8
        have A8 := A7.fr f8 (by simp [ablk]; omega) (by simp [ablk]; omega)
        generalize hks' : ks.filter (fun x => !(t == x)) = ks' at *
        have hks'' : ∀ u ∈ ks', 0 ≤ u ∧ u < th := fun u hu => hks u (by rw [← hks'] at hu; exact (List.mem_filter.1 hu).1)
        have hb8 : ∀ u, 0 ≤ u → u < th → (bs.set t.toNat false).getD u.toNat false = decide (u ∈ ks') := by
          intro u h0 h1
          rw [getD_set _ _ _ _ (by omega), ← hks']
          simp only [List.mem_filter]
          split
          · have : t = u := by omega
            simp [this]
          · have : t ≠ u := fun e => by subst e; omega
            rw [hb u h0 h1]; simp [this]
        refine ⟨fun b k w' => 0 ≤ k ∧ k ≤ th ∧ b = decide (∃ u ∈ ks', u < k) ∧ w' = w8, fun _ k _ => (th - k).toNat, ⟨by omega, by omega, ?_, rfl⟩, ?_⟩
        · rw [eq_comm, decide_eq_false_iff_not]
          rintro ⟨u, hu, h1⟩
          have := hks'' u hu
          omega
        rintro - b k w9 ⟨hk0, hk1, rfl, rfl⟩
        refine IfB.dec (fun hlt => ?_) (fun hge => ?_)
        · refine IfB.dec (fun he => ⟨fit64 (by omega) (by omega), ⟨by omega, by omega, ?_, rfl⟩, by dsimp only; omega⟩) (fun he => ?_)
          · obtain ⟨u, hu, h1⟩ := he
            rw [eq_comm, decide_eq_true_eq]
            exact ⟨u, hu, by omega⟩
          · refine B8.get hk0 (by rw [List.length_set]; omega) fun p hp => ⟨⟨hk0, by omega⟩, _, hp, fit64 (by omega) (by omega), ⟨by omega, by omega, ?_, rfl⟩, by dsimp only; omega⟩
            rw [hb8 k hk0 hlt, decide_eq_decide]
            constructor
            · intro hu; exact ⟨k, hu, by omega⟩
            · rintro ⟨u, hu, h1⟩
              by_cases e : u = k
              · subst e; exact hu
              · exact absurd ⟨u, hu, by omega⟩ he
        · refine ⟨⟨ks', what, A8, ?_, fun _ => hw (fun e => ?_), hks'', _, B8, by rw [List.length_set]; exact hl, hb8⟩, hr0, by omega, (f5.trans f7 lm).trans f8 la⟩
          · rw [decide_eq_decide]
            constructor
            · rintro ⟨u, hu, _⟩ e
              rw [e] at hu; simp at hu
            · intro hne
              cases hc : ks' with
              | nil => exact absurd hc hne
              | cons u us => exact ⟨u, by simp, by have := hks'' u (by rw [hc]; simp); omega⟩
          · rename_i hne
            rw [e] at hks'
            simp at hks'
            exact hne hks'
  · rintro - b wh r w7 ⟨⟨ks, what, A7, rfl, hw, hks, bs, B7, hl, hb⟩, hr0, hr1, f7⟩
    refine shakeDone_c A7 (ifb_bne ?_ (shakeRounds_c A7 (IfB.nyes rfl ⟨fit64 (by omega) (by omega), ⟨⟨ks, what, A7, rfl, hw, hks, bs, B7, hl, hb⟩, hr0, by omega, by omega, f7⟩, by dsimp only; omega⟩)))
    by_cases e : ks = [] <;> simp [e]

end Go.Proofs.Ytfpghcdjfiggiaa.V
