/- CollectRoots: what is put on comes off again. No condition. -/
import Derived.Test.YtfpghcdjfiggiaaFull12
import Derived.Test.YtfpghcdjfiggiaaArgs
namespace Go.Proofs.Ytfpghcdjfiggiaa.V
open Go Go.RowKit

/-- Three slices of the law's own, in a block. -/
structure Want (w : World) (own : Nat → Nat) (b : Nat) (ts : List RT) : Prop where
  T : SR encRT w (some ⟨b, 0, none⟩) 3 ts
  V : ∀ (i : Nat) t, ts[i]? = some t → SI w t.a t.c t.rs
  ob : Tag own [b] 1010
  ot : ∀ (i : Nat) t, ts[i]? = some t → Tag own (ablk t.a) (1000 + i)
  ln : ts.length = 3

section
variable {W w w' : World} {own own' : Nat → Nat} {b cb : Nat} {ts : List RT} {roots : List (List Int)} {words cycles last : Int} {xs : List XC}

theorem Want.step {n : Nat} (h : Want w own b ts) (s : StN n w w' own own') (hn : n ≤ 1000) : Want w' own' b ts := by
  have lb : Low [b] w.heap.size := fun c hc => by simp at hc; rw [hc]; exact h.T.low b (by simp [ablk])
  have tb := s.tag h.ob lb
  have tt := fun i t ht => s.tag (h.ot i t ht) (h.V i t ht).low
  obtain ⟨⟨S, f, hS⟩, ag⟩ := s
  have ap : ∀ {F : List Nat} {k : Nat}, Tag own F k → n ≤ k → Apart F S := fun t hk c hc hc2 => by have := hS c hc2; have := t c hc; omega
  exact ⟨h.T.fr f (ap (k := 1010) (fun c hc => h.ob c (by simpa [ablk] using hc)) (by omega)), fun i t ht => (h.V i t ht).fr f (ap (h.ot i t ht) (by omega)), tb, tt, h.ln⟩
theorem Want.new (h : Want w own b ts) (f : ∀ S, Fr S w w') (k : Nat) : Want w' (ext own w.heap.size k) b ts :=
  h.step (n := 0) ⟨⟨[], f [], by simp⟩, ext_ag _ _ _⟩ (by decide)

theorem Want.at (h : Want w own b ts) {i : Nat} {t : RT} (ht : ts[i]? = some t) : w.cell? (Addr.add ⟨b, 0, none⟩ (i * 1)) = some (.slice t.a t.rs.length t.c) ∧ May w (Addr.add ⟨b, 0, none⟩ (i * 1)) := by
  obtain ⟨b', off, e, q⟩ := h.T.at ht
  cases e
  have := q 0 (by decide)
  have a0 : ∀ p : Addr, Addr.add p 0 = p := fun p => by cases p; simp [Addr.add]
  rw [a0] at this
  exact this

/-- One of them has grown, then its place. -/
theorem Want.app (h : Want w own b ts) {i : Nat} {t : RT} (ht : ts[i]? = some t) {w1 : World} {a' : Option Addr} {c' : Nat} {rs' : List Int} (S1 : SI w1 a' c' rs') (f1 : Fr (ablk t.a) w w1) (g1 : Grw (ablk t.a) (ablk a') w.heap.size) (s2 : SetC w1 w' (Addr.add ⟨b, 0, none⟩ (i * 1)) (.slice a' rs'.length c')) :
    Want w' (ext own w.heap.size (1000 + i)) b (ts.set i ⟨a', c', rs'⟩) ∧ Fr [b] w1 w' := by
  have hil := (List.getElem?_eq_some_iff.1 ht).1
  have h3 := h.ln
  have oi := h.ot i t ht
  have lb : Low [b] w.heap.size := fun c hc => by simp at hc; rw [hc]; exact h.T.low b (by simp [ablk])
  have tb : Tag own (ablk (some (⟨b, 0, none⟩ : Addr))) 1010 := fun c hc => h.ob c (by simpa [ablk] using hc)
  have T1 := h.T.fr f1 (tb.apart oi (by omega))
  have a0 : ∀ p : Addr, Addr.add p 0 = p := fun p => by cases p; simp [Addr.add]
  have s2' : SetC w1 w' (Addr.add (Addr.add ⟨b, 0, none⟩ (i * encRT.k)) 0) (.slice a' rs'.length c') := by rw [a0]; simpa [encRT] using s2
  obtain ⟨T2, f2⟩ := T1.set1 ht rfl (j := 0) (by decide) (r' := ⟨a', c', rs'⟩) rfl s2'
  have f2' : Fr [b] w1 w' := f2.mono (by simp [ablk])
  have ob' := h.ob.keep lb (1000 + i)
  have oi' := oi.grow (h.V i t ht).low g1
  have get : ∀ (j : Nat) u, (ts.set i ⟨a', c', rs'⟩)[j]? = some u → (j = i ∧ u = ⟨a', c', rs'⟩) ∨ (j ≠ i ∧ ts[j]? = some u) := fun j u hu => by
    rw [List.getElem?_set] at hu
    by_cases e : i = j
    · rw [if_pos e, if_pos hil] at hu
      exact .inl ⟨e.symm, (Option.some.inj hu).symm⟩
    · rw [if_neg e] at hu
      exact .inr ⟨fun e2 => e e2.symm, hu⟩
  refine ⟨⟨T2, fun j u hu => ?_, ob', fun j u hu => ?_, by rw [List.length_set]; exact h3⟩, f2'⟩
  · rcases get j u hu with ⟨rfl, rfl⟩ | ⟨hn, hj⟩
    · exact S1.fr f2' (oi'.apart ob' (by omega))
    · have := (List.getElem?_eq_some_iff.1 hj).1
      exact ((h.V j u hj).fr f1 ((h.ot j u hj).apart oi (by omega))).fr f2' (((h.ot j u hj).keep (h.V j u hj).low (1000 + i)).apart ob' (by omega))
  · rcases get j u hu with ⟨rfl, rfl⟩ | ⟨hn, hj⟩
    · exact oi'
    · exact (h.ot j u hj).keep (h.V j u hj).low _
end

theorem collectRoots_c {W : World} {a : Option Addr} {zs : List Int} {c : Nat} (ga : ArgI W.heap.size W a zs) {K : Bool → World → Prop} (hK : ∀ w', Fr [] W w' → K true w') : C27 a zs.length c W K := by
  refine r_f27 _ _ _ _ _ (awake12_c fun w1 f1 => ifb_f (qcnew 8192 3 (by decide) fun w2 own2 cb R2 => ?_))
  replace ga : ∀ w', Fr [] w1 w' → ArgI W.heap.size w' a zs := fun w' f => ga.fr (f1.more f) (by simp)
  replace hK : ∀ w', Fr [] w1 w' → K true w' := fun w' f => hK w' (f1.more f)
  have R2 : Cq w1 w2 own2 cb [[], [], []] 8192 0 0 [] := R2
  refine qcmake R2 (by decide) (rs := []) (by decide) rfl (by decide) rfl (fun q => absurd q (by decide)) (fun _ q => absurd q (by decide)) fun _ _ w3 own3 R3 st3 => ?_
  have R3 : Cq w1 w3 own3 cb [[1], [], []] 8192 0 1 [⟨1, 1, 1, 1, [0]⟩] := R3
  refine qcmake R3 (by decide) (rs := []) (by decide) rfl (by decide) rfl (fun q => absurd q (by decide)) (fun _ q => absurd q (by decide)) fun _ _ w4 own4 R4 st4 => ?_
  have R4 : Cq w1 w4 own4 cb [[1], [2], []] 8192 0 2 [⟨1, 1, 1, 1, [0]⟩, ⟨2, 1, 2, 1, [0]⟩] := R4
  intro b12 w13 n13 b14 w15 n15 b16 w17 n17 b18 w19 n19
  have R13 := R4.other (S := []) (n13.fr []) (k := 1000) (by simp [Tag]) (by decide)
  have R15 := R13.other (S := []) (n15.fr []) (k := 1001) (by simp [Tag]) (by decide)
  have R17 := R15.other (S := []) (n17.fr []) (k := 1002) (by simp [Tag]) (by decide)
  refine ⟨n19.blk.mayL (by simp), fun w20 s20 => ?_⟩
  obtain ⟨X20, f20⟩ := newSet n19 s20 rfl
  have g13 := n13.ge; have g15 := n15.ge; have g17 := n17.ge; have g19 := n19.ge
  have l13 := n13.blk.lt; have l15 := n15.blk.lt; have l17 := n17.blk.lt; have l19 := n19.blk.lt
  have z13 := (n13.fr []).size; have z15 := (n15.fr []).size; have z17 := (n17.fr []).size
  have tb : Tag (ext (ext (ext (ext own4 w4.heap.size 1000) w13.heap.size 1001) w15.heap.size 1002) w17.heap.size 1010) [b18] 1010 := Tag.fresh _ (by simp; omega)
  have R20 := R17.other (S := []) (f20 []) (k := 1010) (by simp [Tag]) (by decide)
  have SI1 : ∀ {wa wb : World} {bb : Nat} {v : Int}, NewAt wa wb bb #[.int .i64 v] 3 → SI wb (some ⟨bb, 0, none⟩) 1 [v] := fun {wa wb bb v} n => ⟨by simp, by simp, by decide, .inr ⟨bb, 0, [vi v], rfl, n.blk, by simp, rfl⟩⟩
  have f17 : ∀ S, Fr S w17 w20 := fun S => (f20 S)
  have f15 : ∀ S, Fr S w15 w20 := fun S => (n17.fr S).more (f17 S)
  have f13 : ∀ S, Fr S w13 w20 := fun S => (n15.fr S).more (f15 S)
  have V0 : SI w20 (some ⟨b12, 0, none⟩) 1 [1] := (SI1 n13).fr (f13 []) (by intro b _; simp)
  have V1 : SI w20 (some ⟨b14, 0, none⟩) 1 [2] := (SI1 n15).fr (f15 []) (by intro b _; simp)
  have V2 : SI w20 (some ⟨b16, 0, none⟩) 0 [] := by
    have : SI w17 (some ⟨b16, 0, none⟩) 0 [] := ⟨rfl, Nat.le_refl _, Nat.zero_le _, .inr ⟨b16, 0, [], rfl, n17.blk, by decide, rfl⟩⟩
    exact this.fr (f17 []) (by intro b _; simp)
  have three : ∀ (P : Nat → RT → Prop), P 0 ⟨some ⟨b12, 0, none⟩, 1, [1]⟩ → P 1 ⟨some ⟨b14, 0, none⟩, 1, [2]⟩ → P 2 ⟨some ⟨b16, 0, none⟩, 0, []⟩ → ∀ (i : Nat) t, ([⟨some ⟨b12, 0, none⟩, 1, [1]⟩, ⟨some ⟨b14, 0, none⟩, 1, [2]⟩, ⟨some ⟨b16, 0, none⟩, 0, []⟩] : List RT)[i]? = some t → P i t := fun P p0 p1 p2 i t ht => by
    match i, ht with
    | 0, ht => simp at ht; subst ht; exact p0
    | 1, ht => simp at ht; subst ht; exact p1
    | 2, ht => simp at ht; subst ht; exact p2
    | i + 3, ht => simp at ht
  have Wt : Want w20 (ext (ext (ext (ext own4 w4.heap.size 1000) w13.heap.size 1001) w15.heap.size 1002) w17.heap.size 1010) b18 [⟨some ⟨b12, 0, none⟩, 1, [1]⟩, ⟨some ⟨b14, 0, none⟩, 1, [2]⟩, ⟨some ⟨b16, 0, none⟩, 0, []⟩] := by
    refine ⟨⟨rfl, by simp, by decide, .inr ⟨b18, 0, _, rfl, X20, by simp [encRT], rfl⟩⟩, three _ V0 V1 V2, tb, three _ ?_ ?_ ?_, rfl⟩
    · intro c hc; simp [ablk] at hc; subst hc
      unfold ext
      rw [if_pos (by omega), if_pos (by omega), if_pos (by omega), if_neg (by omega)]
    · intro c hc; simp [ablk] at hc; subst hc
      unfold ext
      rw [if_pos (by omega), if_pos (by omega), if_neg (by omega)]
    · intro c hc; simp [ablk] at hc; subst hc
      unfold ext
      rw [if_pos (by omega), if_neg (by omega)]
  generalize ext (ext (ext (ext own4 w4.heap.size 1000) w13.heap.size 1001) w15.heap.size 1002) w17.heap.size 1010 = own20 at R20 Wt
  clear R13 R15 R17 tb three V0 V1 V2
  have mod3 : ∀ z : Int, 0 ≤ Int.tmod (bits .and .i64 z 255) 3 ∧ Int.tmod (bits .and .i64 z 255) 3 < 3 := fun z => by
    have h1 := and_range 255 8 (by decide) rfl z
    rw [Int.tmod_eq_emod_of_nonneg h1.1]
    exact ⟨Int.emod_nonneg _ (by decide), Int.emod_lt_of_pos _ (by decide)⟩
  refine ⟨fun w' => ∃ (own : Nat → Nat) (ts : List RT), Want w' own b18 ts ∧ Cq w1 w' own cb (ts.map (·.rs)) 8192 0 2 [⟨1, 1, 1, 1, [0]⟩, ⟨2, 1, 2, 1, [0]⟩] ∧ ∀ t ∈ ts, t.rs.length ≤ 64, ?_, ?_⟩
  · refine ⟨fun i w' => 0 ≤ i ∧ i ≤ 100 ∧ ∃ (own : Nat → Nat) (ts : List RT), Want w' own b18 ts ∧ Cq w1 w' own cb (ts.map (·.rs)) 8192 0 2 [⟨1, 1, 1, 1, [0]⟩, ⟨2, 1, 2, 1, [0]⟩] ∧ ∀ t ∈ ts, t.rs.length ≤ 64, fun i _ => (100 - i).toNat, ⟨by decide, by decide, own20, _, Wt, R20, by simp⟩, ?_⟩
    rintro - i w5 ⟨hi0, hi1, own5, ts, Wt5, R5, hl5⟩
    refine IfB.dec (fun hil => IfB.dec (fun hi100 => ?_) (fun _ => ⟨own5, ts, Wt5, R5, hl5⟩)) (fun _ => ⟨own5, ts, Wt5, R5, hl5⟩)
    refine (ga w5 R5.bs).get hi0 hil fun p hp _ => ⟨⟨hi0, hil⟩, _, hp, by decide, fun b29 w30 n30 => ?_⟩
    have R30 := R5.other (S := []) (n30.fr []) (k := 1020) (by simp [Tag]) (by decide)
    have Wt30 := Wt5.new n30.fr 1020
    generalize ext own5 w5.heap.size 1020 = own30 at R30 Wt30
    refine (ga w30 R30.bs).get hi0 hil fun p2 hp2 _ => ⟨⟨hi0, hil⟩, _, hp2, by decide, by decide, mod3 _, ?_⟩
    obtain ⟨q, hq⟩ : ∃ q, Int.tmod (bits .and .i64 (IntKind.wrap .i64 (Int.tdiv (zs.getD i.toNat 0) 3)) 255) 3 = q := ⟨_, rfl⟩
    have hq3 := mod3 (IntKind.wrap .i64 (Int.tdiv (zs.getD i.toNat 0) 3))
    rw [hq] at hq3 ⊢
    obtain ⟨t, ht⟩ : ∃ t, Int.tmod (bits .and .i64 (zs.getD i.toNat 0) 255) 3 = t := ⟨_, rfl⟩
    have ht3 := mod3 (zs.getD i.toNat 0)
    rw [ht] at ht3 ⊢
    have a1 : ∀ (j : Nat) (bb : Nat), Addr.add ⟨bb, 0, none⟩ (j * 1) = ⟨bb, j, none⟩ := fun j bb => by simp [Addr.add]; omega
    obtain ⟨v, hv⟩ : ∃ v : Int, w30.cell? (Addr.add ⟨b29, 0, none⟩ (Int.toNat q * 1)) = some (.int .i64 v) := by
      rw [a1]
      have : q = 0 ∨ q = 1 ∨ q = 2 := by omega
      rcases this with rfl | rfl | rfl
      · exact ⟨_, n30.blk.cell rfl⟩
      · exact ⟨_, n30.blk.cell rfl⟩
      · exact ⟨_, n30.blk.cell rfl⟩
    obtain ⟨u, hu⟩ : ∃ u, ts[t.toNat]? = some u := ⟨_, List.getElem?_eq_getElem (by have := Wt30.ln; omega)⟩
    refine ⟨v, hv, ht3, _, _, _, (Wt30.at hu).1, IfB.dec (fun hfull => ?_) (fun hroom => ?_)⟩
    · rw [w64_c (z := i + 1) (by omega) (by omega)]
      exact ⟨⟨by omega, by omega, own30, ts, Wt30, R30, hl5⟩, by dsimp only; omega⟩
    · refine qcpush R30 ht3.1 (rs := u.rs) (by rw [List.getElem?_map, hu]; rfl) (by omega) fun w36 own36 R36 st36 => ifb_nyes rfl ⟨ht3, ?_⟩
      have Wt36 := Wt30.step st36 (by decide)
      refine ⟨_, _, _, (Wt36.at hu).1, fun b38 w39 n39 => app_int (Wt36.V _ u hu) n39 (by omega) fun a40 c40 w41 S41 f41 g41 => ?_⟩
      have oi := Wt36.ot _ u hu
      have R41 := R36.other f41 oi (by have := Wt36.ln; have := (List.getElem?_eq_some_iff.1 hu).1; omega)
      have tb : Tag own36 (ablk (some (⟨b18, 0, none⟩ : Addr))) 1010 := fun c hc => Wt36.ob c (by simpa [ablk] using hc)
      have T41 := Wt36.T.fr f41 (tb.apart oi (by omega))
      have m41 : May w41 (Addr.add ⟨b18, 0, none⟩ (Int.toNat t * 1)) := by
        obtain ⟨b', off, e, qq⟩ := T41.at hu
        cases e
        have := (qq 0 (by decide)).2
        have a0 : ∀ p : Addr, Addr.add p 0 = p := fun p => by cases p; simp [Addr.add]
        rw [a0] at this
        exact this
      refine ⟨ht3, m41, fun w42 s42 => ?_⟩
      have el : (u.rs ++ [v]).length = u.rs.length + 1 := by simp
      obtain ⟨Wt42, f42⟩ := Wt36.app hu S41 f41 g41 (by rw [el]; exact s42)
      have lb : Low [b18] w36.heap.size := fun c hc => by simp at hc; rw [hc]; exact Wt36.T.low b18 (by simp [ablk])
      have R42 := R41.other f42 (Wt36.ob.keep lb _) (by decide)
      have Wt42' := Wt42.step (n := 0) (w' := w42) (own' := ext (ext own36 w36.heap.size (1000 + t.toNat)) w41.heap.size 1010) ⟨⟨[], Fr.refl _ _, by simp⟩, fun b hb => by
        have hs : w42.heap.size = w41.heap.size := by unfold SetC at s42; subst s42; simp [World.setCell]
        unfold ext; rw [if_pos (by omega)]⟩ (by decide)
      rw [w64_c (z := i + 1) (by omega) (by omega)]
      refine ⟨⟨by omega, by omega, _, _, Wt42', ?_, fun t' ht' => ?_⟩, by dsimp only; omega⟩
      · rw [List.map_set]; exact R42
      · rcases List.mem_or_eq_of_mem_set ht' with q1 | q1
        · exact hl5 t' q1
        · rw [q1]; simp; omega
  · rintro - w5 ⟨own5, ts, Wt5, R5, hl5⟩
    have h3 := Wt5.ln
    refine ⟨fun n w' => 0 ≤ n ∧ n ≤ 3 ∧ ∃ (own : Nat → Nat) (roots : List (List Int)), Want w' own b18 ts ∧ (∀ (i : Nat) t, ts[i]? = some t → roots[i]? = some (if (i : Int) < n then [] else t.rs)) ∧ Cq w1 w' own cb roots 8192 0 2 [⟨1, 1, 1, 1, [0]⟩, ⟨2, 1, 2, 1, [0]⟩], fun n _ => (3 - n).toNat, ⟨by decide, by decide, own5, _, Wt5, fun i t ht => by rw [List.getElem?_map, ht, if_neg (by omega)]; rfl, R5⟩, ?_⟩
    rintro - n w6 ⟨hn0, hn1, own6, roots6, Wt6, hr6, R6⟩
    refine IfB.dec (fun hlt => ?_) (fun hge => ifb_yes rfl (ifb_yes rfl (hK w6 R6.bs)))
    obtain ⟨u, hu⟩ : ∃ u, ts[n.toNat]? = some u := ⟨_, List.getElem?_eq_getElem (by omega)⟩
    have hul := hl5 u (List.mem_of_getElem? hu)
    refine ⟨⟨hn0, hlt⟩, _, _, _, (Wt6.at hu).1, ?_⟩
    rw [w64_c (z := (u.rs.length : Int) - 1) (by omega) (by omega)]
    refine ⟨fun m w' => -1 ≤ m ∧ m < u.rs.length ∧ ∃ (own : Nat → Nat) (roots : List (List Int)), Want w' own b18 ts ∧ roots[n.toNat]? = some (u.rs.take (m + 1).toNat) ∧ (∀ (i : Nat) t, i ≠ n.toNat → ts[i]? = some t → roots[i]? = some (if (i : Int) < n then [] else t.rs)) ∧ Cq w1 w' own cb roots 8192 0 2 [⟨1, 1, 1, 1, [0]⟩, ⟨2, 1, 2, 1, [0]⟩], fun m _ => (m + 1).toNat,
      ⟨by omega, by omega, own6, roots6, Wt6, ?_, fun i t _ ht => hr6 i t ht, R6⟩, ?_⟩
    · rw [hr6 _ u hu, if_neg (by omega), List.take_of_length_le (by omega)]
    rintro - m w7 ⟨hm0, hm1, own7, roots7, Wt7, hj7, hr7, R7⟩
    refine IfB.dec (fun hge => ?_) (fun hneg => ?_)
    · have hlen : (u.rs.take (m + 1).toNat).length = (m + 1).toNat := by rw [List.length_take]; omega
      refine qcpop R7 hn0 hj7 (fun e => by rw [e] at hlen; simp at hlen; omega) fun l f el w8 own8 R8 st8 => ifb_nyes rfl ⟨⟨hn0, hlt⟩, ?_⟩
      have Wt8 := Wt7.step st8 (by decide)
      have ef : u.rs.getD m.toNat 0 = f ∧ l = u.rs.take m.toNat := by
        have h1 : (m + 1).toNat = m.toNat + 1 := by omega
        rw [h1, List.take_succ_eq_append_getElem (by omega)] at el
        obtain ⟨e1, e2⟩ := List.append_inj' el rfl
        simp at e2
        refine ⟨?_, e1.symm⟩
        rw [List.getD_eq_getElem?_getD, List.getElem?_eq_getElem (by omega)]
        exact e2
      refine ⟨_, _, _, (Wt8.at hu).1, (Wt8.V _ u hu).get hge hm1 fun p hp => ⟨⟨hge, hm1⟩, _, hp, ifb_nyes (decide_eq_true ef.1.symm) ?_⟩⟩
      rw [w64_c (z := m - 1) (by omega) (by omega)]
      have hrl := (List.getElem?_eq_some_iff.1 hj7).1
      refine ⟨⟨by omega, by omega, own8, _, Wt8, ?_, fun i t hi ht => ?_, R8⟩, by dsimp only; omega⟩
      · rw [List.getElem?_set, if_pos rfl, if_pos hrl, ef.2, show (m - 1 + 1).toNat = m.toNat by omega]
      · rw [List.getElem?_set, if_neg (fun e => hi e.symm)]
        exact hr7 i t hi ht
    · have e0 : u.rs.take (m + 1).toNat = [] := by rw [show (m + 1).toNat = 0 by omega]; rfl
      refine qcpop R7 hn0 hj7 (fun _ => ?_) (fun l f el => by rw [e0] at el; simp at el)
      refine ifb_nyes rfl ?_
      rw [w64_c (z := n + 1) (by omega) (by omega)]
      refine ⟨⟨by omega, by omega, own7, roots7, Wt7, fun i t ht => ?_, R7⟩, by dsimp only; omega⟩
      by_cases e : i = n.toNat
      · subst e
        rw [hj7, e0, if_pos (by omega)]
      · rw [hr7 i t e ht]
        congr 1
        by_cases q : (i : Int) < n
        · rw [if_pos q, if_pos (by omega)]
        · rw [if_neg q, if_neg (by omega)]
end Go.Proofs.Ytfpghcdjfiggiaa.V
