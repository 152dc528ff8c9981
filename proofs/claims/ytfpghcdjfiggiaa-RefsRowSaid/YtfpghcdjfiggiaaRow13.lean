/- RefsRow: the queue's order. No condition. -/
import Derived.Test.YtfpghcdjfiggiaaWeaks13
namespace Go.Proofs.Ytfpghcdjfiggiaa.V
open Go Go.RowKit

theorem sub_len : ∀ (l m : List Int), l.Nodup → (∀ r ∈ l, r ∈ m) → l.length ≤ m.length
  | [], _, _, _ => Nat.zero_le _
  | a :: l, m, hn, hs => by
    rw [List.nodup_cons] at hn
    have ha := hs a (by simp)
    have := sub_len l (m.erase a) hn.2 fun r hr => by
      have hne : r ≠ a := fun e => hn.1 (e ▸ hr)
      exact (List.mem_erase_of_ne hne).2 (hs r (by simp [hr]))
    rw [List.length_erase_of_mem ha] at this
    have := List.length_pos_of_mem ha
    simp only [List.length_cons]; omega

/-- Two threads hold P0 and P1, the queue the rest that is dead. -/
structure Row (W w : World) (own : Nat → Nat) (rb k : Nat) (P0 P1 queue fin : List Int) : Prop where
  R : Rq W w own rb [P0, P1] 16384 (k : Int) (objs k) fin queue
  nd : (P0 ++ P1 ++ queue).Nodup
  sub : ∀ r ∈ P0 ++ P1 ++ queue, r ∈ up k
  fin : ∀ r, r ∈ fin ↔ r ∈ up k ∧ r ∉ queue
  k18 : k ≤ 18

section
variable {W w w' : World} {own own' : Nat → Nat} {rb k : Nat} {P0 P1 queue fin : List Int}
theorem Row.le (h : Row W w own rb k P0 P1 queue fin) : P0.length + P1.length + queue.length ≤ k := by
  have := sub_len _ _ h.nd h.sub
  rw [up_len] at this; simp at this; omega

theorem rowpop (h : Row W w own rb k P0 P1 queue fin) {t : Int} (ht : t = 0 ∨ t = 1) {K : Int → Int → World → Prop}
    (hno : (t = 0 → P0 = []) → (t = 1 → P1 = []) → K 0 1303 w)
    (hok : ∀ f w' own' Q0 Q1, 0 < f → Row W w' own' rb k Q0 Q1 queue fin → (t = 0 → Q1 = P1 ∧ Q0.length + 1 = P0.length) → (t = 1 → Q0 = P0 ∧ Q1.length + 1 = P1.length) → St w w' own own' → K f 0 w') : C105 (some ⟨rb, 0, none⟩) t w K := by
  rcases ht with rfl | rfl
  · rcases List.eq_nil_or_concat P0 with e | ⟨l, f, e⟩
    · exact qrpop0 h.R (by decide) (by rw [e]; rfl) (hno (fun _ => e) (fun h => by omega))
    · rw [List.concat_eq_append] at e
      subst e
      have hf := mem_up.1 (h.sub f (by simp))
      refine qrpop h.R (by decide) rfl fun w' own' R' st => hok f w' own' l P1 (by omega) ⟨R', ?_, fun r hr => h.sub r ?_, h.fin, h.k18⟩ (fun _ => ⟨rfl, by simp⟩) (fun h => by omega) st
      · have := h.nd
        exact List.Nodup.sublist (by simp) this
      · simp at hr ⊢; rcases hr with hr | hr | hr <;> simp [hr]
  · rcases List.eq_nil_or_concat P1 with e | ⟨l, f, e⟩
    · exact qrpop0 h.R (by decide) (by rw [e]; rfl) (hno (fun h => by omega) (fun _ => e))
    · rw [List.concat_eq_append] at e
      subst e
      have hf := mem_up.1 (h.sub f (by simp))
      refine qrpop h.R (by decide) rfl fun w' own' R' st => hok f w' own' P0 l (by omega) ⟨R', ?_, fun r hr => h.sub r ?_, h.fin, h.k18⟩ (fun h => by omega) (fun _ => ⟨rfl, by simp⟩) st
      · have := h.nd
        refine List.Nodup.sublist ?_ this
        simp
      · simp at hr ⊢; rcases hr with hr | hr | hr <;> simp [hr]

theorem up_lt (k : Nat) : (up k).Pairwise (· < ·) := by
  unfold up; rw [List.pairwise_map]
  exact List.pairwise_lt_range.imp fun h => by omega

theorem rowcycle (h : Row W w own rb k P0 P1 queue fin) {K : Option Addr → Nat → Nat → Option Addr → Nat → Nat → Int → World → Prop}
    (hok : ∀ w' own' D fin' ca cl cc da dc, Row W w' own' rb k P0 P1 (queue ++ D) fin' → D.Pairwise (· < ·) → P0.length + P1.length + (queue ++ D).length = k → Sd w' own' da dc 1002 D → StN 40 w w' own own' → K ca cl cc da D.length dc 0 w') : C106 (some ⟨rb, 0, none⟩) w K := by
  have fl : ∀ x ∈ objs k, (x.kind = 4 ∨ x.kind = 2 ∨ x.vs = [0]) ∧ 1 ≤ x.ref := fun x hx => by
    obtain ⟨i, _, rfl⟩ := mem_objs.1 hx; exact ⟨.inr (.inr rfl), by dsimp only; omega⟩
  have ef : ([P0, P1] : List (List Int)).flatten = P0 ++ P1 := by simp
  have hle := h.le
  have eD : que (P0 ++ P1 ++ queue) fin (objs k) = (up k).filter (fun r => decide (r ∉ P0 ++ P1 ++ queue)) := by
    unfold que
    rw [← objs_refs, List.filter_map]
    congr 1
    refine List.filter_congr fun x hx => ?_
    have hx' : x.ref ∈ up k := by rw [← objs_refs]; exact List.mem_map_of_mem hx
    simp only [Function.comp]
    rw [decide_eq_decide, h.fin]
    constructor
    · exact fun a => a.2
    · exact fun a => ⟨⟨hx', fun q => a (by simp [q])⟩, a⟩
  have mD : ∀ r, r ∈ (up k).filter (fun r => decide (r ∉ P0 ++ P1 ++ queue)) ↔ r ∈ up k ∧ r ∉ P0 ++ P1 ++ queue := fun r => by rw [List.mem_filter, decide_eq_true_iff]
  have ndD : (up k).Nodup := (up_lt k).imp fun h => by omega
  have pD : ((up k).filter (fun r => decide (r ∉ P0 ++ P1 ++ queue))).Pairwise (· < ·) := (up_lt k).filter _
  generalize (up k).filter (fun r => decide (r ∉ P0 ++ P1 ++ queue)) = D at eD mD pD
  have all : ∀ r, r ∈ P0 ++ P1 ++ (queue ++ D) ↔ r ∈ up k := fun r => by
    rw [← List.append_assoc, List.mem_append]
    constructor
    · rintro (q | q)
      · exact h.sub r q
      · exact ((mD r).1 q).1
    · intro q
      by_cases hq : r ∈ P0 ++ P1 ++ queue
      · exact .inl hq
      · exact .inr ((mD r).2 ⟨q, hq⟩)
  have ndA : (P0 ++ P1 ++ (queue ++ D)).Nodup := by
    rw [← List.append_assoc, List.nodup_append]
    exact ⟨h.nd, pD.imp fun h => by omega, fun a ha b hb e => ((mD b).1 hb).2 (e ▸ ha)⟩
  have lenA : (P0 ++ P1 ++ (queue ++ D)).length = k := by
    have l1 := sub_len _ _ ndA fun r hr => (all r).1 hr
    have l2 := sub_len _ _ ndD fun r hr => (all r).2 hr
    rw [up_len] at l1 l2; omega
  have clr0 : ∀ A : List Int, ∀ x ∈ objs k, x.kind ≠ 4 ∨ x.vs.getD 0 0 = 0 ∨ x.vs.getD 0 0 ∈ A := fun A x hx => by
    obtain ⟨i, _, rfl⟩ := mem_objs.1 hx; exact .inl (by dsimp only; omega)
  have h18 := h.k18
  refine qrcycle (kc := 1001) (kd := 1002) (by decide) h.R (by simp) (by rw [objs_len]; omega) (by omega) (P0 ++ P1 ++ queue) (up k) [] D (objs k) _ (queue ++ D) (fun r => ?_) eD (clr_none (clr0 _)) (fun r => ?_) ?_ rfl rfl fun w7 own7 ca cc da dc R7 C7 D7 st7 => ?_
  · rw [flat0 fl, ef, objs_isref, ← mem_up]
    exact ⟨fun a => a.1, fun a => ⟨a, h.sub r a⟩⟩
  · rw [clear_none (clr0 _), flat0 fl, ef, objs_isref, ← mem_up, all r]; simp
  · rw [clear_none (clr0 _), List.filter_eq_self.2]
    intro x hx
    rw [decide_eq_true_iff, ← objs_refs]; exact List.mem_map_of_mem hx
  refine hok w7 own7 D _ ca _ cc da dc ⟨R7, ndA, fun r hr => (all r).1 hr, fun r => ?_, h18⟩ pD (by simpa [Nat.add_assoc] using lenA) D7 st7
  have eg : gone (up k) (objs k) = [] := by
    unfold gone
    rw [List.filter_eq_nil_iff.2]; rfl
    intro x hx
    simp only [decide_eq_true_iff, Classical.not_not]
    rw [← objs_refs]; exact List.mem_map_of_mem hx
  rw [eg, notIn_nil]
  unfold notIn
  rw [List.mem_filter, decide_eq_true_iff, h.fin, List.mem_append]
  constructor
  · rintro ⟨⟨a, b⟩, c⟩; exact ⟨a, fun q => q.elim b c⟩
  · rintro ⟨a, b⟩; exact ⟨⟨a, fun q => b (.inl q)⟩, fun q => b (.inr q)⟩

theorem Row.other (h : Row W w own rb k P0 P1 queue fin) {S : List Nat} {i : Nat} (f : Fr S w w') (t : Tag own S i) (hk : 1000 ≤ i ∧ i < 2000) : Row W w' (ext own w.heap.size i) rb k P0 P1 queue fin :=
  ⟨h.R.other f t hk, h.nd, h.sub, h.fin, h.k18⟩
end

theorem refsRow_c {w : World} {many cut : Int} {K : Bool → World → Prop} (hK : ∀ w', Fr [] w w' → K true w') : C25 many cut w K := by
  refine r_f25 _ _ _ _ (awake13_c fun w1 f1 => ifb_f (qrnew 16384 2 (by decide) fun w2 own2 rb R2 => ?_))
  replace hK : ∀ w', Fr [] w1 w' → K true w' := fun w' f => hK w' (f1.trans f (fun _ h => .inl h))
  have hm := and_range 15 4 (by decide) rfl many
  obtain ⟨k, hk⟩ : ∃ k : Nat, (k : Int) = 2 + bits .and .i64 many 15 := ⟨(2 + bits .and .i64 many 15).toNat, by omega⟩
  have hkk : 2 ≤ k ∧ k ≤ 17 := by omega
  rw [w64 (by omega) (by omega), ← hk, w64 (z := 2 * (k : Int)) (by omega) (by omega)]
  clear hm hk
  have par : ∀ z : Int, bits .and .i64 z 1 = z % 2 := fun z => bits_low 1 1 (by decide) rfl z
  have par2 : ∀ z : Int, bits .and .i64 z 1 = 0 ∨ bits .and .i64 z 1 = 1 := fun z => by rw [par]; omega
  refine ⟨?_, ?_⟩
  · have : IntKind.wrap .u64 (k : Int) = k := by
      simp only [IntKind.wrap, IntKind.signed, IntKind.bits]; simp; omega
    rw [this]; omega
  generalize IntKind.wrap .i64 (Int.tmod (IntKind.wrap .u64 cut) (IntKind.wrap .u64 (k : Int))) = cu
  have R2 : Rq w1 w2 own2 rb [[], []] 16384 ((0 : Nat) : Int) (objs 0) (up 0) [] := R2
  refine ⟨fun n w' => ∃ (own : Nat → Nat) (j : Nat) (P0 P1 : List Int), n = (j : Int) ∧ j ≤ k ∧ Rq w1 w' own rb [P0, P1] 16384 (j : Int) (objs j) (up j) [] ∧ (P0 ++ P1).Nodup ∧ (∀ r ∈ P0 ++ P1, r ∈ up j) ∧ P0.length + P1.length = j, fun n _ => (k - n).toNat, ⟨own2, 0, [], [], rfl, by omega, R2, by simp, by simp, rfl⟩, ?_⟩
  rintro - _ w3 ⟨own3, j, P0, P1, rfl, hj, R3, nd, sub, len⟩
  refine IfB.dec (fun hlt => ?_) (fun hge => ?_)
  · have hne : ∀ r ∈ P0 ++ P1, r ≠ (j : Int) + 1 := fun r hr => by have := mem_up.1 (sub r hr); omega
    have up1 : ∀ r, r ∈ up j → r ∈ up (j + 1) := fun r hr => by rw [mem_up] at hr ⊢; omega
    have upl : (j : Int) + 1 ∈ up (j + 1) := by rw [mem_up]; omega
    have nd' := List.nodup_append.1 nd
    rcases par2 (j : Int) with e | e <;> rw [e]
    · refine qrmake R3 (by omega) true (by decide) rfl (by omega) (by decide) (by decide) (by rw [objs_sum]; omega) fun w4 own4 R4 st4 => ifb_nyes rfl ?_
      rw [w64 (by omega) (by omega)]
      refine ⟨⟨own4, j + 1, P0 ++ [(j : Int) + 1], P1, rfl, by omega, ?_, ?_, ?_, by simp; omega⟩, by dsimp only; omega⟩
      · rw [objs_succ, up_succ]; exact R4
      · rw [List.nodup_append, List.nodup_append]
        refine ⟨⟨nd'.1, by simp, fun a ha b hb eq => ?_⟩, nd'.2.1, fun a ha b hb eq => ?_⟩
        · simp at hb; exact hne a (by simp [ha]) (eq.trans hb)
        · rcases List.mem_append.1 ha with ha | ha
          · exact nd'.2.2 a ha b hb eq
          · simp at ha; exact hne b (by simp [hb]) (eq.symm.trans ha)
      · intro r hr
        simp at hr
        rcases hr with hr | rfl | hr
        · exact up1 r (sub r (by simp [hr]))
        · exact upl
        · exact up1 r (sub r (by simp [hr]))
    · refine qrmake R3 (by omega) true (by decide) rfl (by omega) (by decide) (by decide) (by rw [objs_sum]; omega) fun w4 own4 R4 st4 => ifb_nyes rfl ?_
      rw [w64 (by omega) (by omega)]
      refine ⟨⟨own4, j + 1, P0, P1 ++ [(j : Int) + 1], rfl, by omega, ?_, ?_, ?_, by simp; omega⟩, by dsimp only; omega⟩
      · rw [objs_succ, up_succ]; exact R4
      · rw [← List.append_assoc, List.nodup_append]
        refine ⟨nd, by simp, fun a ha b hb eq => ?_⟩
        simp at hb; exact hne a ha (eq.trans hb)
      · intro r hr
        rw [← List.append_assoc] at hr
        rcases List.mem_append.1 hr with hr | hr
        · exact up1 r (sub r hr)
        · simp at hr; rw [hr]; exact upl
  obtain rfl : j = k := by omega
  have Ro3 : Row w1 w3 own3 rb j P0 P1 [] (up j) := ⟨R3, by simpa using nd, by simpa using sub, by simp, by omega⟩
  clear nd sub R3 R2
  refine ⟨fun a l c n ph w' => ∃ (own : Nat → Nat) (p : Nat) (P0 P1 queue fin : List Int), ph = (p : Int) ∧ p ≤ 2 ∧ l = queue.length ∧ P0.length + P1.length + n = j ∧ (p = 2 → P0 = [] ∧ P1 = [] ∧ queue.length = j) ∧ Row w1 w' own rb j P0 P1 queue fin ∧ Sd w' own a c 1000 queue, fun _ _ _ _ ph _ => (2 - ph).toNat, ⟨own3, 0, P0, P1, [], up j, rfl, by omega, rfl, by omega, by omega, Ro3, Sd.nil _ _ _⟩, ?_⟩
  rintro - a _ c n _ w4 ⟨own4, p, P0, P1, queue, fin, rfl, hp, rfl, hn, h2, Ro4, A4⟩
  clear Ro3 len hge
  refine IfB.dec (fun hlt => ?_) (fun hge => ?_)
  · -- one phase
    refine ⟨fun n w' => ∃ (own : Nat → Nat) (P0 P1 : List Int), ((P0.length + P1.length : Nat) : Int) + n = j ∧ (p = 1 → P0.length ≤ j ∧ P1.length ≤ j) ∧ Row w1 w' own rb j P0 P1 queue fin ∧ Sd w' own a c 1000 queue, ?_, ?_⟩
    · refine ⟨fun n i w' => ∃ (own : Nat → Nat) (P0 P1 : List Int), 0 ≤ i ∧ i ≤ j ∧ ((P0.length + P1.length : Nat) : Int) + n = j ∧ Row w1 w' own rb j P0 P1 queue fin ∧ Sd w' own a c 1000 queue, fun _ i _ => (j - i).toNat, ⟨own4, P0, P1, by omega, by omega, by omega, Ro4, A4⟩, ?_⟩
      rintro - m i w5 ⟨own5, P0, P1, hi0, hi1, hm, Ro5, A5⟩
      have hle := Ro5.le
      have out : ∃ (own : Nat → Nat) (P0 P1 : List Int), ((P0.length + P1.length : Nat) : Int) + m = j ∧ (p = 1 → P0.length ≤ j ∧ P1.length ≤ j) ∧ Row w1 w5 own rb j P0 P1 queue fin ∧ Sd w5 own a c 1000 queue := ⟨own5, P0, P1, hm, fun _ => ⟨by omega, by omega⟩, Ro5, A5⟩
      refine IfB.dec (fun hlt2 => ⟨fun w' => w' = w5, ?_, ?_⟩) (fun _ => out)
      · refine IfB.dec (fun _ => IfB.dec (fun _ => out) (fun _ => rfl)) (fun _ => rfl)
      · rintro - _ rfl
        refine rowpop Ro5 (par2 i) (fun _ _ => ?_) (fun f w6 own6 Q0 Q1 hf Ro6 q0 q1 st6 => ?_)
        · refine ifb_no rfl ?_
          rw [w64 (by omega) (by omega)]
          exact ⟨⟨own5, P0, P1, by omega, by omega, hm, Ro5, A5⟩, by dsimp only; omega⟩
        · refine ifb_yes rfl (ifb_yes (decide_eq_true hf) ?_)
          rw [w64 (z := i + 1) (by omega) (by omega), w64 (by omega) (by omega)]
          refine ⟨⟨own6, Q0, Q1, by omega, by omega, ?_, Ro6, A5.step st6 (by decide)⟩, by dsimp only; omega⟩
          rcases par2 i with e | e
          · obtain ⟨e1, e2⟩ := q0 e; subst e1; omega
          · obtain ⟨e1, e2⟩ := q1 e; subst e1; omega
    · rintro - n5 w5 ⟨own5, P0, P1, hn5, hle5, Ro5, A5⟩
      refine ⟨fun n w' => ∃ (own : Nat → Nat) (P0 P1 : List Int), ((P0.length + P1.length : Nat) : Int) + n = j ∧ (p = 1 → P0 = [] ∧ P1 = []) ∧ Row w1 w' own rb j P0 P1 queue fin ∧ Sd w' own a c 1000 queue, ?_, ?_⟩
      · refine IfB.dec (fun hp1 => ?_) (fun hp1 => ⟨own5, P0, P1, hn5, fun h => absurd h (by omega), Ro5, A5⟩)
        obtain ⟨l0, l1⟩ := hle5 (by omega)
        refine ⟨fun n i w' => ∃ (own : Nat → Nat) (P0 P1 : List Int), 0 ≤ i ∧ i ≤ 2 * j ∧ ((P0.length + P1.length : Nat) : Int) + n = j ∧ P0.length + ((i + 1) / 2).toNat ≤ max j ((i + 1) / 2).toNat ∧ P1.length + (i / 2).toNat ≤ j ∧ Row w1 w' own rb j P0 P1 queue fin ∧ Sd w' own a c 1000 queue, fun _ i _ => (2 * j - i).toNat, ⟨own5, P0, P1, by omega, by omega, hn5, by omega, by omega, Ro5, A5⟩, ?_⟩
        rintro - m i w6 ⟨own6, P0, P1, hi0, hi1, hm, b0, b1, Ro6, A6⟩
        refine IfB.dec (fun hlt2 => ?_) (fun hge2 => ?_)
        · refine rowpop Ro6 (par2 i) (fun e0 e1 => ?_) (fun f w7 own7 Q0 Q1 hf Ro7 q0 q1 st7 => ?_)
          · refine ifb_no rfl ?_
            rw [w64 (by omega) (by omega)]
            refine ⟨⟨own6, P0, P1, by omega, by omega, hm, ?_, ?_, Ro6, A6⟩, by dsimp only; omega⟩
            · rcases par2 i with e | e
              · rw [e0 e]; simp; omega
              · rw [par] at e; omega
            · rcases par2 i with e | e
              · rw [par] at e; omega
              · rw [e1 e]; simp; omega
          · refine ifb_yes rfl (ifb_yes (decide_eq_true hf) ?_)
            rw [w64 (z := i + 1) (by omega) (by omega), w64 (by omega) (by omega)]
            refine ⟨⟨own7, Q0, Q1, by omega, by omega, ?_, ?_, ?_, Ro7, A6.step st7 (by decide)⟩, by dsimp only; omega⟩
            · rcases par2 i with e | e
              · obtain ⟨e1, e2⟩ := q0 e; subst e1; omega
              · obtain ⟨e1, e2⟩ := q1 e; subst e1; omega
            · rcases par2 i with e | e
              · obtain ⟨e1, e2⟩ := q0 e; omega
              · obtain ⟨e1, e2⟩ := q1 e; subst e1; rw [par] at e; omega
            · rcases par2 i with e | e
              · obtain ⟨e1, e2⟩ := q0 e; subst e1; rw [par] at e; omega
              · obtain ⟨e1, e2⟩ := q1 e; omega
        · refine ⟨own6, P0, P1, hm, fun _ => ?_, Ro6, A6⟩
          exact ⟨List.eq_nil_of_length_eq_zero (by omega), List.eq_nil_of_length_eq_zero (by omega)⟩
      · rintro - n6 w6 ⟨own6, P0, P1, hn6, he6, Ro6, A6⟩
        refine rowcycle Ro6 fun w7 own7 D fin' ca cl cc da dc Ro7 pD lD D7 st7 => ?_
        have A7 := A6.step st7 (by decide)
        have hle7 := Ro7.le
        have hDl : queue.length + D.length ≤ j := by simp at hle7; omega
        refine ⟨fun i w' => 1 ≤ i ∧ (∀ S, Fr S w7 w'), fun i _ => (D.length - i).toNat, ⟨by omega, fun S => Fr.refl S w7⟩, ?_⟩
        rintro - i w8 ⟨hi, f8⟩
        have D8 := D7.si.fr (f8 []) (by intro b _; simp)
        refine IfB.dec (fun hlt2 => fun w9 d9 => ?_) (fun hge2 => ?_)
        · have D9 := D8.fr (d9.fr []) (by intro b _; simp)
          rw [w64 (by omega) (by omega)]
          refine D9.get (by omega) (by omega) fun p hp => ⟨⟨by omega, by omega⟩, _, hp, D9.get (by omega) (by omega) fun p2 hp2 => ⟨⟨by omega, by omega⟩, _, hp2, ?_⟩⟩
          have hlt3 : D.getD (i - 1).toNat 0 < D.getD i.toNat 0 := by
            rw [List.getD_eq_getElem?_getD, List.getD_eq_getElem?_getD, List.getElem?_eq_getElem (by omega), List.getElem?_eq_getElem (by omega)]
            exact List.pairwise_iff_getElem.1 pD _ _ _ _ (by omega)
          refine ifb_no (decide_eq_false (by omega)) ?_
          rw [w64 (by omega) (by omega)]
          exact ⟨⟨by omega, fun S => (f8 S).more (d9.fr S)⟩, by dsimp only; omega⟩
        · have A8 := A7.si.fr (f8 []) (by intro b _; simp)
          refine SI.appends (P := Try.prog) (t := 42) (e := 3) (i := Try.t3) (by kernel_rfl) (by kernel_rfl) rfl rfl A8 D8 (by omega) (by decide) 42 fun a9 c9 w9 A9 f9 g9 => ?_
          have f79 : Fr (ablk a) w7 w9 := (f8 (ablk a)).trans f9 fun _ h => .inl h
          have sz := (f8 []).size
          have g79 : Grw (ablk a) (ablk a9) w7.heap.size := fun b hb => by
            rcases g9 b hb with q | q
            · exact .inl q
            · exact .inr (by omega)
          have Ro9 := Ro7.other f79 A7.tg (by decide)
          have A9' : Sd w9 (ext own7 w7.heap.size 1000) a9 c9 1000 (queue ++ D) := ⟨A9, A7.tg.grow A7.si.low g79⟩
          have lq : (queue ++ D).length = queue.length + D.length := List.length_append
          refine ifb_nyes rfl (ifb_nyes (decide_eq_true (by omega)) ?_)
          rw [w64 (by omega) (by omega)]
          refine ⟨⟨_, p + 1, P0, P1, queue ++ D, fin', rfl, by omega, lq.symm, by omega, fun hp2 => ?_, Ro9, A9'⟩, by dsimp only; omega⟩
          obtain ⟨e1, e2⟩ := he6 (by omega)
          refine ⟨e1, e2, ?_⟩
          rw [e1, e2] at lD; simpa using lD
  · obtain ⟨e1, e2, e3⟩ := h2 (by omega)
    subst e1 e2
    have lq : queue.length = j := e3
    refine ⟨fun n w' => ∃ (own : Nat → Nat) (i : Nat) (P0 : List Int), n = (i : Int) ∧ i ≤ queue.length ∧ P0.length = i ∧ Rq w1 w' own rb [P0, []] 16384 (j : Int) (objs j) fin (queue.drop i) ∧ Sd w' own a c 1000 queue, fun n _ => (queue.length - n).toNat, ⟨own4, 0, [], rfl, by omega, rfl, Ro4.R, A4⟩, ?_⟩
    rintro - _ w5 ⟨own5, i, P0, rfl, hi, hP, R5, A5⟩
    refine IfB.dec (fun hlt => ?_) (fun hge => ?_)
    · obtain ⟨f, hf⟩ : ∃ f, queue[i]? = some f := ⟨_, List.getElem?_eq_getElem (by omega)⟩
      rw [drop_cons hf] at R5
      refine qrnext R5 rfl (by omega) fun w6 own6 R6 st6 => ifb_f ?_
      have A6 := A5.step st6 (by decide)
      refine A6.si.get (by omega) (by omega) fun p hp => ⟨⟨by omega, by omega⟩, _, hp, ?_⟩
      rw [show (i : Int).toNat = i by omega, List.getD_eq_getElem?_getD, hf, w64 (by omega) (by omega)]
      exact ifb_nyes (decide_eq_true rfl) ⟨⟨own6, i + 1, P0 ++ [f], rfl, by omega, by simp [hP], R6, A6⟩, by dsimp only; omega⟩
    · have e0 : queue.drop i = [] := List.drop_of_length_le (by omega)
      rw [e0] at R5
      refine qrnext0 R5 (ifb_yes rfl (ifb_nno rfl ?_))
      have e : decide (((queue.length : Nat) : Int) = (j : Int)) = true := decide_eq_true (by omega)
      rw [e]
      exact hK w5 R5.bs
end Go.Proofs.Ytfpghcdjfiggiaa.V
