/- The laws StackForms, StackAlone, StackRows: what they compute. No condition. -/
import Derived.Test.YtfpghcdjfiggiaaStack2
import Derived.Test.YtfpghcdjfiggiaaGStackL
import Derived.Test.YtfpghcdjfiggiaaArgs
namespace Go.Proofs.Ytfpghcdjfiggiaa.V
open Go Go.RowKit

section
variable {W w w' : World} {st ab wb sb : Nat} {base cap n : Int} {op : Nat → Option OpR} {items : List Int} {na : Nat}

/-- A stack of the law's own. -/
def St5 (W w : World) (st ab wb sb : Nat) (base cap : Int) (op : Nat → Option OpR) (items : List Int) (n : Int) (na : Nat) (w0 : Int) (ws0 : List Int) : Prop :=
  ∃ F ws ss, Stk w F st ab wb sb base cap op ws ss ∧ LInv base cap op ws items n ∧ ss.length = na ∧ (∀ k ∈ F, W.heap.size ≤ k) ∧ Fr [] W w ∧ wd ws base 0 = w0 ∧ Keeps base cap ws0 ws

theorem St5.fr {w0 : Int} {ws0 : List Int} (h : St5 W w st ab wb sb base cap op items n na w0 ws0) : Fr [] W w := by
  obtain ⟨F, ws, ss, _, _, _, _, f, _⟩ := h; exact f
theorem St5.fr0 {w0 : Int} {ws0 : List Int} (h : St5 W w st ab wb sb base cap op items n na w0 ws0) (f : Fr [] w w') : St5 W w' st ab wb sb base cap op items n na w0 ws0 := by
  obtain ⟨F, ws, ss, S, L, hl, hF, fw, e⟩ := h
  exact ⟨F, ws, ss, S.fr0 f, L, hl, hF, fw.more f, e⟩
theorem St5.inv {w0 : Int} {ws0 : List Int} (h : St5 W w st ab wb sb base cap op items n na w0 ws0) : ∃ ws, LInv base cap op ws items n := by
  obtain ⟨F, ws, ss, _, L, _⟩ := h; exact ⟨ws, L⟩
theorem St5.nd {w0 : Int} {ws0 : List Int} (h : St5 W w st ab wb sb base cap op items n na w0 ws0) : items.Nodup := by
  obtain ⟨ws, L⟩ := h.inv; exact L.nd
theorem St5.mem {w0 : Int} {ws0 : List Int} (h : St5 W w st ab wb sb base cap op items n na w0 ws0) : ∀ v ∈ items, 0 ≤ v ∧ v < cap := by
  obtain ⟨ws, L⟩ := h.inv; exact chain_mem L.ch

theorem alone5 {w0 : Int} {ws0 : List Int} (h : St5 W w st ab wb sb base cap op items n na w0 ws0) (hn : n ≤ 99999) (agent o v : Int) {K : Int → Bool → Int → Bool → World → Prop}
    (hfail : ¬ (0 ≤ agent ∧ agent < na ∧ op agent.toNat = none ∧ OpMay cap op items o v) → ∀ w', St5 W w' st ab wb sb base cap op items n na w0 ws0 → K 0 false 0 false w')
    (hpush : o = 0 → OpMay cap op items o v → ∀ k w' x, St5 W w' st ab wb sb base cap op (v :: items) (n + 1) na x ws0 → K 0 true k true w')
    (hpop : o = 1 → ∀ k x rest, items = x :: rest → ∀ w' y, St5 W w' st ab wb sb base cap op rest (n + 1) na y ws0 → K x true k true w')
    (hempty : o = 1 → items = [] → ∀ k w' x, St5 W w' st ab wb sb base cap op items n na x ws0 → K 0 false k true w') : C59 (some ⟨st, 0, none⟩) agent o v w K := by
  obtain ⟨F, ws, ss, S, L, hl, hF, fw, e, ks⟩ := h
  have lF : ∀ k ∈ F, k ∈ ([] : List Nat) ∨ W.heap.size ≤ k := fun k hk => .inr (hF k hk)
  refine alone_c S L hn agent o v (fun h1 w1 f1 => hfail (by rw [← hl]; exact h1) w1 ⟨F, ws, ss, S.fr0 (f1 []), L, hl, hF, fw.more (f1 []), e, ks⟩)
    (fun ho hm k w1 F1 ws1 ss1 S1 hl1 f1 g1 L1 k1 => hpush ho hm k w1 _ ⟨F1, ws1, ss1, S1, L1, by omega, g1.up hF fw.size, fw.trans f1 lF, rfl, ks.trans k1⟩)
    (fun ho k x rest hit w1 F1 ws1 ss1 S1 hl1 f1 g1 L1 k1 => hpop ho k x rest hit w1 _ ⟨F1, ws1, ss1, S1, L1, by omega, g1.up hF fw.size, fw.trans f1 lF, rfl, ks.trans k1⟩)
    (fun ho hit k w1 F1 ws1 ss1 S1 hl1 f1 g1 L1 k1 => hempty ho hit k w1 _ ⟨F1, ws1, ss1, S1, L1, by omega, g1.up hF fw.size, fw.trans f1 lF, rfl, ks.trans k1⟩)

theorem begin5 {w0 : Int} {ws0 : List Int} (h : St5 W w st ab wb sb base cap op items n na w0 ws0) (agent o v : Int) {K : Int → World → Prop}
    (hagent : ¬ (0 ≤ agent ∧ agent < na) → K 501 w) (hbusy : 0 ≤ agent → agent < na → op agent.toNat ≠ none → K 502 w)
    (hval : 0 ≤ agent → agent < na → op agent.toNat = none → ¬ OpMay cap op items o v → ∀ w', St5 W w' st ab wb sb base cap op items n na w0 ws0 → K 504 w')
    (hok : 0 ≤ agent → agent < na → op agent.toNat = none → OpMay cap op items o v → ∀ w', St5 W w' st ab wb sb base cap (upd op agent.toNat (some ⟨o, v, 0, 0, 0⟩)) items n na w0 ws0 → K 0 w') : C62 (some ⟨st, 0, none⟩) agent o v w K := by
  obtain ⟨F, ws, ss, S, L, hl, hF, fw, e, ks⟩ := h
  have lF : ∀ k ∈ F, k ∈ ([] : List Nat) ∨ W.heap.size ≤ k := fun k hk => .inr (hF k hk)
  subst hl
  exact begin_c S L agent o v hagent hbusy (fun h0 h1 h2 h3 w1 f1 => hval h0 h1 h2 h3 w1 ⟨F, ws, ss, S.fr0 (f1 []), L, rfl, hF, fw.more (f1 []), e, ks⟩)
    (fun h0 h1 h2 hm w1 F1 S1 L1 f1 g1 => hok h0 h1 h2 hm w1 ⟨F1, ws, ss, S1, L1, rfl, g1.up hF fw.size, fw.trans f1 lF, e, ks⟩)

theorem step5 {w0 : Int} {ws0 : List Int} (h : St5 W w st ab wb sb base cap op items n na w0 ws0) (hn : n ≤ 100000) (agent : Int) {K : Bool → Int → Bool → Int → World → Prop}
    (hagent : ¬ (0 ≤ agent ∧ agent < na) → K false 0 false 501 w) (hidle : 0 ≤ agent → agent < na → op agent.toNat = none → K false 0 false 503 w)
    (hgo : ∀ r, 0 ≤ agent → agent < na → op agent.toNat = some r → ∀ w' r', St5 W w' st ab wb sb base cap (upd op agent.toNat (some r')) items n na w0 ws0 → r'.op = r.op → r'.v = r.v → lft r' w0 < lft r w0 → K false 0 false 0 w')
    (hpush : ∀ r, 0 ≤ agent → agent < na → op agent.toNat = some r → r.op = 0 → ∀ w' x, St5 W w' st ab wb sb base cap (upd op agent.toNat none) (r.v :: items) (n + 1) na x ws0 → K true 0 true 0 w')
    (hpop : ∀ r x rest, 0 ≤ agent → agent < na → op agent.toNat = some r → r.op = 1 → items = x :: rest → ∀ w' y, St5 W w' st ab wb sb base cap (upd op agent.toNat none) rest (n + 1) na y ws0 → K true x true 0 w')
    (hempty : ∀ r, 0 ≤ agent → agent < na → op agent.toNat = some r → r.op = 1 → items = [] → ∀ w', St5 W w' st ab wb sb base cap (upd op agent.toNat none) items n na w0 ws0 → K true 0 false 0 w') : C63 (some ⟨st, 0, none⟩) agent w K := by
  obtain ⟨F, ws, ss, S, L, hl, hF, fw, e, ks⟩ := h
  have lF : ∀ k ∈ F, k ∈ ([] : List Nat) ∨ W.heap.size ≤ k := fun k hk => .inr (hF k hk)
  subst hl
  subst e
  have tl : (tickA ss agent).length = ss.length := by simp [tickA]
  exact ststep_c S L hn agent hagent hidle
    (fun r h0 h1 hr w1 r1 ws1 S1 f1 L1 e1 e2 lt e0 k1 => hgo r h0 h1 hr w1 r1 ⟨F, ws1, _, S1, L1, tl, hF, fw.trans f1 lF, e0, ks.trans k1⟩ e1 e2 (by rw [e0] at lt; exact lt))
    (fun r h0 h1 hr ho w1 F1 ws1 S1 f1 g1 L1 k1 => hpush r h0 h1 hr ho w1 _ ⟨F1, ws1, _, S1, L1, tl, g1.up hF fw.size, fw.trans f1 lF, rfl, ks.trans k1⟩)
    (fun r x rest h0 h1 hr ho hit w1 F1 ws1 S1 f1 g1 L1 k1 => hpop r x rest h0 h1 hr ho hit w1 _ ⟨F1, ws1, _, S1, L1, tl, g1.up hF fw.size, fw.trans f1 lF, rfl, ks.trans k1⟩)
    (fun r h0 h1 hr ho hit w1 F1 S1 f1 g1 L1 => hempty r h0 h1 hr ho hit w1 ⟨F1, ws, _, S1, L1, tl, g1.up hF fw.size, fw.trans f1 lF, rfl, ks⟩)

theorem items5 {w0 : Int} {ws0 : List Int} (h : St5 W w st ab wb sb base cap op items n na w0 ws0) {K : Option Addr → Nat → Nat → World → Prop}
    (hK : ∀ w' a c, SI w' a c items → St5 W w' st ab wb sb base cap op items n na w0 ws0 → (∀ S, Fr S w w') → (∀ b ∈ ablk a, w.heap.size ≤ b) → K a items.length c w') : C60 (some ⟨st, 0, none⟩) w K := by
  have h' := h
  obtain ⟨F, ws, ss, S, L, hl, hF, fw, e⟩ := h
  exact items_c S L fun w1 a c U f1 g1 => hK w1 a c U (h'.fr0 (f1 [])) f1 g1

/-- A stack in a new arena. -/
theorem begun5_c (agents base cap : Int) (ha : 1 ≤ agents ∧ agents ≤ 12) (hb : 0 ≤ base ∧ base ≤ 15) (hc : 1 ≤ cap ∧ cap ≤ 1000) {K : Option Addr → Option Addr → Bool → World → Prop}
    (hK : ∀ w' F st ab wb sb ws, Stk w' F st ab wb sb base cap (fun _ => none) ws (List.replicate agents.toNat 0) → LInv base cap (fun _ => none) ws [] 0 → Fr [] w w' → (∀ k ∈ F, w.heap.size ≤ k) → K (some ⟨st, 0, none⟩) (some ⟨ab, 0, none⟩) true w') : C61 agents base cap w K := by
  refine r_f61 _ _ _ _ _ ⟨fit64 (by omega) (by omega), fit64 (by omega) (by omega), fit64 (by omega) (by omega), ?_⟩
  refine arena_new_c _ agents (fun h => ?_) (fun _ w1 ab wb sb A f1 l1 l2 l3 => ?_)
  · simp [newA] at h; omega
  refine stnew_c A (by simp; omega) (by simp; omega) base cap (fun h => ?_) (fun _ w2 st F ws S L _ _ f2 hF => ?_)
  · simp at h; omega
  refine IfB.yes rfl (IfB.yes rfl ?_)
  refine hK w2 F st ab wb sb ws S L ((f1 []).trans f2 (by simp; omega)) (fun b hb => ?_)
  have := (f1 []).size
  rcases hF b hb with h | h
  · simp at h; omega
  · omega

theorem same_c {a b : Option Addr} {c d : Nat} {xs ys : List Int} (A : SI w a c xs) (B : SI w b d ys) (hl : xs.length ≤ 1000000) {K : Bool → World → Prop} (hK : ∀ w', (∀ S, Fr S w w') → K (decide (xs = ys)) w') : C140 a xs.length c b ys.length d w K := by
  refine r_f140 _ _ _ _ _ _ _ _ (IfB.nd (fun he => ?_) (fun he => ?_))
  · refine ⟨fun i w' => 0 ≤ i ∧ i ≤ xs.length ∧ (∀ j : Nat, j < i → xs.getD j 0 = ys.getD j 0) ∧ (∀ S, Fr S w w'), fun i _ => (xs.length - i).toNat, ⟨by omega, by omega, fun j hj => by omega, fun S => Fr.refl S w⟩, ?_⟩
    rintro - i w1 ⟨h0, h1, heq, f1⟩
    refine IfB.dec (fun hlt => fun w2 d2 => ?_) (fun hge => ?_)
    · have f2 := fun S => (f1 S).more (d2.fr S)
      refine (A.fr0 (f2 [])).get h0 hlt fun p hp => ⟨⟨h0, hlt⟩, _, hp, (B.fr0 (f2 [])).get h0 (by omega) fun q hq => ⟨⟨h0, by omega⟩, _, hq, IfB.nd (fun h3 => ⟨fit64 (by omega) (by omega), ⟨by omega, by omega, fun j hj => ?_, f2⟩, by dsimp only; omega⟩) (fun h3 => ?_)⟩⟩
      · by_cases e : j = i.toNat
        · subst e; exact h3
        · exact heq j (by omega)
      · have := hK w2 f2
        rwa [decide_eq_false (fun e => h3 (by rw [e]))] at this
    · have e : xs = ys := by
        apply List.ext_getElem (by omega)
        intro j h1 h2
        have := heq j (by omega)
        simpa [List.getD_eq_getElem?_getD, h1, h2] using this
      have := hK w1 f1
      rwa [decide_eq_true e] at this
  · have := hK w (fun S => Fr.refl S w)
    rwa [decide_eq_false (fun e => he (by rw [e]))] at this

theorem may_pop {cap : Int} {op : Nat → Option OpR} {items : List Int} (v : Int) : OpMay cap op items 1 v := ⟨.inr rfl, fun h => by omega⟩
theorem may_push {cap v : Int} {items : List Int} (h0 : 0 ≤ v) (h1 : v < cap) (h2 : v ∉ items) : OpMay cap (fun _ => none) items 0 v := ⟨.inl rfl, fun _ => ⟨h0, h1, h2, fun j s hs => by cases hs⟩⟩

theorem St5.mk {F : List Nat} {ws ss : List Int} (S : Stk w F st ab wb sb base cap op ws ss) (L : LInv base cap op ws items n) (hF : ∀ k ∈ F, W.heap.size ≤ k) (f : Fr [] W w) : St5 W w st ab wb sb base cap op items n ss.length (wd ws base 0) ws :=
  ⟨F, ws, ss, S, L, rfl, hF, f, rfl, Keeps.refl _ _ _⟩

theorem awake5_c {K : Bool → World → Prop} (hK : ∀ w', Fr [] w w' → K true w') : C57 w K := by
  refine r_f57 _ _ (begun5_c 2 3 4 (by decide) (by decide) (by decide) fun w1 F st ab wb sb ws S L f1 hF => ifb_nyes rfl ?_)
  have S1 := St5.mk S L hF f1
  refine alone5 S1 (by omega) 0 0 2 (fun h => absurd ⟨by decide, by decide, rfl, may_push (by decide) (by decide) (by simp)⟩ h) (fun _ _ k w2 x S2 => ?_) (fun h => by omega) (fun h => by omega)
  refine alone5 S2 (by omega) 1 0 3 (fun h => absurd ⟨by decide, by decide, rfl, may_push (by decide) (by decide) (by simp)⟩ h) (fun _ _ k w3 x S3 => ?_) (fun h => by omega) (fun h => by omega)
  refine begin5 S3 0 0 3 (fun h => absurd ⟨by decide, by decide⟩ h) (fun _ _ h => absurd rfl h) (fun _ _ _ _ w4 S4 => ?_) (fun _ _ _ h => absurd (h.2 rfl).2.2.1 (by simp))
  refine alone5 S4 (by omega) 0 1 0 (fun h => absurd ⟨by decide, by decide, rfl, may_pop 0⟩ h) (fun h => by omega) (fun _ k x rest hit w5 y S5 => ?_) (fun _ h => by simp at h)
  simp only [List.cons.injEq] at hit
  obtain ⟨rfl, rfl⟩ := hit
  refine step5 S5 (by omega) 1 (fun h => absurd ⟨by decide, by decide⟩ h) (fun _ _ _ => ?_) (fun r _ _ h => by cases h) (fun r _ _ h => by cases h) (fun r _ _ _ _ h => by cases h) (fun r _ _ h => by cases h)
  refine stnil_c ?_
  refine ifb_t (ifb_t (ifb_t (ifb_t (IfB.yes rfl (IfB.yes rfl (ifb_t (ifb_t (IfB.yes rfl (IfB.yes rfl ?_)))))))))
  refine items5 S5 fun w6 a c U S6 f6 g6 => fun b w7 n7 => ?_
  have B7 : SI w7 (some ⟨b, 0, none⟩) 1 [2] := by
    obtain ⟨rfl, rfl⟩ := n7
    exact SV.made (k := 1) (e := 3) (n := 1) #[.int .i64 2] (by decide) rfl
  refine same_c (U.fr0 (n7.fr [])) B7 (by decide) fun w8 f8 => ?_
  exact hK w8 ((S6.fr.more (n7.fr [])).more (f8 []))
end

theorem forms5_c (words base cap0 : Int) {W : World} {K : Bool → World → Prop} (hK : ∀ w', Fr [] W w' → K true w') : C10 words base cap0 W K := by
  refine r_f10 _ _ _ _ _ (awake5_c fun w0 f0 => ifb_nyes rfl ?_)
  obtain ⟨g1, g2⟩ := and_range 1023 10 (by decide) (by decide) words
  generalize bits .and .i64 words 1023 = wn at *
  refine ⟨fit64 (by omega) (by omega), arena_new_c (1 + wn) 1 (fun h => ?_) (fun _ w1 ab wb sb A f1 l1 l2 l3 => ?_)⟩
  · simp [newA] at h; omega
  have z0 := f0.size
  have lS : ∀ k ∈ [wb, sb], k ∈ ([] : List Nat) ∨ W.heap.size ≤ k := by simp; omega
  refine ⟨fun n w' => 0 ≤ n ∧ n ≤ 1 + wn ∧ (∃ ws ss, ArenaAt w' ab wb sb ws ss ∧ (ws.length : Int) = 1 + wn ∧ ss.length = 1 ∧ ∀ j : Int, 0 ≤ j → j < n → ws.getD j.toNat 0 = 1000 + j) ∧ Fr [] W w', fun n _ => (1 + wn - n).toNat,
    ⟨by omega, by omega, ⟨_, _, A, by simp; omega, by simp, fun j h0 h1 => by omega⟩, f0.more (f1 [])⟩, ?_⟩
  rintro - n w2 ⟨hn0, hn1, ⟨ws, ss, A2, hw, hs, hv⟩, f2⟩
  refine IfB.dec (fun hlt => ⟨fit64 (by omega) (by omega), ?_⟩) (fun hge => ?_)
  · refine store_c A2 0 n (1000 + n) (fun h => absurd (by unfold mayA; rw [if_neg (by omega), if_neg (by omega)]) h) (fun _ w3 A3 f3 => ⟨fit64 (by omega) (by omega), ⟨by omega, by omega, ⟨_, _, A3, by simpa using hw, by simpa [tickA] using hs, fun j h0 h1 => ?_⟩, f2.trans f3 lS⟩, by dsimp only; omega⟩)
    rw [getI_set _ _ _ _ (by omega)]
    split
    · omega
    · exact hv j h0 (by omega)
  have hnw : n = 1 + wn := by omega
  refine stnew_c A2 (by omega) (by omega) base cap0 (fun h => ?_) (fun h w3 st F ws3 S L hl3 ho3 f3 hF => ?_)
  · refine ⟨fun _ => False, ?_, fun _ _ h => h.elim⟩
    refine IfB.dec (fun _ => IfB.yes rfl (hK _ f2)) (fun _ => IfB.dec (fun _ => IfB.yes rfl (hK _ f2)) (fun _ => IfB.dec (fun _ => IfB.yes rfl (hK _ f2)) (fun _ => IfB.dec (fun _ => IfB.yes rfl (hK _ f2)) (fun _ => ⟨fit64 (by omega) (by omega), fit64 (by omega) (by omega), fit64 (by omega) (by omega), IfB.dec (fun _ => IfB.yes rfl (hK _ f2)) (fun _ => absurd (by omega) h)⟩))))
  refine ⟨fun w' => w' = w3, IfB.no (by omega) (IfB.no (by omega) (IfB.no (by omega) (IfB.no (by omega) ⟨fit64 (by omega) (by omega), fit64 (by omega) (by omega), fit64 (by omega) (by omega), IfB.no (by omega) rfl⟩))), ?_⟩
  rintro - w4 rfl
  refine ⟨fun w' => w' = w4, IfB.nyes rfl (ifb_f rfl), ?_⟩
  rintro - w5 rfl
  have z2 := f2.size
  have hF' : ∀ k ∈ F, W.heap.size ≤ k := fun k hk => by
    rcases hF k hk with h | h
    · simp at h; omega
    · omega
  have S5 := St5.mk S L hF' (f2.trans f3 (by simp; omega))
  rw [hs] at S5
  generalize hw0 : wd ws3 base 0 = w0 at S5
  refine ⟨fun w' => ∃ items n x, (items.length : Int) = min cap0 40 ∧ n ≤ 1000 ∧ St5 W w' st ab wb sb base cap0 (fun _ => none) items n 1 x ws3, ⟨fun i w' => 0 ≤ i ∧ i ≤ cap0 ∧ i ≤ 40 ∧ ∃ items x, (items.length : Int) = i ∧ (∀ v ∈ items, v < i) ∧ St5 W w' st ab wb sb base cap0 (fun _ => none) items i 1 x ws3, fun i _ => (cap0 - i).toNat, ⟨by omega, by omega, by omega, [], w0, rfl, by simp, S5⟩, ?_⟩, ?_⟩
  · rintro - i w6 ⟨h0, h1, h2, items, x, hit, hm, S6⟩
    refine IfB.dec (fun hlt => IfB.dec (fun hlt2 => ?_) (fun hge => ⟨items, i, x, by omega, by omega, S6⟩)) (fun hge => ⟨items, i, x, by omega, by omega, S6⟩)
    refine alone5 S6 (by omega) 0 0 i (fun h => absurd ⟨by omega, by decide, rfl, may_push h0 hlt (fun hh => by have := hm i hh; omega)⟩ h) (fun _ _ k w7 y S7 => ifb_nyes rfl (ifb_nyes rfl ⟨fit64 (by omega) (by omega), ⟨by omega, by omega, by omega, _, y, by simp; omega, fun v hv => ?_, S7⟩, by dsimp only; omega⟩)) (fun h => by omega) (fun h => by omega)
    rcases List.mem_cons.1 hv with e | hv
    · omega
    · have := hm v hv; omega
  rintro - w6 ⟨items, n6, x, hit, hn6, S6⟩
  refine ⟨fun i w' => 0 ≤ i ∧ i ≤ 1 + wn ∧ ∃ x, St5 W w' st ab wb sb base cap0 (fun _ => none) items n6 1 x ws3, fun i _ => (1 + wn - i).toNat, ⟨by omega, by omega, x, S6⟩, ?_⟩
  rintro - j w7 ⟨hj0, hj1, y, S7⟩
  refine IfB.dec (fun hlt => ?_) (fun hge => items5 S7 fun w8 a c U S8 _ _ => ?_)
  · obtain ⟨F7, ws7, ss7, K7, L7, hl7, hF7, fw7, e7, ks7⟩ := S7
    have len7 := L7.len
    have hwl : ws7.length = ws.length := by rw [ks7.1, hl3]
    refine load_c K7.ar 0 j (fun h => absurd (by unfold mayA; rw [if_neg (by omega), if_neg (by omega)]) h) (fun _ w8 A8 f8 => ?_)
    have S8 : St5 W w8 st ab wb sb base cap0 (fun _ => none) items n6 1 y ws3 := by
      obtain ⟨⟨bl, rfl, hb, ho, hd⟩, ar, ne, out, s12⟩ := K7
      refine ⟨_, ws7, _, ⟨⟨bl, rfl, hb.fr f8 (by simp; omega), fun i hi => ?_, hd⟩, A8, ne, out, by simpa [tickA] using s12⟩, L7, by simpa [tickA] using hl7, hF7, fw7.trans f8 lS, e7, ks7⟩
      rcases ho i hi with h | ⟨b, r, q1, q2, q3, q4⟩
      · exact .inl h
      · cases q2
    have next : (0 ≤ j + 1 ∧ j + 1 ≤ 1 + wn ∧ ∃ x, St5 W w8 st ab wb sb base cap0 (fun _ => none) items n6 1 x ws3) ∧ (1 + wn - (j + 1)).toNat < (1 + wn - j).toNat := ⟨⟨by omega, by omega, y, S8⟩, by omega⟩
    have same : (j < base ∨ base + (2 * cap0) + 8 ≤ j) → ws7.getD j.toNat 0 = 1000 + j := fun hj => by
      rw [ks7.2 j hj0 (by omega), ho3 j hj0 (by omega), hv j hj0 (by omega)]
    refine IfB.dec (fun h1 => ⟨fit64 (by omega) (by omega), IfB.nyes (same (.inl h1)) ⟨fit64 (by omega) (by omega), next⟩⟩) (fun h1 => ⟨fit64 (by omega) (by omega), fit64 (by omega) (by omega), fit64 (by omega) (by omega), IfB.dec (fun h2 => ⟨fit64 (by omega) (by omega), IfB.nyes (same (.inr h2)) ⟨fit64 (by omega) (by omega), next⟩⟩) (fun h2 => ⟨fit64 (by omega) (by omega), next⟩)⟩)
  · rw [decide_eq_true hit]
    exact hK w8 S8.fr

theorem stRows_c (many : Int) {W : World} {a : Option Addr} (c : Nat) {zs : List Int} (g : ArgI W.heap.size W a zs) {K : Bool → World → Prop} (hK : ∀ w', Fr [] W w' → K true w') : C12 many a zs.length c W K := by
  refine r_f12 _ _ _ _ _ _ (awake5_c fun w0 f0 => ifb_nyes rfl ?_)
  obtain ⟨g1, g2⟩ := and_range 15 4 (by decide) (by decide) many
  generalize bits .and .i64 many 15 = mn at *
  have z0 := f0.size
  refine ⟨fit64 (by omega) (by omega), begun5_c 4 5 (1 + mn) (by decide) (by decide) (by omega) fun w1 F st ab wb sb ws S L f1 hF => ifb_nyes rfl ?_⟩
  have S1 := St5.mk S L (fun k hk => Nat.le_trans z0 (hF k hk)) (f0.more f1)
  have hna : (List.replicate (4 : Int).toNat (0 : Int)).length = 4 := rfl
  rw [hna] at S1
  generalize wd ws 5 0 = x0 at S1
  have tm : ∀ i : Int, 0 ≤ i → Int.tmod (7 * i) (1 + mn) = (7 * i) % (1 + mn) := fun i hi => Int.tmod_eq_emod_of_nonneg (by omega)
  have t7 : Int.tmod (1 + mn) 7 = (1 + mn) % 7 := Int.tmod_eq_emod_of_nonneg (by omega)
  have inj : (1 + mn) % 7 ≠ 0 → ∀ i j : Int, 0 ≤ i → i < 1 + mn → 0 ≤ j → j < 1 + mn → (7 * i) % (1 + mn) = (7 * j) % (1 + mn) → i = j := by
    intro h7 i j hi0 hi1 hj0 hj1 he
    have : mn = 0 ∨ mn = 1 ∨ mn = 2 ∨ mn = 3 ∨ mn = 4 ∨ mn = 5 ∨ mn = 6 ∨ mn = 7 ∨ mn = 8 ∨ mn = 9 ∨ mn = 10 ∨ mn = 11 ∨ mn = 12 ∨ mn = 13 ∨ mn = 14 ∨ mn = 15 := by omega
    rcases this with rfl | rfl | rfl | rfl | rfl | rfl | rfl | rfl | rfl | rfl | rfl | rfl | rfl | rfl | rfl | rfl <;> omega
  refine ⟨fun i w' => 0 ≤ i ∧ i ≤ 1 + mn ∧ ∃ items n x, n ≤ 100 ∧ n ≤ i ∧ ((1 + mn) % 7 ≠ 0 → items = ((upTo i.toNat).reverse).map (fun j => (7 * j) % (1 + mn))) ∧ St5 W w' st ab wb sb 5 (1 + mn) (fun _ => none) items n 4 x ws, fun i _ => (1 + mn - i).toNat, ⟨by omega, by omega, [], 0, x0, by omega, by omega, fun _ => rfl, S1⟩, ?_⟩
  rintro - i w2 ⟨hi0, hi1, items, n, x, hn, hni, hit, S2⟩
  refine IfB.dec (fun hlt => ⟨fit64 (by omega) (by omega), by omega, ?_⟩) (fun hge => ?_)
  · obtain ⟨a1, a2⟩ := and_range 3 2 (by decide) (by decide) i
    rw [tm i hi0, t7]
    have m0 : 0 ≤ (7 * i) % (1 + mn) ∧ (7 * i) % (1 + mn) < 1 + mn := ⟨Int.emod_nonneg _ (by omega), Int.emod_lt_of_pos _ (by omega)⟩
    have nin : (1 + mn) % 7 ≠ 0 → (7 * i) % (1 + mn) ∉ items := fun h7 hm => by
      rw [hit h7, List.mem_map] at hm
      obtain ⟨j, hj, e⟩ := hm
      have hj := mem_upTo.1 (List.mem_reverse.1 hj)
      have := inj h7 j i hj.1 (by omega) hi0 hlt e
      omega
    refine alone5 S2 (by omega) _ 0 _ (fun h w3 S3 => ⟨by decide, IfB.nd (fun h7 => ⟨fit64 (by omega) (by omega), ⟨by omega, by omega, items, n, x, hn, by omega, fun h => absurd h7 h, S3⟩, by dsimp only; omega⟩) (fun h7 => absurd ⟨a1, by omega, rfl, may_push m0.1 m0.2 (nin h7)⟩ h)⟩)
      (fun _ _ k w3 y S3 => ?_) (fun h => by omega) (fun h => by omega)
    have inv3 : 0 ≤ i + 1 ∧ i + 1 ≤ 1 + mn ∧ ∃ items n x, n ≤ 100 ∧ n ≤ i + 1 ∧ ((1 + mn) % 7 ≠ 0 → items = ((upTo (i + 1).toNat).reverse).map (fun j => (7 * j) % (1 + mn))) ∧ St5 W w3 st ab wb sb 5 (1 + mn) (fun _ => none) items n 4 x ws := by
      refine ⟨by omega, by omega, _, n + 1, y, by omega, by omega, fun h7 => ?_, S3⟩
      have e1 : (i + 1).toNat = i.toNat + 1 := by omega
      have e2 : ((i.toNat : Nat) : Int) = i := by omega
      rw [e1, upTo_succ, hit h7, List.reverse_append, e2]
      simp
    refine ⟨by decide, IfB.nd (fun h7 => ⟨fit64 (by omega) (by omega), inv3, by dsimp only; omega⟩) (fun h7 => ifb_nyes rfl (ifb_nyes rfl ⟨fit64 (by omega) (by omega), inv3, by dsimp only; omega⟩))⟩
  · have hie : i = 1 + mn := by omega
    subst hie
    rw [t7]
    refine ⟨by decide, IfB.dec (fun h7 => hK w2 S2.fr) (fun h7 => ⟨fit64 (by omega) (by omega), ?_⟩)⟩
    refine ⟨fun i w' => -1 ≤ i ∧ i ≤ mn ∧ ∃ items n x, n ≤ 1000 - i ∧ items = ((upTo (i + 1).toNat).reverse).map (fun j => (7 * j) % (1 + mn)) ∧ St5 W w' st ab wb sb 5 (1 + mn) (fun _ => none) items n 4 x ws, fun i _ => (i + 1).toNat, ⟨by omega, by omega, items, n, x, by omega, ?_, S2⟩, ?_⟩
    · rw [show (1 + mn - 1 + 1).toNat = (1 + mn).toNat by omega]; exact hit h7
    rintro - i w3 ⟨hi0, hi1, items, n, x, hn, hit, S3⟩
    refine IfB.dec (fun hpos => ?_) (fun hneg => ?_)
    · refine ⟨fun ag w' => 0 ≤ ag ∧ ag < 4 ∧ w' = w3, IfB.dec (fun hlt => ?_) (fun _ => ⟨by omega, by omega, rfl⟩), ?_⟩
      · refine (g.fr S3.fr (by simp)).get hpos hlt fun p hp _ => ⟨⟨hpos, hlt⟩, _, hp, ?_⟩
        obtain ⟨a1, a2⟩ := and_range 3 2 (by decide) (by decide) (zs.getD i.toNat 0)
        exact ⟨a1, by omega, rfl⟩
      rintro - ag w4 ⟨ha0, ha1, rfl⟩
      have e1 : (i + 1).toNat = i.toNat + 1 := by omega
      have e2 : ((i.toNat : Nat) : Int) = i := by omega
      have hit' : items = (7 * i) % (1 + mn) :: ((upTo i.toNat).reverse).map (fun j => (7 * j) % (1 + mn)) := by
        rw [hit, e1, upTo_succ, List.reverse_append, e2]; simp
      refine alone5 S3 (by omega) ag 1 0 (fun h => absurd ⟨ha0, ha1, rfl, may_pop 0⟩ h) (fun h => by omega) (fun _ k y rest hh w5 x5 S5 => ?_) (fun _ h => by rw [hit'] at h; simp at h)
      rw [hit'] at hh
      simp only [List.cons.injEq] at hh
      obtain ⟨rfl, rfl⟩ := hh
      rw [tm i hpos]
      refine ifb_nyes rfl (ifb_nyes rfl ⟨fit64 (by omega) (by omega), by omega, IfB.nyes rfl ⟨fit64 (by omega) (by omega), ⟨by omega, by omega, _, n + 1, x5, by omega, ?_, S5⟩, by dsimp only; omega⟩⟩)
      rw [show (i - 1 + 1).toNat = i.toNat by omega]
    · have : i = -1 := by omega
      subst this
      have hnil : items = [] := by rw [hit]; rfl
      subst hnil
      refine begin5 S3 4 1 0 (fun _ => ?_) (fun _ h => absurd h (by decide)) (fun _ h => absurd h (by decide)) (fun _ h => absurd h (by decide))
      refine items5 S3 fun w5 a c U S5 _ _ => IfB.yes rfl ?_
      exact hK w5 S5.fr

theorem stAlone_c {W : World} {a : Option Addr} (c : Nat) {zs : List Int} (g : ArgI W.heap.size W a zs) (cap0 : Int) {K : Bool → World → Prop} (hK : ∀ w', Fr [] W w' → K true w') : C11 a zs.length c cap0 W K := by
  refine r_f11 _ _ _ _ _ _ (awake5_c fun w0 f0 => ifb_nyes rfl ?_)
  obtain ⟨g1, g2⟩ := and_range 15 4 (by decide) (by decide) cap0
  generalize bits .and .i64 cap0 15 = cn at *
  have z0 := f0.size
  refine ⟨fit64 (by omega) (by omega), begun5_c 8 0 (4 + cn) (by decide) (by decide) (by omega) fun w1 F st ab wb sb ws S L f1 hF => ifb_nyes rfl ?_⟩
  have S1 := St5.mk S L (fun k hk => Nat.le_trans z0 (hF k hk)) (f0.more f1)
  have hna : (List.replicate (8 : Int).toNat (0 : Int)).length = 8 := rfl
  rw [hna] at S1
  generalize wd ws 0 0 = x0 at S1
  refine ⟨fun i w' => 0 ≤ i ∧ i ≤ 4 ∧ ∃ items x, (∀ v ∈ items, v < i) ∧ St5 W w' st ab wb sb 0 (4 + cn) (fun _ => none) items i 8 x ws, fun i _ => (4 - i).toNat, ⟨by omega, by omega, [], x0, by simp, S1⟩, ?_⟩
  rintro - i w2 ⟨hi0, hi1, items, x, hm, S2⟩
  refine IfB.dec (fun hlt => ?_) (fun hge => ?_)
  · refine alone5 S2 (by omega) 7 0 i (fun h => absurd ⟨by decide, by decide, rfl, may_push hi0 (by omega) (fun hh => by have := hm i hh; omega)⟩ h) (fun _ _ k w3 y S3 => ⟨fit64 (by omega) (by omega), ⟨by omega, by omega, _, y, fun v hv => ?_, S3⟩, by dsimp only; omega⟩) (fun h => by omega) (fun h => by omega)
    rcases List.mem_cons.1 hv with e | hv
    · omega
    · have := hm v hv; omega
  -- the operations that are left undone are others' and Pops
  refine ⟨fun w' => ∃ op items n x, n ≤ 1000 ∧ (∀ j, 6 ≤ j → op j = none) ∧ St5 W w' st ab wb sb 0 (4 + cn) op items n 8 x ws,
    ⟨fun i w' => 0 ≤ i ∧ i ≤ 6 ∧ ∃ op items n x, n ≤ 100 + 4 * i ∧ (∀ j : Nat, i ≤ j → op j = none) ∧ (∀ j r, op j = some r → r.op = 1) ∧ St5 W w' st ab wb sb 0 (4 + cn) op items n 8 x ws, fun i _ => (6 - i).toNat, ⟨by omega, by omega, _, items, i, x, by omega, fun _ _ => rfl, (fun j r h => by cases h), S2⟩, ?_⟩, ?_⟩
  · rintro - i w3 ⟨hi0, hi1, op, items, n, x, hn, hop, hpop, S3⟩
    refine IfB.dec (fun hlt => IfB.dec (fun hlt2 => ?_) (fun hge => ⟨op, items, n, x, by omega, fun j hj => hop j (by omega), S3⟩)) (fun hge => ⟨op, items, n, x, by omega, fun j hj => hop j (by omega), S3⟩)
    have hnone : op i.toNat = none := hop _ (by omega)
    refine begin5 S3 i 1 0 (fun h => absurd ⟨hi0, by omega⟩ h) (fun _ _ h => absurd hnone h) (fun _ _ _ h => absurd (may_pop 0) h) (fun _ _ _ _ w4 S4 => ?_)
    refine ⟨fun j w' => 0 ≤ j ∧ j ≤ 3 ∧ ∃ op items n x, n ≤ 100 + 4 * i + j ∧ (∀ k : Nat, i + 1 ≤ k → op k = none) ∧ (∀ j r, op j = some r → r.op = 1) ∧ St5 W w' st ab wb sb 0 (4 + cn) op items n 8 x ws, fun j _ => (3 - j).toNat, ⟨by omega, by omega, _, items, n, x, by omega, fun k hk => ?_, fun k r hr => ?_, S4⟩, ?_⟩
    · rw [upd_ne _ _ (by omega)]; exact hop k (by omega)
    · by_cases e : k = i.toNat
      · subst e; rw [upd_self] at hr; cases hr; rfl
      · rw [upd_ne _ _ e] at hr; exact hpop k r hr
    rintro - j w5 ⟨hj0, hj1, op5, items5', n5, x5, hn5, hop5, hpop5, S5⟩
    refine (g.fr S5.fr (by simp)).get hi0 hlt fun p hp _ => ⟨⟨hi0, hlt⟩, _, hp, ?_⟩
    obtain ⟨a1, a2⟩ := and_range 3 2 (by decide) (by decide) (zs.getD i.toNat 0)
    generalize bits .and .i64 (zs.getD i.toNat 0) 3 = q at *
    have mk : ∀ (w' : World) (x : Option OpR), (∀ r, x = some r → r.op = 1) → ∀ items n y, n ≤ 100 + 4 * i + (j + 1) → St5 W w' st ab wb sb 0 (4 + cn) (upd op5 i.toNat x) items n 8 y ws →
        ∃ op items n x, n ≤ 100 + 4 * i + (j + 1) ∧ (∀ k : Nat, i + 1 ≤ k → op k = none) ∧ (∀ j r, op j = some r → r.op = 1) ∧ St5 W w' st ab wb sb 0 (4 + cn) op items n 8 x ws := by
      intro w' x hx items n y hn' S'
      refine ⟨_, items, n, y, hn', fun k hk => ?_, fun k r hr => ?_, S'⟩
      · rw [upd_ne _ _ (by omega)]; exact hop5 k hk
      · by_cases e : k = i.toNat
        · subst e; rw [upd_self] at hr; exact hx r hr
        · rw [upd_ne _ _ e] at hr; exact hpop5 k r hr
    have same : ∃ op items n x, n ≤ 100 + 4 * i + (j + 1) ∧ (∀ k : Nat, i + 1 ≤ k → op k = none) ∧ (∀ j r, op j = some r → r.op = 1) ∧ St5 W w5 st ab wb sb 0 (4 + cn) op items n 8 x ws := ⟨op5, items5', n5, x5, by omega, hop5, hpop5, S5⟩
    refine IfB.dec (fun hlt3 => step5 S5 (by omega) i (fun h => absurd ⟨hi0, by omega⟩ h) (fun _ _ _ => ⟨fit64 (by omega) (by omega), ⟨by omega, by omega, same⟩, by dsimp only; omega⟩)
      (fun r _ _ hr w6 r6 S6 e1 _ _ => ⟨fit64 (by omega) (by omega), ⟨by omega, by omega, mk w6 (some r6) (fun r' h => by cases h; rw [e1]; exact hpop5 _ r hr) _ _ _ (by omega) S6⟩, by dsimp only; omega⟩)
      (fun r _ _ hr ho => by have := hpop5 _ r hr; omega)
      (fun r y rest _ _ hr ho hit w6 z6 S6 => ⟨fit64 (by omega) (by omega), ⟨by omega, by omega, mk w6 none (fun r' h => by cases h) _ _ _ (by omega) S6⟩, by dsimp only; omega⟩)
      (fun r _ _ hr ho hit w6 S6 => ⟨fit64 (by omega) (by omega), ⟨by omega, by omega, mk w6 none (fun r' h => by cases h) _ _ _ (by omega) S6⟩, by dsimp only; omega⟩))
      (fun hge3 => ⟨fit64 (by omega) (by omega), ⟨by omega, by omega, op5, items5', n5, x5, by omega, fun k hk => hop5 k (by omega), hpop5, S5⟩, by dsimp only; omega⟩)
  rintro - w3 ⟨op, items3, n, x3, hn, hop, S3⟩
  refine items5 S3 fun w4 a4 c4 U4 S4 _ _ => ?_
  have h7 : op (Int.toNat 7) = none := hop 7 (by decide)
  refine ⟨fun i w' => 0 ≤ i ∧ i ≤ items3.length ∧ ∃ items n' x, n' ≤ 1000 + i ∧ (items.length : Int) = items3.length - i ∧ St5 W w' st ab wb sb 0 (4 + cn) op items n' 8 x ws, fun i _ => (items3.length - i).toNat, ⟨by omega, by omega, items3, n, x3, by omega, by omega, S4⟩, ?_⟩
  rintro - i w5 ⟨hi0, hi1, items5', n5, x5, hn5, hit5, S5⟩
  have hil : items3.length ≤ 19 := by
    obtain ⟨ws', L'⟩ := S4.inv
    have := items_len L'
    omega
  refine IfB.dec (fun hlt => ?_) (fun hge => ?_)
  · obtain ⟨F, ws6, ss6, K5, L5, hl5, hF5, fw5, e5, ks5⟩ := S5
    refine items_c K5 L5 fun w6 a6 c6 U6 f6 g6 => ?_
    have K6 := K5.fr0 (f6 [])
    refine alone_c K6 L5 (by omega) 7 1 0 (fun h => absurd ⟨by decide, by omega, h7, may_pop 0⟩ h) (fun h => by omega) (fun _ k y rest hh w7 F7 ws7 ss7 K7 hl7 f7 g7 L7 k7 => ?_) (fun _ h => by rw [h] at hit5; simp at hit5; omega)
    have U7 := U6.fr f7 (fun b hb hf => by have := g6 b hb; have := K5.low b hf; omega)
    subst hh
    refine ifb_nyes rfl (ifb_nyes rfl (IfB.no (by simp; omega) (U7.get (i := 0) (by decide) (by simp) fun p hp => ⟨⟨by decide, by simp⟩, _, hp, IfB.nyes rfl ⟨fit64 (by omega) (by omega), ⟨by omega, by omega, rest, n5 + 1, wd ws7 0 0, by omega, by simp at hit5; omega, ?_⟩, by dsimp only; omega⟩⟩)))
    exact ⟨F7, ws7, ss7, K7, L7, by omega, g7.up hF5 (Nat.le_trans fw5.size (f6 []).size), (fw5.more (f6 [])).trans f7 (fun k hk => .inr (hF5 k hk)), rfl, ks5.trans k7⟩
  · have hnil : items5' = [] := List.eq_nil_of_length_eq_zero (by omega)
    subst hnil
    refine alone5 S5 (by omega) 7 1 0 (fun h => absurd ⟨by decide, by decide, h7, may_pop 0⟩ h) (fun h => by omega) (fun _ k y rest hh => by cases hh) (fun _ _ k w6 z6 S6 => ifb_t (ifb_t ?_))
    refine items5 S6 fun w7 a7 c7 U7 S7 _ _ => ?_
    exact hK w7 S7.fr

end Go.Proofs.Ytfpghcdjfiggiaa.V
