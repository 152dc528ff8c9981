/- The laws of the arrays that move: the calls they make; SpineRoom. No condition. -/
import Derived.Test.YtfpghcdjfiggiaaSpineB
import Derived.Test.YtfpghcdjfiggiaaGSpineL
namespace Go.Proofs.Ytfpghcdjfiggiaa.V
open Go Go.RowKit

/-- A space of the law's own. -/
def Sq (W w : World) (F : List Nat) (s : Nat) (g : SG) (l : List Arr) : Prop :=
  ∃ mb ab wb sb ws ss la lc clk, SpAt w F s mb ab wb sb g l ws ss la lc clk ∧ SInv g l ws ∧ (∀ k ∈ F, W.heap.size ≤ k) ∧ Fr [] W w ∧ ss.length = 3

section
variable {W w w' : World} {F S : List Nat} {s : Nat} {g : SG} {l : List Arr}

theorem Sq.fr (h : Sq W w F s g l) : Fr [] W w := by obtain ⟨_, _, _, _, _, _, _, _, _, _, _, _, f, _⟩ := h; exact f
theorem Sq.up (h : Sq W w F s g l) : ∀ k ∈ F, W.heap.size ≤ k := by obtain ⟨_, _, _, _, _, _, _, _, _, _, _, f, _, _⟩ := h; exact f
theorem Sq.low (h : Sq W w F s g l) : Low F w.heap.size := by obtain ⟨_, _, _, _, _, _, _, _, _, H, _, _, _, _⟩ := h; exact H.low
theorem Sq.inv (h : Sq W w F s g l) : ∃ ws, SInv g l ws := by obtain ⟨_, _, _, _, ws, _, _, _, _, _, I, _⟩ := h; exact ⟨ws, I⟩
theorem Sq.frame (h : Sq W w F s g l) (f : Fr S w w') (hS : ∀ k ∈ S, k ∉ F ∧ W.heap.size ≤ k) : Sq W w' F s g l := by
  obtain ⟨mb, ab, wb, sb, ws, ss, la, lc, clk, H, I, hF, fw, h3⟩ := h
  exact ⟨mb, ab, wb, sb, ws, ss, la, lc, clk, H.frame f (fun k hk hs => (hS k hs).1 hk), I, hF, fw.trans f (fun k hk => .inr (hS k hk).2), h3⟩

theorem begun7_c (base words : Int) (hb : 0 ≤ base ∧ base ≤ 15) (hw : 32 ≤ words ∧ words ≤ 5000) {K : Option Addr → Option Addr → Bool → World → Prop}
    (hK : ∀ w' s mb ab wb sb, SpAt w' [s, mb, ab, wb, sb] s mb ab wb sb ⟨base, words / 2, false, false, 0, 0, 0, 0, []⟩ [] (List.replicate (base + words).toNat 0) [0, 0, 0] none 0 0 → SInv ⟨base, words / 2, false, false, 0, 0, 0, 0, []⟩ [] (List.replicate (base + words).toNat 0) →
      (∀ S, Fr S w w') → (∀ k ∈ [s, mb, ab, wb, sb], w.heap.size ≤ k) → K (some ⟨s, 0, none⟩) (some ⟨ab, 0, none⟩) true w') : C68 base words w K := by
  refine r_f68 _ _ _ _ ⟨fit64 (by omega) (by omega), arena_new_c _ 3 (fun h => ?_) (fun _ w1 ab wb sb A f1 l1 l2 l3 => ?_)⟩
  · simp [newA] at h; omega
  have z1 := (f1 []).size
  refine spnew_c A base words (by omega) (by omega) (by simp; omega) (by simp; omega) fun w2 s mb H I f2 g1 g2 => ifb_t (ifb_t ?_)
  exact hK w2 s mb ab wb sb H I (fun S => (f1 S).more (f2 S)) (by simp; omega)

theorem qmake (h : Sq W w F s g l) (hl : g.last ≤ 1000000) (agent n : Int) (ha : 0 ≤ agent ∧ agent < 3) (hn : 0 ≤ n ∧ n ≤ 1000) {K : Int → Int → World → Prop}
    (hfull : g.half - g.owed - need l < n + 4 → ∀ w', Sq W w' F s g l → Fr F w w' → K 0 702 w')
    (hok : ¬ g.half - g.owed - need l < n + 4 → ∀ w' F' x, x.id = g.last + 1 → x.n = n → x.vs = List.replicate n.toNat 0 → Sq W w' F' s { g with last := g.last + 1, top := g.top + (n + 4) } (l ++ [x]) → Fr F w w' → Grw F F' w.heap.size → K (g.last + 1) 0 w') :
    C69 (some ⟨s, 0, none⟩) agent n w K := by
  obtain ⟨mb, ab, wb, sb, ws, ss, la, lc, clk, H, I, hF, fw, h3⟩ := h
  exact spmake_c H I hl agent n (fun h => absurd (by omega) h) (fun _ h => absurd hn h) (fun _ _ h w' f => hfull h w' ⟨mb, ab, wb, sb, ws, ss, la, lc, clk, H.fr0 (f []), I, hF, fw.more (f []), h3⟩ (f F))
    (fun _ _ h w' F' x ws' ss' e1 e2 e3 H' I' f' g' t' => hok h w' F' x e1 e2 e3 ⟨mb, ab, wb, sb, ws', ss', la, lc, _, H', I', g'.up hF fw.size, fw.trans f' (fun k hk => .inr (hF k hk)), t'.1.trans h3⟩ f' g')

theorem qset (h : Sq W w F s g l) (agent id i v : Int) (ha : 0 ≤ agent ∧ agent < 3) {x : Arr} (hx : x ∈ l) (he : x.id = id) (hi : 0 ≤ i ∧ i < x.n) {K : Int → World → Prop}
    (hok : ∀ w', Sq W w' F s g (rep l { x with vs := x.vs.set i.toNat v }) → Fr F w w' → K 0 w') : C70 (some ⟨s, 0, none⟩) agent id i v w K := by
  obtain ⟨mb, ab, wb, sb, ws, ss, la, lc, clk, H, I, hF, fw, h3⟩ := h
  have hm := H.mem
  have same : ∀ y ∈ l, y.id = id → y = x := fun y hy e => I.same hy hx (e.trans he.symm)
  refine spset_c H I agent id i v (fun h => absurd ⟨by omega, x, hx, he⟩ h) (fun y hy e _ h => absurd hi (by rw [same y hy e] at h; exact h)) (fun y hy e _ h0 h1 w' ws' ss' H' I' t' f' => ?_)
  have := same y hy e
  subst this
  have f2 : Fr F w w' := f'.mono (by simp; exact ⟨.inl hm.2.2.2.1, .inl hm.2.2.2.2.1⟩)
  exact hok w' ⟨mb, ab, wb, sb, ws', ss', la, lc, clk, H', I', hF, fw.trans f2 (fun k hk => .inr (hF k hk)), t'.1.trans h3⟩ f2

theorem qget (h : Sq W w F s g l) (agent id i : Int) (ha : 0 ≤ agent ∧ agent < 3) {x : Arr} (hx : x ∈ l) (he : x.id = id) (hi : 0 ≤ i ∧ i < x.n) {K : Int → Int → World → Prop}
    (hok : ∀ w', Sq W w' F s g l → Fr F w w' → K (x.vs.getD i.toNat 0) 0 w') : C75 (some ⟨s, 0, none⟩) agent id i w K := by
  obtain ⟨mb, ab, wb, sb, ws, ss, la, lc, clk, H, I, hF, fw, h3⟩ := h
  have hm := H.mem
  have same : ∀ y ∈ l, y.id = id → y = x := fun y hy e => I.same hy hx (e.trans he.symm)
  refine spget_c H I agent id i (fun h => absurd ⟨by omega, x, hx, he⟩ h) (fun y hy e _ h => absurd hi (by rw [same y hy e] at h; exact h)) (fun y hy e _ h0 h1 w' H' f' => ?_)
  have := same y hy e
  subst this
  have f2 : Fr F w w' := f'.mono (by simp; exact ⟨.inl hm.2.2.2.1, .inl hm.2.2.2.2.1⟩)
  exact hok w' ⟨mb, ab, wb, sb, ws, _, la, lc, clk, H', I, hF, fw.trans f2 (fun k hk => .inr (hF k hk)), by simpa [tickA] using h3⟩ f2

theorem qdrop (h : Sq W w F s g l) {id : Int} {x : Arr} (hx : x ∈ l) (he : x.id = id) {K : Int → World → Prop}
    (hok : ∀ w' F', Sq W w' F' s { g with owed := g.owed + (x.n + 4), late := if g.act = true then g.late + (x.n + 4) else g.late } (l.filter fun y => !(x.id == y.id)) → Fr F w w' → (∀ b ∈ F', b ∈ F) → K 0 w') : C71 (some ⟨s, 0, none⟩) id w K := by
  obtain ⟨mb, ab, wb, sb, ws, ss, la, lc, clk, H, I, hF, fw, h3⟩ := h
  refine spdrop_c H I id (fun h => absurd he (h x hx)) (fun y hy e w' F' H' f' g' => ?_)
  have := I.same hy hx (e.trans he.symm)
  subst this
  exact hok w' F' ⟨mb, ab, wb, sb, ws, ss, la, lc, clk, H', I.drop hy, fun k hk => hF k (g' k hk), fw.trans f' (fun k hk => .inr (hF k hk)), h3⟩ f' g'

theorem qlen (h : Sq W w F s g l) (id : Int) {K : Int → Int → World → Prop} (hno : (∀ x ∈ l, x.id ≠ id) → K 0 704 w) (hok : ∀ x ∈ l, x.id = id → K x.n 0 w) : C74 (some ⟨s, 0, none⟩) id w K := by
  obtain ⟨mb, ab, wb, sb, ws, ss, la, lc, clk, H, _⟩ := h
  exact splen_c H id hno hok

theorem qroom (h : Sq W w F s g l) {K : Int → World → Prop} (hK : ∀ w', Sq W w' F s g l → (∀ S, Fr S w w') → K (g.half - g.owed - need l) w') : C76 (some ⟨s, 0, none⟩) w K := by
  obtain ⟨mb, ab, wb, sb, ws, ss, la, lc, clk, H, I, hF, fw, h3⟩ := h
  exact room_c H I fun w' f => hK w' ⟨mb, ab, wb, sb, ws, ss, la, lc, clk, H.fr0 (f []), I, hF, fw.more (f []), h3⟩ f

theorem qcycle (h : Sq W w F s g l) (hl : g.last ≤ 1000000) {K : Int → World → Prop} (hon : g.act = true → K 701 w)
    (hok : g.act = false → ∀ w' F' l' left' t, Sq W w' F' s { g with act := true, top := t, late := 0, left := left' } l' → l'.map core = l.map core → mu l' left' ≤ need l → Fr F w w' → Grw F F' w.heap.size → K 0 w') : C72 (some ⟨s, 0, none⟩) w K := by
  obtain ⟨mb, ab, wb, sb, ws, ss, la, lc, clk, H, I, hF, fw, h3⟩ := h
  exact spcycle_c H I hl hon fun ha w' F' l' left' la' lc' t H' I' e1 e2 f' g' => hok ha w' F' l' left' t ⟨mb, ab, wb, sb, ws, ss, la', lc', clk, H', I', g'.up hF fw.size, fw.trans f' (fun k hk => .inr (hF k hk)), h3⟩ e1 e2 f' g'

theorem qstep (h : Sq W w F s g l) (ha : g.act = true) (agent : Int) (hag : 0 ≤ agent ∧ agent < 3) {K : Bool → Int → World → Prop}
    (hend : mu l g.left = 0 → ∀ w', Sq W w' F s { g with act := false, other := !g.other, owed := g.late, late := 0 } l → Fr F w w' → K false 0 w')
    (hgo : 1 ≤ mu l g.left → ∀ w' left' l', Sq W w' F s { g with left := left' } l' → Fr F w w' → vw l' = vw l → l'.map (·.n) = l.map (·.n) → mu l' left' = mu l g.left - 1 → K true 0 w') : C73 (some ⟨s, 0, none⟩) agent w K := by
  obtain ⟨mb, ab, wb, sb, ws, ss, la, lc, clk, H, I, hF, fw, h3⟩ := h
  refine spstep_c H I agent (fun h => absurd (by omega) h) (fun _ h => by rw [ha] at h; cases h) (fun _ _ hm w' H' I' f' => hend hm w' ⟨mb, ab, wb, sb, ws, ss, la, lc, clk, H', I', hF, fw.trans f' (fun k hk => .inr (hF k hk)), h3⟩ f')
    (fun _ _ hm w' left' l' ws' ss' la' lc' H' I' f' e1 e2 e3 t' _ => ?_)
  exact hgo hm w' left' l' ⟨mb, ab, wb, sb, ws', ss', la', lc', clk, H', I', hF, fw.trans f' (fun k hk => .inr (hF k hk)), t'.1.trans h3⟩ f' e1 e2 e3

theorem awake7_c {K : Bool → World → Prop} (hK : ∀ w', Fr [] w w' → K true w') : C67 w K := by
  refine r_f67 _ _ (begun7_c 0 64 (by decide) (by decide) fun w1 s mb ab wb sb H I f1 hF => ifb_nyes rfl ?_)
  have Q1 : Sq w w1 _ s _ [] := ⟨mb, ab, wb, sb, _, _, none, 0, 0, H, I, hF, f1 [], rfl⟩
  refine qmake Q1 (by decide) 0 5 (by decide) (by decide) (fun h => absurd h (by decide)) (fun _ w2 F2 x e1 e2 e3 Q2 _ _ => ?_)
  dsimp only at e1
  rw [List.nil_append] at Q2
  refine qset Q2 1 _ 4 9 (by decide) (x := x) (by simp) e1 (by omega) fun w3 Q3 _ => ?_
  have er : rep [x] { x with vs := x.vs.set (4 : Int).toNat 9 } = [{ x with vs := x.vs.set (4 : Int).toNat 9 }] := by simp [rep]
  rw [er] at Q3
  refine qget Q3 2 _ 4 (by decide) (x := { x with vs := x.vs.set (4 : Int).toNat 9 }) (by simp) e1 (by dsimp only; omega) fun w4 Q4 _ => ?_
  refine qcycle Q4 (by decide) (fun h => by cases h) (fun _ w5 F5 l5 left5 t5 Q5 ec _ _ _ => ?_)
  have en : l5.map (·.n) = [5] := by
    rw [core_map ec (·.n) (fun p => p.2.2.2.1) (fun _ => rfl)]; simp [e2]
  have hneed : need l5 = 9 := need_map [x] l5 (by simp [en, e2]) |>.trans (by simp [need, e2])
  refine qcycle Q5 (by dsimp only; omega) (fun _ => ?_) (fun h => by cases h)
  refine qmake Q5 (by dsimp only; omega) 0 40 (by decide) (by decide) (fun _ w6 Q6 _ => ?_) (fun h => absurd (by dsimp only; rw [hneed]; decide) h)
  refine ifb_t (ifb_t (ifb_t (IfB.yes ?_ (ifb_t (ifb_t (ifb_t ?_))))))
  · rw [e3]; rfl
  · exact hK w6 Q6.fr
end

theorem spRoom_c (size rounds : Int) {W : World} {K : Bool → World → Prop} (hK : ∀ w', Fr [] W w' → K true w') : C16 size rounds W K := by
  obtain ⟨k1, k2⟩ := and_range 63 6 (by decide) (by decide) size
  obtain ⟨r1, r2⟩ := and_range 7 3 (by decide) (by decide) rounds
  refine r_f16 _ _ _ _ ?_
  unfold V_f16
  generalize bits .and .i64 size 63 = kn at *
  generalize bits .and .i64 rounds 7 = rn at *
  refine awake7_c fun w0 f0 => ifb_nyes rfl (begun7_c 0 400 (by decide) (by decide) fun w1 s mb ab wb sb H I f1 hF => ifb_nyes rfl ⟨fit64 (by omega) (by omega), ?_⟩)
  have z0 := f0.size
  have Q1 : Sq W w1 _ s _ [] := ⟨mb, ab, wb, sb, _, _, none, 0, 0, H, I, fun k hk => by have := hF k hk; omega, f0.more (f1 []), rfl⟩
  refine ⟨fun i w' => 0 ≤ i ∧ i ≤ 8 ∧ ∃ F g, Sq W w' F s g [] ∧ g.half = 200 ∧ g.owed = 0 ∧ g.act = false ∧ g.last ≤ i, fun i _ => (8 - i).toNat, ⟨by decide, by decide, _, _, Q1, rfl, rfl, rfl, by decide⟩, ?_⟩
  rintro - i w2 ⟨hi0, hi1, F2, g2, Q2, gh, go, ga, gl⟩
  refine IfB.dec (fun hle => ?_) (fun _ => hK w2 Q2.fr)
  refine qmake Q2 (by omega) 0 _ (by decide) (by omega) (fun h => absurd h (by simp [need]; omega)) (fun _ w3 F3 x e1 e2 e3 Q3 _ _ => ?_)
  rw [List.nil_append] at Q3
  have hneed : need [x] = 100 + kn + 4 := by simp [need, e2]
  refine qmake Q3 (by dsimp only; omega) 1 _ (by decide) (by omega) (fun _ w4 Q4 _ => ?_) (fun h => absurd (by dsimp only; rw [hneed]; omega) h)
  refine ⟨fun w' => Sq W w' F3 s { g2 with last := g2.last + 1, top := g2.top + (100 + kn + 4) } [x], ifb_nyes rfl (ifb_nyes rfl (qroom Q4 fun w5 Q5 _ => ⟨fit64 (by omega) (by omega), IfB.nyes (by dsimp only; rw [hneed]; omega) Q5⟩)), ?_⟩
  rintro - w5 Q5
  refine qdrop Q5 (x := x) (by simp) e1 fun w6 F6 Q6 _ _ => ?_
  have ef : [x].filter (fun y => !(x.id == y.id)) = [] := by simp
  rw [ef] at Q6
  dsimp only at Q6
  rw [if_neg (by rw [ga]; decide)] at Q6
  refine qlen Q6 _ (fun _ => ?_) (fun y hy => by simp at hy)
  refine qcycle Q6 (by dsimp only; omega) (fun h => by dsimp only at h; rw [ga] at h; cases h) (fun _ w7 F7 l7 left7 t7 Q7 ec em _ _ => ?_)
  have el : l7 = [] := by have := congrArg List.length ec; simpa using this
  subst el
  refine ⟨fun w' => ∃ F g, Sq W w' F s g [] ∧ g.half = 200 ∧ g.owed = 0 ∧ g.act = false ∧ g.last ≤ i + 1, ⟨fun j w' => 0 ≤ j ∧ j ≤ 0 ∧ Sq W w' F7 s { g2 with last := g2.last + 1, top := t7, owed := g2.owed + (x.n + 4), act := true, late := 0, left := left7 } [], fun j _ => 0, ⟨by decide, by decide, Q7⟩, ?_⟩, ?_⟩
  · rintro - j w8 ⟨hj0, hj1, Q8⟩
    refine IfB.yes (by omega) (qstep Q8 rfl 2 (by decide) (fun hm w9 Q9 _ => ifb_t ⟨_, _, Q9, gh, rfl, rfl, by dsimp only; omega⟩) (fun hm => ?_))
    dsimp only at hm
    simp [need] at em
    omega
  · rintro - w8 ⟨F8, g8, Q8, gh8, go8, ga8, gl8⟩
    refine ifb_nyes rfl (ifb_nyes rfl (qroom Q8 fun w9 Q9 _ => IfB.nyes (by simp [need]; omega) ⟨fit64 (by omega) (by omega), ⟨by omega, by omega, F8, g8, Q9, gh8, go8, ga8, gl8⟩, by dsimp only; omega⟩))

end Go.Proofs.Ytfpghcdjfiggiaa.V
