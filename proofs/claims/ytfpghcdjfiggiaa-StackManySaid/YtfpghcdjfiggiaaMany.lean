/- The law StackMany: what it computes. No condition. -/
import Derived.Test.YtfpghcdjfiggiaaLaws5a
import Derived.Test.YtfpghcdjfiggiaaBal
import Derived.Test.YtfpghcdjfiggiaaGStackM
namespace Go.Proofs.Ytfpghcdjfiggiaa.V
open Go Go.RowKit

structure Z13 (W w : World) (F : List Nat) (st ab wb sb : Nat) (op : Nat → Option OpR) (ws ss items : List Int) (n : Int) (k gb bb cg cb : Nat) (gt bz : List Int) : Prop where
  S : Stk w F st ab wb sb 0 32 op ws ss
  L : LInv 0 32 op ws items n
  hl : ss.length = k
  hF : ∀ b ∈ F, W.heap.size ≤ b
  fw : Fr [] W w
  G : SI w (some ⟨gb, 0, none⟩) cg gt
  B : SI w (some ⟨bb, 0, none⟩) cb bz
  ne : gb ∉ F ∧ bb ∉ F ∧ gb ≠ bb ∧ W.heap.size ≤ gb ∧ W.heap.size ≤ bb

section
variable {W w w' : World} {F F' : List Nat} {st ab wb sb : Nat} {op op' : Nat → Option OpR} {ws ss ws' ss' items items' : List Int} {n n' : Int} {k gb bb cg cb : Nat} {gt bz : List Int} {next : Int}

theorem Z13.lowG (h : Z13 W w F st ab wb sb op ws ss items n k gb bb cg cb gt bz) : gb < w.heap.size ∧ bb < w.heap.size := ⟨h.G.low gb (by simp [ablk]), h.B.low bb (by simp [ablk])⟩

theorem Z13.stk (h : Z13 W w F st ab wb sb op ws ss items n k gb bb cg cb gt bz) (S' : Stk w' F' st ab wb sb 0 32 op' ws' ss') (L' : LInv 0 32 op' ws' items' n') (hl : ss'.length = k) (f : Fr F w w') (g : Grw F F' w.heap.size) :
    Z13 W w' F' st ab wb sb op' ws' ss' items' n' k gb bb cg cb gt bz := by
  obtain ⟨l1, l2⟩ := h.lowG
  obtain ⟨n1, n2, n3, n4, n5⟩ := h.ne
  refine ⟨S', L', hl, g.up h.hF h.fw.size, h.fw.trans f (fun b hb => .inr (h.hF b hb)), h.G.fr f (by simpa [Apart, ablk] using n1), h.B.fr f (by simpa [Apart, ablk] using n2), fun hb => ?_, fun hb => ?_, n3, n4, n5⟩
  · rcases g gb hb with q | q
    · exact n1 q
    · omega
  · rcases g bb hb with q | q
    · exact n2 q
    · omega

theorem Z13.fr0 (h : Z13 W w F st ab wb sb op ws ss items n k gb bb cg cb gt bz) (f : ∀ S, Fr S w w') : Z13 W w' F st ab wb sb op ws ss items n k gb bb cg cb gt bz :=
  h.stk (h.S.fr0 (f [])) h.L h.hl (f F) (fun b hb => .inl hb)

theorem Z13.setB (h : Z13 W w F st ab wb sb op ws ss items n k gb bb cg cb gt bz) {bz' : List Int} (B' : SI w' (some ⟨bb, 0, none⟩) cb bz') (f : Fr (ablk (some ⟨bb, 0, none⟩)) w w') : Z13 W w' F st ab wb sb op ws ss items n k gb bb cg cb gt bz' := by
  obtain ⟨n1, n2, n3, n4, n5⟩ := h.ne
  have f' : Fr [bb] w w' := f
  exact ⟨h.S.frame f' (fun b hb hb2 => by simp at hb2; subst hb2; exact n2 hb), h.L, h.hl, h.hF, h.fw.trans f' (by simp; omega), h.G.fr f' (by simpa [Apart, ablk] using n3), B', h.ne⟩

theorem Z13.setG (h : Z13 W w F st ab wb sb op ws ss items n k gb bb cg cb gt bz) {gt' : List Int} (G' : SI w' (some ⟨gb, 0, none⟩) cg gt') (f : Fr (ablk (some ⟨gb, 0, none⟩)) w w') : Z13 W w' F st ab wb sb op ws ss items n k gb bb cg cb gt' bz := by
  obtain ⟨n1, n2, n3, n4, n5⟩ := h.ne
  have f' : Fr [gb] w w' := f
  exact ⟨h.S.frame f' (fun b hb hb2 => by simp at hb2; subst hb2; exact n1 hb), h.L, h.hl, h.hF, h.fw.trans f' (by simp; omega), G', h.B.fr f' (by simp [Apart, ablk]; omega), h.ne⟩

def M13 (W w : World) (st ab wb sb : Nat) (op : Nat → Option OpR) (items : List Int) (n : Int) (k gb bb cg cb : Nat) (gt bz : List Int) (next x : Int) : Prop :=
  ∃ F ws ss, Z13 W w F st ab wb sb op ws ss items n k gb bb cg cb gt bz ∧ Bal k op items gt bz next ∧ wd ws 0 0 = x

/-- A step that ends an operation: what is to be written yet. -/
def D13 (W w : World) (st ab wb sb : Nat) (op : Nat → Option OpR) (items : List Int) (n : Int) (k gb bb cg cb : Nat) (gt bz : List Int) (next x : Int) (a v : Nat) (is : Bool) : Prop :=
  ∃ F ws ss, Z13 W w F st ab wb sb op ws ss items n k gb bb cg cb gt bz ∧ a < k ∧ v < 32 ∧ gt.length = 32 ∧ bz.length = k ∧ wd ws 0 0 = x ∧ op a = none ∧
    (bz.getD a 0 = 2 → is = true → Bal k op items (gt.set v (gt.getD v 0 + 1)) (bz.set a 0) next) ∧ (¬ (bz.getD a 0 = 2 ∧ is = true) → Bal k op items gt (bz.set a 0) next)

theorem step13 {x : Int} (h : M13 W w st ab wb sb op items n k gb bb cg cb gt bz next x) (hn : n ≤ 100000) {a : Int} (h0 : 0 ≤ a) (h1 : a < k) (hb : bz.getD a.toNat 0 ≠ 0) {K : Bool → Int → Bool → Int → World → Prop}
    (hgo : ∀ w' r r', M13 W w' st ab wb sb (upd op a.toNat (some r')) items n k gb bb cg cb gt bz next x → op a.toNat = some r → lft r' x < lft r x → K false 0 false 0 w')
    (hdone : ∀ w' op' items' x' v is, 0 ≤ v → v < 32 → D13 W w' st ab wb sb op' items' (n + 1) k gb bb cg cb gt bz next x' a.toNat v.toNat is → K true v is 0 w') : C63 (some ⟨st, 0, none⟩) a w K := by
  obtain ⟨F, ws, ss, Z, B, rfl⟩ := h
  have hl := Z.hl
  have hak : a.toNat < k := by omega
  have tl : (tickA ss a).length = k := by simp [tickA, hl]
  have lb := B.lb
  have lg := B.lg
  have two : ∀ r, op a.toNat = some r → (r.op = 0 → bz.getD a.toNat 0 = 1) ∧ (r.op = 1 → bz.getD a.toNat 0 = 2) := fun r hr => by
    rcases B.bz _ hak with q | ⟨q, s, q2, q3⟩ | ⟨q, s, q2, q3⟩
    · exact absurd q.1 hb
    · rw [hr] at q2; cases q2; exact ⟨fun _ => q, fun h => by omega⟩
    · rw [hr] at q2; cases q2; exact ⟨fun h => by omega, fun _ => q⟩
  refine ststep_c Z.S Z.L hn a (fun h => absurd ⟨h0, by omega⟩ h) (fun _ _ hno => ?_)
    (fun r _ _ hr w1 r1 ws1 S1 f1 L1 e1 e2 lt e0 _ => hgo w1 r r1 ⟨F, ws1, _, Z.stk S1 L1 tl f1 (fun b hb => .inl hb), B.go hak hr e1 e2, e0⟩ hr (by rw [e0] at lt; exact lt))
    (fun r _ _ hr ho w1 F1 ws1 S1 f1 g1 L1 _ => ?_) (fun r y rest _ _ hr ho hit w1 F1 ws1 S1 f1 g1 L1 _ => ?_) (fun r _ _ hr ho hit w1 F1 S1 f1 g1 L1 => ?_)
  · rcases B.bz _ hak with q | ⟨_, s, q2, _⟩ | ⟨_, s, q2, _⟩
    · exact absurd q.1 hb
    · rw [hno] at q2; cases q2
    · rw [hno] at q2; cases q2
  · have ok := Z.L.ops _ r hr
    have hv := ok.push ho
    have e1 := (two r hr).1 ho
    have B' := B.push hak hr ho ⟨hv.1, hv.2.1⟩ (fun b s q1 q2 q3 => Z.L.ds b _ s r q1 hr q2 ho q3)
    exact hdone w1 _ _ _ 0 true (by decide) (by decide) ⟨F1, ws1, _, Z.stk S1 L1 tl f1 g1, hak, by decide, lg, lb, rfl, upd_self _ _ _, fun h => by omega, fun _ => B'⟩
  · have e1 := (two r hr).2 ho
    have hy := chain_mem Z.L.ch y (by rw [hit]; simp)
    have B' := B.pop hak hr ho hit Z.L.nd hy
    exact hdone w1 _ _ _ y true hy.1 hy.2 ⟨F1, ws1, _, Z.stk S1 L1 tl f1 g1, hak, by omega, lg, lb, rfl, upd_self _ _ _, fun _ _ => B', fun h => absurd ⟨e1, rfl⟩ h⟩
  · have B' := B.empty hak hr ho
    exact hdone w1 _ _ _ 0 false (by decide) (by decide) ⟨F1, ws, _, Z.stk S1 L1.more tl f1 g1, hak, by decide, lg, lb, rfl, upd_self _ _ _, (fun _ h => by cases h), fun _ => B'⟩

/-- What is written behind a step that ends an operation. -/
theorem done13 {x : Int} {a v : Int} {is : Bool} {lb lg : Nat} (h : D13 W w st ab wb sb op items n k gb bb cg cb gt bz next x a.toNat v.toNat is) (h0 : 0 ≤ a) (v0 : 0 ≤ v) (hb : lb = k) (hg : lg = 32) {R : World → Prop}
    (hR : ∀ w' gt', M13 W w' st ab wb sb op items n k gb bb cg cb gt' (bz.set a.toNat 0) next x → R w') :
    PtrOK (some ⟨bb, 0, none⟩) fun (p47 : Addr) =>
     ((0 : Int) ≤ a ∧ a < (lb : Int)) ∧
     ∃ (n48 : Int), World.cell? w (Addr.add p47 (Int.toNat a * 1)) = some (.int .i64 n48) ∧
     IfB (decide ((n48 : Int) = 2))
     (IfB is
     (PtrOK (some ⟨gb, 0, none⟩) fun (p49 : Addr) =>
     ((0 : Int) ≤ v ∧ v < (lg : Int)) ∧
     ∃ (n50 : Int), World.cell? w (Addr.add p49 (Int.toNat v * 1)) = some (.int .i64 n50) ∧
     Fit .i64 (n50 + 1) ∧
     PtrOK (some ⟨gb, 0, none⟩) fun (p51 : Addr) =>
     ((0 : Int) ≤ v ∧ v < (lg : Int)) ∧
     May w (Addr.add p51 (Int.toNat v * 1)) ∧ ∀ w52 : World, SetC w w52 (Addr.add p51 (Int.toNat v * 1)) (.int .i64 (n50 + 1)) →
     PtrOK (some ⟨bb, 0, none⟩) fun (p53 : Addr) =>
     ((0 : Int) ≤ a ∧ a < (lb : Int)) ∧
     May w52 (Addr.add p53 (Int.toNat a * 1)) ∧ ∀ w54 : World, SetC w52 w54 (Addr.add p53 (Int.toNat a * 1)) (.int .i64 0) → R w54)
     (PtrOK (some ⟨bb, 0, none⟩) fun (p55 : Addr) =>
     ((0 : Int) ≤ a ∧ a < (lb : Int)) ∧
     May w (Addr.add p55 (Int.toNat a * 1)) ∧ ∀ w56 : World, SetC w w56 (Addr.add p55 (Int.toNat a * 1)) (.int .i64 0) → R w56))
     (PtrOK (some ⟨bb, 0, none⟩) fun (p57 : Addr) =>
     ((0 : Int) ≤ a ∧ a < (lb : Int)) ∧
     May w (Addr.add p57 (Int.toNat a * 1)) ∧ ∀ w58 : World, SetC w w58 (Addr.add p57 (Int.toNat a * 1)) (.int .i64 0) → R w58) := by
  obtain ⟨F, ws, ss, Z, ha, hv, gl, bl, e, eo, B1, B2⟩ := h
  subst hb; subst hg
  refine Z.B.get h0 (by omega) fun p hp => ⟨⟨h0, by omega⟩, _, hp, ?_⟩
  have rest : ¬ (bz.getD a.toNat 0 = 2 ∧ is = true) → (PtrOK (some ⟨bb, 0, none⟩) fun (p57 : Addr) =>
     ((0 : Int) ≤ a ∧ a < (lb : Int)) ∧
     May w (Addr.add p57 (Int.toNat a * 1)) ∧ ∀ w58 : World, SetC w w58 (Addr.add p57 (Int.toNat a * 1)) (.int .i64 0) → R w58) := fun hno =>
    Z.B.put h0 (by omega) 0 fun p hm _ hs => ⟨⟨h0, by omega⟩, hm, fun w1 s1 => by
      obtain ⟨q1, q2⟩ := hs w1 s1
      exact hR w1 gt ⟨F, ws, ss, Z.setB q1 q2, B2 hno, e⟩⟩
  refine IfB.dec (fun h2 => ?_) (fun h2 => rest (fun h => h2 h.1))
  cases is with
  | false => exact ifb_f (rest (fun h => by cases h.2))
  | true =>
    refine ifb_t (Z.G.get v0 (by omega) fun p hp => ⟨⟨v0, by omega⟩, _, hp, ?_⟩)
    have Bf := B1 h2 rfl
    have hfit : gt.getD v.toNat 0 + 1 = 0 ∨ gt.getD v.toNat 0 + 1 = 1 := by
      have q : (gt.set v.toNat (gt.getD v.toNat 0 + 1)).getD v.toNat 0 = gt.getD v.toNat 0 + 1 := by rw [getD_set _ _ _ _ (by omega), if_pos rfl]
      rw [← q]
      by_cases e : (v.toNat : Int) < next
      · rcases Bf.lo _ e with q | q | q <;> omega
      · have := Bf.hi v.toNat (by omega) hv; omega
    refine ⟨fit64 (by omega) (by omega), Z.G.put v0 (by omega) (gt.getD v.toNat 0 + 1) fun p hm _ hs => ⟨⟨v0, by omega⟩, hm, fun w1 s1 => ?_⟩⟩
    obtain ⟨q1, q2⟩ := hs w1 s1
    have Z1 := Z.setG q1 q2
    refine Z1.B.put h0 (by omega) 0 fun p hm _ hs => ⟨⟨h0, by omega⟩, hm, fun w2 s2 => ?_⟩
    obtain ⟨q1, q2⟩ := hs w2 s2
    exact hR w2 _ ⟨F, ws, ss, Z1.setB q1 q2, Bf, e⟩

theorem ended_c {x : Int} (h : M13 W w st ab wb sb op items n k gb bb cg cb gt bz next x) (hn : n ≤ 500) {lb lg : Nat} (hb : lb = k) (hg : lg = 32) (hk : k ≤ 12) {K : Bool → World → Prop} (hK : ∀ w', Fr [] W w' → K true w') :
    C64 (some ⟨st, 0, none⟩) (some ⟨bb, 0, none⟩) lb cb (some ⟨gb, 0, none⟩) lg cg next w K := by
  refine r_f64 _ _ _ _ _ _ _ _ _ _ ?_
  subst hb; subst hg
  refine ⟨fun a w' => 0 ≤ a ∧ a ≤ lb ∧ ∃ op items gt bz n x, n ≤ 500 + a ∧ M13 W w' st ab wb sb op items n lb gb bb cg cb gt bz next x ∧ ∀ i : Nat, i < a → bz.getD i 0 = 0, fun a _ => (lb - a).toNat, ⟨by omega, by omega, op, items, gt, bz, n, x, by omega, h, fun i hi => by omega⟩, ?_⟩
  rintro - a w1 ⟨ha0, ha1, op1, items1, gt1, bz1, n1, x1, hn1, M1, hz1⟩
  refine IfB.dec (fun hlt => ?_) (fun hge => ?_)
  · refine ⟨fun w' => ∃ op items gt bz n x, n ≤ 500 + (a + 1) ∧ M13 W w' st ab wb sb op items n lb gb bb cg cb gt bz next x ∧ ∀ i : Nat, i < a + 1 → bz.getD i 0 = 0, ?_, ?_⟩
    · refine ⟨fun j w' => 0 ≤ j ∧ ∃ op items gt bz n x, ((n ≤ 500 + a ∧ bz.getD a.toNat 0 ≠ 0) ∨ (n ≤ 500 + (a + 1) ∧ bz.getD a.toNat 0 = 0)) ∧ M13 W w' st ab wb sb op items n lb gb bb cg cb gt bz next x ∧ (∀ i : Nat, i < a → bz.getD i 0 = 0) ∧ (∀ r, op a.toNat = some r → j + lft r x ≤ 5), fun j _ => (4000 - j).toNat,
        ⟨by omega, op1, items1, gt1, bz1, n1, x1, by omega, M1, hz1, fun r hr => ?_⟩, ?_⟩
      · obtain ⟨F, ws, ss, Z, B, rfl⟩ := M1
        have := lft_pos (Z.L.ops _ r hr) (wd ws 0 0)
        omega
      rintro - j w2 ⟨hj0, op2, items2, gt2, bz2, n2, x2, hn2, M2, hz2, hl2⟩
      have busy : bz2.getD a.toNat 0 ≠ 0 → j ≤ 4 := fun hb => by
        obtain ⟨F, ws, ss, Z, B, rfl⟩ := M2
        rcases B.bz a.toNat (by omega) with q | ⟨_, r, q2, _⟩ | ⟨_, r, q2, _⟩
        · exact absurd q.1 hb
        · have := lft_pos (Z.L.ops _ r q2) (wd ws 0 0)
          have := hl2 r q2
          omega
        · have := lft_pos (Z.L.ops _ r q2) (wd ws 0 0)
          have := hl2 r q2
          omega
      have out : bz2.getD a.toNat 0 = 0 → ∃ op items gt bz n x, n ≤ 500 + (a + 1) ∧ M13 W w2 st ab wb sb op items n lb gb bb cg cb gt bz next x ∧ ∀ i : Nat, i < a + 1 → bz.getD i 0 = 0 := fun hb => ⟨op2, items2, gt2, bz2, n2, x2, by omega, M2, fun i hi => by
        by_cases e : i = a.toNat
        · rw [e]; exact hb
        · exact hz2 i (by omega)⟩
      refine IfB.dec (fun hj => ?_) (fun hj => out (by
        by_cases e : bz2.getD a.toNat 0 = 0
        · exact e
        · have := busy e; omega))
      have B2 : ∃ F ws ss, Z13 W w2 F st ab wb sb op2 ws ss items2 n2 lb gb bb cg cb gt2 bz2 ∧ bz2.length = lb := by
        obtain ⟨F, ws, ss, Z, B, _⟩ := M2
        exact ⟨F, ws, ss, Z, B.lb⟩
      obtain ⟨F2, ws2, ss2, Z2, lb2⟩ := B2
      refine Z2.B.get ha0 (by omega) fun p hp => ⟨⟨ha0, by omega⟩, _, hp, IfB.nd (fun hb => out hb) (fun hb => ?_)⟩
      have hn2' : n2 ≤ 500 + a := by
        rcases hn2 with h | h
        · exact h.1
        · exact absurd h.2 hb
      clear hn2
      refine step13 M2 (by omega) ha0 hlt hb (fun w3 r r' M3 hr lt => ?_) (fun w3 op3 items3 x3 v is v0 v1 D3 => ?_)
      · refine ⟨fun w' => w' = w3, IfB.no (by decide) (IfB.no (by decide) rfl), ?_⟩
        rintro - w4 rfl
        refine ifb_f ⟨fit64 (by omega) (by omega), ⟨by omega, _, items2, gt2, bz2, n2, x2, .inl ⟨hn2', hb⟩, M3, hz2, fun s hs => ?_⟩, by dsimp only; omega⟩
        rw [upd_self] at hs
        cases hs
        have := hl2 r hr
        omega
      · refine ⟨fun w' => w' = w3, IfB.no (by omega) (IfB.no (by omega) rfl), ?_⟩
        rintro - w4 rfl
        have eo : op3 a.toNat = none := by
          obtain ⟨_, _, _, _, _, _, _, _, _, q, _⟩ := D3
          exact q
        refine ifb_t (done13 D3 ha0 v0 rfl rfl fun w5 gt5 M5 => ⟨fit64 (by omega) (by omega), ⟨by omega, _, _, gt5, _, n2 + 1, x3, .inr ⟨by omega, ?_⟩, M5, fun i hi => ?_, fun s hs => ?_⟩, by dsimp only; omega⟩)
        · rw [getD_set _ _ _ _ (by omega), if_pos rfl]
        · rw [getD_set _ _ _ _ (by omega), if_neg (by omega)]; exact hz2 i hi
        · rw [eo] at hs; cases hs
    · rintro - w2 ⟨op2, items2, gt2, bz2, n2, x2, hn2, M2, hz2⟩
      have M2' := M2
      obtain ⟨F2, ws2, ss2, Z2, B2, _⟩ := M2
      refine Z2.B.get ha0 (by rw [B2.lb]; exact hlt) fun p hp => ⟨⟨ha0, hlt⟩, _, hp, IfB.nyes (hz2 _ (by omega)) ⟨fit64 (by omega) (by omega), ⟨by omega, by omega, op2, items2, gt2, bz2, n2, x2, hn2, M2', hz2⟩, by dsimp only; omega⟩⟩
  obtain ⟨F1, ws1, ss1, Z1, B1, _⟩ := M1
  refine items_c Z1.S Z1.L fun w2 a2 c2 U2 f2 g2 => ?_
  have lg1 := B1.lg
  have it1 := items_len Z1.L
  have fin := B1.done (fun i hi => hz1 i (by omega))
  have lowG := Z1.lowG
  have hf2 := fun S => f2 S
  refine ⟨fun i w' => 0 ≤ i ∧ i ≤ items1.length ∧ ∃ gt', SI w' a2 c2 items1 ∧ SI w' (some ⟨gb, 0, none⟩) cg gt' ∧ Fr [gb] w2 w' ∧ gt'.length = 32 ∧ ∀ v : Nat, v < 32 → gt'.getD v 0 = gt1.getD v 0 + (if (v : Int) ∈ items1.take i.toNat then 1 else 0), fun i _ => (items1.length - i).toNat,
    ⟨by omega, by omega, gt1, U2, Z1.G.fr (f2 []) (by simp [Apart]), Fr.refl _ _, lg1, fun v _ => by simp⟩, ?_⟩
  rintro - i w3 ⟨hi0, hi1, gt3, U3, G3, f3, lg3, hv3⟩
  refine IfB.dec (fun hlt => ?_) (fun hge2 => ?_)
  · have hmem : items1.getD i.toNat 0 ∈ items1 := by
      have : i.toNat < items1.length := by omega
      rw [List.getD_eq_getElem?_getD, List.getElem?_eq_getElem this]
      exact List.getElem_mem this
    have hr := chain_mem Z1.L.ch _ hmem
    have ntk : items1.getD i.toNat 0 ∉ items1.take i.toNat := by
      have hl : i.toNat < items1.length := by omega
      have nd := Z1.L.nd
      rw [← List.take_append_drop i.toNat items1, List.nodup_append] at nd
      intro hm
      refine nd.2.2 _ hm (items1.getD i.toNat 0) ?_ rfl
      rw [List.getD_eq_getElem?_getD, List.getElem?_eq_getElem hl, List.drop_eq_getElem_cons hl]
      exact List.mem_cons.2 (.inl rfl)
    generalize hy : items1.getD i.toNat 0 = y at *
    refine ⟨fun w' => w' = w3, ?_, ?_⟩
    · refine U3.get hi0 (by omega) fun p hp => ⟨⟨hi0, by omega⟩, y, by rw [← hy]; exact hp, IfB.no (by omega) (U3.get hi0 (by omega) fun p hp => ⟨⟨hi0, by omega⟩, y, by rw [← hy]; exact hp, IfB.no (by omega) rfl⟩)⟩
    rintro - w4 rfl
    have y3 := hv3 y.toNat (by omega)
    have e0 : ((y.toNat : Nat) : Int) = y := by omega
    rw [e0, if_neg ntk] at y3
    have yf := fin y.toNat (by omega)
    refine U3.get hi0 (by omega) fun p hp => ⟨⟨hi0, by omega⟩, y, by rw [← hy]; exact hp, G3.get hr.1 (by omega) fun p hp => ⟨⟨hr.1, by omega⟩, _, hp, ⟨fit64 (by split at yf <;> split at yf <;> omega) (by split at yf <;> split at yf <;> omega), G3.put hr.1 (by omega) (gt3.getD y.toNat 0 + 1) fun p hm _ hs => ⟨⟨hr.1, by omega⟩, hm, fun w5 s5 => ?_⟩⟩⟩⟩
    obtain ⟨q1, q2⟩ := hs w5 s5
    have q2' : Fr [gb] w4 w5 := q2
    refine ⟨fit64 (by omega) (by omega), ⟨by omega, by omega, _, U3.fr q2' ?_, q1, f3.more q2', by simp [lg3], fun v hv => ?_⟩, by dsimp only; omega⟩
    · intro b hb hb2
      simp at hb2
      have h1 := g2 b hb
      omega
    · have e1 : (i + 1).toNat = i.toNat + 1 := by omega
      have hl : i.toNat < items1.length := by omega
      have hye : items1[i.toNat] = y := by rw [← hy, List.getD_eq_getElem?_getD, List.getElem?_eq_getElem hl]; rfl
      rw [e1, List.take_succ_eq_append_getElem hl, hye, getD_set _ _ _ _ (by omega)]
      by_cases e : v = y.toNat
      · subst e
        rw [if_pos rfl, if_pos (by rw [e0]; simp)]
        omega
      · rw [if_neg e, hv3 v hv]
        have : ((v : Int) ∈ items1.take i.toNat ++ [y]) ↔ (v : Int) ∈ items1.take i.toNat := by simp; omega
        rw [show (if (v : Int) ∈ items1.take i.toNat ++ [y] then (1 : Int) else 0) = if (v : Int) ∈ items1.take i.toNat then 1 else 0 from by simp only [this]]
  · have ei : i.toNat = items1.length := by omega
    rw [ei, List.take_length] at hv3
    have fw : Fr [] W w3 := (Z1.fw.more (f2 [])).trans f3 (by simp; exact Z1.ne.2.2.2.1)
    refine ⟨fun j w' => 0 ≤ j ∧ j ≤ 32 ∧ w' = w3, fun j _ => (32 - j).toNat, ⟨by omega, by omega, rfl⟩, ?_⟩
    rintro - j w4 ⟨hj0, hj1, rfl⟩
    refine IfB.dec (fun hlt => ?_) (fun hge => hK _ fw)
    refine ⟨fun wa w' => wa = (if j < next then 1 else 0) ∧ w' = w4, IfB.dec (fun h => ⟨by rw [if_pos h], rfl⟩) (fun h => ⟨by rw [if_neg h], rfl⟩), ?_⟩
    rintro - wa w5 ⟨rfl, rfl⟩
    have e0 : ((j.toNat : Nat) : Int) = j := by omega
    have hf := fin j.toNat (by omega)
    have h3 := hv3 j.toNat (by omega)
    rw [e0] at hf h3
    exact G3.get hj0 (by omega) fun p hp => ⟨⟨hj0, by omega⟩, _, hp, IfB.nyes (by omega) ⟨fit64 (by omega) (by omega), ⟨by omega, by omega, rfl⟩, by dsimp only; omega⟩⟩
end

theorem stMany_c (agents : Int) {W : World} {a : Option Addr} (c : Nat) {zs : List Int} (g : ArgI W.heap.size W a zs) {K : Bool → World → Prop} (hK : ∀ w', Fr [] W w' → K true w') : C13 agents a zs.length c W K := by
  refine r_f13 _ _ _ _ _ _ (awake5_c fun w0 f0 => ifb_nyes rfl ?_)
  obtain ⟨g1, g2⟩ := and_range 3 2 (by decide) (by decide) agents
  generalize bits .and .i64 agents 3 = kn at *
  have z0 := f0.size
  refine ⟨fit64 (by omega) (by omega), begun5_c (2 + kn) 0 32 (by omega) (by decide) (by decide) fun w1 F st ab wb sb ws S L f1 hF => ifb_nyes rfl ?_⟩
  have z1 := f1.size
  obtain ⟨k, hk⟩ : ∃ k : Nat, (k : Int) = 2 + kn := ⟨(2 + kn).toNat, by omega⟩
  have hk2 : (2 + kn).toNat = k := by omega
  rw [← hk] at S ⊢
  refine ⟨fun n a l c w' => n = 0 ∧ l = 32 ∧ ∃ gb, a = some ⟨gb, 0, none⟩ ∧ SI w' a c (List.replicate 32 0) ∧ (∀ S, Fr S w1 w') ∧ w1.heap.size ≤ gb, fun w2 d2 => mk_int (by decide) (by decide) fun gb w3 G3 f3 l3 => ⟨rfl, rfl, gb, rfl, G3, fun S => (d2.fr S).more (f3 S), by have := (d2.fr []).size; omega⟩, ?_⟩
  rintro - _ _ _ cg w3 ⟨rfl, rfl, gb, rfl, G3, f3, l3⟩
  refine mk_int (by omega) (by omega) fun bb w4 B4 f4 l4 => ?_
  rw [show ((k : Int)).toNat = k from by omega] at B4 ⊢
  have f14 : ∀ S, Fr S w1 w4 := fun S => (f3 S).more (f4 S)
  have lowF := S.low
  have z3 := (f3 []).size
  have gl := G3.low gb (by simp [ablk])
  have Z4 : Z13 W w4 F st ab wb sb (fun _ => none) ws (List.replicate k 0) [] 0 k gb bb cg k (List.replicate 32 0) (List.replicate k 0) :=
    ⟨by have := S.fr0 (f14 []); simpa using this, L, by simp, fun b hb => by have := hF b hb; omega, (f0.more f1).more (f14 []), G3.fr (f4 []) (by simp [Apart]), B4, fun h => by have := lowF _ h; omega, fun h => by have := lowF _ h; omega, by omega, by omega, by omega⟩
  have M4 : M13 W w4 st ab wb sb (fun _ => none) [] 0 k gb bb cg k (List.replicate 32 0) (List.replicate k 0) 0 _ := ⟨F, ws, _, Z4, Bal.start k, rfl⟩
  refine ⟨fun next w' => ∃ op items gt bz n x, n ≤ 400 ∧ M13 W w' st ab wb sb op items n k gb bb cg k gt bz next x, ?_, ?_⟩
  · refine ⟨fun next i w' => 0 ≤ i ∧ i ≤ 400 ∧ ∃ op items gt bz n x, n ≤ i ∧ M13 W w' st ab wb sb op items n k gb bb cg k gt bz next x, fun _ i _ => (400 - i).toNat, ⟨by decide, by decide, _, _, _, _, 0, _, by decide, M4⟩, ?_⟩
    rintro - next i w5 ⟨hi0, hi1, op, items, gt, bz, n, x, hn, M5⟩
    have out : ∃ op items gt bz n x, n ≤ 400 ∧ M13 W w5 st ab wb sb op items n k gb bb cg k gt bz next x := ⟨op, items, gt, bz, n, x, by omega, M5⟩
    refine IfB.dec (fun hlt => IfB.dec (fun hlt2 => ?_) (fun _ => out)) (fun _ => out)
    have M5' := M5
    obtain ⟨F5, ws5, ss5, Z5, B5, rfl⟩ := M5
    refine (g.fr Z5.fw (by simp)).get hi0 hlt fun p hp _ => ⟨⟨hi0, hlt⟩, _, hp, by omega, ?_⟩
    obtain ⟨a1, a2⟩ := and_range 255 8 (by decide) (by decide) (zs.getD i.toNat 0)
    have r0 : 0 ≤ Int.tmod (bits .and .i64 (zs.getD i.toNat 0) 255) (k : Int) := Int.tmod_nonneg _ a1
    have r1 : Int.tmod (bits .and .i64 (zs.getD i.toNat 0) 255) (k : Int) < k := by
      rw [Int.tmod_eq_emod_of_nonneg a1]; exact Int.emod_lt_of_pos _ (by omega)
    generalize Int.tmod (bits .and .i64 (zs.getD i.toNat 0) 255) (k : Int) = ag at *
    have hak : ag.toNat < k := by omega
    have lb5 := B5.lb
    have nx5 := B5.nx
    refine Z5.B.get r0 (by omega) fun p hp => ⟨⟨r0, by omega⟩, _, hp, IfB.dec (fun hz => ?_) (fun hz => ?_)⟩
    · have hnone : op ag.toNat = none := by
        rcases B5.bz _ hak with q | q | q
        · exact q.2
        · omega
        · omega
      refine Z5.B.put r0 (by omega) 2 fun p hm _ hs => ⟨⟨r0, by omega⟩, hm, fun w6 s6 => ?_⟩
      obtain ⟨q1, q2⟩ := hs w6 s6
      have Z6 := Z5.setB q1 q2
      refine (g.fr Z6.fw (by simp)).get hi0 hlt fun p hp _ => ⟨⟨hi0, hlt⟩, _, hp, ?_⟩
      have pop : ∀ (w6 : World), Z13 W w6 F5 st ab wb sb op ws5 ss5 items n k gb bb cg k gt (bz.set ag.toNat 2) → C62 (some ⟨st, 0, none⟩) ag 1 0 w6 fun _ w7 => Fit .i64 (i + 1) ∧ ((0 ≤ i + 1 ∧ i + 1 ≤ 400 ∧ ∃ op items gt bz n x, n ≤ i + 1 ∧ M13 W w7 st ab wb sb op items n k gb bb cg k gt bz next x) ∧ (400 - (i + 1)).toNat < (400 - i).toNat) := fun w6 Z6 => by
        refine begin_c Z6.S Z6.L ag 1 0 (fun h => absurd ⟨r0, by rw [Z6.hl]; exact r1⟩ h) (fun _ _ h => absurd hnone h) (fun _ _ _ h => absurd (may_pop 0) h) (fun _ _ _ _ w7 F7 S7 L7 f7 g7 => ⟨fit64 (by omega) (by omega), ⟨by omega, by omega, _, _, _, _, n, _, by omega, F7, ws5, ss5, Z6.stk S7 L7 Z6.hl f7 g7, B5.beginPop hak hnone 0, rfl⟩, by omega⟩)
      refine IfB.dec (fun _ => IfB.dec (fun hx => ?_) (fun _ => pop w6 Z6)) (fun _ => pop w6 Z6)
      refine Z6.B.put r0 (by simp; omega) 1 fun p hm _ hs => ⟨⟨r0, by omega⟩, hm, fun w7 s7 => ?_⟩
      obtain ⟨q1, q2⟩ := hs w7 s7
      have Z7 := Z6.setB q1 q2
      rw [List.set_set] at Z7
      have hi := B5.hi next.toNat (by omega) (by omega)
      rw [show ((next.toNat : Nat) : Int) = next from by omega] at hi
      have hmay : OpMay 32 op items 0 next := ⟨.inl rfl, fun _ => ⟨nx5.1, hx, hi.2.1, fun j s h1 h2 h3 => hi.2.2 ⟨j, s, h1, h2, h3⟩⟩⟩
      refine begin_c Z7.S Z7.L ag 0 next (fun h => absurd ⟨r0, by rw [Z7.hl]; exact r1⟩ h) (fun _ _ h => absurd hnone h) (fun _ _ _ h => absurd hmay h) (fun _ _ _ _ w8 F8 S8 L8 f8 g8 => ⟨fit64 (by omega) (by omega), fit64 (by omega) (by omega), ⟨by omega, by omega, _, _, _, _, n, _, by omega, F8, ws5, ss5, Z7.stk S8 L8 Z7.hl f8 g8, B5.beginPush hak hnone hx, rfl⟩, by dsimp only; omega⟩)
    · refine step13 M5' (by omega) r0 r1 hz (fun w6 r r' M6 _ _ => ifb_nyes rfl (ifb_f ⟨fit64 (by omega) (by omega), ⟨by omega, by omega, _, _, _, _, n, _, by omega, M6⟩, by dsimp only; omega⟩)) (fun w6 op6 items6 x6 v is v0 v1 D6 => ifb_nyes rfl (ifb_t ?_))
      refine ⟨fun w' => w' = w6, IfB.no (by omega) (IfB.no (by omega) rfl), ?_⟩
      rintro - w7 rfl
      exact done13 D6 r0 v0 rfl rfl fun w8 gt8 M8 => ⟨fit64 (by omega) (by omega), ⟨by omega, by omega, _, _, _, _, n + 1, _, by omega, M8⟩, by dsimp only; omega⟩
  · rintro - next w5 ⟨op, items, gt, bz, n, x, hn, M5⟩
    exact ended_c M5 (by omega) rfl rfl (by omega) hK

end Go.Proofs.Ytfpghcdjfiggiaa.V
