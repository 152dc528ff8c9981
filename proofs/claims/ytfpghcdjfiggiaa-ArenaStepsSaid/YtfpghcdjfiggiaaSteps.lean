/- The law ArenaSteps: what it computes. No condition. -/
import Derived.Test.YtfpghcdjfiggiaaArena
import Derived.Test.YtfpghcdjfiggiaaAwake3
import Derived.Test.YtfpghcdjfiggiaaSl
import Derived.Test.YtfpghcdjfiggiaaArgs
namespace Go.Proofs.Ytfpghcdjfiggiaa.V
open Go Go.RowKit

theorem holds_c {w : World} {ab wb sb : Nat} {ws ss : List Int} {a1 a2 : Option Addr} {c1 c2 : Nat} (A : ArenaAt w ab wb sb ws ss) (B1 : SI w a1 c1 ws) (B2 : SI w a2 c2 ss)
    (d1 : Apart (ablk a1) [wb, sb]) (hs : 0 < ss.length) (hl : ss.length ≤ 12) (hw : ws.length ≤ 65536) {K : Bool → World → Prop}
    (hK : ∀ w', Fr [wb, sb] w w' → K true w') : C45 (some ⟨ab, 0, none⟩) a1 ws.length c1 a2 ss.length c2 w K := by
  refine r_f45 _ _ _ _ _ _ _ _ _ ⟨fun i w' => -1 ≤ i ∧ i ≤ ss.length + 1 ∧ w' = w, fun i _ => (ss.length + 1 - i).toNat, ⟨by omega, by omega, rfl⟩, ?_⟩
  rintro - i w1 ⟨h0, h1, rfl⟩
  refine IfB.dec (fun h2 => IfB.dec (fun h3 => IfB.dec (fun h4 => ?_) (fun h4 => ?_)) (fun h3 => ?_)) (fun h2 => ?_)
  · refine B2.get h3 h4 fun p hp => ⟨⟨h3, h4⟩, _, hp, steps_c A i ?_⟩
    rw [if_pos ⟨h3, h4⟩]
    exact IfB.nyes rfl ⟨fit64 (by omega) (by omega), ⟨by omega, by omega, rfl⟩, by dsimp only; omega⟩
  · refine steps_c A i ?_
    rw [if_neg (by omega)]
    exact IfB.nyes rfl ⟨fit64 (by omega) (by omega), ⟨by omega, by omega, rfl⟩, by dsimp only; omega⟩
  · refine steps_c A i ?_
    rw [if_neg (by omega)]
    exact IfB.nyes rfl ⟨fit64 (by omega) (by omega), ⟨by omega, by omega, rfl⟩, by dsimp only; omega⟩
  · refine ⟨fun j w' => 0 ≤ j ∧ j ≤ ws.length ∧ (∃ ss', ArenaAt w' ab wb sb ws ss' ∧ 0 < ss'.length) ∧ Fr [wb, sb] w1 w', fun j _ => (ws.length - j).toNat, ⟨by omega, by omega, ⟨ss, A, hs⟩, Fr.refl _ _⟩, ?_⟩
    rintro - j w2 ⟨j0, j1, ⟨ss', A2, hs'⟩, f2⟩
    refine IfB.dec (fun h5 => ?_) (fun h5 => words_c A2 ?_)
    · refine load_c A2 0 j (fun h => absurd (by unfold mayA; rw [if_neg (by omega), if_neg (by omega)]) h) (fun _ w3 A3 f3 => IfB.nyes rfl ?_)
      have f4 := f2.more f3
      refine (B1.fr f4 d1).get j0 h5 fun p hp => ⟨⟨j0, h5⟩, _, hp, IfB.nyes rfl ⟨fit64 (by omega) (by omega), ⟨by omega, by omega, ⟨_, A3, by simpa [tickA] using hs'⟩, f4⟩, by dsimp only; omega⟩⟩
    · rw [decide_eq_true rfl]; exact hK w2 f2

theorem arSteps_c (words agents : Int) {W : World} {a : Option Addr} {l : Nat} (c : Nat) {z : Nat → Nat → Int} (g : ArgS W.heap.size W a l 5 z) {K : Bool → World → Prop} (hK : ∀ w', Fr [] W w' → K true w') : C5 words agents a l c W K := by
  refine r_f5 _ _ _ _ _ _ _ (arena_new_c words agents (fun h => ?_) (fun hn w1 ab wb sb A f1 l1 l2 l3 => ?_))
  · refine IfB.dec (fun _ => IfB.yes rfl (awake3_c hK)) (fun _ => IfB.dec (fun _ => IfB.yes rfl (awake3_c hK)) (fun _ => IfB.dec (fun _ => IfB.yes rfl (awake3_c hK)) (fun _ => IfB.dec (fun _ => IfB.yes rfl (awake3_c hK)) (fun _ => ?_))))
    simp [newA] at h; omega
  have hn : 1 ≤ words ∧ words ≤ 65536 ∧ 1 ≤ agents ∧ agents ≤ 12 := by simpa [newA] using hn
  refine IfB.no (by omega) (IfB.no (by omega) (IfB.no (by omega) (IfB.no (by omega) (IfB.dec (fun _ => awake3_c fun w' f => hK w' ((f1 []).more f)) (fun hw2 => ?_)))))
  have q1 := A.hd.lt
  have q2 := A.ws.lt
  have q3 := A.ss.lt
  refine ⟨fun a1 l1 c1 a2 l2 c2 w' => ∃ b1 b2, a1 = some ⟨b1, 0, none⟩ ∧ a2 = some ⟨b2, 0, none⟩ ∧ l1 = words.toNat ∧ l2 = agents.toNat ∧ c1 = words.toNat ∧ c2 = agents.toNat ∧
    SI w' a1 c1 (List.replicate words.toNat 0) ∧ SI w' a2 c2 (List.replicate agents.toNat 0) ∧ b1 ≠ b2 ∧ w1.heap.size ≤ b1 ∧ w1.heap.size ≤ b2 ∧ Fr [] w1 w', ?_, ?_⟩
  · intro w2 d2
    have z2 := (d2.fr []).size
    constructor
    · refine make_int 42 3 Try.t3 (by kernel_rfl) (by kernel_rfl) rfl rfl (by decide) (by omega) (by omega) _ fun b1 w3 B1 f3 g1 => ?_
      have z3 := B1.low b1 (by simp [ablk])
      refine make_int 42 3 Try.t3 (by kernel_rfl) (by kernel_rfl) rfl rfl (by decide) (by omega) (by omega) _ fun b2 w4 B2 f4 g2 => ?_
      exact ⟨b1, b2, rfl, rfl, rfl, rfl, rfl, rfl, B1.fr (f4 []) (by intro b _; simp), B2, by omega, by omega, by have := (f3 []).size; omega, ((d2.fr []).more (f3 [])).more (f4 [])⟩
    · refine make_int 42 3 Try.t3 (by kernel_rfl) (by kernel_rfl) rfl rfl (by decide) (by omega) (by omega) _ fun b2 w3 B2 f3 g2 => ?_
      have z3 := B2.low b2 (by simp [ablk])
      refine make_int 42 3 Try.t3 (by kernel_rfl) (by kernel_rfl) rfl rfl (by decide) (by omega) (by omega) _ fun b1 w4 B1 f4 g1 => ?_
      exact ⟨b1, b2, rfl, rfl, rfl, rfl, rfl, rfl, B1, B2.fr (f4 []) (by intro b _; simp), by omega, by have := (f3 []).size; omega, by omega, ((d2.fr []).more (f3 [])).more (f4 [])⟩
  rintro - a1 l1' c1 a2 l2' c2 w2 ⟨b1, b2, rfl, rfl, rfl, rfl, rfl, rfl, B1, B2, db, g1, g2, f2⟩
  have zz := (f1 []).size
  have lS : ∀ k ∈ [wb, sb], k ∈ ([] : List Nat) ∨ W.heap.size ≤ k := by simp; omega
  have lb1 : ∀ k ∈ ablk (some ⟨b1, 0, none⟩), k ∈ ([] : List Nat) ∨ W.heap.size ≤ k := by simp [ablk]; omega
  have lb2 : ∀ k ∈ ablk (some ⟨b2, 0, none⟩), k ∈ ([] : List Nat) ∨ W.heap.size ≤ k := by simp [ablk]; omega
  have e1 : Apart (ablk (some ⟨b1, 0, none⟩)) [wb, sb] := by intro b hb; simp [ablk] at hb; subst hb; simp; omega
  have e2 : Apart (ablk (some ⟨b2, 0, none⟩)) [wb, sb] := by intro b hb; simp [ablk] at hb; subst hb; simp; omega
  have e3 : Apart (ablk (some ⟨b1, 0, none⟩)) (ablk (some ⟨b2, 0, none⟩)) := by intro b hb; simp [ablk] at hb; subst hb; simp [ablk]; omega
  let St : World → Prop := fun w' => ∃ ws ss, ws.length = words.toNat ∧ ss.length = agents.toNat ∧ ArenaAt w' ab wb sb ws ss ∧ SI w' (some ⟨b1, 0, none⟩) words.toNat ws ∧ SI w' (some ⟨b2, 0, none⟩) agents.toNat ss ∧ Fr [] W w'
  refine ⟨fun i w' => (0 ≤ i ∧ i ≤ 300) ∧ St w', fun i _ => (300 - i).toNat, ⟨by omega, _, _, by simp, by simp, A.fr f2 (by simp) (by simp) (by simp), B1, B2, (f1 []).more f2⟩, ?_⟩
  rintro - i w3 ⟨⟨hi0, hi1⟩, ws, ss, hws, hss, A3, B31, B32, f3⟩
  have fin : IfB (decide ((0 : Int) = 0)) (C45 (some ⟨ab, 0, none⟩) (some ⟨b1, 0, none⟩) words.toNat words.toNat (some ⟨b2, 0, none⟩) agents.toNat agents.toNat w3 fun b90 w91 => IfB b90 (C41 w91 fun b92 w93 => K b92 w93) (K false w91)) (K false w3) := by
    refine IfB.yes rfl ?_
    have := holds_c A3 B31 B32 e1 (by omega) (by omega) (by omega) (K := fun b90 w91 => IfB b90 (C41 w91 fun b92 w93 => K b92 w93) (K false w91)) (fun w' f => ifb_t (awake3_c fun w'' f' => hK w'' ((f3.trans f lS).more f')))
    rw [hws, hss] at this
    exact this
  refine IfB.dec (fun hil => IfB.dec (fun hi2 => ?_) (fun _ => fin)) (fun _ => fin)
  refine (g.fr f3 (by simp)).get hi0 hil fun p hp => ⟨⟨hi0, hil⟩, _, _, _, _, _, argCells5 hp, fun xb w4 n4 => ⟨n4.blk.mayL (by simp), fun w5 s5 => ?_⟩⟩
  obtain ⟨X, fx⟩ := newSet n4 s5 rfl
  have xge := n4.ge
  have A5 := A3.fr (fx []) (by simp) (by simp) (by simp)
  have B51 : SI w5 _ _ _ := B31.fr (fx []) (by intro b _; simp)
  have B52 : SI w5 _ _ _ := B32.fr (fx []) (by intro b _; simp)
  have f5 := f3.more (fx [])
  have x1 := A3.ws.lt
  have x2 := A3.ss.lt
  have x3 := B31.low b1 (by simp [ablk])
  have x4 := B32.low b2 (by simp [ablk])
  generalize z i.toNat 0 = kind at *
  generalize z i.toNat 1 = ag at *
  generalize z i.toNat 2 = pl at *
  generalize z i.toNat 3 = old at *
  generalize z i.toNat 4 = new at *
  clear hp n4 s5 fx
  have ew : IntKind.wrap .i64 (i + 1) = i + 1 := by
    have := wrap_small (n := (i + 1).toNat) (by omega)
    rwa [Int.toNat_of_nonneg (by omega)] at this
  rw [ew]
  -- the code
  refine ⟨fun code w' => code = mayA ws ss ag pl ∧ ArenaAt w' ab wb sb ws ss ∧ SI w' (some ⟨b1, 0, none⟩) words.toNat ws ∧ SI w' (some ⟨b2, 0, none⟩) agents.toNat (if mayA ws ss ag pl = 0 then tickA ss ag else ss) ∧
    Blk w' xb [.int .i64 kind, .int .i64 ag, .int .i64 pl, .int .i64 old, .int .i64 new] ∧ Fr [] W w', ?_, ?_⟩
  · have bad : ∀ code, mayA ws ss ag pl = code → code ≠ 0 → code = mayA ws ss ag pl ∧ ArenaAt w5 ab wb sb ws ss ∧ SI w5 (some ⟨b1, 0, none⟩) words.toNat ws ∧ SI w5 (some ⟨b2, 0, none⟩) agents.toNat (if mayA ws ss ag pl = 0 then tickA ss ag else ss) ∧
        Blk w5 xb [.int .i64 kind, .int .i64 ag, .int .i64 pl, .int .i64 old, .int .i64 new] ∧ Fr [] W w5 := fun code h1 h2 => ⟨h1.symm, A5, B51, by rw [if_neg (by omega)]; exact B52, X, f5⟩
    refine ⟨_, X.cell rfl, IfB.dec (fun h1 => bad 302 (by unfold mayA; rw [if_pos (by omega)]) (by decide)) (fun h1 => ⟨_, X.cell rfl, IfB.dec (fun h2 => bad 302 (by unfold mayA; rw [if_pos (by omega)]) (by decide)) (fun h2 =>
      ⟨_, X.cell rfl, IfB.dec (fun h3 => bad 301 (by unfold mayA; rw [if_neg (by omega), if_pos (by omega)]) (by decide)) (fun h3 => ⟨_, X.cell rfl, IfB.dec (fun h4 => bad 301 (by unfold mayA; rw [if_neg (by omega), if_pos (by omega)]) (by decide)) (fun h4 => ?_)⟩)⟩)⟩)⟩
    have hm : mayA ws ss ag pl = 0 := by unfold mayA; rw [if_neg (by omega), if_neg (by omega)]
    refine ⟨_, X.cell rfl, B52.get (by omega) (by omega) fun p hc => ⟨⟨by omega, by omega⟩, _, hc, B52.put (by omega) (by omega) (IntKind.wrap .i64 (ss.getD ag.toNat 0 + 1)) fun p hm1 _ hs => ⟨⟨by omega, by omega⟩, hm1, fun w6 s6 => ?_⟩⟩⟩
    obtain ⟨B6, f6⟩ := hs _ s6
    refine ⟨hm.symm, A5.fr f6 (by simp [ablk]; omega) (by simp [ablk]; omega) (by simp [ablk]; omega), B51.fr f6 e3, ?_, X.fr f6 (by simp [ablk]; omega), f5.trans f6 lb2⟩
    rw [if_pos hm]
    exact B6
  rintro - code w6 ⟨rfl, A6, B61, B62, X6, f6⟩
  have go : ∀ (w' : World) (ws' : List Int) (ss' : List Int), ws'.length = words.toNat → ss'.length = agents.toNat → ArenaAt w' ab wb sb ws' ss' → SI w' (some ⟨b1, 0, none⟩) words.toNat ws' → SI w' (some ⟨b2, 0, none⟩) agents.toNat ss' → Fr [] W w' →
      (fun i w' => (0 ≤ i ∧ i ≤ 300) ∧ St w') (i + 1) w' ∧ (fun (i : Int) (_ : World) => (300 - i).toNat) (i + 1) w' < (fun (i : Int) (_ : World) => (300 - i).toNat) i w3 := fun w' ws' ss' h1 h2 h3 h4 h5 h6 => ⟨⟨by omega, ws', ss', h1, h2, h3, h4, h5, h6⟩, by dsimp only; omega⟩
  have xn : xb ∉ [wb, sb] := by simp; omega
  have ht : (tickA ss ag).length = agents.toNat := by simp [tickA, hss]
  refine ⟨_, X6.cell rfl, IfB.dec (fun _ => ⟨_, X6.cell rfl, _, X6.cell rfl, ?_⟩) (fun _ => IfB.dec (fun _ => ⟨_, X6.cell rfl, _, X6.cell rfl, _, X6.cell rfl, ?_⟩) (fun _ => ⟨_, X6.cell rfl, _, X6.cell rfl, _, X6.cell rfl, _, X6.cell rfl, ?_⟩))⟩
  · refine load_c A6 ag pl (fun h => ?_) (fun h w7 A7 f7 => ?_)
    · rw [if_neg h] at B62
      exact IfB.nyes rfl (IfB.no h (IfB.nno h (IfB.nyes rfl (go _ _ _ hws hss A6 B61 B62 f6))))
    · rw [if_pos h] at B62
      obtain ⟨_, hp0, hp1⟩ := mayA_zero h
      have B71 : SI w7 _ _ _ := B61.fr f7 e1
      refine IfB.nyes h.symm (IfB.yes h ⟨_, (X6.fr f7 xn).cell rfl, B71.get hp0 hp1 fun p hp => ⟨⟨by omega, by omega⟩, _, hp, IfB.nyes rfl (IfB.nyes h ?_)⟩⟩)
      exact go _ _ _ hws ht A7 B71 (B62.fr f7 e2) (f6.trans f7 lS)
  · refine store_c A6 ag pl new (fun h => ?_) (fun h w7 A7 f7 => ?_)
    · rw [if_neg h] at B62
      exact IfB.no h (IfB.nyes rfl (go _ _ _ hws hss A6 B61 B62 f6))
    · rw [if_pos h] at B62
      obtain ⟨_, hp0, hp1⟩ := mayA_zero h
      have B71 : SI w7 _ _ _ := B61.fr f7 e1
      have X7 := X6.fr f7 xn
      refine IfB.yes h ⟨_, X7.cell rfl, _, X7.cell rfl, B71.put hp0 hp1 new fun p hm1 _ hs => ⟨⟨by omega, by omega⟩, hm1, fun w8 s8 => IfB.nyes h.symm ?_⟩⟩
      obtain ⟨B8, f8⟩ := hs _ s8
      exact go _ _ _ (by simpa using hws) ht (A7.fr f8 (by simp [ablk]; omega) (by simp [ablk]; omega) (by simp [ablk]; omega)) B8 ((B62.fr f7 e2).fr f8 e3.symm) ((f6.trans f7 lS).trans f8 lb1)
  · refine swap_c A6 ag pl old new (fun h => ?_) (fun h hne w7 A7 f7 => ?_) (fun h he w7 A7 f7 => ?_)
    · rw [if_neg h] at B62
      refine ⟨fun b' w' => b' = false ∧ Fr [] w6 w', fun w8 d8 => IfB.no h ⟨rfl, d8.fr []⟩, ?_⟩
      rintro - b' w8 ⟨rfl, f8⟩
      refine ⟨fun w' => w' = w8, ifb_f rfl, ?_⟩
      rintro - w9 rfl
      exact IfB.nyes rfl (ifb_nbeq rfl (go _ _ _ hws hss (A6.fr f8 (by simp) (by simp) (by simp)) (B61.fr f8 (by intro b _; simp)) (B62.fr f8 (by intro b _; simp)) (f6.more f8)))
    · rw [if_pos h] at B62
      obtain ⟨_, hp0, hp1⟩ := mayA_zero h
      refine ⟨fun b' w' => b' = false ∧ Fr [] w7 w', fun w8 d8 => ?_, ?_⟩
      · have f8 := f7.more (d8.fr [wb, sb])
        have B81 : SI w8 _ _ _ := B61.fr f8 e1
        exact IfB.yes h ⟨_, (X6.fr f8 xn).cell rfl, B81.get hp0 hp1 fun p hp => ⟨⟨by omega, by omega⟩, _, hp, _, (X6.fr f8 xn).cell rfl, decide_eq_false hne, d8.fr []⟩⟩
      rintro - b' w8 ⟨rfl, f8⟩
      refine ⟨fun w' => w' = w8, ifb_f rfl, ?_⟩
      rintro - w9 rfl
      have f9 : Fr [wb, sb] w6 w9 := f7.trans f8 (by simp)
      exact IfB.nyes h.symm (ifb_nbeq rfl (go _ _ _ hws ht (A7.fr f8 (by simp) (by simp) (by simp)) (B61.fr f9 e1) (B62.fr f9 e2) (f6.trans f9 lS)))
    · rw [if_pos h] at B62
      obtain ⟨_, hp0, hp1⟩ := mayA_zero h
      refine ⟨fun b' w' => b' = true ∧ Fr [] w7 w', fun w8 d8 => ?_, ?_⟩
      · have f8 := f7.more (d8.fr [wb, sb])
        have B81 : SI w8 _ _ _ := B61.fr f8 e1
        exact IfB.yes h ⟨_, (X6.fr f8 xn).cell rfl, B81.get hp0 hp1 fun p hp => ⟨⟨by omega, by omega⟩, _, hp, _, (X6.fr f8 xn).cell rfl, decide_eq_true he, d8.fr []⟩⟩
      rintro - b' w8 ⟨rfl, f8⟩
      have f9 : Fr [wb, sb] w6 w8 := f7.trans f8 (by simp)
      have X8 := X6.fr f9 xn
      have B81 : SI w8 _ _ _ := B61.fr f9 e1
      have A8 := A7.fr f8 (by simp) (by simp) (by simp)
      refine ⟨fun w' => SI w' (some ⟨b1, 0, none⟩) words.toNat (ws.set pl.toNat new) ∧ Fr (ablk (some ⟨b1, 0, none⟩)) w8 w', ifb_t ⟨_, X8.cell rfl, _, X8.cell rfl, B81.put hp0 hp1 new fun p hm1 _ hs => ⟨⟨by omega, by omega⟩, hm1, fun w9 s9 => hs _ s9⟩⟩, ?_⟩
      rintro - w9 ⟨B9, f10⟩
      exact IfB.nyes h.symm (ifb_nbeq rfl (go _ _ _ (by simpa using hws) ht (A8.fr f10 (by simp [ablk]; omega) (by simp [ablk]; omega) (by simp [ablk]; omega)) B9 ((B62.fr f9 e2).fr f10 e3.symm) ((f6.trans f9 lS).trans f10 lb1)))

end Go.Proofs.Ytfpghcdjfiggiaa.V
