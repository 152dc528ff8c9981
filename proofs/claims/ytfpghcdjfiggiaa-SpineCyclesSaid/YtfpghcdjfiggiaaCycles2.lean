/- The law SpineCycles: the walk. No condition. -/
import Derived.Test.YtfpghcdjfiggiaaCycles
namespace Go.Proofs.Ytfpghcdjfiggiaa.V
open Go Go.RowKit

/-- The arrays that the law made, and its rows of ids and lengths. -/
structure R15 (W w : World) (F : List Nat) (s : Nat) (g : SG) (L l : List Arr) (a8 : Option Addr) (c8 : Nat) (a9 : Option Addr) (c9 : Nat) : Prop where
  Q : Sq W w F s g l
  I : SI w a8 c8 (L.map (·.id))
  N : SI w a9 c9 (L.map (·.n))
  p1 : Apart (ablk a8) F
  p2 : Apart (ablk a9) F
  p3 : Apart (ablk a8) (ablk a9)
  u1 : ∀ b ∈ ablk a8, W.heap.size ≤ b
  u2 : ∀ b ∈ ablk a9, W.heap.size ≤ b
  vs : ∀ x ∈ L, 0 ≤ x.n ∧ x.n ≤ 99 ∧ 1 ≤ x.id ∧ x.id ≤ 12 ∧ (∀ j : Int, 0 ≤ j → j < x.n → x.vs.getD j.toNat 0 = 100 * x.id + j)
  nd : (L.map (·.id)).Nodup
  l12 : L.length ≤ 12

section
variable {W w w' : World} {F F' S : List Nat} {s : Nat} {g g' : SG} {L l l' : List Arr} {a8 a9 : Option Addr} {c8 c9 : Nat}

theorem R15.stk (h : R15 W w F s g L l a8 c8 a9 c9) (Q' : Sq W w' F' s g' l') (f : Fr F w w') (gr : Grw F F' w.heap.size) : R15 W w' F' s g' L l' a8 c8 a9 c9 :=
  ⟨Q', h.I.fr f h.p1, h.N.fr f h.p2, h.p1.growr h.I.low gr, h.p2.growr h.N.low gr, h.p3, h.u1, h.u2, h.vs, h.nd, h.l12⟩

theorem R15.need (h : R15 W w F s g L l a8 c8 a9 c9) : 0 ≤ need L ∧ need L ≤ 1300 ∧ 4 * (L.length : Int) ≤ need L := by
  have n4 : ∀ L : List Arr, (∀ x ∈ L, 0 ≤ x.n) → 4 * (L.length : Int) ≤ V.need L := fun L => by
    induction L with
    | nil => intro _; simp [V.need]
    | cons x L ih => intro hp; have := hp x (by simp); have := ih (fun y hy => hp y (by simp [hy])); simp [V.need]; omega
  refine ⟨need_pos L (fun x hx => (h.vs x hx).1), ?_, n4 L (fun x hx => (h.vs x hx).1)⟩
  have : ∀ L : List Arr, (∀ x ∈ L, x.n ≤ 99) → V.need L ≤ 103 * L.length := fun L => by
    induction L with
    | nil => intro _; simp [V.need]
    | cons x L ih => intro hp; have := hp x (by simp); have := ih (fun y hy => hp y (by simp [hy])); simp [V.need]; omega
  have := this L (fun x hx => (h.vs x hx).2.1)
  have := h.l12
  omega

theorem getD_map {α : Type} (f : α → Int) (l : List α) {k : Nat} (hk : k < l.length) : (l.map f).getD k 0 = f l[k] := by
  rw [List.getD_eq_getElem?_getD, List.getElem?_map, List.getElem?_eq_getElem hk]; rfl
end

theorem spCycles_c {W : World} {a : Option Addr} (c : Nat) {zs : List Int} (ga : ArgI W.heap.size W a zs) {d : Option Addr} (dc : Nat) {ys : List Int} (gd : ArgI W.heap.size W d ys) {K : Bool → World → Prop} (hK : ∀ w', Fr [] W w' → K true w') :
    C15 a zs.length c d ys.length dc W K := by
  refine r_f15 _ _ _ _ _ _ _ _ (awake7_c fun w0 f0 => ifb_nyes rfl (begun7_c 0 4000 (by decide) (by decide) fun w1 s mb ab wb sb H I f1 hF => ifb_nyes rfl ?_))
  have z0 := f0.size
  have Q1 : Sq W w1 _ s _ [] := ⟨mb, ab, wb, sb, _, _, none, 0, 0, H, I, fun k hk => by have := hF k hk; omega, f0.more (f1 []), rfl⟩
  have R1 : R15 W w1 _ s _ [] [] none 0 none 0 := ⟨Q1, SI.nil _, SI.nil _, by simp [Apart, ablk], by simp [Apart, ablk], by simp [Apart, ablk], by simp [ablk], by simp [ablk], by simp, by simp, by simp⟩
  refine ⟨fun a8 l8 c8 a9 l9 c9 sum w' => ∃ F g L, R15 W w' F s g L L a8 c8 a9 c9 ∧ l8 = (L.map (·.id)).length ∧ l9 = (L.map (·.n)).length ∧ sum + 4 * L.length = need L ∧ g.half = 2000 ∧ g.owed = 0 ∧ g.act = false ∧ g.last = L.length,
    ⟨fun a8 l8 c8 a9 l9 c9 sum i w' => ∃ F g L, R15 W w' F s g L L a8 c8 a9 c9 ∧ l8 = (L.map (·.id)).length ∧ l9 = (L.map (·.n)).length ∧ sum + 4 * L.length = need L ∧ g.half = 2000 ∧ g.owed = 0 ∧ g.act = false ∧ g.last = L.length ∧ (L.length : Int) = i, fun _ _ _ _ _ _ _ i _ => (12 - i).toNat,
      ⟨_, _, [], R1, rfl, rfl, rfl, rfl, rfl, rfl, rfl, rfl⟩, ?_⟩, ?_⟩
  · rintro - a8 l8 c8 a9 l9 c9 sum i w2 ⟨F2, g2, L, R2, rfl, rfl, hs, gh, go, gact, gl, hi⟩
    have l12 := R2.l12
    have hnd := R2.need
    have out : ∃ F g L', R15 W w2 F s g L' L' a8 c8 a9 c9 ∧ (L.map (·.id)).length = (L'.map (·.id)).length ∧ (L.map (·.n)).length = (L'.map (·.n)).length ∧ sum + 4 * L'.length = need L' ∧ g.half = 2000 ∧ g.owed = 0 ∧ g.act = false ∧ g.last = L'.length := ⟨F2, g2, L, R2, rfl, rfl, hs, gh, go, gact, gl⟩
    refine IfB.dec (fun hlt => IfB.dec (fun hlt2 => ?_) (fun _ => out)) (fun _ => out)
    refine (ga.fr R2.Q.fr (by simp)).get (by omega) hlt fun p hp _ => ⟨⟨by omega, hlt⟩, _, hp, by decide, ?_⟩
    obtain ⟨k, hk, hk0, hk1⟩ : ∃ k, IntKind.wrap .i64 (Int.tmod (IntKind.wrap .u64 (zs.getD i.toNat 0)) 100) = k ∧ 0 ≤ k ∧ k ≤ 99 := by
      have h1 := wu_pos (zs.getD i.toNat 0)
      have h2 : Int.tmod (IntKind.wrap .u64 (zs.getD i.toNat 0)) 100 = (IntKind.wrap .u64 (zs.getD i.toNat 0)) % 100 := Int.tmod_eq_emod_of_nonneg h1
      rw [h2, w64 (by omega) (by omega)]
      exact ⟨_, rfl, by omega, by omega⟩
    rw [hk]
    obtain ⟨ws2, I2⟩ := R2.Q.inv
    refine qmake R2.Q (by omega) 0 k (by decide) (by omega) (fun h => absurd h (by omega)) (fun _ w3 F3 x e1 e2 e3 Q3 f3 g3 => ifb_nyes rfl ?_)
    have hnew : ∀ y ∈ L, y.id ≠ x.id := fun y hy e => by have := I2.lst y hy; omega
    have R3 := R2.stk Q3 f3 g3
    refine ⟨fun j w' => 0 ≤ j ∧ j ≤ k ∧ ∃ x', x'.id = x.id ∧ x'.n = k ∧ (∀ q : Int, 0 ≤ q → q < j → x'.vs.getD q.toNat 0 = 100 * x'.id + q) ∧ Sq W w' F3 s { g2 with last := g2.last + 1, top := g2.top + (k + 4) } (L ++ [x']) ∧ Fr F3 w3 w', fun j _ => (k - j).toNat,
      ⟨by decide, by omega, x, rfl, e2, fun q h0 h1 => by omega, Q3, Fr.refl _ _⟩, ?_⟩
    rintro - j w4 ⟨hj0, hj1, x', ex, en, hv, Q4, f4⟩
    refine IfB.dec (fun hjk => ?_) (fun hjk => ?_)
    · have hid : x'.id = g2.last + 1 := ex.trans e1
      rw [w64 (z := 100 * (g2.last + 1)) (by omega) (by omega), w64 (z := 100 * (g2.last + 1) + j) (by omega) (by omega), w64 (z := j + 1) (by omega) (by omega)]
      refine qset Q4 0 _ j _ (by decide) (x := x') (by simp) hid (by omega) fun w5 Q5 f5 => ⟨⟨by omega, by omega, { x' with vs := x'.vs.set j.toNat (100 * (g2.last + 1) + j) }, ex, en, fun q q0 q1 => ?_, ?_, f4.more f5⟩, by dsimp only; omega⟩
      · obtain ⟨ws4, I4⟩ := Q4.inv
        have sz := I4.sz x' (by simp)
        dsimp only
        rw [vs_set _ _ hj0 (by omega) q0]
        by_cases e : j = q
        · subst e; rw [if_pos rfl, hid]
        · rw [if_neg e]; exact hv q q0 (by omega)
      · rw [rep_last (l := L) (x := x') (x' := { x' with vs := x'.vs.set j.toNat (100 * (g2.last + 1) + j) }) (fun y hy => by rw [ex]; exact hnew y hy) rfl] at Q5
        exact Q5
    · intro b5 w5 n5
      have R4 := R3.stk Q4 f4 (fun b hb => .inl hb)
      have hjk' : j = k := by omega
      refine app_int R4.I n5 (by simp; omega) fun a6 c6 w6 I6 f6 gr6 => fun b7 w7 n7 => ?_
      have Q6 := R4.Q.frame f6 (fun b hb => ⟨R4.p1 b hb, R4.u1 b hb⟩)
      have N6 := R4.N.fr f6 R4.p3.symm
      have z6 := f6.size
      have u6 : ∀ b ∈ ablk a6, W.heap.size ≤ b := gr6.up R4.u1 R4.Q.fr.size
      have a6F : Apart (ablk a6) F3 := R4.p1.grow R4.Q.low gr6
      have a69 : Apart (ablk a6) (ablk a9) := R4.p3.grow R4.N.low gr6
      refine app_int N6 n7 (by simp; omega) fun a8' c8' w8 N8 f8 gr8 => ?_
      have Q8 := Q6.frame f8 (fun b hb => ⟨R4.p2 b hb, R4.u2 b hb⟩)
      have I8 : SI w8 a6 c6 _ := I6.fr f8 a69
      have e8 : (L ++ [x']).map (·.id) = L.map (·.id) ++ [g2.last + 1] := by rw [List.map_append, List.map_cons, ex, e1]; rfl
      have e9 : (L ++ [x']).map (·.n) = L.map (·.n) ++ [k] := by rw [List.map_append, List.map_cons, en]; rfl
      rw [w64 (z := sum + k) (by omega) (by omega), w64 (z := i + 1) (by omega) (by omega)]
      refine ⟨⟨F3, _, L ++ [x'], ⟨Q8, by rw [e8]; exact I8, by rw [e9]; exact N8, a6F, R4.p2.grow Q6.low gr8, a69.growr I6.low gr8, u6, gr8.up R4.u2 Q6.fr.size, fun y hy => ?_, ?_, by simp; omega⟩, by rw [e8]; simp, by rw [e9]; simp, ?_, gh, go, gact, by dsimp only; simp; omega, by simp; omega⟩, by dsimp only; omega⟩
      · rcases List.mem_append.1 hy with hy | hy
        · exact R4.vs y hy
        · simp at hy
          rw [hy]
          have hid := ex.trans e1
          exact ⟨by omega, by omega, by omega, by omega, fun q q0 q1 => hv q q0 (by omega)⟩
      · rw [e8, List.nodup_append]
        refine ⟨R4.nd, by simp, fun q hq r hr e => ?_⟩
        simp at hr
        obtain ⟨y, hy, e4⟩ := List.mem_map.1 hq
        exact hnew y hy (by rw [e4, e, hr, e1])
      · rw [need_app]; simp [need, en]; omega
  · rintro - a8 l8 c8 a9 l9 c9 sum w2 ⟨F2, g2, L, R2, rfl, rfl, hs, gh, go, gact, gl⟩
    have l12 := R2.l12
    have hnd := R2.need
    have ell : (L.map (·.id)).length = L.length := by simp
    have eln : (L.map (·.n)).length = L.length := by simp
    have Lpos : ∀ x ∈ L, 0 ≤ x.n := fun x hx => (R2.vs x hx).1
    refine mk_bool (by omega) (by omega) fun gb w3 B3 f3 g3 => ?_
    have R3 := R2.stk (R2.Q.frame (f3 F2) (S := F2) |> fun _ => R2.Q.frame (f3 []) (by simp)) (f3 F2) (fun b hb => .inl hb)
    have e0 : (((L.map (·.id)).length : Int)).toNat = L.length := by simp
    rw [e0] at B3 ⊢
    have lF := R2.Q.low
    have lI := R2.I.low
    have lN := R2.N.low
    have z2 := R2.Q.fr.size
    rw [ell, eln]
    refine ⟨fun w' => ∃ F g gz, R15 W w' F s g L (live L gz) a8 c8 a9 c9 ∧ SB w' (some ⟨gb, 0, none⟩) L.length gz ∧ gz.length = L.length ∧ gb ∉ F ∧ gb ∉ ablk a8 ∧ gb ∉ ablk a9 ∧ g.half = 2000 ∧ g.act = false ∧ g.last ≤ 12,
      ⟨fun i w' => 0 ≤ i ∧ i ≤ 6 ∧ ∃ F g gz, R15 W w' F s g L (live L gz) a8 c8 a9 c9 ∧ SB w' (some ⟨gb, 0, none⟩) L.length gz ∧ gz.length = L.length ∧ gb ∉ F ∧ gb ∉ ablk a8 ∧ gb ∉ ablk a9 ∧ g.half = 2000 ∧ g.act = false ∧ g.last ≤ 12, fun i _ => (6 - i).toNat,
        ⟨by decide, by decide, F2, g2, List.replicate L.length false, by rw [live_all]; exact R3, B3, by simp, fun h => by have := lF gb h; omega, fun h => by have := lI gb h; omega, fun h => by have := lN gb h; omega, gh, gact, by omega⟩, ?_⟩, ?_⟩
    · rintro - i w4 ⟨hi0, hi1, F4, g4, gz, R4, B4, hgz, b1, b2, b3, gh4, ga4, gl4⟩
      have out : ∃ F g gz, R15 W w4 F s g L (live L gz) a8 c8 a9 c9 ∧ SB w4 (some ⟨gb, 0, none⟩) L.length gz ∧ gz.length = L.length ∧ gb ∉ F ∧ gb ∉ ablk a8 ∧ gb ∉ ablk a9 ∧ g.half = 2000 ∧ g.act = false ∧ g.last ≤ 12 := ⟨F4, g4, gz, R4, B4, hgz, b1, b2, b3, gh4, ga4, gl4⟩
      refine IfB.dec (fun hlt => IfB.dec (fun hlt2 => IfB.dec (fun hlt3 => ?_) (fun _ => out)) (fun _ => out)) (fun _ => out)
      refine (gd.fr R4.Q.fr (by simp)).get hi0 hlt fun p hp _ => ⟨⟨hi0, hlt⟩, _, hp, ?_⟩
      rw [wu_same (z := (L.length : Int)) (by omega) (by omega)]
      obtain ⟨k, hk, hk0, hk1⟩ : ∃ k, IntKind.wrap .i64 (Int.tmod (IntKind.wrap .u64 (ys.getD i.toNat 0)) (L.length : Int)) = k ∧ 0 ≤ k ∧ k < L.length := by
        have h1 := wu_pos (ys.getD i.toNat 0)
        have h2 : Int.tmod (IntKind.wrap .u64 (ys.getD i.toNat 0)) (L.length : Int) = (IntKind.wrap .u64 (ys.getD i.toNat 0)) % (L.length : Int) := Int.tmod_eq_emod_of_nonneg h1
        have h3 := Int.emod_nonneg (IntKind.wrap .u64 (ys.getD i.toNat 0)) (b := (L.length : Int)) (by omega)
        have h4 := Int.emod_lt_of_pos (IntKind.wrap .u64 (ys.getD i.toNat 0)) (b := (L.length : Int)) (by omega)
        rw [h2, w64 (by omega) (by omega)]
        exact ⟨_, rfl, by omega, by omega⟩
      rw [hk, w64 (z := i + 1) (by omega) (by omega)]
      have hkl : k.toNat < L.length := by omega
      refine ⟨by omega, B4.get hk0 (by omega) fun p hp => ⟨⟨hk0, hk1⟩, _, hp, ?_⟩⟩
      have lg := live_get L gz hgz.symm R4.nd k.toNat hkl
      cases hb : gz.getD k.toNat false with
      | true => exact ifb_nyes rfl ⟨⟨by omega, by omega, out⟩, by dsimp only; omega⟩
      | false =>
        refine ifb_nno rfl (R4.I.get hk0 (by omega) fun p hp => ⟨⟨hk0, hk1⟩, L[k.toNat].id, by rw [hp, getD_map _ _ hkl], ?_⟩)
        refine qdrop R4.Q (lg.1 hb) rfl fun w5 F5 Q5 f5 g5 => ?_
        have B5 := B4.fr f5 (by simpa [Apart, ablk] using b1)
        have R5 := R4.stk Q5 f5 (fun b hb => .inl (g5 b hb))
        refine B5.put hk0 (by omega) true fun p hm _ hs => ⟨⟨hk0, hk1⟩, hm, fun w6 s6 => ?_⟩
        obtain ⟨B6, f6⟩ := hs w6 s6
        have f6' : Fr [gb] w5 w6 := f6
        have b1' : gb ∉ F5 := fun h => b1 (g5 gb h)
        have gbW : W.heap.size ≤ gb := by have := z2; omega
        have Q6 := R5.Q.frame f6' (by simp; exact ⟨b1', gbW⟩)
        rw [live_set L gz hgz.symm R4.nd k.toNat hkl] at Q6
        refine ⟨⟨by omega, by omega, F5, _, gz.set k.toNat true, ⟨Q6, R5.I.fr f6' (fun b hb hb2 => by simp at hb2; subst hb2; exact b2 hb), R5.N.fr f6' (fun b hb hb2 => by simp at hb2; subst hb2; exact b3 hb), R5.p1, R5.p2, R5.p3, R5.u1, R5.u2, R5.vs, R5.nd, R5.l12⟩, B6, by simpa using hgz, b1', b2, b3, gh4, ga4, gl4⟩, by dsimp only; omega⟩
    · rintro - w4 ⟨F4, g4, gz, R4, B4, hgz, b1, b2, b3, gh4, ga4, gl4⟩
      have lv := live_need_le L Lpos gz
      refine qcycle R4.Q (by omega) (fun h => by rw [ga4] at h; cases h) (fun _ w5 F5 l5 left5 t5 Q5 ec em f5 g5 => ?_)
      have ei5 : l5.map (·.id) = (live L gz).map (·.id) := core_map ec _ (fun p => p.1) (fun _ => rfl)
      have ev5 : vw l5 = vw (live L gz) := core_map ec _ (fun p => (p.1, p.2.2.2.2.2)) (fun _ => rfl)
      have en5 : l5.map (·.n) = (live L gz).map (·.n) := core_map ec _ (fun p => p.2.2.2.1) (fun _ => rfl)
      have R5 := R4.stk Q5 f5 g5
      have B5 := B4.fr f5 (by simpa [Apart, ablk] using b1)
      have b15 : gb ∉ F5 := fun h => by
        rcases g5 gb h with q | q
        · exact b1 q
        · have := B4.low gb (by simp [ablk]); omega
      rw [w64 (z := 8 * sum) (by omega) (by omega), w64 (z := 16 * (L.length : Int)) (by omega) (by omega), w64 (z := 8 * sum + 16 * (L.length : Int)) (by omega) (by omega), w64 (z := 8 * sum + 16 * (L.length : Int) + 16) (by omega) (by omega)]
      refine ⟨fun n more w' => 0 ≤ n ∧ ∃ F g l, R15 W w' F s g L l a8 c8 a9 c9 ∧ SB w' (some ⟨gb, 0, none⟩) L.length gz ∧ gb ∉ F ∧ vw l = vw (live L gz) ∧ l.map (·.n) = (live L gz).map (·.n) ∧ g.half = 2000 ∧
          ((more = true ∧ g.act = true ∧ g.late = 0 ∧ n + mu l g.left ≤ need L) ∨ (more = false ∧ g.act = false ∧ g.owed = 0 ∧ n ≤ need L + 1)), fun n more _ => (if more = true then 1 else 0) + (need L + 1 - n).toNat,
        ⟨by decide, F5, _, l5, R5, B5, b15, ev5, en5, gh4, .inl ⟨rfl, rfl, rfl, by dsimp only; omega⟩⟩, ?_⟩
      rintro - n more w6 ⟨hn0, F6, g6, l6, R6, B6, b16, ev6, en6, gh6, hcase⟩
      rcases hcase with ⟨rfl, ga6, gt6, hmu⟩ | ⟨rfl, ga6, go6, hn⟩
      · refine ifb_t (qstep R6.Q ga6 1 (by decide) (fun hm w7 Q7 f7 => ifb_nyes rfl (IfB.no (by omega) ?_)) (fun hm w7 left7 l7 Q7 f7 e1 e2 e3 => ifb_nyes rfl (IfB.no (by omega) ?_)))
        · rw [w64 (z := n + 1) (by omega) (by omega)]
          exact ⟨⟨by omega, F6, _, l6, R6.stk Q7 f7 (fun b hb => .inl hb), B6.fr f7 (by simpa [Apart, ablk] using b16), b16, ev6, en6, gh6, .inr ⟨rfl, rfl, gt6, by omega⟩⟩, by dsimp only; simp; omega⟩
        · rw [w64 (z := n + 1) (by omega) (by omega)]
          exact ⟨⟨by omega, F6, _, l7, R6.stk Q7 f7 (fun b hb => .inl hb), B6.fr f7 (by simpa [Apart, ablk] using b16), b16, e1.trans ev6, e2.trans en6, gh6, .inl ⟨rfl, ga6, gt6, by dsimp only; omega⟩⟩, by dsimp only; simp; omega⟩
      · refine ifb_f ?_
        have hneed6 : need l6 = need (live L gz) := need_map _ _ en6
        refine ⟨fun room i w' => 0 ≤ i ∧ i ≤ L.length ∧ room = 2000 - need (live (L.take i.toNat) (gz.take i.toNat)) ∧ R15 W w' F6 s g6 L l6 a8 c8 a9 c9 ∧ SB w' (some ⟨gb, 0, none⟩) L.length gz, fun _ i _ => (L.length - i).toNat,
          ⟨by decide, by omega, by simp [live, need], R6, B6⟩, ?_⟩
        rintro - room i w7 ⟨hi0, hi1, hroom, R7, B7⟩
        refine IfB.dec (fun hlt => ?_) (fun hge => ?_)
        · have hil : i.toNat < L.length := by omega
          have ei : (i + 1).toNat = i.toNat + 1 := by omega
          have lg := live_get L gz hgz.symm R7.nd i.toNat hil
          have lt := live_take L gz hgz.symm i.toNat hil
          have vx := R7.vs L[i.toNat] (List.getElem_mem hil)
          have lnt := live_need_le (L.take i.toNat) (fun x hx => Lpos x (List.mem_of_mem_take hx)) (gz.take i.toNat)
          have lnt2 := live_need_le (L.take (i.toNat + 1)) (fun x hx => Lpos x (List.mem_of_mem_take hx)) (gz.take (i.toNat + 1))
          have ntk : ∀ j : Nat, need (L.take j) ≤ need L := fun j => by
            have h1 : need L = need (L.take j) + need (L.drop j) := by rw [← need_app, List.take_append_drop]
            have h2 := need_pos (L.drop j) (fun x hx => Lpos x (List.mem_of_mem_drop hx))
            omega
          have nt1 := ntk i.toNat
          have nt2 := ntk (i.toNat + 1)
          refine B7.get hi0 (by omega) fun p hp => ⟨⟨hi0, hlt⟩, _, hp, ?_⟩
          cases hb : gz.getD i.toNat false with
          | true =>
            have hno : ∀ y ∈ l6, y.id ≠ L[i.toNat].id := fun y hy e => by
              have : (y.id, y.vs) ∈ vw (live L gz) := by rw [← ev6]; exact List.mem_map.2 ⟨y, hy, rfl⟩
              obtain ⟨x, hx, e2⟩ := List.mem_map.1 this
              exact lg.2 hb x hx ((Prod.mk.inj e2).1.trans e)
            refine ifb_t (R7.I.get hi0 (by omega) fun p hp => ⟨⟨hi0, hlt⟩, L[i.toNat].id, by rw [hp, getD_map _ _ hil], qlen R7.Q _ (fun _ => ifb_nyes rfl ?_) (fun y hy e => absurd e (hno y hy))⟩)
            rw [w64 (z := i + 1) (by omega) (by omega)]
            rw [hb] at lt
            exact ⟨⟨by omega, by omega, by rw [ei, lt, hroom]; simp, R7, B7⟩, by dsimp only; omega⟩
          | false =>
            rw [hb] at lt
            simp only [Bool.false_eq_true, if_false] at lt
            have hx6 : ∃ y ∈ l6, y.id = L[i.toNat].id ∧ y.vs = L[i.toNat].vs := by
              have : (L[i.toNat].id, L[i.toNat].vs) ∈ vw l6 := by rw [ev6]; exact List.mem_map.2 ⟨_, lg.1 hb, rfl⟩
              obtain ⟨y, hy, e2⟩ := List.mem_map.1 this
              exact ⟨y, hy, (Prod.mk.inj e2).1, (Prod.mk.inj e2).2⟩
            obtain ⟨y, hy, ey1, ey2⟩ := hx6
            obtain ⟨ws4, I4⟩ := R4.Q.inv
            have szx := I4.sz _ (lg.1 hb)
            refine ifb_f (R7.N.get hi0 (by omega) fun p hp => ⟨⟨hi0, hlt⟩, L[i.toNat].n, by rw [hp, getD_map _ _ hil], ?_⟩)
            rw [w64 (z := room - L[i.toNat].n) (by omega) (by omega), w64 (z := room - L[i.toNat].n - 4) (by omega) (by omega)]
            refine ⟨fun j w' => 0 ≤ j ∧ j ≤ L[i.toNat].n ∧ R15 W w' F6 s g6 L l6 a8 c8 a9 c9 ∧ SB w' (some ⟨gb, 0, none⟩) L.length gz, fun j _ => (L[i.toNat].n - j).toNat, ⟨by decide, by omega, R7, B7⟩, ?_⟩
            rintro - j w8 ⟨hj0, hj1, R8, B8⟩
            refine R8.N.get hi0 (by omega) fun p hp => ⟨⟨hi0, hlt⟩, L[i.toNat].n, by rw [hp, getD_map _ _ hil], IfB.dec (fun hjn => ?_) (fun hjn => ?_)⟩
            · refine R8.I.get hi0 (by omega) fun p hp => ⟨⟨hi0, hlt⟩, L[i.toNat].id, by rw [hp, getD_map _ _ hil], ?_⟩
              obtain ⟨ws8, I8⟩ := R8.Q.inv
              have szy := I8.sz y hy
              refine qget R8.Q 2 _ j (by decide) hy ey1 (by rw [ey2] at szy; omega) fun w9 Q9 f9 => ifb_nyes rfl ?_
              have R9 := R8.stk Q9 f9 (fun b hb => .inl hb)
              refine R9.I.get hi0 (by omega) fun p hp => ⟨⟨hi0, hlt⟩, L[i.toNat].id, by rw [hp, getD_map _ _ hil], ?_⟩
              rw [w64 (z := 100 * L[i.toNat].id) (by omega) (by omega), w64 (z := 100 * L[i.toNat].id + j) (by omega) (by omega), w64 (z := j + 1) (by omega) (by omega)]
              exact IfB.nyes (by rw [ey2]; exact vx.2.2.2.2 j hj0 hjn) ⟨⟨by omega, by omega, R9, B8.fr f9 (by simpa [Apart, ablk] using b16)⟩, by dsimp only; omega⟩
            · rw [w64 (z := i + 1) (by omega) (by omega)]
              exact ⟨⟨by omega, by omega, by rw [ei, lt, hroom]; omega, R8, B8⟩, by dsimp only; omega⟩
        · have ei : i.toNat = L.length := by omega
          rw [ei, List.take_length, ← hgz, List.take_length] at hroom
          refine ifb_t (qroom R7.Q fun w8 Q8 _ => IfB.yes (by rw [hneed6, hroom]; omega) ?_)
          rw [decide_eq_true (by omega)]
          exact hK w8 Q8.fr

end Go.Proofs.Ytfpghcdjfiggiaa.V
