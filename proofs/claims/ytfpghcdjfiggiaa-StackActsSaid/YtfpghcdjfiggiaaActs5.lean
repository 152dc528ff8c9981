/- The law StackActs: its own record, and its calls. No condition. -/
import Derived.Test.YtfpghcdjfiggiaaLaws5a
import Derived.Test.YtfpghcdjfiggiaaSpoil
import Derived.Test.YtfpghcdjfiggiaaGStackA
namespace Go.Proofs.Ytfpghcdjfiggiaa.V
open Go Go.RowKit

theorem hasI_c {w : World} {a : Option Addr} {c : Nat} {xs : List Int} (A : SI w a c xs) (x : Int) (hl : xs.length ≤ 1000000) {K : Bool → World → Prop} (hK : K (decide (x ∈ xs)) w) : C145 a xs.length c x w K := by
  refine r_f145 _ _ _ _ _ _ ⟨fun i w' => 0 ≤ i ∧ i ≤ xs.length ∧ w' = w ∧ ∀ j : Nat, j < i → xs.getD j 0 ≠ x, fun i _ => (xs.length - i).toNat, ⟨by omega, by omega, rfl, fun j hj => by omega⟩, ?_⟩
  rintro - i w1 ⟨h0, h1, rfl, hn⟩
  refine IfB.dec (fun hlt => A.get h0 hlt fun p hp => ⟨⟨h0, hlt⟩, _, hp, IfB.dec (fun e => ?_) (fun e => ⟨fit64 (by omega) (by omega), ⟨by omega, by omega, rfl, fun j hj => ?_⟩, by dsimp only; omega⟩)⟩) (fun hge => ?_)
  · have hm : x ∈ xs := by
      have hlt : i.toNat < xs.length := by omega
      rw [← e, List.getD_eq_getElem?_getD, List.getElem?_eq_getElem hlt]
      exact List.getElem_mem hlt
    rwa [decide_eq_true hm] at hK
  · by_cases e2 : j = i.toNat
    · rw [e2]; exact e
    · exact hn j (by omega)
  · have hm : x ∉ xs := fun hm => by
      obtain ⟨j, hj, e⟩ := List.mem_iff_getElem.1 hm
      refine hn j (by omega) ?_
      rw [List.getD_eq_getElem?_getD, List.getElem?_eq_getElem hj]
      exact e
    rwa [decide_eq_false hm] at hK

/-- What the record says of an agent. -/
def spell (cap : Int) : Option OpR → Int
  | none => -1
  | some r => if r.op = 0 then r.v else cap

structure Bal14 (k : Nat) (cap n : Int) (op : Nat → Option OpR) (ss bz : List Int) : Prop where
  lb : bz.length = k
  ls : ss.length = k
  bz : ∀ a, a < k → bz.getD a 0 = spell cap (op a)
  out : ∀ a, k ≤ a → op a = none
  tk : ∀ a : Nat, 0 ≤ ss.getD a 0 ∧ ss.getD a 0 ≤ n

structure Y14 (W w : World) (F : List Nat) (st ab wb sb y : Nat) (base cap : Int) (op : Nat → Option OpR) (ws ss items : List Int) (n : Int) (k : Nat) (ia ba : Option Addr) (ic bc : Nat) (bz : List Int) : Prop where
  S : Stk w F st ab wb sb base cap op ws ss
  L : LInv base cap op ws items n
  fw : Fr [] W w
  Y : Blk w y [.pointer (some ⟨st, 0, none⟩), .pointer (some ⟨ab, 0, none⟩), .int .i64 cap, .slice ia items.length ic, .slice ba bz.length bc]
  I : SI w ia ic items.reverse
  B : SI w ba bc bz
  b : Bal14 k cap n op ss bz
  n5 : 0 ≤ n ∧ n ≤ 1000
  k8 : 1 ≤ k ∧ k ≤ 8
  c32 : 1 ≤ cap ∧ cap ≤ 32
  sep : y ∉ F ∧ Apart (ablk ia) F ∧ Apart (ablk ba) F ∧ y ∉ ablk ia ∧ y ∉ ablk ba ∧ Apart (ablk ia) (ablk ba)
  up : W.heap.size ≤ y ∧ (∀ b ∈ ablk ia, W.heap.size ≤ b) ∧ (∀ b ∈ ablk ba, W.heap.size ≤ b) ∧ ∀ b ∈ F, W.heap.size ≤ b

section
variable {W w w' : World} {F F' : List Nat} {st ab wb sb y : Nat} {base cap : Int} {op op' : Nat → Option OpR} {ws ss ws' ss' items items' : List Int} {n n' : Int} {k : Nat} {ia ba : Option Addr} {ic bc : Nat} {bz bz' : List Int}

theorem Y14.il (h : Y14 W w F st ab wb sb y base cap op ws ss items n k ia ba ic bc bz) : items.length ≤ 32 := by
  have := items_len h.L; have := h.c32; omega

theorem Y14.fr0 (h : Y14 W w F st ab wb sb y base cap op ws ss items n k ia ba ic bc bz) (f : ∀ S, Fr S w w') : Y14 W w' F st ab wb sb y base cap op ws ss items n k ia ba ic bc bz :=
  ⟨h.S.fr0 (f []), h.L, h.fw.more (f []), h.Y.fr (f []) (by simp), h.I.fr (f []) (by simp [Apart]), h.B.fr (f []) (by simp [Apart]), h.b, h.n5, h.k8, h.c32, h.sep, h.up⟩

/-- The stack has moved; its items are told by the record, or will be. -/
structure T14 (W w : World) (F : List Nat) (st ab wb sb y : Nat) (base cap : Int) (op : Nat → Option OpR) (ws ss items its : List Int) (n : Int) (k : Nat) (ia ba : Option Addr) (ic bc : Nat) (bz : List Int) : Prop where
  S : Stk w F st ab wb sb base cap op ws ss
  L : LInv base cap op ws items n
  fw : Fr [] W w
  Y : Blk w y [.pointer (some ⟨st, 0, none⟩), .pointer (some ⟨ab, 0, none⟩), .int .i64 cap, .slice ia its.length ic, .slice ba bz.length bc]
  I : SI w ia ic its.reverse
  B : SI w ba bc bz
  n5 : 0 ≤ n ∧ n ≤ 1000
  k8 : 1 ≤ k ∧ k ≤ 8
  c32 : 1 ≤ cap ∧ cap ≤ 32
  sep : y ∉ F ∧ Apart (ablk ia) F ∧ Apart (ablk ba) F ∧ y ∉ ablk ia ∧ y ∉ ablk ba ∧ Apart (ablk ia) (ablk ba)
  up : W.heap.size ≤ y ∧ (∀ b ∈ ablk ia, W.heap.size ≤ b) ∧ (∀ b ∈ ablk ba, W.heap.size ≤ b) ∧ ∀ b ∈ F, W.heap.size ≤ b

theorem Y14.stk (h : Y14 W w F st ab wb sb y base cap op ws ss items n k ia ba ic bc bz) (S' : Stk w' F' st ab wb sb base cap op' ws' ss') (L' : LInv base cap op' ws' items' n') (hn : 0 ≤ n' ∧ n' ≤ 1000) (f : Fr F w w') (g : Grw F F' w.heap.size) :
    T14 W w' F' st ab wb sb y base cap op' ws' ss' items' items n' k ia ba ic bc bz := by
  obtain ⟨s1, s2, s3, s4, s5, s6⟩ := h.sep
  obtain ⟨u1, u2, u3, u4⟩ := h.up
  refine ⟨S', L', h.fw.trans f (fun b hb => .inr (u4 b hb)), h.Y.fr f s1, h.I.fr f s2, h.B.fr f s3, hn, h.k8, h.c32, ⟨fun hb => ?_, s2.growr h.I.low g, s3.growr h.B.low g, s4, s5, s6⟩, u1, u2, u3, g.up u4 h.fw.size⟩
  have := h.Y.lt
  rcases g y hb with q | q
  · exact s1 q
  · omega

theorem T14.back (h : T14 W w F st ab wb sb y base cap op ws ss items items n k ia ba ic bc bz) (b : Bal14 k cap n op ss bz) : Y14 W w F st ab wb sb y base cap op ws ss items n k ia ba ic bc bz :=
  ⟨h.S, h.L, h.fw, h.Y, h.I, h.B, b, h.n5, h.k8, h.c32, h.sep, h.up⟩

theorem T14.fr0 {its : List Int} (h : T14 W w F st ab wb sb y base cap op ws ss items its n k ia ba ic bc bz) (f : ∀ S, Fr S w w') : T14 W w' F st ab wb sb y base cap op ws ss items its n k ia ba ic bc bz :=
  ⟨h.S.fr0 (f []), h.L, h.fw.more (f []), h.Y.fr (f []) (by simp), h.I.fr (f []) (by simp [Apart]), h.B.fr (f []) (by simp [Apart]), h.n5, h.k8, h.c32, h.sep, h.up⟩

theorem T14.setB {its : List Int} (h : T14 W w F st ab wb sb y base cap op ws ss items its n k ia ba ic bc bz) (hl : bz'.length = bz.length) (B' : SI w' ba bc bz') (f : Fr (ablk ba) w w') : T14 W w' F st ab wb sb y base cap op ws ss items its n k ia ba ic bc bz' := by
  obtain ⟨s1, s2, s3, s4, s5, s6⟩ := h.sep
  obtain ⟨u1, u2, u3, u4⟩ := h.up
  exact ⟨h.S.frame f s3.symm, h.L, h.fw.trans f (fun b hb => .inr (u3 b hb)), by rw [hl]; exact h.Y.fr f s5, h.I.fr f s6, B', h.n5, h.k8, h.c32, h.sep, h.up⟩

/-- The record's items are others. -/
theorem T14.setI {its its' : List Int} {w1 : World} {ia' : Option Addr} {ic' l' : Nat} (h : T14 W w F st ab wb sb y base cap op ws ss items its n k ia ba ic bc bz) (I' : SI w1 ia' ic' its'.reverse) (f : Fr (ablk ia) w w1) (g : Grw (ablk ia) (ablk ia') w.heap.size)
    (hl : l' = its'.length) (s : SetC w1 w' ⟨y, 3, none⟩ (.slice ia' l' ic')) : T14 W w' F st ab wb sb y base cap op ws ss items its' n k ia' ba ic' bc bz := by
  obtain ⟨s1, s2, s3, s4, s5, s6⟩ := h.sep
  obtain ⟨u1, u2, u3, u4⟩ := h.up
  subst hl
  have Y1 := s.blk (h.Y.fr f s4)
  have fy : Fr [y] w1 w' := s.fr (by simp)
  have yl := h.Y.lt
  have hy : ∀ {G : List Nat}, y ∉ G → Apart G [y] := fun hG b hb hb2 => by simp at hb2; subst hb2; exact hG hb
  have yi : y ∉ ablk ia' := fun hb => by
    rcases g y hb with q | q
    · exact s4 q
    · omega
  refine ⟨(h.S.frame f s2.symm).frame fy (hy s1), h.L, (h.fw.trans f (fun b hb => .inr (u2 b hb))).trans fy (by simp; omega), Y1, I'.fr fy (hy yi), (h.B.fr f s6.symm).fr fy (hy s5), h.n5, h.k8, h.c32,
    ⟨s1, s2.grow h.S.low g, s3, yi, s5, s6.grow h.B.low g⟩, u1, g.up u2 h.fw.size, u3, u4⟩

theorem spell_neg {r : Option OpR} (hc : 1 ≤ cap) (h : ∀ s, r = some s → s.op = 0 → 0 ≤ s.v) : spell cap r < 0 ↔ r = none := by
  cases r with
  | none => simp [spell]
  | some s =>
    have := h s rfl
    have e : spell cap (some s) = if s.op = 0 then s.v else cap := rfl
    rw [e]
    constructor
    · intro h2
      by_cases h0 : s.op = 0
      · have := this h0; rw [if_pos h0] at h2; omega
      · rw [if_neg h0] at h2; omega
    · intro h2; cases h2

theorem Y14.busy (h : Y14 W w F st ab wb sb y base cap op ws ss items n k ia ba ic bc bz) {a : Nat} (ha : a < k) : bz.getD a 0 < 0 ↔ op a = none := by
  rw [h.b.bz a ha]
  exact spell_neg h.c32.1 fun s hs h0 => ((h.L.ops a s hs).push h0).1

/-- A value that an agent pushes is in the record. -/
theorem Y14.pend (h : Y14 W w F st ab wb sb y base cap op ws ss items n k ia ba ic bc bz) {v : Int} (h0 : 0 ≤ v) (h1 : v < cap) : v ∈ bz ↔ ∃ j s, op j = some s ∧ s.op = 0 ∧ s.v = v := by
  have lb := h.b.lb
  constructor
  · intro hm
    obtain ⟨j, hj, e⟩ := List.mem_iff_getElem.1 hm
    have e2 := h.b.bz j (by omega)
    rw [List.getD_eq_getElem?_getD, List.getElem?_eq_getElem hj] at e2
    simp only [Option.getD_some] at e2
    rw [e] at e2
    cases ho : op j with
    | none => rw [ho] at e2; simp [spell] at e2; omega
    | some s =>
      rw [ho] at e2
      unfold spell at e2
      simp only at e2
      split at e2
      · exact ⟨j, s, ho, by assumption, e2.symm⟩
      · omega
  · rintro ⟨j, s, e1, e2, e3⟩
    have hj : j < k := by
      rcases Nat.lt_or_ge j k with q | q
      · exact q
      · rw [h.b.out j q] at e1; cases e1
    have e4 := h.b.bz j hj
    rw [e1] at e4
    unfold spell at e4
    simp only at e4
    rw [if_pos e2, e3, List.getD_eq_getElem?_getD, List.getElem?_eq_getElem (by omega)] at e4
    simp only [Option.getD_some] at e4
    rw [← e4]
    exact List.getElem_mem (by omega)

theorem Bal14.put (h : Bal14 k cap n op ss bz) {a : Nat} (ha : a < k) (r : Option OpR) : Bal14 k cap n (upd op a r) ss (bz.set a (spell cap r)) := by
  have lb := h.lb
  refine ⟨by simp [lb], h.ls, fun b hb => ?_, fun b hb => by rw [upd_ne _ _ (by omega)]; exact h.out b hb, h.tk⟩
  rw [getI_set _ _ _ _ (by omega)]
  by_cases e : b = a
  · subst e; rw [if_pos rfl, upd_self]
  · rw [if_neg (fun h => e h.symm), upd_ne _ _ e]; exact h.bz b hb

theorem Bal14.go (h : Bal14 k cap n op ss bz) {a : Nat} (ha : a < k) {r r' : OpR} (hr : op a = some r) (e1 : r'.op = r.op) (e2 : r'.v = r.v) : Bal14 k cap n (upd op a (some r')) ss bz := by
  refine ⟨h.lb, h.ls, fun b hb => ?_, fun b hb => by rw [upd_ne _ _ (by omega)]; exact h.out b hb, h.tk⟩
  by_cases e : b = a
  · subst e
    rw [upd_self, h.bz b hb, hr]
    simp [spell, e1, e2]
  · rw [upd_ne _ _ e]; exact h.bz b hb

theorem Bal14.tick (h : Bal14 k cap n op ss bz) (hn : n ≤ 1000) {a : Int} (h0 : 0 ≤ a) (h1 : a < k) : Bal14 k cap (n + 1) op (tickA ss a) bz ∧ (tickA ss a).getD a.toNat 0 = ss.getD a.toNat 0 + 1 := by
  have hs := h.ls
  have hw : IntKind.wrap .i64 (ss.getD a.toNat 0 + 1) = ss.getD a.toNat 0 + 1 := by
    have hb1 := h.tk a.toNat
    have := wrap_small (n := (ss.getD a.toNat 0 + 1).toNat) (by omega)
    rwa [Int.toNat_of_nonneg (by omega)] at this
  unfold tickA
  rw [hw]
  refine ⟨⟨h.lb, by simpa using hs, h.bz, h.out, fun b => ?_⟩, ?_⟩
  · rw [getI_set _ _ _ _ (by omega)]
    have := h.tk b
    have := h.tk a.toNat
    split <;> omega
  · rw [getI_set _ _ _ _ (by omega), if_pos rfl]

theorem Bal14.more (h : Bal14 k cap n op ss bz) : Bal14 k cap (n + 1) op ss bz := ⟨h.lb, h.ls, h.bz, h.out, fun a => by have := h.tk a; omega⟩
end
end Go.Proofs.Ytfpghcdjfiggiaa.V
