/- The law StackActs: what it computes. No condition. -/
import Derived.Test.YtfpghcdjfiggiaaActs5b
import Derived.Test.YtfpghcdjfiggiaaArgs
namespace Go.Proofs.Ytfpghcdjfiggiaa.V
open Go Go.RowKit

section
variable {W w w' : World} {F F' : List Nat} {st ab wb sb y : Nat} {base cap : Int} {op op' : Nat → Option OpR} {ws ss ws' ss' items items' : List Int} {n n' : Int} {k : Nat} {ia ba : Option Addr} {ic bc : Nat} {bz bz' : List Int}

/-- The record's agents are one more. -/
theorem T14.growB {its : List Int} {w1 : World} {ba' : Option Addr} {bc' l' : Nat} (h : T14 W w F st ab wb sb y base cap op ws ss items its n k ia ba ic bc bz) (B' : SI w1 ba' bc' bz') (f : Fr (ablk ba) w w1) (g : Grw (ablk ba) (ablk ba') w.heap.size)
    (hl : l' = bz'.length) (s : SetC w1 w' ⟨y, 4, none⟩ (.slice ba' l' bc')) : T14 W w' F st ab wb sb y base cap op ws ss items its n k ia ba' ic bc' bz' := by
  obtain ⟨s1, s2, s3, s4, s5, s6⟩ := h.sep
  obtain ⟨u1, u2, u3, u4⟩ := h.up
  subst hl
  have Y1 := s.blk (h.Y.fr f s5)
  have fy : Fr [y] w1 w' := s.fr (by simp)
  have yl := h.Y.lt
  have hy : ∀ {G : List Nat}, y ∉ G → Apart G [y] := fun hG b hb hb2 => by simp at hb2; subst hb2; exact hG hb
  have yi : y ∉ ablk ba' := fun hb => by
    rcases g y hb with q | q
    · exact s5 q
    · omega
  refine ⟨(h.S.frame f s3.symm).frame fy (hy s1), h.L, (h.fw.trans f (fun b hb => .inr (u3 b hb))).trans fy (by simp; omega), Y1, (h.I.fr f s6).fr fy (hy s4), B'.fr fy (hy yi), h.n5, h.k8, h.c32,
    ⟨s1, s2, s3.grow h.S.low g, s4, yi, s6.growr h.I.low g⟩, u1, u2, g.up u3 h.fw.size, u4⟩

theorem Y14.frS {S : List Nat} (h : Y14 W w F st ab wb sb y base cap op ws ss items n k ia ba ic bc bz) (f : Fr S w w') (hS : ∀ b ∈ S, b ≠ y ∧ b ∉ F ∧ b ∉ ablk ia ∧ b ∉ ablk ba ∧ W.heap.size ≤ b) : Y14 W w' F st ab wb sb y base cap op ws ss items n k ia ba ic bc bz :=
  ⟨h.S.frame f (fun b hb hs => (hS b hs).2.1 hb), h.L, h.fw.trans f (fun b hb => .inr (hS b hb).2.2.2.2), h.Y.fr f (fun hs => (hS y hs).1 rfl), h.I.fr f (fun b hb hs => (hS b hs).2.2.1 hb), h.B.fr f (fun b hb hs => (hS b hs).2.2.2.1 hb), h.b, h.n5, h.k8, h.c32, h.sep, h.up⟩

theorem Y14.low (h : Y14 W w F st ab wb sb y base cap op ws ss items n k ia ba ic bc bz) {b : Nat} (hb : w.heap.size ≤ b) : b ≠ y ∧ b ∉ F ∧ b ∉ ablk ia ∧ b ∉ ablk ba ∧ W.heap.size ≤ b := by
  have h1 := h.Y.lt
  have h2 := h.fw.size
  exact ⟨by omega, fun hm => by have := h.S.low b hm; omega, fun hm => by have := h.I.low b hm; omega, fun hm => by have := h.B.low b hm; omega, by omega⟩

theorem rev_get (items : List Int) {j : Int} (h0 : 0 ≤ j) (h1 : j < items.length) : items.reverse.getD ((items.length : Int) - 1 - j).toNat 0 = items.getD j.toNat 0 := by
  have e : ((items.length : Int) - 1 - j).toNat < items.length := by omega
  rw [List.getD_eq_getElem?_getD, List.getD_eq_getElem?_getD, List.getElem?_reverse e]
  congr 2
  omega
end

theorem rep_snoc (i : Nat) (x : Int) : List.replicate i x ++ [x] = List.replicate (i + 1) x := by
  rw [show [x] = List.replicate 1 x from rfl, List.replicate_append_replicate]

theorem stActs_c (agents base0 cap0 : Int) {W : World} {a : Option Addr} {l c : Nat} {z : Nat → Nat → Int} (g : ArgS W.heap.size W a l 3 z) {K : Bool → World → Prop} (hK : ∀ w', Fr [] W w' → K true w') : C14 agents base0 cap0 a l c W K := by
  obtain ⟨k1, k2⟩ := and_range 7 3 (by decide) (by decide) agents
  obtain ⟨b1, b2⟩ := and_range 15 4 (by decide) (by decide) base0
  obtain ⟨c1, c2⟩ := and_range 31 5 (by decide) (by decide) cap0
  refine r_f14 _ _ _ _ _ _ _ _ ?_
  unfold V_f14
  generalize bits .and .i64 agents 7 = kn at *
  generalize bits .and .i64 base0 15 = base at *
  generalize bits .and .i64 cap0 31 = cn at *
  refine ⟨fit64 (by omega) (by omega), fit64 (by omega) (by omega), begun5_c (1 + kn) base (1 + cn) (by omega) (by omega) (by omega) fun w1 F st ab wb sb ws S L f1 hF => ifb_nyes rfl fun y w2 n2 => ?_⟩
  obtain ⟨k, hk⟩ : ∃ k : Nat, (k : Int) = 1 + kn := ⟨(1 + kn).toNat, by omega⟩
  rw [← hk] at S ⊢
  rw [show ((k : Int)).toNat = k from by omega] at S
  have lF := S.low
  have yg := n2.ge
  have z1 := f1.size
  have T2 : T14 W w2 F st ab wb sb y base (1 + cn) (fun _ => none) ws (List.replicate k 0) [] [] 0 k none none 0 0 [] :=
    ⟨S.fr0 (n2.fr []), L, f1.more (n2.fr []), n2.blk, SI.nil _, SI.nil _, by omega, by omega, by omega, ⟨fun h => by have := lF y h; omega, by simp [Apart, ablk], by simp [Apart, ablk], by simp [ablk], by simp [ablk], by simp [Apart, ablk]⟩, by omega, by simp [ablk], by simp [ablk], hF⟩
  refine ⟨fun i w' => 0 ≤ i ∧ i ≤ k ∧ ∃ ba bc, T14 W w' F st ab wb sb y base (1 + cn) (fun _ => none) ws (List.replicate k 0) [] [] 0 k none ba 0 bc (List.replicate i.toNat (-1)), fun i _ => (k - i).toNat, ⟨by omega, by omega, none, 0, T2⟩, ?_⟩
  rintro - i w3 ⟨hi0, hi1, ba, bc, T3⟩
  refine IfB.dec (fun hlt => ⟨_, _, _, T3.Y.cell rfl, fun b4 w4 n4 => app_int T3.B n4 (by simp; omega) fun a6 c6 w6 B6 f6 g6 => ⟨(T3.Y.fr f6 T3.sep.2.2.2.2.1).may (by simp), fun w7 s7 => ⟨fit64 (by omega) (by omega), ⟨by omega, by omega, a6, c6, ?_⟩, by dsimp only; omega⟩⟩⟩) (fun hge => ?_)
  · have T7 := T3.growB B6 f6 g6 (by simp) s7
    rw [rep_snoc, show i.toNat + 1 = (i + 1).toNat from by omega] at T7
    exact T7
  have ei : i.toNat = k := by omega
  rw [ei] at T3
  have Y3 := T3.back ⟨by simp, by simp, fun j hj => by rw [List.getD_eq_getElem?_getD, List.getElem?_replicate, if_pos hj]; rfl, fun _ _ => rfl, fun j => by
    rw [List.getD_eq_getElem?_getD, List.getElem?_replicate]
    split <;> simp⟩
  refine ⟨fun n w' => 0 ≤ n ∧ n ≤ 500 ∧ ∃ F op ws ss items ia ic bz, Y14 W w' F st ab wb sb y base (1 + cn) op ws ss items n k ia ba ic bc bz, fun n _ => (500 - n).toNat, ⟨by omega, by omega, _, _, _, _, _, _, _, _, Y3⟩, ?_⟩
  clear Y3 T3 T2 S L lF
  rintro - n w4 ⟨hn0, hn1, F4, op, ws4, ss4, items4, ia4, ic4, bz4, Y4⟩
  have fin : C57 w4 fun b w' => K b w' := awake5_c fun w' f => hK w' (Y4.fw.more f)
  refine IfB.dec (fun hil => IfB.dec (fun hi2 => ?_) (fun _ => fin)) (fun _ => fin)
  refine (g.fr Y4.fw (by simp)).get hn0 hil fun p hp => ⟨⟨hn0, hil⟩, _, _, _, argCells3 hp, fun xb w5 n5 => ⟨n5.blk.mayL (by simp), fun w6 s6 => ?_⟩⟩
  obtain ⟨X6, f6⟩ := newSet n5 s6 rfl
  have Y6 := Y4.fr0 f6
  refine ⟨fun b w' => b = true ∧ ∃ F op ws ss items ia ic bz, Y14 W w' F st ab wb sb y base (1 + cn) op ws ss items (n + 1) k ia ba ic bc bz, ⟨_, X6.cell rfl, IfB.dec (fun _ => ?_) (fun _ => ?_)⟩, ?_⟩
  · refine ⟨_, _, _, X6.cells, begin14_c Y6 _ _ _ fun w7 F7 op7 bz7 Y7 => ?_⟩
    exact ⟨rfl, F7, op7, _, _, _, _, _, bz7, Y7.S, Y7.L.more, Y7.fw, Y7.Y, Y7.I, Y7.B, Y7.b.more, by omega, Y7.k8, Y7.c32, Y7.sep, Y7.up⟩
  · exact ⟨_, X6.cell rfl, step14_c Y6 (by omega) _ fun w7 F7 op7 ws7 ss7 items7 ia7 ic7 bz7 Y7 => ⟨rfl, F7, op7, _, _, _, _, _, bz7, Y7⟩⟩
  rintro - b7 w7 ⟨rfl, F7, op7, ws7, ss7, items7, ia7, ic7, bz7, Y7⟩
  clear Y6 X6 s6 n5 Y4
  have hi7 := Y7.il
  have it7 := fun v hv => chain_mem Y7.L.ch v hv
  have hc := Y7.c32
  refine ifb_nyes rfl ⟨_, Y7.Y.cell rfl, items_c Y7.S Y7.L fun w8 a8 c8 U8 f8 g8 => ?_⟩
  have Y8 := Y7.fr0 f8
  refine ⟨_, Y8.Y.cell rfl, items_c Y8.S Y8.L fun w9 a9 c9 U9 f9 g9 => ?_⟩
  have Y9 := Y8.fr0 f9
  have P9 : SI w9 _ _ _ := U8.fr (f9 []) (by simp [Apart])
  have lu := U8.low
  refine ⟨fun j w' => 0 ≤ j ∧ j ≤ items7.length ∧ ∀ S, Fr S w9 w', fun j _ => (items7.length - j).toNat, ⟨by omega, by omega, fun S => Fr.refl S w9⟩, ?_⟩
  rintro - j w10 ⟨hj0, hj1, f10⟩
  have Y10 := Y9.fr0 f10
  have P10 : SI w10 _ _ _ := P9.fr (f10 []) (by simp [Apart])
  have Q10 : SI w10 _ _ _ := U9.fr (f10 []) (by simp [Apart])
  refine IfB.dec (fun hlt => ?_) (fun hge => ?_)
  · intro w11 d11
    have Y11 := Y10.fr0 d11.fr
    have P11 : SI w11 _ _ _ := P10.fr (d11.fr []) (by simp [Apart])
    refine ⟨_, _, _, Y11.Y.cell rfl, IfB.nyes rfl (P11.get hj0 (by omega) fun p hp => ⟨⟨hj0, by omega⟩, _, hp, _, _, _, Y11.Y.cell rfl, _, _, _, Y11.Y.cell rfl, fit64 (by omega) (by omega), fit64 (by omega) (by omega), ?_⟩)⟩
    refine Y11.I.get (i := (items7.length : Int) - 1 - j) (by omega) (by simp <;> omega) fun p hp => ⟨⟨by omega, by omega⟩, _, hp, IfB.nyes (rev_get _ hj0 hlt).symm ⟨fit64 (by omega) (by omega), ⟨by omega, by omega, fun S => (f10 S).more (d11.fr S)⟩, by dsimp only; omega⟩⟩
  have hle : ∀ x ∈ items7, -1000000 ≤ x ∧ x ≤ 1000000 := fun x hx => by have := it7 x hx; omega
  refine spoilI_c P10 hle (by omega) fun w11 f11 => ?_
  have z8 := (f8 []).size
  have Y11 := Y10.frS f11 (fun b hb => Y7.low (g8 b hb))
  have Q11 : SI w11 _ _ _ := Q10.fr f11 (fun b hb hb2 => by have := g9 b hb; have := lu b hb2; omega)
  intro w12 d12
  have Y12 := Y11.fr0 d12.fr
  have Q12 : SI w12 _ _ _ := Q11.fr (d12.fr []) (by simp [Apart])
  have next : Fit .i64 (n + 1) ∧ ((0 ≤ n + 1 ∧ n + 1 ≤ 500 ∧ ∃ F op ws ss items ia ic bz, Y14 W w12 F st ab wb sb y base (1 + cn) op ws ss items (n + 1) k ia ba ic bc bz) ∧ (500 - (n + 1)).toNat < (500 - n).toNat) := ⟨fit64 (by omega) (by omega), ⟨by omega, by omega, _, _, _, _, _, _, _, _, Y12⟩, by omega⟩
  refine ⟨_, _, _, Y12.Y.cell rfl, IfB.nyes rfl (IfB.dec (fun hpos => ?_) (fun _ => next))⟩
  refine Q12.get (i := 0) (by decide) (by omega) fun p hp => ⟨⟨by decide, by omega⟩, _, hp, _, _, _, Y12.Y.cell rfl, _, _, _, Y12.Y.cell rfl, fit64 (by omega) (by omega), Y12.I.get (i := (items7.length : Int) - 1) (by omega) (by simp <;> omega) fun p hp => ⟨⟨by omega, by omega⟩, _, hp, IfB.nyes ?_ next⟩⟩
  have := rev_get items7 (j := 0) (by decide) (by omega)
  rw [Int.sub_zero] at this
  exact this.symm

end Go.Proofs.Ytfpghcdjfiggiaa.V
