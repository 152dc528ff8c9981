/- Reading a program: methods, classes. No condition. -/
import Derived.Test.YtmlhdmnnijapjaaClassN
namespace Go.Proofs.Ytmlhdmnnijapjaa.V
open Go Go.RowKit Go.Proofs.Ytmlhdmnnijapjaa.WirePlain

section
variable {X : List PanicEntry → World → Prop} {rb : Nat} {s : ByteArray} {w : World} {p : Int} {cb : Nat}

/-- A thing that is being read: its reader, its place, and where it is handed back. -/
structure Env5 (w0 w : World) (rb b1 b3 b5 : Nat) (z cs : List Value) (s : ByteArray) (p : Int) : Prop where
  f : Fr [rb] w0 w
  R : RdW w rb s p
  C : Cap w b1 rb
  Z : Blk w b3 z
  M : Blk w b5 cs
  d : w0.heap.size ≤ b1 ∧ b1 < b3 ∧ b3 < b5 ∧ rb < w0.heap.size

theorem Env5.call {w0 w w' : World} {b1 b3 b5 : Nat} {z cs : List Value} {q : Int} (h : Env5 w0 w rb b1 b3 b5 z cs s p) (R : RdW w' rb s q) (f : Fr [rb] w w') : Env5 w0 w' rb b1 b3 b5 z cs s q := by
  have d := h.d
  exact ⟨h.f.more f, R, h.C.fr1 f, h.Z.fr f (by simp; omega), h.M.fr f (by simp; omega), h.d⟩
theorem Env5.set {w0 w w' : World} {b1 b3 b5 : Nat} {z cs : List Value} {i : Nat} {v : Value} (h : Env5 w0 w rb b1 b3 b5 z cs s p) (c : SetC w w' ⟨b5, i, none⟩ v) : Env5 w0 w' rb b1 b3 b5 z (cs.set i v) s p := by
  have d := h.d
  have f : Fr [b5] w w' := c.fr (by simp)
  exact ⟨h.f.trans f (by simp; omega), h.R.fr f (by simp; omega), h.C.fr f (by simp; omega), h.Z.fr f (by simp; omega), c.blk h.M, h.d⟩
theorem Env5.g {w0 w w' : World} {b1 b3 b5 : Nat} {z cs : List Value} {i : Nat} {v : Value} (_ : Env5 w0 w rb b1 b3 b5 z cs s p) (c : SetC w w' ⟨b5, i, none⟩ v) : Fr [rb, b3, b5] w w' := c.fr (by simp)
theorem Env5.lt {w0 w : World} {b1 b3 b5 : Nat} {z cs : List Value} (h : Env5 w0 w rb b1 b3 b5 z cs s p) : b5 < w.heap.size := h.M.lt
theorem gcall {w w' : World} {b3 b5 : Nat} (f : Fr [rb] w w') : Fr [rb, b3, b5] w w' := f.mono (by simp)

/-- A piece that was read stays. -/
theorem Env5.keep {α : Type} {R : (Nat → Prop) → Prop → World → List Value → α → Prop} (hR : Rel1 R) {w0 w w1 w' : World} {b1 b3 b5 : Nat} {z cs : List Value} (h : Env5 w0 w rb b1 b3 b5 z cs s p) {k : Nat} {a : Option Addr} {l : Nat} {xs : List α}
    (g : rSeq (fun b => w.heap.size ≤ b) True w1 k (R (fun b => w.heap.size ≤ b) True w1) a l xs) (f : Fr [rb, b3, b5] w1 w') : rSeq (fun b => w0.heap.size ≤ b) True w' k (R (fun b => w0.heap.size ≤ b) True w') a l xs := by
  have d := h.d
  have lt := h.lt
  have hz := h.f.size
  refine rel_seq hR g (SameU.of_fr f fun b hb hm => ?_) f.size fun b hb _ => Nat.le_trans hz hb
  simp at hm
  omega

theorem mth_x {k : Mth → Int → World → Prop} {K : ByteArray → Bool → Option Addr → Nat → Nat → Int → Int → Int → Option Addr → Nat → Nat → Option Addr → Nat → Nat → Option Addr → Nat → Nat → World → Prop} (R : RdW w rb s p) (hs : s.size ≤ 32768) (h : Out X rb s (mthD s p) w k)
    (hK : ∀ x q w' a1 l1 c1 a2 l2 c2 a3 l3 c3 a4 l4 c4, RdW w' rb s q → Fr [rb] w w' → k x q w' → RMth (fun b => w.heap.size ≤ b) True w' [.string x.name, .bool x.stat, .slice a1 l1 c1, .int .i64 x.ret, .int .i64 x.locs, .int .i64 x.stk, .slice a2 l2 c2, .slice a3 l3 c3, .slice a4 l4 c4] x → K x.name x.stat a1 l1 c1 x.ret x.locs x.stk a2 l2 c2 a3 l3 c3 a4 l4 c4 w') : CX74 X (some ⟨rb, 0, none⟩) w K := by
  refine r_f74 _ _ _ _ fun b1 w2 n1 b3 w4 n3 b5 w6 n5 => ?_
  have lr := R.hd.lt
  have g1 := n1.ge
  have g3 : w2.heap.size ≤ b3 := n3.ge
  have g5 : w4.heap.size ≤ b5 := n5.ge
  have l1 := n1.blk.lt
  have l3 := n3.blk.lt
  have f6 : Fr [rb] w w6 := ((n1.fr _).more (n3.fr _)).more (n5.fr _)
  have E0 : Env5 w w6 rb b1 b3 b5 [.string (ByteArray.mk #[]), .bool false, .slice none 0 0, .int .i64 0, .int .i64 0, .int .i64 0, .slice none 0 0, .slice none 0 0, .slice none 0 0] [.string (ByteArray.mk #[]), .bool false, .slice none 0 0, .int .i64 0, .int .i64 0, .int .i64 0, .slice none 0 0, .slice none 0 0, .slice none 0 0] s p :=
    ⟨f6, ((R.fr (n1.fr []) (by simp)).fr (n3.fr []) (by simp)).fr (n5.fr []) (by simp), ⟨(n1.blk.fr (n3.fr []) (by simp)).fr (n5.fr []) (by simp), by omega⟩, n3.blk.fr (n5.fr []) (by simp), n5.blk, by omega⟩
  refine ⟨_, E0.C.hd.cell rfl, name_x E0.R hs (h.from E0.f) fun x1 q1 wA1 RA1 fA1 ⟨_, h⟩ => ?_⟩
  have EA1 := E0.call RA1 fA1
  refine ⟨EA1.M.may (by simp), fun wB10 sB10 => ?_⟩
  have gB10 := EA1.g sB10
  have EB10 : Env5 w wB10 rb b1 b3 b5 [.string (ByteArray.mk #[]), .bool false, .slice none 0 0, .int .i64 0, .int .i64 0, .int .i64 0, .slice none 0 0, .slice none 0 0, .slice none 0 0] [.string x1, .bool false, .slice none 0 0, .int .i64 0, .int .i64 0, .int .i64 0, .slice none 0 0, .slice none 0 0, .slice none 0 0] s q1 := EA1.set sB10
  refine ⟨_, EB10.C.hd.cell rfl, rang_x EB10.R hs (h.from EB10.f) fun x2 q2 wA2 RA2 fA2 ⟨_, h⟩ => ?_⟩
  have EA2 := EB10.call RA2 fA2
  refine ⟨EA2.M.may (by simp), fun wB20 sB20 => ?_⟩
  have gB20 := EA2.g sB20
  have EB20 : Env5 w wB20 rb b1 b3 b5 [.string (ByteArray.mk #[]), .bool false, .slice none 0 0, .int .i64 0, .int .i64 0, .int .i64 0, .slice none 0 0, .slice none 0 0, .slice none 0 0] [.string x1, .bool (decide (x2 = 1)), .slice none 0 0, .int .i64 0, .int .i64 0, .int .i64 0, .slice none 0 0, .slice none 0 0, .slice none 0 0] s q2 := EA2.set sB20
  refine ⟨_, EB20.C.hd.cell rfl, _, EB20.C.hd.cell rfl, ints_x EB20.R hs (by decide) (h.from EB20.f) fun x3 q3 a3 c3 wA3 RA3 fA3 ⟨_, h⟩ L3 => ?_⟩
  have EA3 := EB20.call RA3 fA3
  refine ⟨EA3.M.may (by simp), fun wB30 sB30 => ?_⟩
  have gB30 := EA3.g sB30
  have EB30 : Env5 w wB30 rb b1 b3 b5 [.string (ByteArray.mk #[]), .bool false, .slice none 0 0, .int .i64 0, .int .i64 0, .int .i64 0, .slice none 0 0, .slice none 0 0, .slice none 0 0] [.string x1, .bool (decide (x2 = 1)), .slice a3 x3.length c3, .int .i64 0, .int .i64 0, .int .i64 0, .slice none 0 0, .slice none 0 0, .slice none 0 0] s q3 := EA3.set sB30
  refine ⟨_, EB30.C.hd.cell rfl, num_x EB30.R hs (h.from EB30.f) fun x4 q4 wA4 RA4 fA4 ⟨_, h⟩ => ?_⟩
  have EA4 := EB30.call RA4 fA4
  refine ⟨EA4.M.may (by simp), fun wB40 sB40 => ?_⟩
  have gB40 := EA4.g sB40
  have EB40 : Env5 w wB40 rb b1 b3 b5 [.string (ByteArray.mk #[]), .bool false, .slice none 0 0, .int .i64 0, .int .i64 0, .int .i64 0, .slice none 0 0, .slice none 0 0, .slice none 0 0] [.string x1, .bool (decide (x2 = 1)), .slice a3 x3.length c3, .int .i64 x4, .int .i64 0, .int .i64 0, .slice none 0 0, .slice none 0 0, .slice none 0 0] s q4 := EA4.set sB40
  refine ⟨_, EB40.C.hd.cell rfl, rang_x EB40.R hs (h.from EB40.f) fun x5 q5 wA5 RA5 fA5 ⟨_, h⟩ => ?_⟩
  have EA5 := EB40.call RA5 fA5
  refine ⟨EA5.M.may (by simp), fun wB50 sB50 => ?_⟩
  have gB50 := EA5.g sB50
  have EB50 : Env5 w wB50 rb b1 b3 b5 [.string (ByteArray.mk #[]), .bool false, .slice none 0 0, .int .i64 0, .int .i64 0, .int .i64 0, .slice none 0 0, .slice none 0 0, .slice none 0 0] [.string x1, .bool (decide (x2 = 1)), .slice a3 x3.length c3, .int .i64 x4, .int .i64 x5, .int .i64 0, .slice none 0 0, .slice none 0 0, .slice none 0 0] s q5 := EA5.set sB50
  refine ⟨_, EB50.C.hd.cell rfl, rang_x EB50.R hs (h.from EB50.f) fun x6 q6 wA6 RA6 fA6 ⟨_, h⟩ => ?_⟩
  have EA6 := EB50.call RA6 fA6
  refine ⟨EA6.M.may (by simp), fun wB60 sB60 => ?_⟩
  have gB60 := EA6.g sB60
  have EB60 : Env5 w wB60 rb b1 b3 b5 [.string (ByteArray.mk #[]), .bool false, .slice none 0 0, .int .i64 0, .int .i64 0, .int .i64 0, .slice none 0 0, .slice none 0 0, .slice none 0 0] [.string x1, .bool (decide (x2 = 1)), .slice a3 x3.length c3, .int .i64 x4, .int .i64 x5, .int .i64 x6, .slice none 0 0, .slice none 0 0, .slice none 0 0] s q6 := EA6.set sB60
  refine ⟨_, EB60.C.hd.cell rfl, inss_x EB60.C EB60.R hs (by decide) (h.from EB60.f) fun x7 q7 a7 c7 wA7 RA7 fA7 ⟨_, h⟩ L7 => ?_⟩
  have EA7 := EB60.call RA7 fA7
  refine ⟨EA7.M.may (by simp), fun wB70 sB70 => ?_⟩
  have gB70 := EA7.g sB70
  have EB70 : Env5 w wB70 rb b1 b3 b5 [.string (ByteArray.mk #[]), .bool false, .slice none 0 0, .int .i64 0, .int .i64 0, .int .i64 0, .slice none 0 0, .slice none 0 0, .slice none 0 0] [.string x1, .bool (decide (x2 = 1)), .slice a3 x3.length c3, .int .i64 x4, .int .i64 x5, .int .i64 x6, .slice a7 x7.length c7, .slice none 0 0, .slice none 0 0] s q7 := EA7.set sB70
  refine ⟨_, EB70.C.hd.cell rfl, hnds_x EB70.C EB70.R hs (by decide) (h.from EB70.f) fun x8 q8 a8 c8 wA8 RA8 fA8 ⟨_, h⟩ L8 => ?_⟩
  have EA8 := EB70.call RA8 fA8
  refine ⟨EA8.M.may (by simp), fun wB80 sB80 => ?_⟩
  have gB80 := EA8.g sB80
  have EB80 : Env5 w wB80 rb b1 b3 b5 [.string (ByteArray.mk #[]), .bool false, .slice none 0 0, .int .i64 0, .int .i64 0, .int .i64 0, .slice none 0 0, .slice none 0 0, .slice none 0 0] [.string x1, .bool (decide (x2 = 1)), .slice a3 x3.length c3, .int .i64 x4, .int .i64 x5, .int .i64 x6, .slice a7 x7.length c7, .slice a8 x8.length c8, .slice none 0 0] s q8 := EA8.set sB80
  refine ⟨_, EB80.C.hd.cell rfl, mpes_x EB80.C EB80.R hs (by decide) (h.from EB80.f) fun x9 q9 a9 c9 wA9 RA9 fA9 ⟨_, h⟩ L9 => ?_⟩
  have EA9 := EB80.call RA9 fA9
  refine ⟨EA9.M.may (by simp), fun wB90 sB90 => ?_⟩
  have gB90 := EA9.g sB90
  have EB90 : Env5 w wB90 rb b1 b3 b5 [.string (ByteArray.mk #[]), .bool false, .slice none 0 0, .int .i64 0, .int .i64 0, .int .i64 0, .slice none 0 0, .slice none 0 0, .slice none 0 0] [.string x1, .bool (decide (x2 = 1)), .slice a3 x3.length c3, .int .i64 x4, .int .i64 x5, .int .i64 x6, .slice a7 x7.length c7, .slice a8 x8.length c8, .slice a9 x9.length c9] s q9 := EA9.set sB90
  refine ⟨_, _, _, _, _, _, _, _, _, _, _, _, _, _, _, _, _, EB90.M.cells, EB90.Z.mayL (by simp), fun wZ sZ => ?_⟩
  obtain ⟨BZ, fZ⟩ := setAll sZ EB90.Z rfl
  have d := EB90.d
  have RZ := EB90.R.fr fZ (by simp; omega)
  have fZ' : Fr [rb] w wZ := EB90.f.trans fZ (by simp; omega)
  have G10 : Fr [rb, b3, b5] wB90 wZ := fZ.mono (by simp)
  have G9 := (gB90.more G10)
  have G8 := (gB80.more ((gcall fA9).more G9))
  have G7 := (gB70.more ((gcall fA8).more G8))
  have G6 := (gB60.more ((gcall fA7).more G7))
  have G5 := (gB50.more ((gcall fA6).more G6))
  have G4 := (gB40.more ((gcall fA5).more G5))
  have G3 := (gB30.more ((gcall fA4).more G4))
  have G2 := (gB20.more ((gcall fA3).more G3))
  have G1 := (gB10.more ((gcall fA2).more G2))
  exact ⟨_, _, _, _, _, _, _, _, _, _, _, _, _, _, _, _, _, BZ.cells, hK ⟨x1, decide (x2 = 1), x3, x4, x5, x6, x7, x8, x9⟩ _ _ _ _ _ _ _ _ _ _ _ _ _ _ RZ fZ' (h.ret RZ fZ') ⟨_, _, _, _, _, _, _, _, _, _, _, _, rfl, EB20.keep (R := fun _ _ _ vs x => RInt vs x) rel_plain L3 G3, EB60.keep (R := fun _ _ _ vs x => RIns vs x) rel_plain L7 G7, EB70.keep (R := fun _ _ _ vs x => RHnd vs x) rel_plain L8 G8, EB80.keep rel_mpe L9 G9⟩⟩

theorem mths_x {most : Int} {k : List Mth → Int → World → Prop} {K : Option Addr → Nat → Nat → World → Prop} (R : RdW w rb s p) (hs : s.size ≤ 32768) (hmost : most ≤ 1000) (h : Out X rb s (listD s most (mthD s) p) w k)
    (hK : ∀ xs q a c w', RdW w' rb s q → Fr [rb] w w' → k xs q w' → rSeq (fun b => w.heap.size ≤ b) True w' 9 (RMth (fun b => w.heap.size ≤ b) True w') a xs.length xs → K a xs.length c w') : CX73 X (some ⟨rb, 0, none⟩) most (.func (.func 74) #[.pointer (some ⟨rb, 0, none⟩)] #[]) w K := by
  refine r_f73 _ _ _ _ _ _ (list_head R hs h fun n q w1 R1 f1 h0 h1 h => ?_)
  refine list_loop (R := RMth) rel_mth (kk := 9) (by decide) (t := 73) (e := 82) (T := 82) (i := Try.t82) (by kernel_rfl) (by kernel_rfl) rfl rfl rfl (by decide) (fun w F => CX74 X (some ⟨rb, 0, none⟩) w fun s b a1 l1 c1 n1 n2 n3 a2 l2 c2 a3 l3 c3 a4 l4 c4 w2 => F [.string s, .bool b, .slice a1 l1 c1, .int .i64 n1, .int .i64 n2, .int .i64 n3, .slice a2 l2 c2, .slice a3 l3 c3, .slice a4 l4 c4] w2) ?_ h0 (by omega) R1 h ?_
  · intro w2 p2 k2 F f2 R2 h2 hF
    exact mth_x R2 hs h2 fun x q w3 a1 l1 c1 a2 l2 c2 a3 l3 c3 a4 l4 c4 R3 f3 g hx => hF x q _ w3 R3 f3 hx rfl (by simp [isCell]) g
  · intro xs q' a c w' R' f' hk hr
    exact hK xs q' a c w' R' (f1.more f') hk (rel_seq rel_mth hr (sameU_refl _ _) (Nat.le_refl _) fun b hb _ => Nat.le_trans f1.size hb)

theorem cls_x {k : Cls → Int → World → Prop} {K : ByteArray → Bool → Bool → Int → Option Addr → Nat → Nat → Option Addr → Nat → Nat → Option Addr → Nat → Nat → Option Addr → Nat → Nat → World → Prop} (R : RdW w rb s p) (hs : s.size ≤ 32768) (h : Out X rb s (clsD s p) w k)
    (hK : ∀ x q w' a1 l1 c1 a2 l2 c2 a3 l3 c3 a4 l4 c4, RdW w' rb s q → Fr [rb] w w' → k x q w' → RCls (fun b => w.heap.size ≤ b) True w' [.string x.name, .bool x.face, .bool x.fin, .int .i64 x.sup, .slice a1 l1 c1, .slice a2 l2 c2, .slice a3 l3 c3, .slice a4 l4 c4] x → K x.name x.face x.fin x.sup a1 l1 c1 a2 l2 c2 a3 l3 c3 a4 l4 c4 w') : CX49 X (some ⟨rb, 0, none⟩) w K := by
  refine r_f49 _ _ _ _ fun b1 w2 n1 b3 w4 n3 b5 w6 n5 => ?_
  have lr := R.hd.lt
  have g1 := n1.ge
  have g3 : w2.heap.size ≤ b3 := n3.ge
  have g5 : w4.heap.size ≤ b5 := n5.ge
  have l1 := n1.blk.lt
  have l3 := n3.blk.lt
  have f6 : Fr [rb] w w6 := ((n1.fr _).more (n3.fr _)).more (n5.fr _)
  have E0 : Env5 w w6 rb b1 b3 b5 [.string (ByteArray.mk #[]), .bool false, .bool false, .int .i64 0, .slice none 0 0, .slice none 0 0, .slice none 0 0, .slice none 0 0] [.string (ByteArray.mk #[]), .bool false, .bool false, .int .i64 0, .slice none 0 0, .slice none 0 0, .slice none 0 0, .slice none 0 0] s p :=
    ⟨f6, ((R.fr (n1.fr []) (by simp)).fr (n3.fr []) (by simp)).fr (n5.fr []) (by simp), ⟨(n1.blk.fr (n3.fr []) (by simp)).fr (n5.fr []) (by simp), by omega⟩, n3.blk.fr (n5.fr []) (by simp), n5.blk, by omega⟩
  refine ⟨_, E0.C.hd.cell rfl, name_x E0.R hs (h.from E0.f) fun x1 q1 wA1 RA1 fA1 ⟨_, h⟩ => ?_⟩
  have EA1 := E0.call RA1 fA1
  refine ⟨EA1.M.may (by simp), fun wB10 sB10 => ?_⟩
  have gB10 := EA1.g sB10
  have EB10 : Env5 w wB10 rb b1 b3 b5 [.string (ByteArray.mk #[]), .bool false, .bool false, .int .i64 0, .slice none 0 0, .slice none 0 0, .slice none 0 0, .slice none 0 0] [.string x1, .bool false, .bool false, .int .i64 0, .slice none 0 0, .slice none 0 0, .slice none 0 0, .slice none 0 0] s q1 := EA1.set sB10
  refine ⟨_, EB10.C.hd.cell rfl, rang_x EB10.R hs (h.from EB10.f) fun x2 q2 wA2 RA2 fA2 ⟨_, h⟩ => ?_⟩
  have EA2 := EB10.call RA2 fA2
  refine ⟨EA2.M.may (by simp), fun wB20 sB20 => ?_⟩
  have gB20 := EA2.g sB20
  have EB20 : Env5 w wB20 rb b1 b3 b5 [.string (ByteArray.mk #[]), .bool false, .bool false, .int .i64 0, .slice none 0 0, .slice none 0 0, .slice none 0 0, .slice none 0 0] [.string x1, .bool (decide (bits .and .i64 x2 1 = 1)), .bool false, .int .i64 0, .slice none 0 0, .slice none 0 0, .slice none 0 0, .slice none 0 0] s q2 := EA2.set sB20
  refine ⟨EB20.M.may (by simp), fun wB21 sB21 => ?_⟩
  have gB21 := EB20.g sB21
  have EB21 : Env5 w wB21 rb b1 b3 b5 [.string (ByteArray.mk #[]), .bool false, .bool false, .int .i64 0, .slice none 0 0, .slice none 0 0, .slice none 0 0, .slice none 0 0] [.string x1, .bool (decide (bits .and .i64 x2 1 = 1)), .bool (decide (bits .and .i64 x2 2 = 2)), .int .i64 0, .slice none 0 0, .slice none 0 0, .slice none 0 0, .slice none 0 0] s q2 := EB20.set sB21
  refine ⟨_, EB21.C.hd.cell rfl, num_x EB21.R hs (h.from EB21.f) fun x3 q3 wA3 RA3 fA3 ⟨_, h⟩ => ?_⟩
  have EA3 := EB21.call RA3 fA3
  refine ⟨EA3.M.may (by simp), fun wB30 sB30 => ?_⟩
  have gB30 := EA3.g sB30
  have EB30 : Env5 w wB30 rb b1 b3 b5 [.string (ByteArray.mk #[]), .bool false, .bool false, .int .i64 0, .slice none 0 0, .slice none 0 0, .slice none 0 0, .slice none 0 0] [.string x1, .bool (decide (bits .and .i64 x2 1 = 1)), .bool (decide (bits .and .i64 x2 2 = 2)), .int .i64 x3, .slice none 0 0, .slice none 0 0, .slice none 0 0, .slice none 0 0] s q3 := EA3.set sB30
  refine ⟨_, EB30.C.hd.cell rfl, _, EB30.C.hd.cell rfl, ints_x EB30.R hs (by decide) (h.from EB30.f) fun x4 q4 a4 c4 wA4 RA4 fA4 ⟨_, h⟩ L4 => ?_⟩
  have EA4 := EB30.call RA4 fA4
  refine ⟨EA4.M.may (by simp), fun wB40 sB40 => ?_⟩
  have gB40 := EA4.g sB40
  have EB40 : Env5 w wB40 rb b1 b3 b5 [.string (ByteArray.mk #[]), .bool false, .bool false, .int .i64 0, .slice none 0 0, .slice none 0 0, .slice none 0 0, .slice none 0 0] [.string x1, .bool (decide (bits .and .i64 x2 1 = 1)), .bool (decide (bits .and .i64 x2 2 = 2)), .int .i64 x3, .slice a4 x4.length c4, .slice none 0 0, .slice none 0 0, .slice none 0 0] s q4 := EA4.set sB40
  refine ⟨_, EB40.C.hd.cell rfl, flds_x EB40.C EB40.R hs (by decide) (h.from EB40.f) fun x5 q5 a5 c5 wA5 RA5 fA5 ⟨_, h⟩ L5 => ?_⟩
  have EA5 := EB40.call RA5 fA5
  refine ⟨EA5.M.may (by simp), fun wB50 sB50 => ?_⟩
  have gB50 := EA5.g sB50
  have EB50 : Env5 w wB50 rb b1 b3 b5 [.string (ByteArray.mk #[]), .bool false, .bool false, .int .i64 0, .slice none 0 0, .slice none 0 0, .slice none 0 0, .slice none 0 0] [.string x1, .bool (decide (bits .and .i64 x2 1 = 1)), .bool (decide (bits .and .i64 x2 2 = 2)), .int .i64 x3, .slice a4 x4.length c4, .slice a5 x5.length c5, .slice none 0 0, .slice none 0 0] s q5 := EA5.set sB50
  refine ⟨_, EB50.C.hd.cell rfl, flds_x EB50.C EB50.R hs (by decide) (h.from EB50.f) fun x6 q6 a6 c6 wA6 RA6 fA6 ⟨_, h⟩ L6 => ?_⟩
  have EA6 := EB50.call RA6 fA6
  refine ⟨EA6.M.may (by simp), fun wB60 sB60 => ?_⟩
  have gB60 := EA6.g sB60
  have EB60 : Env5 w wB60 rb b1 b3 b5 [.string (ByteArray.mk #[]), .bool false, .bool false, .int .i64 0, .slice none 0 0, .slice none 0 0, .slice none 0 0, .slice none 0 0] [.string x1, .bool (decide (bits .and .i64 x2 1 = 1)), .bool (decide (bits .and .i64 x2 2 = 2)), .int .i64 x3, .slice a4 x4.length c4, .slice a5 x5.length c5, .slice a6 x6.length c6, .slice none 0 0] s q6 := EA6.set sB60
  refine ⟨_, EB60.C.hd.cell rfl, _, EB60.C.hd.cell rfl, mths_x EB60.R hs (by decide) (h.from EB60.f) fun x7 q7 a7 c7 wA7 RA7 fA7 ⟨_, h⟩ L7 => ?_⟩
  have EA7 := EB60.call RA7 fA7
  refine ⟨EA7.M.may (by simp), fun wB70 sB70 => ?_⟩
  have gB70 := EA7.g sB70
  have EB70 : Env5 w wB70 rb b1 b3 b5 [.string (ByteArray.mk #[]), .bool false, .bool false, .int .i64 0, .slice none 0 0, .slice none 0 0, .slice none 0 0, .slice none 0 0] [.string x1, .bool (decide (bits .and .i64 x2 1 = 1)), .bool (decide (bits .and .i64 x2 2 = 2)), .int .i64 x3, .slice a4 x4.length c4, .slice a5 x5.length c5, .slice a6 x6.length c6, .slice a7 x7.length c7] s q7 := EA7.set sB70
  refine ⟨_, _, _, _, _, _, _, _, _, _, _, _, _, _, _, _, EB70.M.cells, EB70.Z.mayL (by simp), fun wZ sZ => ?_⟩
  obtain ⟨BZ, fZ⟩ := setAll sZ EB70.Z rfl
  have d := EB70.d
  have RZ := EB70.R.fr fZ (by simp; omega)
  have fZ' : Fr [rb] w wZ := EB70.f.trans fZ (by simp; omega)
  have G8 : Fr [rb, b3, b5] wB70 wZ := fZ.mono (by simp)
  have G7 := (gB70.more G8)
  have G6 := (gB60.more ((gcall fA7).more G7))
  have G5 := (gB50.more ((gcall fA6).more G6))
  have G4 := (gB40.more ((gcall fA5).more G5))
  have G3 := (gB30.more ((gcall fA4).more G4))
  have G2 := (gB20.more (gB21.more ((gcall fA3).more G3)))
  have G1 := (gB10.more ((gcall fA2).more G2))
  exact ⟨_, _, _, _, _, _, _, _, _, _, _, _, _, _, _, _, BZ.cells, hK ⟨x1, decide (bits .and .i64 x2 1 = 1), decide (bits .and .i64 x2 2 = 2), x3, x4, x5, x6, x7⟩ _ _ _ _ _ _ _ _ _ _ _ _ _ _ RZ fZ' (h.ret RZ fZ') ⟨_, _, _, _, _, _, _, _, _, _, _, _, rfl, EB30.keep (R := fun _ _ _ vs x => RInt vs x) rel_plain L4 G4, EB40.keep (R := fun _ _ _ vs x => RFld vs x) rel_plain L5 G5, EB50.keep (R := fun _ _ _ vs x => RFld vs x) rel_plain L6 G6, EB60.keep rel_mth L7 G7⟩⟩

theorem clss_x {most : Int} {k : List Cls → Int → World → Prop} {K : Option Addr → Nat → Nat → World → Prop} (R : RdW w rb s p) (hs : s.size ≤ 32768) (hmost : most ≤ 1000) (h : Out X rb s (listD s most (clsD s) p) w k)
    (hK : ∀ xs q a c w', RdW w' rb s q → Fr [rb] w w' → k xs q w' → rSeq (fun b => w.heap.size ≤ b) True w' 8 (RCls (fun b => w.heap.size ≤ b) True w') a xs.length xs → K a xs.length c w') : CX48 X (some ⟨rb, 0, none⟩) most (.func (.func 49) #[.pointer (some ⟨rb, 0, none⟩)] #[]) w K := by
  refine r_f48 _ _ _ _ _ _ (list_head R hs h fun n q w1 R1 f1 h0 h1 h => ?_)
  refine list_loop (R := RCls) rel_cls (kk := 8) (by decide) (t := 52) (e := 75) (T := 75) (i := Try.t75) (by kernel_rfl) (by kernel_rfl) rfl rfl rfl (by decide) (fun w F => CX49 X (some ⟨rb, 0, none⟩) w fun s b1 b2 n1 a1 l1 c1 a2 l2 c2 a3 l3 c3 a4 l4 c4 w2 => F [.string s, .bool b1, .bool b2, .int .i64 n1, .slice a1 l1 c1, .slice a2 l2 c2, .slice a3 l3 c3, .slice a4 l4 c4] w2) ?_ h0 (by omega) R1 h ?_
  · intro w2 p2 k2 F f2 R2 h2 hF
    exact cls_x R2 hs h2 fun x q w3 a1 l1 c1 a2 l2 c2 a3 l3 c3 a4 l4 c4 R3 f3 g hx => hF x q _ w3 R3 f3 hx rfl (by simp [isCell]) g
  · intro xs q' a c w' R' f' hk hr
    exact hK xs q' a c w' R' (f1.more f') hk (rel_seq rel_cls hr (sameU_refl _ _) (Nat.le_refl _) fun b hb _ => Nat.le_trans f1.size hb)

end
end Go.Proofs.Ytmlhdmnnijapjaa.V
