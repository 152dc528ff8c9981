/- The document's reader: methods, classes. No condition. -/
import Derived.Test.YtmlhdmnnijapjaaClassI
namespace Go.Proofs.Ytmlhdmnnijapjaa.V
open Go Go.RowKit Go.Proofs.Ytmlhdmnnijapjaa.WirePlain

section
variable {rb : Nat} {s : ByteArray} {w w' : World} {st : St} {α : Type}

theorem Stp.ok_of {f : Int → Rs α} {x : α} {q : Int} (h : Stp f st x (.ok q)) : ∃ p, st = .ok p := by
  cases st with
  | ok p => exact ⟨p, rfl⟩
  | error e => unfold Stp at h; cases h

theorem Stp.err {f : Int → Rs α} {x : α} {e : Int × Int} (h : Stp f st x (.error e)) (y : α) : Stp f st y (.error e) := by
  cases st with
  | error e' => exact h
  | ok p =>
    rcases h.ok_iff with ⟨q, _, h2⟩ | ⟨e', h1, h2⟩
    · cases h2
    · cases h2; unfold Stp; simp only [h1]

theorem flag_bits {x : Int} (h0 : 0 ≤ x) (h1 : x ≤ 3) : decide (Int.tmod x 2 = 1) = decide (bits .and .i64 x 1 = 1) ∧ decide (2 ≤ x) = decide (bits .and .i64 x 2 = 2) := by
  have : x = 0 ∨ x = 1 ∨ x = 2 ∨ x = 3 := by omega
  rcases this with rfl | rfl | rfl | rfl <;> decide +kernel

theorem Stp.rang {most n : Int} {st1 : St} (h : Stp (cntD s most 1402) st n st1) : Stp (rangD s 0 most) st n st1 := h.of_eq fun p => (rangD_cnt s most p).symm

theorem rmth_c {K : ByteArray → Bool → Option Addr → Nat → Nat → Int → Int → Int → Option Addr → Nat → Nat → Option Addr → Nat → Nat → Option Addr → Nat → Nat → World → Prop} (R : RefW w rb s st) (hs : s.size ≤ 32768)
    (hK : ∀ x st' w' a1 l1 c1 a2 l2 c2 a3 l3 c3 a4 l4 c4, Stp (mthD s) st x st' → RefW w' rb s st' → Fr [rb] w w' → (∀ q, st' = .ok q → RMth (fun b => w.heap.size ≤ b) True w' [.string x.name, .bool x.stat, .slice a1 l1 c1, .int .i64 x.ret, .int .i64 x.locs, .int .i64 x.stk, .slice a2 l2 c2, .slice a3 l3 c3, .slice a4 l4 c4] x) → K x.name x.stat a1 l1 c1 x.ret x.locs x.stk a2 l2 c2 a3 l3 c3 a4 l4 c4 w') : C79 (some ⟨rb, 0, none⟩) w K := by
  refine r_f79 _ _ _ fun b1 w2 n1 b3 w4 n3 => ?_
  have lr := R.lt
  have g1 := n1.ge
  have g3 : w2.heap.size ≤ b3 := n3.ge
  have l1 := n1.blk.lt
  have f4 : Fr [rb] w w4 := (n1.fr _).more (n3.fr _)
  have E0 : EnvR w w4 rb b1 b3 [.string (ByteArray.mk #[]), .bool false, .slice none 0 0, .int .i64 0, .int .i64 0, .int .i64 0, .slice none 0 0, .slice none 0 0, .slice none 0 0] [.string (ByteArray.mk #[]), .bool false, .slice none 0 0, .int .i64 0, .int .i64 0, .int .i64 0, .slice none 0 0, .slice none 0 0, .slice none 0 0] s st := ⟨f4, (R.fr (n1.fr []) (by simp)).fr (n3.fr []) (by simp), n1.blk.fr (n3.fr []) (by simp), n3.blk, by omega⟩
  refine rname_c E0.R hs fun x1 st1 wA1 S1 RA1 fA1 => ?_
  have EA1 := E0.call RA1 fA1
  refine rcnt_c EA1.R hs (by decide) fun x2 st2 wA2 S2 hn2 RA2 fA2 => ?_
  have EA2 := EA1.call RA2 fA2
  refine ⟨EA2.M.may (by simp), fun wB20 sB20 => ?_⟩
  have gB20 := EA2.g sB20
  have EB20 : EnvR w wB20 rb b1 b3 [.string (ByteArray.mk #[]), .bool false, .slice none 0 0, .int .i64 0, .int .i64 0, .int .i64 0, .slice none 0 0, .slice none 0 0, .slice none 0 0] [.string x1, .bool false, .slice none 0 0, .int .i64 0, .int .i64 0, .int .i64 0, .slice none 0 0, .slice none 0 0, .slice none 0 0] s st2 := EA2.set sB20
  refine ⟨EB20.M.may (by simp), fun wB21 sB21 => ?_⟩
  have gB21 := EB20.g sB21
  have EB21 : EnvR w wB21 rb b1 b3 [.string (ByteArray.mk #[]), .bool false, .slice none 0 0, .int .i64 0, .int .i64 0, .int .i64 0, .slice none 0 0, .slice none 0 0, .slice none 0 0] [.string x1, .bool (decide (x2 = 1)), .slice none 0 0, .int .i64 0, .int .i64 0, .int .i64 0, .slice none 0 0, .slice none 0 0, .slice none 0 0] s st2 := EB20.set sB21
  refine rints_c EB21.R hs (by decide) fun x3 st3 a3 l3 c3 wA3 S3 RA3 fA3 L3 => ?_
  have EA3 := EB21.call RA3 fA3
  refine ⟨EA3.M.may (by simp), fun wB30 sB30 => ?_⟩
  have gB30 := EA3.g sB30
  have EB30 : EnvR w wB30 rb b1 b3 [.string (ByteArray.mk #[]), .bool false, .slice none 0 0, .int .i64 0, .int .i64 0, .int .i64 0, .slice none 0 0, .slice none 0 0, .slice none 0 0] [.string x1, .bool (decide (x2 = 1)), .slice a3 l3 c3, .int .i64 0, .int .i64 0, .int .i64 0, .slice none 0 0, .slice none 0 0, .slice none 0 0] s st3 := EA3.set sB30
  refine rnum_c EB30.R hs fun x4 st4 wA4 S4 RA4 fA4 => ?_
  have EA4 := EB30.call RA4 fA4
  refine ⟨EA4.M.may (by simp), fun wB40 sB40 => ?_⟩
  have gB40 := EA4.g sB40
  have EB40 : EnvR w wB40 rb b1 b3 [.string (ByteArray.mk #[]), .bool false, .slice none 0 0, .int .i64 0, .int .i64 0, .int .i64 0, .slice none 0 0, .slice none 0 0, .slice none 0 0] [.string x1, .bool (decide (x2 = 1)), .slice a3 l3 c3, .int .i64 x4, .int .i64 0, .int .i64 0, .slice none 0 0, .slice none 0 0, .slice none 0 0] s st4 := EA4.set sB40
  refine rcnt_c EB40.R hs (by decide) fun x5 st5 wA5 S5 hn5 RA5 fA5 => ?_
  have EA5 := EB40.call RA5 fA5
  refine ⟨EA5.M.may (by simp), fun wB50 sB50 => ?_⟩
  have gB50 := EA5.g sB50
  have EB50 : EnvR w wB50 rb b1 b3 [.string (ByteArray.mk #[]), .bool false, .slice none 0 0, .int .i64 0, .int .i64 0, .int .i64 0, .slice none 0 0, .slice none 0 0, .slice none 0 0] [.string x1, .bool (decide (x2 = 1)), .slice a3 l3 c3, .int .i64 x4, .int .i64 x5, .int .i64 0, .slice none 0 0, .slice none 0 0, .slice none 0 0] s st5 := EA5.set sB50
  refine rcnt_c EB50.R hs (by decide) fun x6 st6 wA6 S6 hn6 RA6 fA6 => ?_
  have EA6 := EB50.call RA6 fA6
  refine ⟨EA6.M.may (by simp), fun wB60 sB60 => ?_⟩
  have gB60 := EA6.g sB60
  have EB60 : EnvR w wB60 rb b1 b3 [.string (ByteArray.mk #[]), .bool false, .slice none 0 0, .int .i64 0, .int .i64 0, .int .i64 0, .slice none 0 0, .slice none 0 0, .slice none 0 0] [.string x1, .bool (decide (x2 = 1)), .slice a3 l3 c3, .int .i64 x4, .int .i64 x5, .int .i64 x6, .slice none 0 0, .slice none 0 0, .slice none 0 0] s st6 := EA6.set sB60
  refine rinss_c EB60.R hs fun x7 st7 a7 l7 c7 wA7 S7 RA7 fA7 L7 => ?_
  have EA7 := EB60.call RA7 fA7
  refine ⟨EA7.M.may (by simp), fun wB70 sB70 => ?_⟩
  have gB70 := EA7.g sB70
  have EB70 : EnvR w wB70 rb b1 b3 [.string (ByteArray.mk #[]), .bool false, .slice none 0 0, .int .i64 0, .int .i64 0, .int .i64 0, .slice none 0 0, .slice none 0 0, .slice none 0 0] [.string x1, .bool (decide (x2 = 1)), .slice a3 l3 c3, .int .i64 x4, .int .i64 x5, .int .i64 x6, .slice a7 l7 c7, .slice none 0 0, .slice none 0 0] s st7 := EA7.set sB70
  refine rcnt_c EB70.R hs (by decide) fun n8 sc8 wA8 SC8 hn8 RA8 fA8 => ?_
  have EA8 := EB70.call RA8 fA8
  refine ⟨fun w9 => ∃ xs st9 a l c, Stp (fun q => repD (hndD s) n8.toNat q) sc8 xs st9 ∧ EnvR w w9 rb b1 b3 [.string (ByteArray.mk #[]), .bool false, .slice none 0 0, .int .i64 0, .int .i64 0, .int .i64 0, .slice none 0 0, .slice none 0 0, .slice none 0 0] [.string x1, .bool (decide (x2 = 1)), .slice a3 l3 c3, .int .i64 x4, .int .i64 x5, .int .i64 x6, .slice a7 l7 c7, .slice a l c, .slice none 0 0] s st9 ∧ Fr [rb, b1, b3] wA8 w9 ∧ (∀ q, st9 = .ok q → l = xs.length ∧ rSeq (fun b => wA8.heap.size ≤ b) True w9 4 ((fun _ _ _ vs x => RHnd vs x) (fun b => wA8.heap.size ≤ b) True w9) a l xs),
    loopB (R := (fun _ _ _ vs x => RHnd vs x)) rel_plain (one := hndD s) (kk := 4) (by decide) (t := 79) (e := 91) (T := 91) (ti := Try.t91) (by kernel_rfl) (by kernel_rfl) rfl rfl rfl (by decide) (j := 7)
    (fun w J => C51 (some ⟨rb, 0, none⟩) w fun a w2 => C51 (some ⟨rb, 0, none⟩) w2 fun b w3 => C51 (some ⟨rb, 0, none⟩) w3 fun c w4 => C51 (some ⟨rb, 0, none⟩) w4 fun d w5 => App7 b3 7 79 [.int .i64 a, .int .i64 b, .int .i64 c, .int .i64 d] w5 91 J)
    EA8 rfl
    (fun w p cs J E hz hF => rnum_c E.R hs fun x sx w2 Sx Rx fx => rnum_c Rx hs fun y sy w3 Sy Ry fy => rnum_c Ry hs fun z sz w4 Sz Rz fz => rnum_c Rz hs fun u su w5 Su Ru fu => hF ⟨x, y, z, u⟩ su _ w5 (Sx.bind (Sy.bind (Sz.bind (Su.bind (Stp.ret _ _))))) (E.call Ru (((fx.more fy).more fz).more fu)) (((fx.more fy).more fz).more fu) (fun _ _ => rfl) rfl (by simp [isCell])) (fun q hq => by have := hn8 q hq; omega) fun xs st' a l c w' hS hE hf hL => ⟨xs, st', a, l, c, hS, hE, hf, hL⟩, ?_⟩
  rintro - wL8 ⟨x8, st8, a8, l8, c8, SL8, EL8, fL8, L8⟩
  have S8 := SC8.list SL8
  refine rcnt_c EL8.R hs (by decide) fun n9 sc9 wA9 SC9 hn9 RA9 fA9 => ?_
  have EA9 := EL8.call RA9 fA9
  refine loopB (R := RMpe) rel_mpe (one := mpeD s) (kk := 3) (by decide) (t := 80) (e := 89) (T := 89) (ti := Try.t89) (by kernel_rfl) (by kernel_rfl) rfl rfl rfl (by decide) (j := 8)
    (fun w J => C51 (some ⟨rb, 0, none⟩) w fun a w2 => C77 (some ⟨rb, 0, none⟩) 24 w2 fun a1 l1 c1 w3 => C77 (some ⟨rb, 0, none⟩) 24 w3 fun a2 l2 c2 w4 => App7 b3 8 80 [.int .i64 a, .slice a1 l1 c1, .slice a2 l2 c2] w4 89 J)
    EA9 rfl
    (fun w p cs J E hz hF => rnum_c E.R hs fun x sx w2 Sx Rx fx => rints_c Rx hs (by decide) fun ys sy a1 l1 c1 w3 Sy Ry fy L1 => rints_c Ry hs (by decide) fun zs sz a2 l2 c2 w4 Sz Rz fz L2 => hF ⟨x, ys, zs⟩ sz _ w4 (Sx.bind (Sy.bind (Sz.bind (Stp.ret _ _)))) (E.call Rz ((fx.more fy).more fz)) ((fx.more fy).more fz) (fun q hq => by
      subst hq
      obtain ⟨qy, rfl⟩ := Sz.ok_of
      have lr := E.R.lt
      have z1 := fx.size
      have z2 := fy.size
      exact ⟨a1, l1, c1, a2, l2, c2, rfl, rel_seq1 (L1 _ rfl).2 (SameU.of_fr fz fun b hb hm => by simp at hm; omega) fz.size fun b hb _ => by omega, rel_seq1 (L2 _ rfl).2 (sameU_refl _ _) (Nat.le_refl _) fun b hb _ => by omega⟩) rfl (by simp [isCell])) (fun q hq => by have := hn9 q hq; omega) fun x9 st9 a9 l9 c9 wL9 SL9 EL9 fL9 L9 => ?_
  have EL9 : EnvR w wL9 rb b1 b3 [.string (ByteArray.mk #[]), .bool false, .slice none 0 0, .int .i64 0, .int .i64 0, .int .i64 0, .slice none 0 0, .slice none 0 0, .slice none 0 0] [.string x1, .bool (decide (x2 = 1)), .slice a3 l3 c3, .int .i64 x4, .int .i64 x5, .int .i64 x6, .slice a7 l7 c7, .slice a8 l8 c8, .slice a9 l9 c9] s st9 := EL9
  have S9 := SC9.list SL9
  refine ⟨_, _, _, _, _, _, _, _, _, _, _, _, _, _, _, _, _, EL9.M.cells, EL9.Z.mayL (by simp), fun wZ sZ => ?_⟩
  obtain ⟨BZ, fZ⟩ := setAll sZ EL9.Z rfl
  have d := EL9.d
  have RZ := EL9.R.fr fZ (by simp; omega)
  have fZ' : Fr [rb] w wZ := EL9.f.trans fZ (by simp; omega)
  have G10 : Fr [rb, b1, b3] _ wZ := fZ.mono (by simp)
  have G9 := G10
  have G8 := ((rcall fA9).more (fL9.more G9))
  have G7 := (gB70.more ((rcall fA8).more (fL8.more G8)))
  have G6 := (gB60.more ((rcall fA7).more G7))
  have G5 := (gB50.more ((rcall fA6).more G6))
  have G4 := (gB40.more ((rcall fA5).more G5))
  have G3 := (gB30.more ((rcall fA4).more G4))
  have G2 := (gB20.more (gB21.more ((rcall fA3).more G3)))
  have G1 := ((rcall fA2).more G2)
  have SZ : Stp (mthD s) st ⟨x1, decide (x2 = 1), x3, x4, x5, x6, x7, x8, x9⟩ st9 := (S1.bind (S2.rang.bind (S3.bind (S4.bind (S5.rang.bind (S6.rang.bind (S7.bind (S8.bind (S9.bind (Stp.ret _ _))))))))))
  refine ⟨_, _, _, _, _, _, _, _, _, _, _, _, _, _, _, _, _, BZ.cells, hK ⟨x1, decide (x2 = 1), x3, x4, x5, x6, x7, x8, x9⟩ _ _ _ _ _ _ _ _ _ _ _ _ _ _ SZ RZ fZ' ?_⟩
  rintro q9 rfl
  obtain ⟨q8, rfl⟩ := S9.ok_of
  obtain ⟨q7, rfl⟩ := S8.ok_of
  obtain ⟨q6, rfl⟩ := S7.ok_of
  obtain ⟨q5, rfl⟩ := S6.ok_of
  obtain ⟨q4, rfl⟩ := S5.ok_of
  obtain ⟨q3, rfl⟩ := S4.ok_of
  obtain ⟨q2, rfl⟩ := S3.ok_of
  obtain ⟨q1, rfl⟩ := S2.ok_of
  exact ⟨_, _, _, _, _, _, _, _, _, _, _, _, rfl, EB21.keep (R := fun _ _ _ vs x => RInt vs x) rel_plain (L3 _ rfl).2 G3, EB60.keep (R := fun _ _ _ vs x => RIns vs x) rel_plain (L7 _ rfl).2 G7, EA8.keep (R := fun _ _ _ vs x => RHnd vs x) rel_plain (L8 _ rfl).2 G8, EA9.keep rel_mpe (L9 _ rfl).2 G9⟩

theorem rcls_c {K : ByteArray → Bool → Bool → Int → Option Addr → Nat → Nat → Option Addr → Nat → Nat → Option Addr → Nat → Nat → Option Addr → Nat → Nat → World → Prop} (R : RefW w rb s st) (hs : s.size ≤ 32768)
    (hK : ∀ x st' w' a1 l1 c1 a2 l2 c2 a3 l3 c3 a4 l4 c4, Stp (clsD s) st x st' → RefW w' rb s st' → Fr [rb] w w' → (∀ q, st' = .ok q → RCls (fun b => w.heap.size ≤ b) True w' [.string x.name, .bool x.face, .bool x.fin, .int .i64 x.sup, .slice a1 l1 c1, .slice a2 l2 c2, .slice a3 l3 c3, .slice a4 l4 c4] x) → K x.name x.face x.fin x.sup a1 l1 c1 a2 l2 c2 a3 l3 c3 a4 l4 c4 w') : C53 (some ⟨rb, 0, none⟩) w K := by
  refine r_f53 _ _ _ fun b1 w2 n1 b3 w4 n3 => ?_
  have lr := R.lt
  have g1 := n1.ge
  have g3 : w2.heap.size ≤ b3 := n3.ge
  have l1 := n1.blk.lt
  have f4 : Fr [rb] w w4 := (n1.fr _).more (n3.fr _)
  have E0 : EnvR w w4 rb b1 b3 [.string (ByteArray.mk #[]), .bool false, .bool false, .int .i64 0, .slice none 0 0, .slice none 0 0, .slice none 0 0, .slice none 0 0] [.string (ByteArray.mk #[]), .bool false, .bool false, .int .i64 0, .slice none 0 0, .slice none 0 0, .slice none 0 0, .slice none 0 0] s st := ⟨f4, (R.fr (n1.fr []) (by simp)).fr (n3.fr []) (by simp), n1.blk.fr (n3.fr []) (by simp), n3.blk, by omega⟩
  refine rname_c E0.R hs fun x1 st1 wA1 S1 RA1 fA1 => ?_
  have EA1 := E0.call RA1 fA1
  refine rcnt_c EA1.R hs (by decide) fun x2 st2 wA2 S2 hn2 RA2 fA2 => ?_
  have EA2 := EA1.call RA2 fA2
  refine ⟨EA2.M.may (by simp), fun wB20 sB20 => ?_⟩
  have gB20 := EA2.g sB20
  have EB20 : EnvR w wB20 rb b1 b3 [.string (ByteArray.mk #[]), .bool false, .bool false, .int .i64 0, .slice none 0 0, .slice none 0 0, .slice none 0 0, .slice none 0 0] [.string x1, .bool false, .bool false, .int .i64 0, .slice none 0 0, .slice none 0 0, .slice none 0 0, .slice none 0 0] s st2 := EA2.set sB20
  refine ⟨by decide, EB20.M.may (by simp), fun wB21 sB21 => ?_⟩
  have gB21 := EB20.g sB21
  have EB21 : EnvR w wB21 rb b1 b3 [.string (ByteArray.mk #[]), .bool false, .bool false, .int .i64 0, .slice none 0 0, .slice none 0 0, .slice none 0 0, .slice none 0 0] [.string x1, .bool (decide (Int.tmod x2 2 = 1)), .bool false, .int .i64 0, .slice none 0 0, .slice none 0 0, .slice none 0 0, .slice none 0 0] s st2 := EB20.set sB21
  refine ⟨EB21.M.may (by simp), fun wB22 sB22 => ?_⟩
  have gB22 := EB21.g sB22
  have EB22 : EnvR w wB22 rb b1 b3 [.string (ByteArray.mk #[]), .bool false, .bool false, .int .i64 0, .slice none 0 0, .slice none 0 0, .slice none 0 0, .slice none 0 0] [.string x1, .bool (decide (Int.tmod x2 2 = 1)), .bool (decide (2 ≤ x2)), .int .i64 0, .slice none 0 0, .slice none 0 0, .slice none 0 0, .slice none 0 0] s st2 := EB21.set sB22
  refine rnum_c EB22.R hs fun x3 st3 wA3 S3 RA3 fA3 => ?_
  have EA3 := EB22.call RA3 fA3
  refine ⟨EA3.M.may (by simp), fun wB30 sB30 => ?_⟩
  have gB30 := EA3.g sB30
  have EB30 : EnvR w wB30 rb b1 b3 [.string (ByteArray.mk #[]), .bool false, .bool false, .int .i64 0, .slice none 0 0, .slice none 0 0, .slice none 0 0, .slice none 0 0] [.string x1, .bool (decide (Int.tmod x2 2 = 1)), .bool (decide (2 ≤ x2)), .int .i64 x3, .slice none 0 0, .slice none 0 0, .slice none 0 0, .slice none 0 0] s st3 := EA3.set sB30
  refine rints_c EB30.R hs (by decide) fun x4 st4 a4 l4 c4 wA4 S4 RA4 fA4 L4 => ?_
  have EA4 := EB30.call RA4 fA4
  refine ⟨EA4.M.may (by simp), fun wB40 sB40 => ?_⟩
  have gB40 := EA4.g sB40
  have EB40 : EnvR w wB40 rb b1 b3 [.string (ByteArray.mk #[]), .bool false, .bool false, .int .i64 0, .slice none 0 0, .slice none 0 0, .slice none 0 0, .slice none 0 0] [.string x1, .bool (decide (Int.tmod x2 2 = 1)), .bool (decide (2 ≤ x2)), .int .i64 x3, .slice a4 l4 c4, .slice none 0 0, .slice none 0 0, .slice none 0 0] s st4 := EA4.set sB40
  refine rflds_c EB40.R hs fun x5 st5 a5 l5 c5 wA5 S5 RA5 fA5 L5 => ?_
  have EA5 := EB40.call RA5 fA5
  refine ⟨EA5.M.may (by simp), fun wB50 sB50 => ?_⟩
  have gB50 := EA5.g sB50
  have EB50 : EnvR w wB50 rb b1 b3 [.string (ByteArray.mk #[]), .bool false, .bool false, .int .i64 0, .slice none 0 0, .slice none 0 0, .slice none 0 0, .slice none 0 0] [.string x1, .bool (decide (Int.tmod x2 2 = 1)), .bool (decide (2 ≤ x2)), .int .i64 x3, .slice a4 l4 c4, .slice a5 l5 c5, .slice none 0 0, .slice none 0 0] s st5 := EA5.set sB50
  refine rflds_c EB50.R hs fun x6 st6 a6 l6 c6 wA6 S6 RA6 fA6 L6 => ?_
  have EA6 := EB50.call RA6 fA6
  refine ⟨EA6.M.may (by simp), fun wB60 sB60 => ?_⟩
  have gB60 := EA6.g sB60
  have EB60 : EnvR w wB60 rb b1 b3 [.string (ByteArray.mk #[]), .bool false, .bool false, .int .i64 0, .slice none 0 0, .slice none 0 0, .slice none 0 0, .slice none 0 0] [.string x1, .bool (decide (Int.tmod x2 2 = 1)), .bool (decide (2 ≤ x2)), .int .i64 x3, .slice a4 l4 c4, .slice a5 l5 c5, .slice a6 l6 c6, .slice none 0 0] s st6 := EA6.set sB60
  refine rcnt_c EB60.R hs (by decide) fun n7 sc7 wA7 SC7 hn7 RA7 fA7 => ?_
  have EA7 := EB60.call RA7 fA7
  refine loopB (R := RMth) rel_mth (one := mthD s) (kk := 9) (by decide) (t := 73) (e := 82) (T := 82) (ti := Try.t82) (by kernel_rfl) (by kernel_rfl) rfl rfl rfl (by decide) (j := 7)
    (fun w J => C79 (some ⟨rb, 0, none⟩) w fun s b a1 l1 c1 n1 n2 n3 a2 l2 c2 a3 l3 c3 a4 l4 c4 w2 => ∀ (b4 : Nat) (w3 : World), NewAt w2 w3 b4 #[.string (ByteArray.mk #[]), .bool false, .slice none 0 0, .int .i64 0, .int .i64 0, .int .i64 0, .slice none 0 0, .slice none 0 0, .slice none 0 0] 82 → MayL w3 ⟨b4, 0, none⟩ 9 ∧ ∀ w4 : World, SetL w3 w4 ⟨b4, 0, none⟩ [.string s, .bool b, .slice a1 l1 c1, .int .i64 n1, .int .i64 n2, .int .i64 n3, .slice a2 l2 c2, .slice a3 l3 c3, .slice a4 l4 c4] →
      ∃ (a : Option Addr) (l c : Nat), World.cell? w4 ⟨b3, 7, none⟩ = some (.slice a l c) ∧ ∃ (s_ : ByteArray), ∃ (b_ : Bool), ∃ (a1_ : Option Addr) (l1_ c1_ : Nat), ∃ (n1_ : Int), ∃ (n2_ : Int), ∃ (n3_ : Int), ∃ (a2_ : Option Addr) (l2_ c2_ : Nat), ∃ (a3_ : Option Addr) (l3_ c3_ : Nat), ∃ (a4_ : Option Addr) (l4_ c4_ : Nat), CellsAt w4 ⟨b4, 0, none⟩ [.string s_, .bool b_, .slice a1_ l1_ c1_, .int .i64 n1_, .int .i64 n2_, .int .i64 n3_, .slice a2_ l2_ c2_, .slice a3_ l3_ c3_, .slice a4_ l4_ c4_] ∧
      ∀ (b5 : Nat) (w5 : World), NewAt w4 w5 b5 #[.string s_, .bool b_, .slice a1_ l1_ c1_, .int .i64 n1_, .int .i64 n2_, .int .i64 n3_, .slice a2_ l2_ c2_, .slice a3_ l3_ c3_, .slice a4_ l4_ c4_] 82 → RunF Try.prog (Builtin.append_ #[73, 73] 73 #[.slice a l c, .slice (some ⟨b5, 0, none⟩) 1 1]) w5 [.leaf .slice] fun (a' : Option Addr) (l' c' : Nat) (w6 : World) =>
      May w6 ⟨b3, 7, none⟩ ∧ ∀ w7 : World, SetC w6 w7 ⟨b3, 7, none⟩ (.slice a' l' c') → J w7)
    EA7 rfl
    (fun w p cs J E hz hF => rmth_c E.R hs fun x sx w2 a1 l1 c1 a2 l2 c2 a3 l3 c3 a4 l4 c4 Sx Rx fx hx => fun b4 w3 n4 => ⟨n4.blk.mayL (by simp), fun w4 s4 => by
      obtain ⟨N4, f4⟩ := newSet n4 s4 rfl
      have lz := (E.call Rx fx).lt
      have z1 := fx.size
      have R4 := Rx.fr (f4 []) (by simp)
      obtain ⟨a, l, c, hc, hA⟩ := hF x sx [.string x.name, .bool x.stat, .slice a1 l1 c1, .int .i64 x.ret, .int .i64 x.locs, .int .i64 x.stk, .slice a2 l2 c2, .slice a3 l3 c3, .slice a4 l4 c4] w4 Sx ((E.call Rx fx).call R4 (f4 _)) (fx.more (f4 _)) (fun q hq => rel_mth.mono (rel_mth.same (hx q hq) (SameU.of_fr (f4 []) (by simp)) (f4 []).size) fun b hb _ => hb) rfl (by simp [isCell])
      exact ⟨a, l, c, hc, _, _, _, _, _, _, _, _, _, _, _, _, _, _, _, _, _, N4.cells, hA⟩⟩) (fun q hq => by have := hn7 q hq; omega) fun x7 st7 a7 l7 c7 wL7 SL7 EL7 fL7 L7 => ?_
  have EL7 : EnvR w wL7 rb b1 b3 [.string (ByteArray.mk #[]), .bool false, .bool false, .int .i64 0, .slice none 0 0, .slice none 0 0, .slice none 0 0, .slice none 0 0] [.string x1, .bool (decide (Int.tmod x2 2 = 1)), .bool (decide (2 ≤ x2)), .int .i64 x3, .slice a4 l4 c4, .slice a5 l5 c5, .slice a6 l6 c6, .slice a7 l7 c7] s st7 := EL7
  have S7 := SC7.list SL7
  refine ⟨_, _, _, _, _, _, _, _, _, _, _, _, _, _, _, _, EL7.M.cells, EL7.Z.mayL (by simp), fun wZ sZ => ?_⟩
  obtain ⟨BZ, fZ⟩ := setAll sZ EL7.Z rfl
  have d := EL7.d
  have RZ := EL7.R.fr fZ (by simp; omega)
  have fZ' : Fr [rb] w wZ := EL7.f.trans fZ (by simp; omega)
  have G8 : Fr [rb, b1, b3] _ wZ := fZ.mono (by simp)
  have G7 := G8
  have G6 := (gB60.more ((rcall fA7).more (fL7.more G7)))
  have G5 := (gB50.more ((rcall fA6).more G6))
  have G4 := (gB40.more ((rcall fA5).more G5))
  have G3 := (gB30.more ((rcall fA4).more G4))
  have G2 := (gB20.more (gB21.more (gB22.more ((rcall fA3).more G3))))
  have G1 := ((rcall fA2).more G2)
  have SZ0 : Stp (clsD s) st ⟨x1, decide (bits .and .i64 x2 1 = 1), decide (bits .and .i64 x2 2 = 2), x3, x4, x5, x6, x7⟩ st7 := (S1.bind (S2.rang.bind (S3.bind (S4.bind (S5.bind (S6.bind (S7.bind (Stp.ret _ _))))))))
  have SZ : Stp (clsD s) st ⟨x1, decide (Int.tmod x2 2 = 1), decide (2 ≤ x2), x3, x4, x5, x6, x7⟩ st7 := by
    cases st7 with
    | error e => exact SZ0.err _
    | ok q7 =>
      obtain ⟨q6, rfl⟩ := S7.ok_of
      obtain ⟨q5, rfl⟩ := S6.ok_of
      obtain ⟨q4, rfl⟩ := S5.ok_of
      obtain ⟨q3, rfl⟩ := S4.ok_of
      obtain ⟨q2, rfl⟩ := S3.ok_of
      obtain ⟨e1, e2⟩ := flag_bits (hn2 q2 rfl).1 (hn2 q2 rfl).2
      rw [e1, e2]
      exact SZ0
  refine ⟨_, _, _, _, _, _, _, _, _, _, _, _, _, _, _, _, BZ.cells, hK ⟨x1, decide (Int.tmod x2 2 = 1), decide (2 ≤ x2), x3, x4, x5, x6, x7⟩ _ _ _ _ _ _ _ _ _ _ _ _ _ _ SZ RZ fZ' ?_⟩
  rintro q7 rfl
  obtain ⟨q6, rfl⟩ := S7.ok_of
  obtain ⟨q5, rfl⟩ := S6.ok_of
  obtain ⟨q4, rfl⟩ := S5.ok_of
  obtain ⟨q3, rfl⟩ := S4.ok_of
  obtain ⟨q2, rfl⟩ := S3.ok_of
  obtain ⟨q1, rfl⟩ := S2.ok_of
  exact ⟨_, _, _, _, _, _, _, _, _, _, _, _, rfl, EB30.keep (R := fun _ _ _ vs x => RInt vs x) rel_plain (L4 _ rfl).2 G4, EB40.keep (R := fun _ _ _ vs x => RFld vs x) rel_plain (L5 _ rfl).2 G5, EB50.keep (R := fun _ _ _ vs x => RFld vs x) rel_plain (L6 _ rfl).2 G6, EA7.keep rel_mth (L7 _ rfl).2 G7⟩

end
end Go.Proofs.Ytmlhdmnnijapjaa.V
