/- The document's Decode. No condition. -/
import Derived.Test.YtmlhdmnnijapjaaClassJ
namespace Go.Proofs.Ytmlhdmnnijapjaa.V
open Go Go.RowKit Go.Proofs.Ytmlhdmnnijapjaa.WirePlain

theorem decR_c (s : ByteArray) {w : World} {K : Int → Option Addr → Nat → Nat → Int → Int → World → Prop}
    (hK : ∀ w' m a l c, rPrg (fun b => w.heap.size ≤ b) True w' m a l (decP s).1 → Fr [] w w' → K m a l c (decP s).2.1 (decP s).2.2 w') : C30 s w K := by
  refine r_f30 _ _ _ fun b1 w2 n1 => ?_
  have g1 := n1.ge
  have early : ∀ c, decP s = (prg0, 0, c) → MayL w2 ⟨b1, 0, none⟩ 2 ∧ ∀ w3 : World, SetL w2 w3 ⟨b1, 0, none⟩ [.int .i64 0, .slice none 0 0] →
      ∃ (n4 : Int), ∃ (a5 : Option Addr) (l5 c5 : Nat), CellsAt w3 ⟨b1, 0, none⟩ [.int .i64 n4, .slice a5 l5 c5] ∧ K n4 a5 l5 c5 0 c w3 := by
    intro c hc
    refine ⟨n1.blk.mayL (by simp), fun w3 s3 => ?_⟩
    obtain ⟨N3, f3⟩ := newSet n1 s3 rfl
    have := hK w3 0 none 0 0
    rw [hc] at this
    exact ⟨_, _, _, _, N3.cells, this ⟨rfl, rSeq.nil⟩ (f3 [])⟩
  have dec0 : ∀ c, 32768 < s.size ∧ c = 1406 ∨ ¬ 32768 < s.size ∧ ¬ magicOK s ∧ c = 1400 → decP s = (prg0, 0, c) := by
    rintro c (⟨h1, rfl⟩ | ⟨h1, h2, rfl⟩)
    · unfold decP; rw [if_pos h1]
    · unfold decP; rw [if_neg h1, if_pos h2]
  refine IfB.dec (fun h => early 1406 (dec0 _ (.inl ⟨by omega, rfl⟩))) (fun hs0 => ?_)
  have hs : ¬ 32768 < s.size := by omega
  have hmg : nats (ByteArray.mk #[71, 78, 83, 83]) = [71, 78, 83, 83] := rfl
  refine ⟨fun w' => w' = w2 ∧ magicOK s, IfB.dec (fun h2 => early 1400 (dec0 _ (.inr ⟨hs, fun hm => by have := hm.1; omega, rfl⟩))) (fun h2 => ⟨⟨by omega, by omega⟩, ?_⟩), ?_⟩
  · have em : (!(ByteArray.toList (ByteArray.extract s 0 (Int.toNat 4)) == ByteArray.toList (ByteArray.mk #[71, 78, 83, 83]))) = !decide (magicOK s) := by
      rw [str_beq]
      congr 1
      rw [decide_eq_decide]
      unfold magicOK
      constructor
      · intro he
        refine ⟨by omega, ?_⟩
        have := congrArg nats he
        rw [nats_extract, hmg] at this
        simpa using this
      · rintro ⟨_, he⟩
        refine nats_inj ?_
        rw [nats_extract, hmg]
        simpa using he
    rw [em]
    exact IfB.nd (fun hm => ⟨rfl, hm⟩) (fun hm => early 1400 (dec0 _ (.inr ⟨hs, hm, rfl⟩)))
  rintro - w7 ⟨rfl, hm⟩ b14 w15 n14 b16 w17 n16
  have g14 : w7.heap.size ≤ b14 := n14.ge
  have g16 : w15.heap.size ≤ b16 := n16.ge
  have l1 := n1.blk.lt
  have l14 := n14.blk.lt
  have R0 : RefW w15 b14 s (.ok 4) := ⟨fun p hp => by cases hp; exact ⟨n14.blk, by decide, by have := hm.1; omega⟩, (fun _ h => by cases h)⟩
  have E0 : EnvR w w17 b14 b1 b16 [.int .i64 0, .slice none 0 0] [.int .i64 0, .slice none 0 0] s (.ok 4) :=
    ⟨((n1.fr _).more (n14.fr _)).more (n16.fr _), R0.fr (n16.fr []) (by simp), (n1.blk.fr (n14.fr []) (by simp)).fr (n16.fr []) (by simp), n16.blk, by have := (n1.fr []).size; omega⟩
  refine rnum_c E0.R (by omega) fun m st1 w19 S1 R19 f19 => ?_
  have E19 := E0.call R19 f19
  refine ⟨E19.M.may (by simp), fun w20 s20 => ?_⟩
  have E20 : EnvR w w20 b14 b1 b16 [.int .i64 0, .slice none 0 0] [.int .i64 m, .slice none 0 0] s st1 := E19.set s20
  refine rcnt_c E20.R (by omega) (by decide) fun n st2 w22 S2 hn R22 f22 => ?_
  have E22 := E20.call R22 f22
  refine ⟨fun w9 => ∃ xs st9 a l c, Stp (fun q => repD (clsD s) n.toNat q) st2 xs st9 ∧ EnvR w w9 b14 b1 b16 [.int .i64 0, .slice none 0 0] [.int .i64 m, .slice a l c] s st9 ∧ Fr [b14, b1, b16] w22 w9 ∧ (∀ q, st9 = .ok q → l = xs.length ∧ rSeq (fun b => w22.heap.size ≤ b) True w9 8 (RCls (fun b => w22.heap.size ≤ b) True w9) a l xs),
    loopB (R := RCls) rel_cls (one := clsD s) (kk := 8) (by decide) (t := 52) (e := 75) (T := 75) (ti := Try.t75) (by kernel_rfl) (by kernel_rfl) rfl rfl rfl (by decide) (j := 1)
    (fun w J => C53 (some ⟨b14, 0, none⟩) w fun s b b2 n1 a1 l1 c1 a2 l2 c2 a3 l3 c3 a4 l4 c4 w2 => ∀ (b4 : Nat) (w3 : World), NewAt w2 w3 b4 #[.string (ByteArray.mk #[]), .bool false, .bool false, .int .i64 0, .slice none 0 0, .slice none 0 0, .slice none 0 0, .slice none 0 0] 75 →
      MayL w3 ⟨b4, 0, none⟩ 8 ∧ ∀ w4 : World, SetL w3 w4 ⟨b4, 0, none⟩ [.string s, .bool b, .bool b2, .int .i64 n1, .slice a1 l1 c1, .slice a2 l2 c2, .slice a3 l3 c3, .slice a4 l4 c4] →
      ∃ (a : Option Addr) (l c : Nat), World.cell? w4 ⟨b16, 1, none⟩ = some (.slice a l c) ∧
      ∃ (s_ : ByteArray), ∃ (b_ : Bool), ∃ (b2_ : Bool), ∃ (n1_ : Int), ∃ (a1_ : Option Addr) (l1_ c1_ : Nat), ∃ (a2_ : Option Addr) (l2_ c2_ : Nat), ∃ (a3_ : Option Addr) (l3_ c3_ : Nat), ∃ (a4_ : Option Addr) (l4_ c4_ : Nat),
        CellsAt w4 ⟨b4, 0, none⟩ [.string s_, .bool b_, .bool b2_, .int .i64 n1_, .slice a1_ l1_ c1_, .slice a2_ l2_ c2_, .slice a3_ l3_ c3_, .slice a4_ l4_ c4_] ∧
      ∀ (b5 : Nat) (w5 : World), NewAt w4 w5 b5 #[.string s_, .bool b_, .bool b2_, .int .i64 n1_, .slice a1_ l1_ c1_, .slice a2_ l2_ c2_, .slice a3_ l3_ c3_, .slice a4_ l4_ c4_] 75 →
      RunF Try.prog (Builtin.append_ #[52, 52] 52 #[.slice a l c, .slice (some ⟨b5, 0, none⟩) 1 1]) w5 [.leaf .slice] fun (a' : Option Addr) (l' c' : Nat) (w6 : World) =>
      May w6 ⟨b16, 1, none⟩ ∧ ∀ w7 : World, SetC w6 w7 ⟨b16, 1, none⟩ (.slice a' l' c') → J w7)
    E22 rfl
    (fun w p cs J E hz hF => rcls_c E.R (by omega) fun x sx w2 a1 l1 c1 a2 l2 c2 a3 l3 c3 a4 l4 c4 Sx Rx fx hx => fun b4 w3 n4 => ⟨n4.blk.mayL (by simp), fun w4 s4 => by
      obtain ⟨N4, f4⟩ := newSet n4 s4 rfl
      have z1 := fx.size
      have R4 := Rx.fr (f4 []) (by simp)
      obtain ⟨a, l, c, hc, hA⟩ := hF x sx [.string x.name, .bool x.face, .bool x.fin, .int .i64 x.sup, .slice a1 l1 c1, .slice a2 l2 c2, .slice a3 l3 c3, .slice a4 l4 c4] w4 Sx ((E.call Rx fx).call R4 (f4 _)) (fx.more (f4 _)) (fun q hq => rel_cls.mono (rel_cls.same (hx q hq) (SameU.of_fr (f4 []) (by simp)) (f4 []).size) fun b hb _ => hb) rfl (by simp [isCell])
      exact ⟨a, l, c, hc, _, _, _, _, _, _, _, _, _, _, _, _, _, _, _, _, N4.cells, hA⟩⟩) (fun q hq => by have := hn q hq; omega)
    fun xs st' a l c w' hS hE hf hL => ⟨xs, st', a, l, c, hS, hE, hf, hL⟩, ?_⟩
  rintro - w24 ⟨xs, st3, a, l, c, S3, E24, f24, L⟩
  have SP : Stp (prgD s) (.ok 4) ⟨m, xs⟩ st3 := S1.bind ((S2.list S3).bind (Stp.ret _ _))
  -- what stands behind
  have tail : ∃ M56 : World → Prop, (∃ (n58 : Int), World.cell? w24 ⟨b14, 2, none⟩ = some (.int .i64 n58) ∧
      IfB (decide ((n58 : Int) = 0)) (∃ (n59 : Int), World.cell? w24 ⟨b14, 1, none⟩ = some (.int .i64 n59) ∧ IfB (decide ((n59 : Int) < (ByteArray.size s : Int)))
        (∃ (n60 : Int), World.cell? w24 ⟨b14, 1, none⟩ = some (.int .i64 n60) ∧ C54 (some ⟨b14, 0, none⟩) 1405 n60 w24 fun w61 => M56 w61) (M56 w24)) (M56 w24)) ∧
      ∀ w57, M56 w57 → ∃ stF, EnvR w w57 b14 b1 b16 [.int .i64 0, .slice none 0 0] [.int .i64 m, .slice a l c] s stF ∧ Fr [b14, b1, b16] w24 w57 ∧ (∀ e, stF = .error e → decP s = (prg0, e.1, e.2)) ∧ (∀ q, stF = .ok q → decP s = (⟨m, xs⟩, 0, 0) ∧ st3 = .ok q) := by
    rcases SP.ok_iff with ⟨q, hp, rfl⟩ | ⟨e, hp, rfl⟩
    · obtain ⟨B, h0, h1⟩ := E24.R.ok q rfl
      by_cases hq : q < s.size
      · refine ⟨fun w' => RefW w' b14 s (.error (q, 1405)) ∧ Fr [b14] w24 w', ⟨_, B.cell rfl, IfB.yes rfl ⟨_, B.cell rfl, IfB.yes hq ⟨_, B.cell rfl, rfault_c E24.R (by decide) fun w61 R f => ⟨R, f⟩⟩⟩⟩, fun w57 h => ⟨_, E24.call h.1 h.2, rcall h.2, fun e he => ?_, (fun _ h => by cases h)⟩⟩
        cases he
        unfold decP
        rw [if_neg hs, if_neg (by simpa using hm), hp]
        simp only
        rw [if_pos hq]
      · refine ⟨fun w' => w' = w24, ⟨_, B.cell rfl, IfB.yes rfl ⟨_, B.cell rfl, IfB.no hq rfl⟩⟩, fun w57 h => ?_⟩
        subst h
        refine ⟨_, E24, Fr.refl _ _, (fun _ h => by cases h), fun q' h => ?_⟩
        cases h
        refine ⟨?_, rfl⟩
        unfold decP
        rw [if_neg hs, if_neg (by simpa using hm), hp]
        simp only
        rw [if_neg hq]
    · obtain ⟨hne, q, B⟩ := E24.R.bad e rfl
      refine ⟨fun w' => w' = w24, ⟨_, B.cell rfl, IfB.no hne rfl⟩, fun w57 h => ?_⟩
      subst h
      refine ⟨_, E24, Fr.refl _ _, fun e' h => ?_, (fun _ h => by cases h)⟩
      cases h
      unfold decP
      rw [if_neg hs, if_neg (by simpa using hm), hp]
  obtain ⟨M56, hM1, hM2⟩ := tail
  refine ⟨M56, hM1, fun _ w57 h57 => ?_⟩
  obtain ⟨stF, E57, f57, hbad, hok⟩ := hM2 w57 h57
  cases stF with
  | error e =>
    obtain ⟨hne, q, B⟩ := E57.R.bad e rfl
    have hd := hbad e rfl
    refine ⟨_, B.cell rfl, IfB.nno hne fun w63 d63 => ?_⟩
    have B63 := B.fr (d63.fr []) (by simp)
    have Z63 := E57.Z.fr (d63.fr []) (by simp)
    have F63 : Fr [] w w63 := (E57.f.mono (by have := E57.d; simp; have := (n1.fr []).size; omega)).more (d63.fr _)
    have d := E57.d
    have fin : ∀ w66, SetL w63 w66 ⟨b1, 0, none⟩ [.int .i64 0, .slice none 0 0] → Blk w66 b1 [.int .i64 0, .slice none 0 0] ∧ Blk w66 b14 [.string s, .int .i64 q, .int .i64 e.2, .int .i64 e.1] ∧ K 0 none 0 0 e.1 e.2 w66 := by
      intro w66 s66
      obtain ⟨Z66, f66⟩ := setAll s66 Z63 rfl
      have := hK w66 0 none 0 0
      rw [hd] at this
      exact ⟨Z66, B63.fr f66 (by simp; omega), this ⟨rfl, rSeq.nil⟩ (F63.trans f66 (by simp; omega))⟩
    have mz := Z63.mayL (o := 0) (n := 2) (by simp)
    exact ⟨⟨_, B63.cell rfl, ⟨_, B63.cell rfl, mz, fun w66 s66 => ⟨_, _, _, _, (fin w66 s66).1.cells, (fin w66 s66).2.2⟩⟩, mz, fun w69 s69 => ⟨_, (fin w69 s69).2.1.cell rfl, _, _, _, _, (fin w69 s69).1.cells, (fin w69 s69).2.2⟩⟩,
      ⟨_, B63.cell rfl, ⟨_, B63.cell rfl, mz, fun w75 s75 => ⟨_, _, _, _, (fin w75 s75).1.cells, (fin w75 s75).2.2⟩⟩, mz, fun w78 s78 => ⟨_, (fin w78 s78).2.1.cell rfl, _, _, _, _, (fin w78 s78).1.cells, (fin w78 s78).2.2⟩⟩,
      mz, fun w82 s82 => ⟨_, (fin w82 s82).2.1.cell rfl, _, (fin w82 s82).2.1.cell rfl, _, _, _, _, (fin w82 s82).1.cells, (fin w82 s82).2.2⟩⟩
  | ok q =>
    obtain ⟨B, _, _⟩ := E57.R.ok q rfl
    obtain ⟨hd, rfl⟩ := hok q rfl
    have d := E57.d
    refine ⟨_, B.cell rfl, IfB.nyes rfl ⟨_, _, _, _, E57.M.cells, E57.Z.mayL (by simp), fun w89 s89 => ?_⟩⟩
    obtain ⟨Z89, f89⟩ := setAll s89 E57.Z rfl
    obtain ⟨hl, hr⟩ := L q rfl
    have := hK w89 m a l c
    rw [hd] at this
    refine ⟨_, _, _, _, Z89.cells, this ⟨rfl, E22.keep rel_cls hr (f57.more (f89.mono (by simp)))⟩ ((E57.f.mono (by simp; have := (n1.fr []).size; omega)).trans f89 (by simp; omega))⟩
end Go.Proofs.Ytmlhdmnnijapjaa.V
