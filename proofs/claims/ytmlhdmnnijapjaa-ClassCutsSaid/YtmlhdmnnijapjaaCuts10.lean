/- A program's bytes cut short. No condition. -/
import Derived.Test.YtmlhdmnnijapjaaClassA
import Derived.Test.YtmlhdmnnijapjaaGClsL3
namespace Go.Proofs.Ytmlhdmnnijapjaa.V
open Go Go.RowKit Go.Proofs.Ytmlhdmnnijapjaa.WirePlain

theorem classCuts_c {W : World} {m : Prop} {a : Option Addr} {l c : Nat} (p : Prg) (hp : p.ok) (D : rPrg Al m W p.main a l p) (cut : Int) {K : Bool → World → Prop} (hK : ∀ w', Fr [] W w' → K true w') : C10 p.main a l c cut W K := by
  refine r_f10 _ _ _ _ _ _ _ fun b1 w2 n1 => ?_
  have f2 := n1.fr []
  refine awake_c fun w4 f4 => ifb_nyes rfl ?_
  have D4 := al_more (al_more D.2 f2) f4
  refine ⟨_, _, _, _, (n1.blk.fr f4 (by simp)).cells, encode_c p hp ⟨rfl, D4⟩ fun w9 f9 => ?_⟩
  have g9 : Fr [] W w9 := (f2.more f4).more f9
  refine IfB.nd (fun h1 => ?_) (fun h1 => by rw [encP_no h1, beq_self_eq_true]; exact hK w9 g9)
  obtain ⟨_, hz, hn⟩ := encP_ok h1
  rw [← hn, nats_length] at hz
  have h4 : 4 ≤ (encP p).1.size := by rw [← nats_length, hn, List.length_append]; have : magicN.length = 4 := rfl; omega
  have hcut : ∀ (s : ByteArray) (rest : List Nat), rest ≠ [] → nats s ++ rest = nats (encP p).1 → _ := fun s rest hr hs => dec_enc_cut h1 hr hs
  generalize (encP p).1 = s at *
  have ew : IntKind.wrap .u64 (s.size : Int) = s.size := u64_wrap _ (by omega)
  have eu : 0 ≤ IntKind.wrap .u64 cut := by
    simp only [IntKind.wrap, IntKind.signed, IntKind.bits]
    simp
    omega
  rw [ew]
  obtain ⟨k, hk1, hk2⟩ : ∃ k : Nat, Int.tmod (IntKind.wrap .u64 cut) (s.size : Int) = k ∧ k < s.size := by
    have k1 := Int.tmod_lt_of_pos (IntKind.wrap .u64 cut) (b := (s.size : Int)) (by omega)
    have k2 := Int.tmod_nonneg (s.size : Int) eu
    exact ⟨(Int.tmod (IntKind.wrap .u64 cut) (s.size : Int)).toNat, by omega, by omega⟩
  have ei : IntKind.wrap .i64 (k : Int) = k := wrap_small (by omega)
  rw [hk1, ei, Int.toNat_natCast]
  have hsz : (s.extract 0 k).size = k := by rw [ByteArray.size_extract]; omega
  obtain ⟨c1, c2⟩ := hcut (s.extract 0 k) ((nats s).drop k) (fun h => by
    have := congrArg List.length h
    rw [List.length_drop, nats_length] at this
    simp at this
    omega) (by rw [nats_extract, List.drop_zero, List.take_append_drop])
  rw [hsz] at c1 c2
  refine ⟨by omega, ⟨by omega, by omega⟩, decode_c _ fun w14 m' a' l' c' P14 f14 => ?_⟩
  have g14 : Fr [] W w14 := g9.more f14
  by_cases hk4 : k < 4
  · rw [c1 hk4]
    intro b15 w16 n15
    refine ⟨n15.blk.mayL (by simp), fun w17 s17 => ?_⟩
    obtain ⟨_, f17⟩ := newSet n15 s17 rfl
    refine IfB.yes (by omega) (IfB.yes rfl ?_)
    rw [decide_eq_true (by rfl)]
    exact hK w17 (g14.more (f17 []))
  · obtain ⟨q, q1, q2, hd⟩ := c2 (by omega)
    rw [hd]
    intro b15 w16 n15
    refine ⟨n15.blk.mayL (by simp), fun w17 s17 => ?_⟩
    obtain ⟨_, f17⟩ := newSet n15 s17 rfl
    refine IfB.no (by omega) (IfB.yes rfl ?_)
    rw [decide_eq_true (by exact q2)]
    exact hK w17 (g14.more (f17 []))
end Go.Proofs.Ytmlhdmnnijapjaa.V
