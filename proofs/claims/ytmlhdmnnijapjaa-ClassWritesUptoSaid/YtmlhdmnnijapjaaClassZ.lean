/- Writing a program: Encode, what it computes. No condition. -/
import Derived.Test.YtmlhdmnnijapjaaClassY
namespace Go.Proofs.Ytmlhdmnnijapjaa.V
open Go Go.RowKit Go.Proofs.Ytmlhdmnnijapjaa.WirePlain

theorem encode_c {m : Prop} {a : Option Addr} {l c : Nat} {w : World} (p : Prg) (hp : p.ok) (D : rPrg (fun _ => True) m w p.main a l p) {K : ByteArray → Int → World → Prop} (hK : ∀ w', Fr [] w w' → K (encP p).1 (encP p).2 w') : C35 p.main a l c w K := by
  obtain ⟨-, D⟩ := D
  refine r_f35 _ _ _ _ _ _ fun b1 w2 n1 b3 w4 n4 => ?_
  have f2 := n1.fr []
  obtain ⟨rfl, rfl⟩ := n4
  refine ⟨[.slice (some ⟨w2.heap.size, 0, none⟩) 4 4], _, Lib.run_convert_bytes_const w2 24 5 #[.int .u8 71, .int .u8 78, .int .u8 83, .int .u8 83] 4 4 (by kernel_rfl) (by kernel_rfl), ?_⟩
  intro b7 w8 n8
  have f4 : Fr [] w2 (w2.alloc (.cells #[.int .u8 71, .int .u8 78, .int .u8 83, .int .u8 83] 5 (4, 5))) := Fr.alloc _ _ _
  have R4 : Row (w2.alloc (.cells #[.int .u8 71, .int .u8 78, .int .u8 83, .int .u8 83] 5 (4, 5))) w2.heap.size 4 magicN :=
    ⟨⟨_, _, heap_alloc_new w2 _, .inr rfl, rfl, rfl⟩, by decide, by decide⟩
  have hz4 : (w2.alloc (.cells #[.int .u8 71, .int .u8 78, .int .u8 83, .int .u8 83] 5 (4, 5))).heap.size = w2.heap.size + 1 := by unfold World.alloc; simp
  generalize (w2.alloc (.cells #[.int .u8 71, .int .u8 78, .int .u8 83, .int .u8 83] 5 (4, 5)) : World) = w6 at *
  have g1 := n1.ge
  have l1 := n1.blk.lt
  have g8 := n8.ge
  have f8 := n8.fr []
  have W8 : WrAt (fun b => b < w2.heap.size) w8 b7 ⟨magicN, false, false, false⟩ := by
    refine ⟨by omega, fun b hb => ?_, w2.heap.size, 4, n8.blk, by omega, by omega, R4.fr f8 (by simp)⟩
    have := f4.size
    have := f8.size
    omega
  have B8 : Blk w8 b1 [.int .i64 p.main, .slice a l c] := (n1.blk.fr f4 (by simp)).fr f8 (by simp)
  have f08 : Fr [] w w8 := (f2.more f4).more f8
  have D8 : rSeq (fun b => b < w2.heap.size) m w8 8 (RCls (fun b => b < w2.heap.size) m w8) a l p.clss := rel_seq rel_cls D (SameU.of_fr f08 (by simp)) f08.size fun b _ hb => Nat.lt_of_lt_of_le hb f2.size
  have k8 : Keep (fun b => b < w.heap.size) w w8 := Keep.of f08 (by simp)
  have h1 := numW_len p.main
  have h2 : magicN.length = 4 := rfl
  refine ⟨_, B8.cell rfl, wnum_c hp.1 W8 (by show magicN.length + 5 ≤ _; omega) fun w10 H10 k10 => ?_⟩
  refine ⟨_, _, _, (k10.blk B8 (by show b1 < w2.heap.size; omega)).cell rfl, lay62 (most := 40) (cap := 0) (cap2 := 0) (by decide) H10 (by rw [app_len]; show magicN.length + _ + _ ≤ _; omega) hp.2 (rel_seq rel_cls D8 k10.same k10.size fun b hb _ => hb) fun w12 H12 k12 => ?_⟩
  have kk : Keep (fun b => b < w.heap.size) w w12 := k8.trans ((k10.trans k12).mono fun b hb => Nat.lt_of_lt_of_le hb f2.size)
  have fK := kk.fr0
  rw [Wr.app_assoc] at H12
  change WrAt _ w12 b7 (Wr.app ⟨magicN, false, false, false⟩ (encW p)) at H12
  obtain ⟨g, c', h3, _, _, h6⟩ := H12.ex
  have hK' := hK w12 fK
  unfold encP at hK'
  have em : ((⟨magicN, false, false, false⟩ : Wr).app (encW p)).many = (encW p).many := rfl
  have en : ((⟨magicN, false, false, false⟩ : Wr).app (encW p)).nm = (encW p).nm := rfl
  have ef : ((⟨magicN, false, false, false⟩ : Wr).app (encW p)).fm = (encW p).fm := rfl
  have eb : ((⟨magicN, false, false, false⟩ : Wr).app (encW p)).bs = magicN ++ (encW p).bs := rfl
  rw [em, en, ef, eb] at h3
  rw [eb] at h6
  have hne : (magicN ++ (encW p).bs).length ≠ 0 := by rw [List.length_append]; omega
  generalize magicN ++ (encW p).bs = bs at *
  refine ⟨_, h3.cell rfl, ifb_cases (fun q1 => ?_) (fun q1 => ⟨_, h3.cell rfl, ifb_cases (fun q2 => ?_) (fun q2 => ⟨_, h3.cell rfl, ifb_cases (fun q3 => ?_) (fun q3 => ⟨_, _, _, h3.cell rfl, IfB.dec (fun q4 => ?_) (fun q4 => ⟨_, _, _, h3.cell rfl, ?_⟩)⟩)⟩)⟩)⟩
  · rw [if_pos q1] at hK'; exact hK'
  · rw [if_neg (by simp [q1]), if_pos q2] at hK'; exact hK'
  · rw [if_neg (by simp [q1]), if_neg (by simp [q2]), if_pos q3] at hK'; exact hK'
  · rw [if_neg (by simp [q1]), if_neg (by simp [q2]), if_neg (by simp [q3]), if_pos (by omega)] at hK'; exact hK'
  · rw [if_neg (by simp [q1]), if_neg (by simp [q2]), if_neg (by simp [q3]), if_neg (by omega)] at hK'
    obtain ⟨⟨cur, fr, hg, _, hcs, htake⟩, hle, _⟩ := h6
    refine ⟨[.string _], w12, run_convert_bytes_arg (P := Try.prog) w12 24 5 (by kernel_rfl) (by kernel_rfl) g 0 bs.length c' (bs.map fun (n : Nat) => (n : Int)) (by simp) (fun i hi => ?_) 9 (by kernel_rfl), hK'⟩
    have hcl : w12.cell? ⟨g, i, none⟩ = cur[i]? := by simp [World.cell?, hg]
    rw [Nat.zero_add, hcl, ← Array.getElem?_toList]
    have : (cur.toList.take bs.length)[i]? = cur.toList[i]? := List.getElem?_take_of_lt hi
    rw [← this, htake, u8s, List.getElem?_map, List.getElem?_eq_getElem hi]
    simp [List.getD_eq_getElem?_getD, hi]
end Go.Proofs.Ytmlhdmnnijapjaa.V
