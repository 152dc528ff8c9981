/- The heap: a new heap. No condition. -/
import Derived.Test.YtfpghcdjfiggiaaHeapM
namespace Go.Proofs.Ytfpghcdjfiggiaa.V
open Go Go.RowKit

/-- A new heap. -/
theorem hnew_c (words agents : Int) {w : World} {K : Option Addr → Int → World → Prop} (hbad : ¬ (512 ≤ words ∧ words ≤ 65536 ∧ 1 ≤ agents ∧ agents ≤ 12) → K none 900 w)
    (hok : (512 ≤ words ∧ words ≤ 65536 ∧ 1 ≤ agents ∧ agents ≤ 12) → ∀ w' F hb hm s mb ab wb sb g, Hp w' F hb hm s mb ab wb sb g [] (List.replicate words.toNat 0) (List.replicate agents.toNat 0) none 0 0 0 0 ((words + 3) / 4) words [] → g.last = 0 → (∀ S, Fr S w w') → (∀ k ∈ hb :: hm :: F, w.heap.size ≤ k) → K (some ⟨hb, 0, none⟩) 0 w') : C80 words agents w K := by
  refine r_f80 _ _ _ _ (IfB.dec (fun h => hbad (by omega)) (fun h1 => IfB.dec (fun h => hbad (by omega)) (fun h2 => IfB.dec (fun h => hbad (by omega)) (fun h3 => IfB.dec (fun h => hbad (by omega)) (fun h4 => ?_)))))
  refine arena_new_c _ _ (fun h => ?_) (fun _ w1 ab wb sb A f1 l1 l2 l3 => ?_)
  · simp [newA] at h; omega
  have z1 := (f1 []).size
  refine spnew_c A 0 words (by omega) (by omega) (by simp; omega) (by simp; omega) fun w2 s mb S I f2 g1 g2 => fun b3 w3 n3 => ?_
  have z2 := (f2 []).size
  have hm3 := n3.mp
  have hmi : MI w3 b3 [] 0 := ⟨by unfold Mp at hm3; simpa using hm3, by simp, by simp, by simp⟩
  have g3 := n3.ge
  have lF := S.low
  have e1 : Int.tdiv (words + 3) 4 = (words + 3) / 4 := Int.tdiv_eq_ediv_of_nonneg (by omega)
  refine ⟨fit64 (by omega) (by omega), by decide, by rw [e1]; exact fit64 (by omega) (by omega), fun b4 w4 n4 => ?_⟩
  rw [e1] at n4
  have g4 := n4.ge
  have z3 := (n3.fr []).size
  have l3' := heap_lt hmi.heap
  have hs : s ∈ [s, mb, ab, wb, sb] := by simp
  refine hok (by omega) w4 [s, mb, ab, wb, sb] b4 b3 s mb ab wb sb _ ⟨⟨n4.blk, hmi.fr (n4.fr []) (by simp), by omega, fun hb => by have := lF b4 hb; omega, fun hb => by have := lF b3 hb; omega⟩, (S.fr0 (n3.fr [])).fr0 (n4.fr []), I, ⟨rfl, by simp, by decide, by simp, by simp [csum]; omega, ⟨rfl, rfl, by omega, by omega⟩, rfl⟩⟩ rfl (fun X => (((f1 X).more (f2 X)).more (n3.fr X)).more (n4.fr X)) ?_
  simp
  omega
end Go.Proofs.Ytfpghcdjfiggiaa.V
