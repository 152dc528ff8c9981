/- SpoilInts: it writes into its own slice. No condition. -/
import Derived.Test.YtfpghcdjfiggiaaInts
import Derived.Test.YtfpghcdjfiggiaaGSpoil
namespace Go.Proofs.Ytfpghcdjfiggiaa.V
open Go Go.RowKit

theorem spoilI_c {w : World} {a : Option Addr} {c : Nat} {us : List Int} (U : SI w a c us) (hu : ∀ x ∈ us, -1000000 ≤ x ∧ x ≤ 1000000) (hl : us.length ≤ 1000000) {K : World → Prop} (hK : ∀ w', Fr (ablk a) w w' → K w') : C56 a us.length c w K := by
  refine r_f56 _ _ _ _ _ ⟨fun i w' => 0 ≤ i ∧ i ≤ us.length ∧ (∃ vs, SI w' a c vs ∧ vs.length = us.length ∧ ∀ j : Nat, i ≤ j → vs.getD j 0 = us.getD j 0) ∧ Fr (ablk a) w w', fun i _ => (us.length - i).toNat, ⟨by omega, by omega, ⟨us, U, rfl, fun _ _ => rfl⟩, Fr.refl _ _⟩, ?_⟩
  rintro - i w1 ⟨h0, h1, ⟨vs, V1, hv, hb⟩, f1⟩
  refine IfB.dec (fun hlt => ?_) (fun _ => hK w1 f1)
  have hm : us.getD i.toNat 0 ∈ us := by
    have hlt : i.toNat < us.length := by omega
    rw [List.getD_eq_getElem?_getD, List.getElem?_eq_getElem hlt]
    exact List.getElem_mem hlt
  have hb1 := hu _ hm
  have hb2 := hb i.toNat (by omega)
  refine V1.get h0 (by omega) fun p hp => ⟨⟨h0, hlt⟩, _, hp, fit64 (by omega) (by omega), ?_⟩
  refine V1.put h0 (by omega) (-9 - vs.getD i.toNat 0) fun p2 hm _ hs => ⟨⟨h0, hlt⟩, hm, fun w2 s2 => ⟨fit64 (by omega) (by omega), ?_, by dsimp only; omega⟩⟩
  obtain ⟨V2, f2⟩ := hs w2 s2
  refine ⟨by omega, by omega, ⟨_, V2, by simpa using hv, fun j hj => ?_⟩, f1.more f2⟩
  rw [getI_set' _ _ _ _ (by omega), if_neg (by omega)]
  exact hb j (by omega)

end Go.Proofs.Ytfpghcdjfiggiaa.V
