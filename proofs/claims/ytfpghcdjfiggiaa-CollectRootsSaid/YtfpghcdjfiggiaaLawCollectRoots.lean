/- The law CollectRoots. No condition. -/
import Derived.Test.YtfpghcdjfiggiaaRows
import Derived.Test.YtfpghcdjfiggiaaRoots12
import Derived.Test.YtfpghcdjfiggiaaArgs
import Derived.Test.YtfpghcdjfiggiaaLawKit
import Derived.Test.YtfpghcdjfiggiaaShared
import Derived.WalkKit
import Derived.ProofKit
import Derived.OpenShut
import Derived.ShutString
import Derived.ChangeOld
import Derived.Below
import Derived.SizedLaws
namespace Go.Proofs.Ytfpghcdjfiggiaa.collectRoots
open Go Go.ChangeShapes Go.WideShapes Go.ChangeAt Go.RowKit
open Go.ChangeMaps (open_string shut_string)
set_option linter.unusedVariables false
theorem own : ownKnob Try.prog.godebug = none := by kernel_rfl
theorem laidOut : laidOutB Try.prog = true := by kernel_rfl
set_option maxRecDepth 100000 in
theorem lifted (os : Os) (started : os.Started) (H : Type) (enc : TypeId × Value → H) :
    ReturnsInHanded {} Try.checked os 27 .any (Rows.collectRootsSpec.pre6 enc Try.prog Try.f27 Rows.collectRootsRow.domain false) (Rows.collectRootsSpec.post enc Try.prog Try.f27 false true false false) := by
  refine returnsInHanded_of_change_sized (C := Try.checked) own started (by kernel_rfl) Try.func27
    (ChangeSpec.witness6 (enc := enc) (C := Try.checked) false ⟨#[], #[.slice none 0 0], []⟩ 8 (by kernel_rfl) (by kernel_rfl) (by kernel_rfl) (by kernel_rfl)) ?_
  intro W base args ds gs before hval0 hW hcnd hsz0 _
  have hsz : (DataW.weightsEach Try.prog (Try.f27.params.toList ++ Rows.collectRootsSpec.plain.varTypes Try.prog) (ds ++ gs)).all (· ≤ reachBytes) = true := hsz0
  have hval : ∀ (j : Nat) t v, Try.f27.params[j]? = some t → args[j]? = some v → Value.okWide Try.prog W .any base t v := hval0
  have hW' := hW
  obtain ⟨p, q, hA0, hV, rfl, hfz, hnd⟩ := hW
  have hA : DataW.TrodAll enc Try.prog W 0 (fun _ => true) true Try.f27.params.toList args.toList ds p := hA0
  rw [Try.params27] at hA hval hsz
  obtain ⟨v0, vs0, d0, ds0, p0, q0, hargs, rfl, rfl, h0, r0⟩ := trodAll_cons hA
  obtain ⟨rfl, rfl, rfl⟩ := trodAll_nil r0
  obtain rfl : args = #[v0] := by cases args; simp_all
  obtain ⟨rfl, rfl⟩ := trodVars_none hV
  have k0 := h0
  have lt0 : ∀ x ∈ p0, x.block < W.heap.size := by obtain ⟨m, hm⟩ := k0; exact DataW.trod_lt m _ _ _ hm
  obtain ⟨a0, zs0, c0, rfl, m0, g0⟩ := V.open_nums Try.underlying42 Try.underlying3 (by kernel_rfl) (hval 0 42 v0 rfl rfl) h0
  clear hA0 hval0 hsz0 hsz
  refine (V.true_of (V.collectRoots_c g0 (fun w' f => ⟨rfl, V.below_of f⟩))).mono fun e W' ⟨he, bel⟩ => ?_
  subst he
  exact ⟨_, rfl, _, _, _, [], _, [], hW', trodAll_mk1 (shut_bool Try.underlying4 _), (trodAll_cons_mk (Below.trod laidOut (by kernel_rfl) (of_decide_eq_true (by kernel_rfl)) k0 bel lt0) trodAll_mk0), rfl, bel.frame _, fun h => by cases h⟩
theorem k0 : (Rows.collectRootsRow.wf (OpenSpec.ofChange Rows.collectRootsSpec)) = true := by kernel_rfl
theorem k1 : (laidOutB (Try.pinned.checked.prog)) = true := V.laid_out
theorem k2 : (mapsRowed (Try.pinned.checked.prog)) = true := V.maps_rowed
theorem k3 : (Try.f27.params.all ((Try.pinned.checked.prog).readableRec ·)) = true := by kernel_rfl
theorem k4 : (namedTie (Try.pinned.checked.prog) Rows.collectRootsRow.named Rows.collectRootsSpec.vars) = true := by kernel_rfl
theorem k5 : ((Rows.collectRootsRow.stops == [])) = true := by kernel_rfl
theorem k6 : (((Try.pinned.checked.prog).stops == [])) = true := V.stops_none
theorem k7 : ((Rows.collectRootsRow.knobs == [])) = true := by kernel_rfl
theorem k8 : (((Try.pinned.checked.prog).stopKnobs == [])) = true := V.knobs_none
theorem k9 : ((Rows.collectRootsRow.inPlace == (Try.pinned.checked.prog).inPlace 27)) = true := by kernel_rfl
theorem k10 : ((Rows.collectRootsRow.unfollowed == (Try.pinned.checked.prog).unfollowed 27)) = true := by kernel_rfl
theorem k11 : ((Rows.collectRootsRow.recurses == (Try.pinned.checked.prog).recurses 27)) = true := by kernel_rfl
theorem k12 : ((Rows.collectRootsRow.named == (Try.pinned.checked.prog).varsNamed 27)) = true := by kernel_rfl
theorem k13 : ((Rows.collectRootsRow.maps == (Try.f27.params.toList ++ Rows.collectRootsSpec.plain.varTypes (Try.pinned.checked.prog)).any ((Try.pinned.checked.prog).mapsRec ·))) = true := by kernel_rfl
theorem k14 : ((Rows.collectRootsRow.ifaces == (Try.f27.params.toList ++ Rows.collectRootsSpec.plain.varTypes (Try.pinned.checked.prog)).any ((Try.pinned.checked.prog).ifacesRec ·))) = true := by kernel_rfl
theorem k15 : ((Rows.collectRootsRow.mapsOut == (Try.pinned.checked.prog).mapsAmong Try.f27.resultTypes.toList)) = true := by kernel_rfl
theorem k16 : ((Rows.collectRootsRow.loops == (Try.f27.params.toList ++ Rows.collectRootsSpec.plain.varTypes (Try.pinned.checked.prog)).any ((Try.pinned.checked.prog).loopsFrom ·))) = true := by kernel_rfl
theorem k17 : ((Rows.collectRootsRow.wideKeys == (Try.f27.params.toList ++ Rows.collectRootsSpec.plain.varTypes (Try.pinned.checked.prog) ++ Try.f27.resultTypes.toList).any ((Try.pinned.checked.prog).wideKeysFrom ·))) = true := by kernel_rfl
theorem k18 : (Rows.collectRootsSpec.vars.all ((Try.pinned.checked.prog).varReadable ·)) = true := by kernel_rfl
theorem k19 : (Try.f27.resultTypes.all (fun t => (Try.pinned.checked.prog).readableRec t && decide (t < (Try.pinned.checked.prog).types.size))) = true := by kernel_rfl
theorem k20 : ((Rows.collectRootsRow.ifacesOut == Try.f27.resultTypes.toList.any ((Try.pinned.checked.prog).ifacesRec ·))) = true := by kernel_rfl
theorem k21 : ((Rows.collectRootsRow.loopsOut == Try.f27.resultTypes.toList.any ((Try.pinned.checked.prog).loopsFrom ·))) = true := by kernel_rfl
theorem k22 : ((Rows.collectRootsRow.plainKeys == (Try.pinned.checked.prog).plainKeys)) = true := by rw [V.plain_keys]; kernel_rfl
theorem k23 : (Rows.collectRootsRow.shortTexts.isNone) = true := by kernel_rfl
theorem k24 : ((Try.pinned.checked.prog).stopsHeard) = true := V.stops_heard
theorem k25 : ((Try.pinned.checked.prog).mayEnter) = true := V.may_enter
theorem k26 : ((Rows.collectRootsRow.lifted == (Try.pinned.checked.prog).liftsFinal)) = true := by rw [V.lifts_final]; kernel_rfl
theorem k27 : (((Try.pinned.checked.prog).make == some Rows.collectRootsRow.make)) = true := by rw [V.make_cut]; kernel_rfl
theorem k28 : ((Rows.collectRootsRow.kinds == (if Rows.collectRootsRow.domain.isEmpty then [] else Try.f27.params.toList.map fun t => match (Try.pinned.checked.prog).underlying t with | some (.int k) => some k | _ => none))) = true := by kernel_rfl
theorem k29 : ((Rows.collectRootsRow.pinned == Rows.collectRootsRow.pinnedBy)) = true := by kernel_rfl
theorem k30 : ((Rows.collectRootsRow.veiled == (Try.f27.params.toList ++ Rows.collectRootsSpec.plain.varTypes (Try.pinned.checked.prog) ++ Try.f27.resultTypes.toList).any ((Try.pinned.checked.prog).veiledRec ·))) = true := by kernel_rfl
theorem k31 : (Rows.collectRootsRow.veiledFits (Try.pinned.checked.prog) Try.f27.params.toList (Try.f27.params.toList ++ Rows.collectRootsSpec.plain.varTypes (Try.pinned.checked.prog) ++ Try.f27.resultTypes.toList)) = true := by kernel_rfl
set_option maxRecDepth 100000 in
theorem closed : joinedFacts Try.pinned.checked.prog 27 Try.f27 Rows.collectRootsSpec Rows.collectRootsRow = true := by unfold joinedFacts; exact (V.and_mk (V.and_mk (V.and_mk (V.and_mk (V.and_mk (V.and_mk (V.and_mk (V.and_mk (V.and_mk (V.and_mk (V.and_mk (V.and_mk (V.and_mk (V.and_mk (V.and_mk (V.and_mk (V.and_mk (V.and_mk (V.and_mk (V.and_mk (V.and_mk (V.and_mk (V.and_mk (V.and_mk (V.and_mk (V.and_mk (V.and_mk (V.and_mk (V.and_mk (V.and_mk (V.and_mk k0 k1) k2) k3) k4) k5) k6) k7) k8) k9) k10) k11) k12) k13) k14) k15) k16) k17) k18) k19) k20) k21) k22) k23) k24) k25) k26) k27) k28) k29) k30) k31)
theorem over : Rows.collectRootsRow.holds Try.pinned (OpenSpec.ofChange Rows.collectRootsSpec) :=
  OpenClaim.holds_of_wide 27 Try.f27 rfl rfl rfl rfl rfl rfl rfl ⟨rfl, rfl, rfl, rfl, rfl⟩ rfl rfl rfl rfl rfl (by kernel_rfl) Try.func27 closed
    (of_decide_eq_true (by kernel_rfl)) (by unfold Func.isWrapper; first | (rw [if_pos (by decide +kernel)]; kernel_rfl) | (rw [if_neg (by decide +kernel)]; exact ⟨rfl, rfl⟩))
    (fun os started H enc _ => lifted os started H enc)
theorem proved : Rows.CollectRootsSaid := over
#print axioms proved
end Go.Proofs.Ytfpghcdjfiggiaa.collectRoots
namespace Go.Proofs.Ytfpghcdjfiggiaa
/-- The row, under a short name, for the claim. -/
theorem collectRoots_holds : Rows.CollectRootsSaid := collectRoots.proved
end Go.Proofs.Ytfpghcdjfiggiaa
