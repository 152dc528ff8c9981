/- The law ClassCuts. No condition. -/
import Derived.Test.YtmlhdmnnijapjaaRows
import Derived.Test.YtmlhdmnnijapjaaCuts10
import Derived.Test.YtmlhdmnnijapjaaArgs
import Derived.Test.YtmlhdmnnijapjaaClassB
import Derived.Test.YtmlhdmnnijapjaaLawKit
import Derived.Test.YtmlhdmnnijapjaaShared
import Derived.WalkKit
import Derived.ProofKit
import Derived.OpenShut
import Derived.ShutString
import Derived.ChangeOld
import Derived.Below
import Derived.SizedLaws
namespace Go.Proofs.Ytmlhdmnnijapjaa.classCuts
open Go Go.ChangeShapes Go.WideShapes Go.ChangeAt Go.RowKit
open Go.ChangeMaps (open_string shut_string)
set_option linter.unusedVariables false
theorem own : ownKnob Try.prog.godebug = none := by kernel_rfl
theorem laidOut : laidOutB Try.prog = true := by kernel_rfl
set_option maxRecDepth 100000 in
theorem lifted (os : Os) (started : os.Started) (H : Type) (enc : TypeId × Value → H) :
    ReturnsInHanded {} Try.checked os 10 .any (Rows.classCutsSpec.pre6 enc Try.prog Try.f10 Rows.classCutsRow.domain false) (Rows.classCutsSpec.post enc Try.prog Try.f10 false true false false) := by
  refine returnsInHanded_of_change_sized (C := Try.checked) own started (by kernel_rfl) Try.func10
    (ChangeSpec.witness6 (enc := enc) (C := Try.checked) false ⟨#[], #[.agg #[.int .i64 0, .slice none 0 0], .int .i64 0], []⟩ 8 (by kernel_rfl) (by kernel_rfl) (by kernel_rfl) (by kernel_rfl)) ?_
  intro W base args ds gs before hval0 hW hcnd hsz0 _
  have hsz : (DataW.weightsEach Try.prog (Try.f10.params.toList ++ Rows.classCutsSpec.plain.varTypes Try.prog) (ds ++ gs)).all (· ≤ reachBytes) = true := hsz0
  have hval : ∀ (j : Nat) t v, Try.f10.params[j]? = some t → args[j]? = some v → Value.okWide Try.prog W .any base t v := hval0
  have hW' := hW
  obtain ⟨p, q, hA0, hV, rfl, hfz, hnd⟩ := hW
  have hA : DataW.TrodAll enc Try.prog W 0 (fun _ => true) true Try.f10.params.toList args.toList ds p := hA0
  rw [Try.params10] at hA hval hsz
  obtain ⟨v0, vs0, d0, ds0, p0, q0, hargs, rfl, rfl, h0, r0⟩ := trodAll_cons hA
  obtain ⟨v1, vs1, d1, ds1, p1, q1, rfl, rfl, rfl, h1, r1⟩ := trodAll_cons r0
  obtain ⟨rfl, rfl, rfl⟩ := trodAll_nil r1
  obtain rfl : args = #[v0, v1] := by cases args; simp_all
  obtain ⟨rfl, rfl⟩ := trodVars_none hV
  have k0 := h0
  have lt0 : ∀ x ∈ p0, x.block < W.heap.size := by obtain ⟨m, hm⟩ := k0; exact DataW.trod_lt m _ _ _ hm
  obtain ⟨a0, l0, c0, P0, rfl, g0, o0⟩ := V.open_prg (hval 0 54 v0 rfl rfl) h0
  obtain ⟨a1, rfl, rfl, rfl, w1⟩ := open_int Try.underlying3 (hval 1 3 v1 rfl rfl) h1
  clear hA0 hval0 hsz0 hsz
  refine (V.true_of (V.classCuts_c P0 o0 g0 a1 (fun w f => ⟨rfl, V.below_of f⟩))).mono fun e W' ⟨he, bel⟩ => ?_
  subst he
  exact ⟨_, rfl, _, _, _, [], _, [], hW', trodAll_mk1 (shut_bool Try.underlying4 _), (trodAll_cons_mk (Below.trod laidOut (by kernel_rfl) (of_decide_eq_true (by kernel_rfl)) k0 bel lt0) (trodAll_cons_mk (shut_int Try.underlying3 w1) trodAll_mk0)), rfl, bel.frame _, fun h => by cases h⟩
theorem k0 : (Rows.classCutsRow.wf (OpenSpec.ofChange Rows.classCutsSpec)) = true := by kernel_rfl
theorem k1 : (laidOutB (Try.pinned.checked.prog)) = true := V.laid_out
theorem k2 : (mapsRowed (Try.pinned.checked.prog)) = true := V.maps_rowed
theorem k3 : (Try.f10.params.all ((Try.pinned.checked.prog).readableRec ·)) = true := by kernel_rfl
theorem k4 : (namedTie (Try.pinned.checked.prog) Rows.classCutsRow.named Rows.classCutsSpec.vars) = true := by kernel_rfl
theorem k5 : ((Rows.classCutsRow.stops == [])) = true := by kernel_rfl
theorem k6 : (((Try.pinned.checked.prog).stops == [])) = true := V.stops_none
theorem k7 : ((Rows.classCutsRow.knobs == [])) = true := by kernel_rfl
theorem k8 : (((Try.pinned.checked.prog).stopKnobs == [])) = true := V.knobs_none
theorem k9 : ((Rows.classCutsRow.inPlace == (Try.pinned.checked.prog).inPlace 10)) = true := by kernel_rfl
theorem k10 : ((Rows.classCutsRow.unfollowed == (Try.pinned.checked.prog).unfollowed 10)) = true := by kernel_rfl
theorem k11 : ((Rows.classCutsRow.recurses == (Try.pinned.checked.prog).recurses 10)) = true := by kernel_rfl
theorem k12 : ((Rows.classCutsRow.named == (Try.pinned.checked.prog).varsNamed 10)) = true := by kernel_rfl
theorem k13 : ((Rows.classCutsRow.maps == (Try.f10.params.toList ++ Rows.classCutsSpec.plain.varTypes (Try.pinned.checked.prog)).any ((Try.pinned.checked.prog).mapsRec ·))) = true := by kernel_rfl
theorem k14 : ((Rows.classCutsRow.ifaces == (Try.f10.params.toList ++ Rows.classCutsSpec.plain.varTypes (Try.pinned.checked.prog)).any ((Try.pinned.checked.prog).ifacesRec ·))) = true := by kernel_rfl
theorem k15 : ((Rows.classCutsRow.mapsOut == (Try.pinned.checked.prog).mapsAmong Try.f10.resultTypes.toList)) = true := by kernel_rfl
theorem k16 : ((Rows.classCutsRow.loops == (Try.f10.params.toList ++ Rows.classCutsSpec.plain.varTypes (Try.pinned.checked.prog)).any ((Try.pinned.checked.prog).loopsFrom ·))) = true := by kernel_rfl
theorem k17 : ((Rows.classCutsRow.wideKeys == (Try.f10.params.toList ++ Rows.classCutsSpec.plain.varTypes (Try.pinned.checked.prog) ++ Try.f10.resultTypes.toList).any ((Try.pinned.checked.prog).wideKeysFrom ·))) = true := by kernel_rfl
theorem k18 : (Rows.classCutsSpec.vars.all ((Try.pinned.checked.prog).varReadable ·)) = true := by kernel_rfl
theorem k19 : (Try.f10.resultTypes.all (fun t => (Try.pinned.checked.prog).readableRec t && decide (t < (Try.pinned.checked.prog).types.size))) = true := by kernel_rfl
theorem k20 : ((Rows.classCutsRow.ifacesOut == Try.f10.resultTypes.toList.any ((Try.pinned.checked.prog).ifacesRec ·))) = true := by kernel_rfl
theorem k21 : ((Rows.classCutsRow.loopsOut == Try.f10.resultTypes.toList.any ((Try.pinned.checked.prog).loopsFrom ·))) = true := by kernel_rfl
theorem k22 : ((Rows.classCutsRow.plainKeys == (Try.pinned.checked.prog).plainKeys)) = true := by rw [V.plain_keys]; kernel_rfl
theorem k23 : (Rows.classCutsRow.shortTexts.isNone) = true := by kernel_rfl
theorem k24 : ((Try.pinned.checked.prog).stopsHeard) = true := V.stops_heard
theorem k25 : ((Try.pinned.checked.prog).mayEnter) = true := V.may_enter
theorem k26 : ((Rows.classCutsRow.lifted == (Try.pinned.checked.prog).liftsFinal)) = true := by rw [V.lifts_final]; kernel_rfl
theorem k27 : (((Try.pinned.checked.prog).make == some Rows.classCutsRow.make)) = true := by rw [V.make_cut]; kernel_rfl
theorem k28 : ((Rows.classCutsRow.kinds == (if Rows.classCutsRow.domain.isEmpty then [] else Try.f10.params.toList.map fun t => match (Try.pinned.checked.prog).underlying t with | some (.int k) => some k | _ => none))) = true := by kernel_rfl
theorem k29 : ((Rows.classCutsRow.pinned == Rows.classCutsRow.pinnedBy)) = true := by kernel_rfl
theorem k30 : ((Rows.classCutsRow.veiled == (Try.f10.params.toList ++ Rows.classCutsSpec.plain.varTypes (Try.pinned.checked.prog) ++ Try.f10.resultTypes.toList).any ((Try.pinned.checked.prog).veiledRec ·))) = true := by kernel_rfl
theorem k31 : (Rows.classCutsRow.veiledFits (Try.pinned.checked.prog) Try.f10.params.toList (Try.f10.params.toList ++ Rows.classCutsSpec.plain.varTypes (Try.pinned.checked.prog) ++ Try.f10.resultTypes.toList)) = true := by kernel_rfl
set_option maxRecDepth 100000 in
theorem closed : joinedFacts Try.pinned.checked.prog 10 Try.f10 Rows.classCutsSpec Rows.classCutsRow = true := by unfold joinedFacts; exact (V.and_mk (V.and_mk (V.and_mk (V.and_mk (V.and_mk (V.and_mk (V.and_mk (V.and_mk (V.and_mk (V.and_mk (V.and_mk (V.and_mk (V.and_mk (V.and_mk (V.and_mk (V.and_mk (V.and_mk (V.and_mk (V.and_mk (V.and_mk (V.and_mk (V.and_mk (V.and_mk (V.and_mk (V.and_mk (V.and_mk (V.and_mk (V.and_mk (V.and_mk (V.and_mk (V.and_mk k0 k1) k2) k3) k4) k5) k6) k7) k8) k9) k10) k11) k12) k13) k14) k15) k16) k17) k18) k19) k20) k21) k22) k23) k24) k25) k26) k27) k28) k29) k30) k31)
theorem over : Rows.classCutsRow.holds Try.pinned (OpenSpec.ofChange Rows.classCutsSpec) :=
  OpenClaim.holds_of_wide 10 Try.f10 rfl rfl rfl rfl rfl rfl rfl ⟨rfl, rfl, rfl, rfl, rfl⟩ rfl rfl rfl rfl rfl (by kernel_rfl) Try.func10 closed
    (of_decide_eq_true (by kernel_rfl)) (by unfold Func.isWrapper; first | (rw [if_pos (by decide +kernel)]; kernel_rfl) | (rw [if_neg (by decide +kernel)]; exact ⟨rfl, rfl⟩))
    (fun os started H enc _ => lifted os started H enc)
theorem proved : Rows.ClassCutsSaid := over
#print axioms proved
end Go.Proofs.Ytmlhdmnnijapjaa.classCuts
namespace Go.Proofs.Ytmlhdmnnijapjaa
/-- The row, under a short name, for the claim. -/
theorem classCuts_holds : Rows.ClassCutsSaid := classCuts.proved
end Go.Proofs.Ytmlhdmnnijapjaa
