/- The law MarkRows. No condition. -/
import Derived.Test.YtmlhdmnnijapjaaRows
import Derived.Test.YtmlhdmnnijapjaaMarkRows
import Derived.Test.YtmlhdmnnijapjaaArgs
import Derived.Test.YtmlhdmnnijapjaaLawKit
import Derived.Test.YtmlhdmnnijapjaaShared
import Derived.WalkKit
import Derived.ProofKit
import Derived.OpenShut
import Derived.ShutString
import Derived.ChangeOld
import Derived.Below
import Derived.SizedLaws
namespace Go.Proofs.Ytmlhdmnnijapjaa.markRows
open Go Go.ChangeShapes Go.WideShapes Go.ChangeAt Go.RowKit
open Go.ChangeMaps (open_string shut_string)
set_option linter.unusedVariables false
theorem own : ownKnob Try.prog.godebug = none := by kernel_rfl
theorem laidOut : laidOutB Try.prog = true := by kernel_rfl
set_option maxRecDepth 100000 in
theorem lifted (os : Os) (started : os.Started) (H : Type) (enc : TypeId × Value → H) :
    ReturnsInHanded {} Try.checked os 6 .any (Rows.markRowsSpec.pre6 enc Try.prog Try.f6 Rows.markRowsRow.domain false) (Rows.markRowsSpec.post enc Try.prog Try.f6 false true false false) := by
  refine returnsInHanded_of_change_sized (C := Try.checked) own started (by kernel_rfl) Try.func6
    (ChangeSpec.witness6 (enc := enc) (C := Try.checked) false ⟨#[], #[.int .i64 0, .slice none 0 0], []⟩ 8 (by kernel_rfl) (by kernel_rfl) (by kernel_rfl) (by kernel_rfl)) ?_
  intro W base args ds gs before hval0 hW hcnd hsz0 _
  have hsz : (DataW.weightsEach Try.prog (Try.f6.params.toList ++ Rows.markRowsSpec.plain.varTypes Try.prog) (ds ++ gs)).all (· ≤ reachBytes) = true := hsz0
  have hval : ∀ (j : Nat) t v, Try.f6.params[j]? = some t → args[j]? = some v → Value.okWide Try.prog W .any base t v := hval0
  have hW' := hW
  obtain ⟨p, q, hA0, hV, rfl, hfz, hnd⟩ := hW
  have hA : DataW.TrodAll enc Try.prog W 0 (fun _ => true) true Try.f6.params.toList args.toList ds p := hA0
  rw [Try.params6] at hA hval hsz
  obtain ⟨v0, vs0, d0, ds0, p0, q0, hargs, rfl, rfl, h0, r0⟩ := trodAll_cons hA
  obtain ⟨v1, vs1, d1, ds1, p1, q1, rfl, rfl, rfl, h1, r1⟩ := trodAll_cons r0
  obtain ⟨rfl, rfl, rfl⟩ := trodAll_nil r1
  obtain rfl : args = #[v0, v1] := by cases args; simp_all
  obtain ⟨rfl, rfl⟩ := trodVars_none hV
  obtain ⟨a0, rfl, rfl, rfl, w0⟩ := open_int Try.underlying3 (hval 0 3 v0 rfl rfl) h0
  have k1 := h1
  have lt1 : ∀ x ∈ p1, x.block < W.heap.size := by obtain ⟨m, hm⟩ := k1; exact DataW.trod_lt m _ _ _ hm
  obtain ⟨a1, zs1, c1, rfl, m1, g1⟩ := V.open_nums Try.underlying38 Try.underlying3 (by kernel_rfl) (hval 1 38 v1 rfl rfl) h1
  clear hA0 hval0 hsz0 hsz
  refine (V.true_of (V.markRows_c a0 c1 g1 fun w'' f => ⟨rfl, V.below_of f⟩)).mono fun e W' ⟨he, bel⟩ => ?_
  subst he
  exact ⟨_, rfl, _, _, _, [], _, [], hW', trodAll_mk1 (shut_bool Try.underlying4 _), (trodAll_cons_mk (shut_int Try.underlying3 w0) (trodAll_cons_mk (Below.trod laidOut (by kernel_rfl) (of_decide_eq_true (by kernel_rfl)) k1 bel lt1) trodAll_mk0)), rfl, bel.frame _, fun h => by cases h⟩
theorem k0 : (Rows.markRowsRow.wf (OpenSpec.ofChange Rows.markRowsSpec)) = true := by kernel_rfl
theorem k1 : (laidOutB (Try.pinned.checked.prog)) = true := V.laid_out
theorem k2 : (mapsRowed (Try.pinned.checked.prog)) = true := V.maps_rowed
theorem k3 : (Try.f6.params.all ((Try.pinned.checked.prog).readableRec ·)) = true := by kernel_rfl
theorem k4 : (namedTie (Try.pinned.checked.prog) Rows.markRowsRow.named Rows.markRowsSpec.vars) = true := by kernel_rfl
theorem k5 : ((Rows.markRowsRow.stops == [])) = true := by kernel_rfl
theorem k6 : (((Try.pinned.checked.prog).stops == [])) = true := V.stops_none
theorem k7 : ((Rows.markRowsRow.knobs == [])) = true := by kernel_rfl
theorem k8 : (((Try.pinned.checked.prog).stopKnobs == [])) = true := V.knobs_none
theorem k9 : ((Rows.markRowsRow.inPlace == (Try.pinned.checked.prog).inPlace 6)) = true := by kernel_rfl
theorem k10 : ((Rows.markRowsRow.unfollowed == (Try.pinned.checked.prog).unfollowed 6)) = true := by kernel_rfl
theorem k11 : ((Rows.markRowsRow.recurses == (Try.pinned.checked.prog).recurses 6)) = true := by kernel_rfl
theorem k12 : ((Rows.markRowsRow.named == (Try.pinned.checked.prog).varsNamed 6)) = true := by kernel_rfl
theorem k13 : ((Rows.markRowsRow.maps == (Try.f6.params.toList ++ Rows.markRowsSpec.plain.varTypes (Try.pinned.checked.prog)).any ((Try.pinned.checked.prog).mapsRec ·))) = true := by kernel_rfl
theorem k14 : ((Rows.markRowsRow.ifaces == (Try.f6.params.toList ++ Rows.markRowsSpec.plain.varTypes (Try.pinned.checked.prog)).any ((Try.pinned.checked.prog).ifacesRec ·))) = true := by kernel_rfl
theorem k15 : ((Rows.markRowsRow.mapsOut == (Try.pinned.checked.prog).mapsAmong Try.f6.resultTypes.toList)) = true := by kernel_rfl
theorem k16 : ((Rows.markRowsRow.loops == (Try.f6.params.toList ++ Rows.markRowsSpec.plain.varTypes (Try.pinned.checked.prog)).any ((Try.pinned.checked.prog).loopsFrom ·))) = true := by kernel_rfl
theorem k17 : ((Rows.markRowsRow.wideKeys == (Try.f6.params.toList ++ Rows.markRowsSpec.plain.varTypes (Try.pinned.checked.prog) ++ Try.f6.resultTypes.toList).any ((Try.pinned.checked.prog).wideKeysFrom ·))) = true := by kernel_rfl
theorem k18 : (Rows.markRowsSpec.vars.all ((Try.pinned.checked.prog).varReadable ·)) = true := by kernel_rfl
theorem k19 : (Try.f6.resultTypes.all (fun t => (Try.pinned.checked.prog).readableRec t && decide (t < (Try.pinned.checked.prog).types.size))) = true := by kernel_rfl
theorem k20 : ((Rows.markRowsRow.ifacesOut == Try.f6.resultTypes.toList.any ((Try.pinned.checked.prog).ifacesRec ·))) = true := by kernel_rfl
theorem k21 : ((Rows.markRowsRow.loopsOut == Try.f6.resultTypes.toList.any ((Try.pinned.checked.prog).loopsFrom ·))) = true := by kernel_rfl
theorem k22 : ((Rows.markRowsRow.plainKeys == (Try.pinned.checked.prog).plainKeys)) = true := by rw [V.plain_keys]; kernel_rfl
theorem k23 : (Rows.markRowsRow.shortTexts.isNone) = true := by kernel_rfl
theorem k24 : ((Try.pinned.checked.prog).stopsHeard) = true := V.stops_heard
theorem k25 : ((Try.pinned.checked.prog).mayEnter) = true := V.may_enter
theorem k26 : ((Rows.markRowsRow.lifted == (Try.pinned.checked.prog).liftsFinal)) = true := by rw [V.lifts_final]; kernel_rfl
theorem k27 : (((Try.pinned.checked.prog).make == some Rows.markRowsRow.make)) = true := by rw [V.make_cut]; kernel_rfl
theorem k28 : ((Rows.markRowsRow.kinds == (if Rows.markRowsRow.domain.isEmpty then [] else Try.f6.params.toList.map fun t => match (Try.pinned.checked.prog).underlying t with | some (.int k) => some k | _ => none))) = true := by kernel_rfl
theorem k29 : ((Rows.markRowsRow.pinned == Rows.markRowsRow.pinnedBy)) = true := by kernel_rfl
theorem k30 : ((Rows.markRowsRow.veiled == (Try.f6.params.toList ++ Rows.markRowsSpec.plain.varTypes (Try.pinned.checked.prog) ++ Try.f6.resultTypes.toList).any ((Try.pinned.checked.prog).veiledRec ·))) = true := by kernel_rfl
theorem k31 : (Rows.markRowsRow.veiledFits (Try.pinned.checked.prog) Try.f6.params.toList (Try.f6.params.toList ++ Rows.markRowsSpec.plain.varTypes (Try.pinned.checked.prog) ++ Try.f6.resultTypes.toList)) = true := by kernel_rfl
set_option maxRecDepth 100000 in
theorem closed : joinedFacts Try.pinned.checked.prog 6 Try.f6 Rows.markRowsSpec Rows.markRowsRow = true := by unfold joinedFacts; exact (V.and_mk (V.and_mk (V.and_mk (V.and_mk (V.and_mk (V.and_mk (V.and_mk (V.and_mk (V.and_mk (V.and_mk (V.and_mk (V.and_mk (V.and_mk (V.and_mk (V.and_mk (V.and_mk (V.and_mk (V.and_mk (V.and_mk (V.and_mk (V.and_mk (V.and_mk (V.and_mk (V.and_mk (V.and_mk (V.and_mk (V.and_mk (V.and_mk (V.and_mk (V.and_mk (V.and_mk k0 k1) k2) k3) k4) k5) k6) k7) k8) k9) k10) k11) k12) k13) k14) k15) k16) k17) k18) k19) k20) k21) k22) k23) k24) k25) k26) k27) k28) k29) k30) k31)
theorem over : Rows.markRowsRow.holds Try.pinned (OpenSpec.ofChange Rows.markRowsSpec) :=
  OpenClaim.holds_of_wide 6 Try.f6 rfl rfl rfl rfl rfl rfl rfl ⟨rfl, rfl, rfl, rfl, rfl⟩ rfl rfl rfl rfl rfl (by kernel_rfl) Try.func6 closed
    (of_decide_eq_true (by kernel_rfl)) (by unfold Func.isWrapper; first | (rw [if_pos (by decide +kernel)]; kernel_rfl) | (rw [if_neg (by decide +kernel)]; exact ⟨rfl, rfl⟩))
    (fun os started H enc _ => lifted os started H enc)
theorem proved : Rows.MarkRowsSaid := over
#print axioms proved
end Go.Proofs.Ytmlhdmnnijapjaa.markRows
namespace Go.Proofs.Ytmlhdmnnijapjaa
/-- The row, under a short name, for the claim. -/
theorem markRows_holds : Rows.MarkRowsSaid := markRows.proved
end Go.Proofs.Ytmlhdmnnijapjaa
