/- The law ClassBack. No condition. -/
import Derived.Test.YtmlhdmnnijapjaaRows
import Derived.Test.YtmlhdmnnijapjaaBack9
import Derived.Test.YtmlhdmnnijapjaaArgs
import Derived.Test.YtmlhdmnnijapjaaClassB
import Derived.Test.YtmlhdmnnijapjaaLawKit
import Derived.Test.YtmlhdmnnijapjaaShared
import Derived.WalkKit
import Derived.ProofKit
import Derived.OpenShut
import Derived.ShutString
import Derived.ChangeOld
import Derived.Below
import Derived.SizedLaws
namespace Go.Proofs.Ytmlhdmnnijapjaa.classBack
open Go Go.ChangeShapes Go.WideShapes Go.ChangeAt Go.RowKit
open Go.ChangeMaps (open_string shut_string)
set_option linter.unusedVariables false
theorem own : ownKnob Try.prog.godebug = none := by kernel_rfl
theorem laidOut : laidOutB Try.prog = true := by kernel_rfl
set_option maxRecDepth 100000 in
theorem lifted (os : Os) (started : os.Started) (H : Type) (enc : TypeId × Value → H) :
    ReturnsInHanded {} Try.checked os 9 .any (Rows.classBackSpec.pre6 enc Try.prog Try.f9 Rows.classBackRow.domain false) (Rows.classBackSpec.post enc Try.prog Try.f9 false true false false) := by
  refine returnsInHanded_of_change_sized (C := Try.checked) own started (by kernel_rfl) Try.func9
    (ChangeSpec.witness6 (enc := enc) (C := Try.checked) false ⟨#[], #[.string ByteArray.empty, .agg #[.int .i64 0, .slice none 0 0]], []⟩ 8 (by kernel_rfl) (by kernel_rfl) (by kernel_rfl) (by kernel_rfl)) ?_
  intro W base args ds gs before hval0 hW hcnd hsz0 _
  have hsz : (DataW.weightsEach Try.prog (Try.f9.params.toList ++ Rows.classBackSpec.plain.varTypes Try.prog) (ds ++ gs)).all (· ≤ reachBytes) = true := hsz0
  have hval : ∀ (j : Nat) t v, Try.f9.params[j]? = some t → args[j]? = some v → Value.okWide Try.prog W .any base t v := hval0
  have hW' := hW
  obtain ⟨p, q, hA0, hV, rfl, hfz, hnd⟩ := hW
  have hA : DataW.TrodAll enc Try.prog W 0 (fun _ => true) true Try.f9.params.toList args.toList ds p := hA0
  rw [Try.params9] at hA hval hsz
  obtain ⟨v0, vs0, d0, ds0, p0, q0, hargs, rfl, rfl, h0, r0⟩ := trodAll_cons hA
  obtain ⟨v1, vs1, d1, ds1, p1, q1, rfl, rfl, rfl, h1, r1⟩ := trodAll_cons r0
  obtain ⟨rfl, rfl, rfl⟩ := trodAll_nil r1
  obtain rfl : args = #[v0, v1] := by cases args; simp_all
  obtain ⟨rfl, rfl⟩ := trodVars_none hV
  obtain ⟨a0, rfl, rfl, rfl, y0⟩ := open_string Try.underlying9 (hval 0 9 v0 rfl rfl) h0
  have w0 : a0.size ≤ 140737488351232 := by
    have z := sized_string hsz (j := 0) (t := 9) rfl rfl
    rw [Array.length_toList] at z
    exact z
  have k1 := h1
  have lt1 : ∀ x ∈ p1, x.block < W.heap.size := by obtain ⟨m, hm⟩ := k1; exact DataW.trod_lt m _ _ _ hm
  obtain ⟨a1, l1, c1, P1, rfl, g1, o1⟩ := V.open_prg (hval 1 54 v1 rfl rfl) h1
  clear hA0 hval0 hsz0 hsz
  refine (V.true_of (V.classBack_c a0 P1 o1 g1 (fun w f => ⟨rfl, V.below_of f⟩))).mono fun e W' ⟨he, bel⟩ => ?_
  subst he
  exact ⟨_, rfl, _, _, _, [], _, [], hW', trodAll_mk1 (shut_bool Try.underlying4 _), (trodAll_cons_mk (shut_string Try.underlying9 y0) (trodAll_cons_mk (Below.trod laidOut (by kernel_rfl) (of_decide_eq_true (by kernel_rfl)) k1 bel lt1) trodAll_mk0)), rfl, bel.frame _, fun h => by cases h⟩
theorem k0 : (Rows.classBackRow.wf (OpenSpec.ofChange Rows.classBackSpec)) = true := by kernel_rfl
theorem k1 : (laidOutB (Try.pinned.checked.prog)) = true := V.laid_out
theorem k2 : (mapsRowed (Try.pinned.checked.prog)) = true := V.maps_rowed
theorem k3 : (Try.f9.params.all ((Try.pinned.checked.prog).readableRec ·)) = true := by kernel_rfl
theorem k4 : (namedTie (Try.pinned.checked.prog) Rows.classBackRow.named Rows.classBackSpec.vars) = true := by kernel_rfl
theorem k5 : ((Rows.classBackRow.stops == [])) = true := by kernel_rfl
theorem k6 : (((Try.pinned.checked.prog).stops == [])) = true := V.stops_none
theorem k7 : ((Rows.classBackRow.knobs == [])) = true := by kernel_rfl
theorem k8 : (((Try.pinned.checked.prog).stopKnobs == [])) = true := V.knobs_none
theorem k9 : ((Rows.classBackRow.inPlace == (Try.pinned.checked.prog).inPlace 9)) = true := by kernel_rfl
theorem k10 : ((Rows.classBackRow.unfollowed == (Try.pinned.checked.prog).unfollowed 9)) = true := by kernel_rfl
theorem k11 : ((Rows.classBackRow.recurses == (Try.pinned.checked.prog).recurses 9)) = true := by kernel_rfl
theorem k12 : ((Rows.classBackRow.named == (Try.pinned.checked.prog).varsNamed 9)) = true := by kernel_rfl
theorem k13 : ((Rows.classBackRow.maps == (Try.f9.params.toList ++ Rows.classBackSpec.plain.varTypes (Try.pinned.checked.prog)).any ((Try.pinned.checked.prog).mapsRec ·))) = true := by kernel_rfl
theorem k14 : ((Rows.classBackRow.ifaces == (Try.f9.params.toList ++ Rows.classBackSpec.plain.varTypes (Try.pinned.checked.prog)).any ((Try.pinned.checked.prog).ifacesRec ·))) = true := by kernel_rfl
theorem k15 : ((Rows.classBackRow.mapsOut == (Try.pinned.checked.prog).mapsAmong Try.f9.resultTypes.toList)) = true := by kernel_rfl
theorem k16 : ((Rows.classBackRow.loops == (Try.f9.params.toList ++ Rows.classBackSpec.plain.varTypes (Try.pinned.checked.prog)).any ((Try.pinned.checked.prog).loopsFrom ·))) = true := by kernel_rfl
theorem k17 : ((Rows.classBackRow.wideKeys == (Try.f9.params.toList ++ Rows.classBackSpec.plain.varTypes (Try.pinned.checked.prog) ++ Try.f9.resultTypes.toList).any ((Try.pinned.checked.prog).wideKeysFrom ·))) = true := by kernel_rfl
theorem k18 : (Rows.classBackSpec.vars.all ((Try.pinned.checked.prog).varReadable ·)) = true := by kernel_rfl
theorem k19 : (Try.f9.resultTypes.all (fun t => (Try.pinned.checked.prog).readableRec t && decide (t < (Try.pinned.checked.prog).types.size))) = true := by kernel_rfl
theorem k20 : ((Rows.classBackRow.ifacesOut == Try.f9.resultTypes.toList.any ((Try.pinned.checked.prog).ifacesRec ·))) = true := by kernel_rfl
theorem k21 : ((Rows.classBackRow.loopsOut == Try.f9.resultTypes.toList.any ((Try.pinned.checked.prog).loopsFrom ·))) = true := by kernel_rfl
theorem k22 : ((Rows.classBackRow.plainKeys == (Try.pinned.checked.prog).plainKeys)) = true := by rw [V.plain_keys]; kernel_rfl
theorem k23 : (Rows.classBackRow.shortTexts.isNone) = true := by kernel_rfl
theorem k24 : ((Try.pinned.checked.prog).stopsHeard) = true := V.stops_heard
theorem k25 : ((Try.pinned.checked.prog).mayEnter) = true := V.may_enter
theorem k26 : ((Rows.classBackRow.lifted == (Try.pinned.checked.prog).liftsFinal)) = true := by rw [V.lifts_final]; kernel_rfl
theorem k27 : (((Try.pinned.checked.prog).make == some Rows.classBackRow.make)) = true := by rw [V.make_cut]; kernel_rfl
theorem k28 : ((Rows.classBackRow.kinds == (if Rows.classBackRow.domain.isEmpty then [] else Try.f9.params.toList.map fun t => match (Try.pinned.checked.prog).underlying t with | some (.int k) => some k | _ => none))) = true := by kernel_rfl
theorem k29 : ((Rows.classBackRow.pinned == Rows.classBackRow.pinnedBy)) = true := by kernel_rfl
theorem k30 : ((Rows.classBackRow.veiled == (Try.f9.params.toList ++ Rows.classBackSpec.plain.varTypes (Try.pinned.checked.prog) ++ Try.f9.resultTypes.toList).any ((Try.pinned.checked.prog).veiledRec ·))) = true := by kernel_rfl
theorem k31 : (Rows.classBackRow.veiledFits (Try.pinned.checked.prog) Try.f9.params.toList (Try.f9.params.toList ++ Rows.classBackSpec.plain.varTypes (Try.pinned.checked.prog) ++ Try.f9.resultTypes.toList)) = true := by kernel_rfl
set_option maxRecDepth 100000 in
theorem closed : joinedFacts Try.pinned.checked.prog 9 Try.f9 Rows.classBackSpec Rows.classBackRow = true := by unfold joinedFacts; exact (V.and_mk (V.and_mk (V.and_mk (V.and_mk (V.and_mk (V.and_mk (V.and_mk (V.and_mk (V.and_mk (V.and_mk (V.and_mk (V.and_mk (V.and_mk (V.and_mk (V.and_mk (V.and_mk (V.and_mk (V.and_mk (V.and_mk (V.and_mk (V.and_mk (V.and_mk (V.and_mk (V.and_mk (V.and_mk (V.and_mk (V.and_mk (V.and_mk (V.and_mk (V.and_mk (V.and_mk k0 k1) k2) k3) k4) k5) k6) k7) k8) k9) k10) k11) k12) k13) k14) k15) k16) k17) k18) k19) k20) k21) k22) k23) k24) k25) k26) k27) k28) k29) k30) k31)
theorem over : Rows.classBackRow.holds Try.pinned (OpenSpec.ofChange Rows.classBackSpec) :=
  OpenClaim.holds_of_wide 9 Try.f9 rfl rfl rfl rfl rfl rfl rfl ⟨rfl, rfl, rfl, rfl, rfl⟩ rfl rfl rfl rfl rfl (by kernel_rfl) Try.func9 closed
    (of_decide_eq_true (by kernel_rfl)) (by unfold Func.isWrapper; first | (rw [if_pos (by decide +kernel)]; kernel_rfl) | (rw [if_neg (by decide +kernel)]; exact ⟨rfl, rfl⟩))
    (fun os started H enc _ => lifted os started H enc)
theorem proved : Rows.ClassBackSaid := over
#print axioms proved
end Go.Proofs.Ytmlhdmnnijapjaa.classBack
namespace Go.Proofs.Ytmlhdmnnijapjaa
/-- The row, under a short name, for the claim. -/
theorem classBack_holds : Rows.ClassBackSaid := classBack.proved
end Go.Proofs.Ytmlhdmnnijapjaa
