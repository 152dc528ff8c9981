/- The law WireBack. No condition. -/
import Derived.Test.YtmlhdmnnijapjaaRows
import Derived.Test.YtmlhdmnnijapjaaBack
import Derived.Test.YtmlhdmnnijapjaaLawKit
import Derived.Test.YtmlhdmnnijapjaaShared
import Derived.WalkKit
import Derived.ProofKit
import Derived.OpenShut
import Derived.ShutString
import Derived.ChangeOld
import Derived.Below
import Derived.SizedLaws
import Derived.JoinedCond
namespace Go.Proofs.Ytmlhdmnnijapjaa.wireBack
open Go Go.ChangeShapes Go.WideShapes Go.ChangeAt Go.RowKit
open Go.ChangeMaps (open_string shut_string)
set_option linter.unusedVariables false
theorem own : ownKnob Try.prog.godebug = none := by kernel_rfl
theorem laidOut : laidOutB Try.prog = true := by kernel_rfl
set_option maxRecDepth 100000 in
theorem lifted (os : Os) (started : os.Started) (H : Type) (enc : TypeId × Value → H) (F : Stop.Interp) :
    ReturnsInHanded {} Try.checked os 4 .any ((Rows.OpenSpec.upto Rows.wireBackSpec).pre6 enc Try.prog Try.f4 Rows.wireBackUptoRow.domain false) (((Rows.OpenSpec.upto Rows.wireBackSpec).at F).post enc Try.prog Try.f4 false true false false) := by
  refine returnsInHanded_of_cond (C := Try.checked) (s := Rows.OpenSpec.upto Rows.wireBackSpec) (k := Rows.uptoSmall) rfl own started (by kernel_rfl) Try.func4
    (OpenSpec.witness (enc := enc) (C := Try.checked) (s := Rows.OpenSpec.upto Rows.wireBackSpec) (k := Rows.uptoSmall) rfl false ⟨#[], #[.int .i64 0, .string ByteArray.empty, .string ByteArray.empty, .string ByteArray.empty], []⟩ 8 (by kernel_rfl) (by kernel_rfl) (by kernel_rfl)
      (x := ([.lit (.int .i64 0), .lit (.string []), .lit (.string []), .lit (.string [])], [], [])) (by kernel_rfl) rfl (by kernel_rfl)) ?_
  intro W base args ds gs before hval0 hW _ hk0 _
  refine (?_ : Calls Try.prog 4 args W fun e W' => ∃ v, e = .returned v ∧ Rows.wireBackSpec.post enc Try.prog Try.f4 false true false false W args v W')
  have hval : ∀ (j : Nat) t v, Try.f4.params[j]? = some t → args[j]? = some v → Value.okWide Try.prog W .any base t v := hval0
  have hW' := hW
  obtain ⟨p, q, hA0, hV, rfl, hfz, hnd⟩ := hW
  have hA : DataW.TrodAll enc Try.prog W 0 (fun _ => true) true Try.f4.params.toList args.toList ds p := hA0
  rw [Try.params4] at hA hval
  obtain ⟨v0, vs0, d0, ds0, p0, q0, hargs, rfl, rfl, h0, r0⟩ := trodAll_cons hA
  obtain ⟨v1, vs1, d1, ds1, p1, q1, rfl, rfl, rfl, h1, r1⟩ := trodAll_cons r0
  obtain ⟨v2, vs2, d2, ds2, p2, q2, rfl, rfl, rfl, h2, r2⟩ := trodAll_cons r1
  obtain ⟨v3, vs3, d3, ds3, p3, q3, rfl, rfl, rfl, h3, r3⟩ := trodAll_cons r2
  obtain ⟨rfl, rfl, rfl⟩ := trodAll_nil r3
  obtain rfl : args = #[v0, v1, v2, v3] := by cases args; simp_all
  obtain ⟨rfl, rfl⟩ := trodVars_none hV
  obtain ⟨a0, rfl, rfl, rfl, w0⟩ := open_int Try.underlying3 (hval 0 3 v0 rfl rfl) h0
  obtain ⟨a1, rfl, rfl, rfl, y1⟩ := open_string Try.underlying9 (hval 1 9 v1 rfl rfl) h1
  obtain ⟨a2, rfl, rfl, rfl, y2⟩ := open_string Try.underlying9 (hval 2 9 v2 rfl rfl) h2
  obtain ⟨a3, rfl, rfl, rfl, y3⟩ := open_string Try.underlying9 (hval 3 9 v3 rfl rfl) h3
  have hk := of_decide_eq_true hk0
  simp only [List.append_nil, List.nil_append, List.cons_append, Rows.uptoBulkAll, Rows.uptoBulk, Array.length_toList] at hk
  have w1 : a1.size ≤ 1048576 := by have : a1.size = a1.data.size := rfl; omega
  have w2 : a2.size ≤ 1048576 := by have : a2.size = a2.data.size := rfl; omega
  have w3 : a3.size ≤ 1048576 := by have : a3.size = a3.data.size := rfl; omega
  clear hA0 hval0 hk0
  refine (V.true_of (V.back_c a0 a1 a2 a3 w1 w2 w3 fun w' f => ⟨rfl, V.below_of f⟩)).mono fun e W' ⟨he, bel⟩ => ?_
  subst he
  exact ⟨_, rfl, _, _, _, [], _, [], hW', trodAll_mk1 (shut_bool Try.underlying4 _), (trodAll_cons_mk (shut_int Try.underlying3 w0) (trodAll_cons_mk (shut_string Try.underlying9 y1) (trodAll_cons_mk (shut_string Try.underlying9 y2) (trodAll_cons_mk (shut_string Try.underlying9 y3) trodAll_mk0)))), rfl, bel.frame _, fun h => by cases h⟩
theorem k0 : (Rows.wireBackUptoRow.wf (OpenSpec.ofChange Rows.wireBackSpec)) = true := by kernel_rfl
theorem k1 : (laidOutB (Try.pinned.checked.prog)) = true := V.laid_out
theorem k2 : (mapsRowed (Try.pinned.checked.prog)) = true := V.maps_rowed
theorem k3 : (Try.f4.params.all ((Try.pinned.checked.prog).readableRec ·)) = true := by kernel_rfl
theorem k4 : (namedTie (Try.pinned.checked.prog) Rows.wireBackUptoRow.named Rows.wireBackSpec.vars) = true := by kernel_rfl
theorem k5 : ((Rows.wireBackUptoRow.stops == [])) = true := by kernel_rfl
theorem k6 : (((Try.pinned.checked.prog).stops == [])) = true := V.stops_none
theorem k7 : ((Rows.wireBackUptoRow.knobs == [])) = true := by kernel_rfl
theorem k8 : (((Try.pinned.checked.prog).stopKnobs == [])) = true := V.knobs_none
theorem k9 : ((Rows.wireBackUptoRow.inPlace == (Try.pinned.checked.prog).inPlace 4)) = true := by kernel_rfl
theorem k10 : ((Rows.wireBackUptoRow.unfollowed == (Try.pinned.checked.prog).unfollowed 4)) = true := by kernel_rfl
theorem k11 : ((Rows.wireBackUptoRow.recurses == (Try.pinned.checked.prog).recurses 4)) = true := by kernel_rfl
theorem k12 : ((Rows.wireBackUptoRow.named == (Try.pinned.checked.prog).varsNamed 4)) = true := by kernel_rfl
theorem k13 : ((Rows.wireBackUptoRow.maps == (Try.f4.params.toList ++ Rows.wireBackSpec.plain.varTypes (Try.pinned.checked.prog)).any ((Try.pinned.checked.prog).mapsRec ·))) = true := by kernel_rfl
theorem k14 : ((Rows.wireBackUptoRow.ifaces == (Try.f4.params.toList ++ Rows.wireBackSpec.plain.varTypes (Try.pinned.checked.prog)).any ((Try.pinned.checked.prog).ifacesRec ·))) = true := by kernel_rfl
theorem k15 : ((Rows.wireBackUptoRow.mapsOut == (Try.pinned.checked.prog).mapsAmong Try.f4.resultTypes.toList)) = true := by kernel_rfl
theorem k16 : ((Rows.wireBackUptoRow.loops == (Try.f4.params.toList ++ Rows.wireBackSpec.plain.varTypes (Try.pinned.checked.prog)).any ((Try.pinned.checked.prog).loopsFrom ·))) = true := by kernel_rfl
theorem k17 : ((Rows.wireBackUptoRow.wideKeys == (Try.f4.params.toList ++ Rows.wireBackSpec.plain.varTypes (Try.pinned.checked.prog) ++ Try.f4.resultTypes.toList).any ((Try.pinned.checked.prog).wideKeysFrom ·))) = true := by kernel_rfl
theorem k18 : (Rows.wireBackSpec.vars.all ((Try.pinned.checked.prog).varReadable ·)) = true := by kernel_rfl
theorem k19 : (Try.f4.resultTypes.all (fun t => (Try.pinned.checked.prog).readableRec t && decide (t < (Try.pinned.checked.prog).types.size))) = true := by kernel_rfl
theorem k20 : ((Rows.wireBackUptoRow.ifacesOut == Try.f4.resultTypes.toList.any ((Try.pinned.checked.prog).ifacesRec ·))) = true := by kernel_rfl
theorem k21 : ((Rows.wireBackUptoRow.loopsOut == Try.f4.resultTypes.toList.any ((Try.pinned.checked.prog).loopsFrom ·))) = true := by kernel_rfl
theorem k22 : ((Rows.wireBackUptoRow.plainKeys == (Try.pinned.checked.prog).plainKeys)) = true := by rw [V.plain_keys]; kernel_rfl
theorem k23 : (Rows.wireBackUptoRow.shortTexts.isNone) = true := by kernel_rfl
theorem k24 : ((Try.pinned.checked.prog).stopsHeard) = true := V.stops_heard
theorem k25 : ((Try.pinned.checked.prog).mayEnter) = true := V.may_enter
theorem k26 : ((Rows.wireBackUptoRow.lifted == (Try.pinned.checked.prog).liftsFinal)) = true := by rw [V.lifts_final]; kernel_rfl
theorem k27 : (((Try.pinned.checked.prog).make == some Rows.wireBackUptoRow.make)) = true := by rw [V.make_cut]; kernel_rfl
theorem k28 : ((Rows.wireBackUptoRow.kinds == (if Rows.wireBackUptoRow.domain.isEmpty then [] else Try.f4.params.toList.map fun t => match (Try.pinned.checked.prog).underlying t with | some (.int k) => some k | _ => none))) = true := by kernel_rfl
theorem k29 : ((Rows.wireBackUptoRow.pinned == Rows.wireBackUptoRow.pinnedBy)) = true := by kernel_rfl
theorem k30 : ((Rows.wireBackUptoRow.veiled == (Try.f4.params.toList ++ Rows.wireBackSpec.plain.varTypes (Try.pinned.checked.prog) ++ Try.f4.resultTypes.toList).any ((Try.pinned.checked.prog).veiledRec ·))) = true := by kernel_rfl
theorem k31 : (Rows.wireBackUptoRow.veiledFits (Try.pinned.checked.prog) Try.f4.params.toList (Try.f4.params.toList ++ Rows.wireBackSpec.plain.varTypes (Try.pinned.checked.prog) ++ Try.f4.resultTypes.toList)) = true := by kernel_rfl
set_option maxRecDepth 100000 in
theorem closed : joinedFacts Try.pinned.checked.prog 4 Try.f4 Rows.wireBackSpec Rows.wireBackUptoRow = true := by unfold joinedFacts; exact (V.and_mk (V.and_mk (V.and_mk (V.and_mk (V.and_mk (V.and_mk (V.and_mk (V.and_mk (V.and_mk (V.and_mk (V.and_mk (V.and_mk (V.and_mk (V.and_mk (V.and_mk (V.and_mk (V.and_mk (V.and_mk (V.and_mk (V.and_mk (V.and_mk (V.and_mk (V.and_mk (V.and_mk (V.and_mk (V.and_mk (V.and_mk (V.and_mk (V.and_mk (V.and_mk (V.and_mk k0 k1) k2) k3) k4) k5) k6) k7) k8) k9) k10) k11) k12) k13) k14) k15) k16) k17) k18) k19) k20) k21) k22) k23) k24) k25) k26) k27) k28) k29) k30) k31)
theorem over : Rows.wireBackUptoRow.holds Try.pinned (Rows.OpenSpec.upto Rows.wireBackSpec) :=
  OpenClaim.holds_of_cond 4 Try.f4 rfl rfl rfl rfl rfl rfl rfl ⟨rfl, rfl, rfl, rfl, rfl⟩ rfl rfl rfl rfl rfl (by kernel_rfl) Try.func4 closed
    (of_decide_eq_true (by kernel_rfl)) (by unfold Func.isWrapper; first | (rw [if_pos (by decide +kernel)]; kernel_rfl) | (rw [if_neg (by decide +kernel)]; exact ⟨rfl, rfl⟩))
    (fun os started H enc _ F => lifted os started H enc F)
theorem proved : Rows.WireBackUptoSaid := over
#print axioms proved
end Go.Proofs.Ytmlhdmnnijapjaa.wireBack
namespace Go.Proofs.Ytmlhdmnnijapjaa
/-- The row, under a short name, for the claim. -/
theorem wireBackUpto_holds : Rows.WireBackUptoSaid := wireBack.proved
end Go.Proofs.Ytmlhdmnnijapjaa

