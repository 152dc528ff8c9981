-- PRINTED BY print.sh 35421559b90ae4d0a3588c463048766b98c2df88dd9212a6774a882060cdf62d: not written by this session
import Derived.Test.YtjopegohhenpiaaPGneissNamesx0
import Derived.Test.YtjopegohhenpiaaPGneissNamesx1
import Derived.Test.YtjopegohhenpiaaPGneissNamesx2
namespace Go.Proofs.Ytjopegohhenpiaa.PGneissNames
open Go.RowKit Go.Proofs.YtjopegohhenpiaaW.PrintWords Go.Proofs.YtjopegohhenpiaaW.PrintLast Go.Proofs.YtjopegohhenpiaaW.PrintMore
attribute [local go_sem] max2_int min2_int max_two min_two max_three min_three max_four min_four   -- for this text's walks alone
set_option linter.unusedVariables false
set_option linter.unusedSimpArgs false

/-! ### gneisslaw0_errors7: function 19 -/
def gneisslaw0_errors7.f  : Option (Bool) := (gneisslaw0_Num.f 2100).bind fun t185 => (if t185 = 2100 then ((gneisslaw0_Num.f 2101).bind fun t186 => (if t186 = 2101 then ((gneisslaw0_Num.f 2200).bind fun t187 => (if t187 = 2200 then ((gneisslaw0_Num.f 2201).bind fun t188 => (if t188 = 2201 then ((gneisslaw0_Num.f 2202).bind fun t189 => (if t189 = 2202 then ((gneisslaw0_Num.f 2300).bind fun t190 => (if t190 = 2300 then ((gneisslaw0_Num.f 2301).bind fun t191 => (if t191 = 2301 then ((gneisslaw0_Num.f 2400).bind fun t192 => (if t192 = 2400 then ((gneisslaw0_Num.f 2401).bind fun t193 => (if t193 = 2401 then ((gneisslaw0_Num.f 2500).bind fun t194 => (if t194 = 2500 then ((gneisslaw0_Num.f 2501).bind fun t195 => (if t195 = 2501 then ((gneisslaw0_Num.f 2600).bind fun t196 => (if t196 = 2600 then ((gneisslaw0_Num.f 2700).bind fun t197 => (if t197 = 2700 then ((gneisslaw0_Num.f 2701).bind fun t198 => (some (t198 == 2701))) else (some false))) else (some false))) else (some false))) else (some false))) else (some false))) else (some false))) else (some false))) else (some false))) else (some false))) else (some false))) else (some false))) else (some false))) else (some false))
set_option maxHeartbeats 8000000 in
set_option maxRecDepth 100000 in
theorem gneisslaw0_errors7.calls  (r : Bool) (w : World) (h : gneisslaw0_errors7.f  = some r) :
    Calls Try.prog 19 #[] w fun e w' => e = .returned (.bool r) ∧ Drawn0 w w' := by
  have H : ((gneisslaw0_Num.f 2100).bind fun t185 => (if t185 = 2100 then ((gneisslaw0_Num.f 2101).bind fun t186 => (if t186 = 2101 then ((gneisslaw0_Num.f 2200).bind fun t187 => (if t187 = 2200 then ((gneisslaw0_Num.f 2201).bind fun t188 => (if t188 = 2201 then ((gneisslaw0_Num.f 2202).bind fun t189 => (if t189 = 2202 then ((gneisslaw0_Num.f 2300).bind fun t190 => (if t190 = 2300 then ((gneisslaw0_Num.f 2301).bind fun t191 => (if t191 = 2301 then ((gneisslaw0_Num.f 2400).bind fun t192 => (if t192 = 2400 then ((gneisslaw0_Num.f 2401).bind fun t193 => (if t193 = 2401 then ((gneisslaw0_Num.f 2500).bind fun t194 => (if t194 = 2500 then ((gneisslaw0_Num.f 2501).bind fun t195 => (if t195 = 2501 then ((gneisslaw0_Num.f 2600).bind fun t196 => (if t196 = 2600 then ((gneisslaw0_Num.f 2700).bind fun t197 => (if t197 = 2700 then ((gneisslaw0_Num.f 2701).bind fun t198 => (some (t198 == 2701))) else (some false))) else (some false))) else (some false))) else (some false))) else (some false))) else (some false))) else (some false))) else (some false))) else (some false))) else (some false))) else (some false))) else (some false))) else (some false))) = some r := h
  clear h
  replace H := Option.bind_eq_some_iff.mp H
  obtain ⟨t185, A10, H⟩ := H
  replace H : (if t185 = 2100 then ((gneisslaw0_Num.f 2101).bind fun t186 => (if t186 = 2101 then ((gneisslaw0_Num.f 2200).bind fun t187 => (if t187 = 2200 then ((gneisslaw0_Num.f 2201).bind fun t188 => (if t188 = 2201 then ((gneisslaw0_Num.f 2202).bind fun t189 => (if t189 = 2202 then ((gneisslaw0_Num.f 2300).bind fun t190 => (if t190 = 2300 then ((gneisslaw0_Num.f 2301).bind fun t191 => (if t191 = 2301 then ((gneisslaw0_Num.f 2400).bind fun t192 => (if t192 = 2400 then ((gneisslaw0_Num.f 2401).bind fun t193 => (if t193 = 2401 then ((gneisslaw0_Num.f 2500).bind fun t194 => (if t194 = 2500 then ((gneisslaw0_Num.f 2501).bind fun t195 => (if t195 = 2501 then ((gneisslaw0_Num.f 2600).bind fun t196 => (if t196 = 2600 then ((gneisslaw0_Num.f 2700).bind fun t197 => (if t197 = 2700 then ((gneisslaw0_Num.f 2701).bind fun t198 => (some (t198 == 2701))) else (some false))) else (some false))) else (some false))) else (some false))) else (some false))) else (some false))) else (some false))) else (some false))) else (some false))) else (some false))) else (some false))) else (some false))) else (some false)) = some r := H
  have A1 := Aside0.mk A10
  clear A10
  by_cases c2 : t185 = 2100
  · rw [if_pos c2] at H
    have c2b0 : (t185 == 2100) = true := beq_iff_eq.mpr c2
    have c2b1 : (t185 != 2100) = false := bne_eq_false_iff_eq.mpr c2
    clear c2
    replace H := Option.bind_eq_some_iff.mp H
    obtain ⟨t186, A30, H⟩ := H
    replace H : (if t186 = 2101 then ((gneisslaw0_Num.f 2200).bind fun t187 => (if t187 = 2200 then ((gneisslaw0_Num.f 2201).bind fun t188 => (if t188 = 2201 then ((gneisslaw0_Num.f 2202).bind fun t189 => (if t189 = 2202 then ((gneisslaw0_Num.f 2300).bind fun t190 => (if t190 = 2300 then ((gneisslaw0_Num.f 2301).bind fun t191 => (if t191 = 2301 then ((gneisslaw0_Num.f 2400).bind fun t192 => (if t192 = 2400 then ((gneisslaw0_Num.f 2401).bind fun t193 => (if t193 = 2401 then ((gneisslaw0_Num.f 2500).bind fun t194 => (if t194 = 2500 then ((gneisslaw0_Num.f 2501).bind fun t195 => (if t195 = 2501 then ((gneisslaw0_Num.f 2600).bind fun t196 => (if t196 = 2600 then ((gneisslaw0_Num.f 2700).bind fun t197 => (if t197 = 2700 then ((gneisslaw0_Num.f 2701).bind fun t198 => (some (t198 == 2701))) else (some false))) else (some false))) else (some false))) else (some false))) else (some false))) else (some false))) else (some false))) else (some false))) else (some false))) else (some false))) else (some false))) else (some false)) = some r := H
    have A3 := Aside0.mk A30
    clear A30
    by_cases c4 : t186 = 2101
    · rw [if_pos c4] at H
      have c4b0 : (t186 == 2101) = true := beq_iff_eq.mpr c4
      have c4b1 : (t186 != 2101) = false := bne_eq_false_iff_eq.mpr c4
      clear c4
      replace H := Option.bind_eq_some_iff.mp H
      obtain ⟨t187, A50, H⟩ := H
      replace H : (if t187 = 2200 then ((gneisslaw0_Num.f 2201).bind fun t188 => (if t188 = 2201 then ((gneisslaw0_Num.f 2202).bind fun t189 => (if t189 = 2202 then ((gneisslaw0_Num.f 2300).bind fun t190 => (if t190 = 2300 then ((gneisslaw0_Num.f 2301).bind fun t191 => (if t191 = 2301 then ((gneisslaw0_Num.f 2400).bind fun t192 => (if t192 = 2400 then ((gneisslaw0_Num.f 2401).bind fun t193 => (if t193 = 2401 then ((gneisslaw0_Num.f 2500).bind fun t194 => (if t194 = 2500 then ((gneisslaw0_Num.f 2501).bind fun t195 => (if t195 = 2501 then ((gneisslaw0_Num.f 2600).bind fun t196 => (if t196 = 2600 then ((gneisslaw0_Num.f 2700).bind fun t197 => (if t197 = 2700 then ((gneisslaw0_Num.f 2701).bind fun t198 => (some (t198 == 2701))) else (some false))) else (some false))) else (some false))) else (some false))) else (some false))) else (some false))) else (some false))) else (some false))) else (some false))) else (some false))) else (some false)) = some r := H
      have A5 := Aside0.mk A50
      clear A50
      by_cases c6 : t187 = 2200
      · rw [if_pos c6] at H
        have c6b0 : (t187 == 2200) = true := beq_iff_eq.mpr c6
        have c6b1 : (t187 != 2200) = false := bne_eq_false_iff_eq.mpr c6
        clear c6
        replace H := Option.bind_eq_some_iff.mp H
        obtain ⟨t188, A70, H⟩ := H
        replace H : (if t188 = 2201 then ((gneisslaw0_Num.f 2202).bind fun t189 => (if t189 = 2202 then ((gneisslaw0_Num.f 2300).bind fun t190 => (if t190 = 2300 then ((gneisslaw0_Num.f 2301).bind fun t191 => (if t191 = 2301 then ((gneisslaw0_Num.f 2400).bind fun t192 => (if t192 = 2400 then ((gneisslaw0_Num.f 2401).bind fun t193 => (if t193 = 2401 then ((gneisslaw0_Num.f 2500).bind fun t194 => (if t194 = 2500 then ((gneisslaw0_Num.f 2501).bind fun t195 => (if t195 = 2501 then ((gneisslaw0_Num.f 2600).bind fun t196 => (if t196 = 2600 then ((gneisslaw0_Num.f 2700).bind fun t197 => (if t197 = 2700 then ((gneisslaw0_Num.f 2701).bind fun t198 => (some (t198 == 2701))) else (some false))) else (some false))) else (some false))) else (some false))) else (some false))) else (some false))) else (some false))) else (some false))) else (some false))) else (some false)) = some r := H
        have A7 := Aside0.mk A70
        clear A70
        by_cases c8 : t188 = 2201
        · rw [if_pos c8] at H
          have c8b0 : (t188 == 2201) = true := beq_iff_eq.mpr c8
          have c8b1 : (t188 != 2201) = false := bne_eq_false_iff_eq.mpr c8
          clear c8
          replace H := Option.bind_eq_some_iff.mp H
          obtain ⟨t189, A90, H⟩ := H
          replace H : (if t189 = 2202 then ((gneisslaw0_Num.f 2300).bind fun t190 => (if t190 = 2300 then ((gneisslaw0_Num.f 2301).bind fun t191 => (if t191 = 2301 then ((gneisslaw0_Num.f 2400).bind fun t192 => (if t192 = 2400 then ((gneisslaw0_Num.f 2401).bind fun t193 => (if t193 = 2401 then ((gneisslaw0_Num.f 2500).bind fun t194 => (if t194 = 2500 then ((gneisslaw0_Num.f 2501).bind fun t195 => (if t195 = 2501 then ((gneisslaw0_Num.f 2600).bind fun t196 => (if t196 = 2600 then ((gneisslaw0_Num.f 2700).bind fun t197 => (if t197 = 2700 then ((gneisslaw0_Num.f 2701).bind fun t198 => (some (t198 == 2701))) else (some false))) else (some false))) else (some false))) else (some false))) else (some false))) else (some false))) else (some false))) else (some false))) else (some false)) = some r := H
          have A9 := Aside0.mk A90
          clear A90
          by_cases c10 : t189 = 2202
          · rw [if_pos c10] at H
            have c10b0 : (t189 == 2202) = true := beq_iff_eq.mpr c10
            have c10b1 : (t189 != 2202) = false := bne_eq_false_iff_eq.mpr c10
            clear c10
            replace H := Option.bind_eq_some_iff.mp H
            obtain ⟨t190, A110, H⟩ := H
            replace H : (if t190 = 2300 then ((gneisslaw0_Num.f 2301).bind fun t191 => (if t191 = 2301 then ((gneisslaw0_Num.f 2400).bind fun t192 => (if t192 = 2400 then ((gneisslaw0_Num.f 2401).bind fun t193 => (if t193 = 2401 then ((gneisslaw0_Num.f 2500).bind fun t194 => (if t194 = 2500 then ((gneisslaw0_Num.f 2501).bind fun t195 => (if t195 = 2501 then ((gneisslaw0_Num.f 2600).bind fun t196 => (if t196 = 2600 then ((gneisslaw0_Num.f 2700).bind fun t197 => (if t197 = 2700 then ((gneisslaw0_Num.f 2701).bind fun t198 => (some (t198 == 2701))) else (some false))) else (some false))) else (some false))) else (some false))) else (some false))) else (some false))) else (some false))) else (some false)) = some r := H
            have A11 := Aside0.mk A110
            clear A110
            by_cases c12 : t190 = 2300
            · rw [if_pos c12] at H
              have c12b0 : (t190 == 2300) = true := beq_iff_eq.mpr c12
              have c12b1 : (t190 != 2300) = false := bne_eq_false_iff_eq.mpr c12
              clear c12
              replace H := Option.bind_eq_some_iff.mp H
              obtain ⟨t191, A130, H⟩ := H
              replace H : (if t191 = 2301 then ((gneisslaw0_Num.f 2400).bind fun t192 => (if t192 = 2400 then ((gneisslaw0_Num.f 2401).bind fun t193 => (if t193 = 2401 then ((gneisslaw0_Num.f 2500).bind fun t194 => (if t194 = 2500 then ((gneisslaw0_Num.f 2501).bind fun t195 => (if t195 = 2501 then ((gneisslaw0_Num.f 2600).bind fun t196 => (if t196 = 2600 then ((gneisslaw0_Num.f 2700).bind fun t197 => (if t197 = 2700 then ((gneisslaw0_Num.f 2701).bind fun t198 => (some (t198 == 2701))) else (some false))) else (some false))) else (some false))) else (some false))) else (some false))) else (some false))) else (some false)) = some r := H
              have A13 := Aside0.mk A130
              clear A130
              by_cases c14 : t191 = 2301
              · rw [if_pos c14] at H
                have c14b0 : (t191 == 2301) = true := beq_iff_eq.mpr c14
                have c14b1 : (t191 != 2301) = false := bne_eq_false_iff_eq.mpr c14
                clear c14
                replace H := Option.bind_eq_some_iff.mp H
                obtain ⟨t192, A150, H⟩ := H
                replace H : (if t192 = 2400 then ((gneisslaw0_Num.f 2401).bind fun t193 => (if t193 = 2401 then ((gneisslaw0_Num.f 2500).bind fun t194 => (if t194 = 2500 then ((gneisslaw0_Num.f 2501).bind fun t195 => (if t195 = 2501 then ((gneisslaw0_Num.f 2600).bind fun t196 => (if t196 = 2600 then ((gneisslaw0_Num.f 2700).bind fun t197 => (if t197 = 2700 then ((gneisslaw0_Num.f 2701).bind fun t198 => (some (t198 == 2701))) else (some false))) else (some false))) else (some false))) else (some false))) else (some false))) else (some false)) = some r := H
                have A15 := Aside0.mk A150
                clear A150
                by_cases c16 : t192 = 2400
                · rw [if_pos c16] at H
                  have c16b0 : (t192 == 2400) = true := beq_iff_eq.mpr c16
                  have c16b1 : (t192 != 2400) = false := bne_eq_false_iff_eq.mpr c16
                  clear c16
                  replace H := Option.bind_eq_some_iff.mp H
                  obtain ⟨t193, A170, H⟩ := H
                  replace H : (if t193 = 2401 then ((gneisslaw0_Num.f 2500).bind fun t194 => (if t194 = 2500 then ((gneisslaw0_Num.f 2501).bind fun t195 => (if t195 = 2501 then ((gneisslaw0_Num.f 2600).bind fun t196 => (if t196 = 2600 then ((gneisslaw0_Num.f 2700).bind fun t197 => (if t197 = 2700 then ((gneisslaw0_Num.f 2701).bind fun t198 => (some (t198 == 2701))) else (some false))) else (some false))) else (some false))) else (some false))) else (some false)) = some r := H
                  have A17 := Aside0.mk A170
                  clear A170
                  by_cases c18 : t193 = 2401
                  · rw [if_pos c18] at H
                    have c18b0 : (t193 == 2401) = true := beq_iff_eq.mpr c18
                    have c18b1 : (t193 != 2401) = false := bne_eq_false_iff_eq.mpr c18
                    clear c18
                    replace H := Option.bind_eq_some_iff.mp H
                    obtain ⟨t194, A190, H⟩ := H
                    replace H : (if t194 = 2500 then ((gneisslaw0_Num.f 2501).bind fun t195 => (if t195 = 2501 then ((gneisslaw0_Num.f 2600).bind fun t196 => (if t196 = 2600 then ((gneisslaw0_Num.f 2700).bind fun t197 => (if t197 = 2700 then ((gneisslaw0_Num.f 2701).bind fun t198 => (some (t198 == 2701))) else (some false))) else (some false))) else (some false))) else (some false)) = some r := H
                    have A19 := Aside0.mk A190
                    clear A190
                    by_cases c20 : t194 = 2500
                    · rw [if_pos c20] at H
                      have c20b0 : (t194 == 2500) = true := beq_iff_eq.mpr c20
                      have c20b1 : (t194 != 2500) = false := bne_eq_false_iff_eq.mpr c20
                      clear c20
                      replace H := Option.bind_eq_some_iff.mp H
                      obtain ⟨t195, A210, H⟩ := H
                      replace H : (if t195 = 2501 then ((gneisslaw0_Num.f 2600).bind fun t196 => (if t196 = 2600 then ((gneisslaw0_Num.f 2700).bind fun t197 => (if t197 = 2700 then ((gneisslaw0_Num.f 2701).bind fun t198 => (some (t198 == 2701))) else (some false))) else (some false))) else (some false)) = some r := H
                      have A21 := Aside0.mk A210
                      clear A210
                      by_cases c22 : t195 = 2501
                      · rw [if_pos c22] at H
                        have c22b0 : (t195 == 2501) = true := beq_iff_eq.mpr c22
                        have c22b1 : (t195 != 2501) = false := bne_eq_false_iff_eq.mpr c22
                        clear c22
                        replace H := Option.bind_eq_some_iff.mp H
                        obtain ⟨t196, A230, H⟩ := H
                        replace H : (if t196 = 2600 then ((gneisslaw0_Num.f 2700).bind fun t197 => (if t197 = 2700 then ((gneisslaw0_Num.f 2701).bind fun t198 => (some (t198 == 2701))) else (some false))) else (some false)) = some r := H
                        have A23 := Aside0.mk A230
                        clear A230
                        by_cases c24 : t196 = 2600
                        · rw [if_pos c24] at H
                          have c24b0 : (t196 == 2600) = true := beq_iff_eq.mpr c24
                          have c24b1 : (t196 != 2600) = false := bne_eq_false_iff_eq.mpr c24
                          clear c24
                          replace H := Option.bind_eq_some_iff.mp H
                          obtain ⟨t197, A250, H⟩ := H
                          replace H : (if t197 = 2700 then ((gneisslaw0_Num.f 2701).bind fun t198 => (some (t198 == 2701))) else (some false)) = some r := H
                          have A25 := Aside0.mk A250
                          clear A250
                          by_cases c26 : t197 = 2700
                          · rw [if_pos c26] at H
                            have c26b0 : (t197 == 2700) = true := beq_iff_eq.mpr c26
                            have c26b1 : (t197 != 2700) = false := bne_eq_false_iff_eq.mpr c26
                            clear c26
                            replace H := Option.bind_eq_some_iff.mp H
                            obtain ⟨t198, A270, H⟩ := H
                            replace H : (some (t198 == 2701)) = some r := H
                            have A27 := Aside0.mk A270
                            clear A270
                            obtain rfl := Option.some.inj H
                            go_enter Try.func19, Try.ntmps19
                            go_wp2_with (first | ((with_reducible refine gate_callee (f := 33) rfl ?_); refine goesL_ (some 1) rfl rfl Try.func33 (by kernel_rfl) rfl #[.int .i64 2100] rfl (by (try simp only [List.map_toArray, List.map_cons, List.map_nil]); first | done | rfl | (simp only [List.length_drop, List.length_take]; rfl)) ?_; (with_reducible refine (gneisslaw0_Num.calls 2100 t185 _ A1.out).mono ?_); rintro e w' ⟨rfl, ⟨nd, rfl⟩⟩; refine ⟨_, rfl, ?_⟩) | (go_at_call 33; (with_reducible refine (gneisslaw0_Num.calls 2101 t186 _ A3.out).mono ?_); rintro e w' ⟨rfl, ⟨nd, rfl⟩⟩) | (go_at_call 33; (with_reducible refine (gneisslaw0_Num.calls 2200 t187 _ A5.out).mono ?_); rintro e w' ⟨rfl, ⟨nd, rfl⟩⟩) | (go_at_call 33; (with_reducible refine (gneisslaw0_Num.calls 2201 t188 _ A7.out).mono ?_); rintro e w' ⟨rfl, ⟨nd, rfl⟩⟩) | (go_at_call 33; (with_reducible refine (gneisslaw0_Num.calls 2202 t189 _ A9.out).mono ?_); rintro e w' ⟨rfl, ⟨nd, rfl⟩⟩) | (go_at_call 33; (with_reducible refine (gneisslaw0_Num.calls 2300 t190 _ A11.out).mono ?_); rintro e w' ⟨rfl, ⟨nd, rfl⟩⟩) | (go_at_call 33; (with_reducible refine (gneisslaw0_Num.calls 2301 t191 _ A13.out).mono ?_); rintro e w' ⟨rfl, ⟨nd, rfl⟩⟩) | (go_at_call 33; (with_reducible refine (gneisslaw0_Num.calls 2400 t192 _ A15.out).mono ?_); rintro e w' ⟨rfl, ⟨nd, rfl⟩⟩) | (go_at_call 33; (with_reducible refine (gneisslaw0_Num.calls 2401 t193 _ A17.out).mono ?_); rintro e w' ⟨rfl, ⟨nd, rfl⟩⟩) | (go_at_call 33; (with_reducible refine (gneisslaw0_Num.calls 2500 t194 _ A19.out).mono ?_); rintro e w' ⟨rfl, ⟨nd, rfl⟩⟩) | (go_at_call 33; (with_reducible refine (gneisslaw0_Num.calls 2501 t195 _ A21.out).mono ?_); rintro e w' ⟨rfl, ⟨nd, rfl⟩⟩) | (go_at_call 33; (with_reducible refine (gneisslaw0_Num.calls 2600 t196 _ A23.out).mono ?_); rintro e w' ⟨rfl, ⟨nd, rfl⟩⟩) | (go_at_call 33; (with_reducible refine (gneisslaw0_Num.calls 2700 t197 _ A25.out).mono ?_); rintro e w' ⟨rfl, ⟨nd, rfl⟩⟩) | (go_at_call 33; (with_reducible refine (gneisslaw0_Num.calls 2701 t198 _ A27.out).mono ?_); rintro e w' ⟨rfl, ⟨nd, rfl⟩⟩))
                            go_ret
                            exact ⟨by first | rfl | (simp; done) | (simp [*]; done), by repeat (first | exact Drawn0.refl _ | apply Drawn0.step)⟩
                          · rw [if_neg c26] at H
                            have c26b0 : (t197 == 2700) = false := beq_eq_false_iff_ne.mpr c26
                            have c26b1 : (t197 != 2700) = true := bne_iff_ne.mpr c26
                            obtain rfl := Option.some.inj H
                            go_enter Try.func19, Try.ntmps19
                            go_wp2_with (first | ((with_reducible refine gate_callee (f := 33) rfl ?_); refine goesL_ (some 1) rfl rfl Try.func33 (by kernel_rfl) rfl #[.int .i64 2100] rfl (by (try simp only [List.map_toArray, List.map_cons, List.map_nil]); first | done | rfl | (simp only [List.length_drop, List.length_take]; rfl)) ?_; (with_reducible refine (gneisslaw0_Num.calls 2100 t185 _ A1.out).mono ?_); rintro e w' ⟨rfl, ⟨nd, rfl⟩⟩; refine ⟨_, rfl, ?_⟩) | (go_at_call 33; (with_reducible refine (gneisslaw0_Num.calls 2101 t186 _ A3.out).mono ?_); rintro e w' ⟨rfl, ⟨nd, rfl⟩⟩) | (go_at_call 33; (with_reducible refine (gneisslaw0_Num.calls 2200 t187 _ A5.out).mono ?_); rintro e w' ⟨rfl, ⟨nd, rfl⟩⟩) | (go_at_call 33; (with_reducible refine (gneisslaw0_Num.calls 2201 t188 _ A7.out).mono ?_); rintro e w' ⟨rfl, ⟨nd, rfl⟩⟩) | (go_at_call 33; (with_reducible refine (gneisslaw0_Num.calls 2202 t189 _ A9.out).mono ?_); rintro e w' ⟨rfl, ⟨nd, rfl⟩⟩) | (go_at_call 33; (with_reducible refine (gneisslaw0_Num.calls 2300 t190 _ A11.out).mono ?_); rintro e w' ⟨rfl, ⟨nd, rfl⟩⟩) | (go_at_call 33; (with_reducible refine (gneisslaw0_Num.calls 2301 t191 _ A13.out).mono ?_); rintro e w' ⟨rfl, ⟨nd, rfl⟩⟩) | (go_at_call 33; (with_reducible refine (gneisslaw0_Num.calls 2400 t192 _ A15.out).mono ?_); rintro e w' ⟨rfl, ⟨nd, rfl⟩⟩) | (go_at_call 33; (with_reducible refine (gneisslaw0_Num.calls 2401 t193 _ A17.out).mono ?_); rintro e w' ⟨rfl, ⟨nd, rfl⟩⟩) | (go_at_call 33; (with_reducible refine (gneisslaw0_Num.calls 2500 t194 _ A19.out).mono ?_); rintro e w' ⟨rfl, ⟨nd, rfl⟩⟩) | (go_at_call 33; (with_reducible refine (gneisslaw0_Num.calls 2501 t195 _ A21.out).mono ?_); rintro e w' ⟨rfl, ⟨nd, rfl⟩⟩) | (go_at_call 33; (with_reducible refine (gneisslaw0_Num.calls 2600 t196 _ A23.out).mono ?_); rintro e w' ⟨rfl, ⟨nd, rfl⟩⟩) | (go_at_call 33; (with_reducible refine (gneisslaw0_Num.calls 2700 t197 _ A25.out).mono ?_); rintro e w' ⟨rfl, ⟨nd, rfl⟩⟩))
                            go_ret
                            exact ⟨by first | rfl | (simp; done) | (simp [*]; done), by repeat (first | exact Drawn0.refl _ | apply Drawn0.step)⟩
                        · rw [if_neg c24] at H
                          have c24b0 : (t196 == 2600) = false := beq_eq_false_iff_ne.mpr c24
                          have c24b1 : (t196 != 2600) = true := bne_iff_ne.mpr c24
                          obtain rfl := Option.some.inj H
                          go_enter Try.func19, Try.ntmps19
                          go_wp2_with (first | ((with_reducible refine gate_callee (f := 33) rfl ?_); refine goesL_ (some 1) rfl rfl Try.func33 (by kernel_rfl) rfl #[.int .i64 2100] rfl (by (try simp only [List.map_toArray, List.map_cons, List.map_nil]); first | done | rfl | (simp only [List.length_drop, List.length_take]; rfl)) ?_; (with_reducible refine (gneisslaw0_Num.calls 2100 t185 _ A1.out).mono ?_); rintro e w' ⟨rfl, ⟨nd, rfl⟩⟩; refine ⟨_, rfl, ?_⟩) | (go_at_call 33; (with_reducible refine (gneisslaw0_Num.calls 2101 t186 _ A3.out).mono ?_); rintro e w' ⟨rfl, ⟨nd, rfl⟩⟩) | (go_at_call 33; (with_reducible refine (gneisslaw0_Num.calls 2200 t187 _ A5.out).mono ?_); rintro e w' ⟨rfl, ⟨nd, rfl⟩⟩) | (go_at_call 33; (with_reducible refine (gneisslaw0_Num.calls 2201 t188 _ A7.out).mono ?_); rintro e w' ⟨rfl, ⟨nd, rfl⟩⟩) | (go_at_call 33; (with_reducible refine (gneisslaw0_Num.calls 2202 t189 _ A9.out).mono ?_); rintro e w' ⟨rfl, ⟨nd, rfl⟩⟩) | (go_at_call 33; (with_reducible refine (gneisslaw0_Num.calls 2300 t190 _ A11.out).mono ?_); rintro e w' ⟨rfl, ⟨nd, rfl⟩⟩) | (go_at_call 33; (with_reducible refine (gneisslaw0_Num.calls 2301 t191 _ A13.out).mono ?_); rintro e w' ⟨rfl, ⟨nd, rfl⟩⟩) | (go_at_call 33; (with_reducible refine (gneisslaw0_Num.calls 2400 t192 _ A15.out).mono ?_); rintro e w' ⟨rfl, ⟨nd, rfl⟩⟩) | (go_at_call 33; (with_reducible refine (gneisslaw0_Num.calls 2401 t193 _ A17.out).mono ?_); rintro e w' ⟨rfl, ⟨nd, rfl⟩⟩) | (go_at_call 33; (with_reducible refine (gneisslaw0_Num.calls 2500 t194 _ A19.out).mono ?_); rintro e w' ⟨rfl, ⟨nd, rfl⟩⟩) | (go_at_call 33; (with_reducible refine (gneisslaw0_Num.calls 2501 t195 _ A21.out).mono ?_); rintro e w' ⟨rfl, ⟨nd, rfl⟩⟩) | (go_at_call 33; (with_reducible refine (gneisslaw0_Num.calls 2600 t196 _ A23.out).mono ?_); rintro e w' ⟨rfl, ⟨nd, rfl⟩⟩))
                          go_ret
                          exact ⟨by first | rfl | (simp; done) | (simp [*]; done), by repeat (first | exact Drawn0.refl _ | apply Drawn0.step)⟩
                      · rw [if_neg c22] at H
                        have c22b0 : (t195 == 2501) = false := beq_eq_false_iff_ne.mpr c22
                        have c22b1 : (t195 != 2501) = true := bne_iff_ne.mpr c22
                        obtain rfl := Option.some.inj H
                        go_enter Try.func19, Try.ntmps19
                        go_wp2_with (first | ((with_reducible refine gate_callee (f := 33) rfl ?_); refine goesL_ (some 1) rfl rfl Try.func33 (by kernel_rfl) rfl #[.int .i64 2100] rfl (by (try simp only [List.map_toArray, List.map_cons, List.map_nil]); first | done | rfl | (simp only [List.length_drop, List.length_take]; rfl)) ?_; (with_reducible refine (gneisslaw0_Num.calls 2100 t185 _ A1.out).mono ?_); rintro e w' ⟨rfl, ⟨nd, rfl⟩⟩; refine ⟨_, rfl, ?_⟩) | (go_at_call 33; (with_reducible refine (gneisslaw0_Num.calls 2101 t186 _ A3.out).mono ?_); rintro e w' ⟨rfl, ⟨nd, rfl⟩⟩) | (go_at_call 33; (with_reducible refine (gneisslaw0_Num.calls 2200 t187 _ A5.out).mono ?_); rintro e w' ⟨rfl, ⟨nd, rfl⟩⟩) | (go_at_call 33; (with_reducible refine (gneisslaw0_Num.calls 2201 t188 _ A7.out).mono ?_); rintro e w' ⟨rfl, ⟨nd, rfl⟩⟩) | (go_at_call 33; (with_reducible refine (gneisslaw0_Num.calls 2202 t189 _ A9.out).mono ?_); rintro e w' ⟨rfl, ⟨nd, rfl⟩⟩) | (go_at_call 33; (with_reducible refine (gneisslaw0_Num.calls 2300 t190 _ A11.out).mono ?_); rintro e w' ⟨rfl, ⟨nd, rfl⟩⟩) | (go_at_call 33; (with_reducible refine (gneisslaw0_Num.calls 2301 t191 _ A13.out).mono ?_); rintro e w' ⟨rfl, ⟨nd, rfl⟩⟩) | (go_at_call 33; (with_reducible refine (gneisslaw0_Num.calls 2400 t192 _ A15.out).mono ?_); rintro e w' ⟨rfl, ⟨nd, rfl⟩⟩) | (go_at_call 33; (with_reducible refine (gneisslaw0_Num.calls 2401 t193 _ A17.out).mono ?_); rintro e w' ⟨rfl, ⟨nd, rfl⟩⟩) | (go_at_call 33; (with_reducible refine (gneisslaw0_Num.calls 2500 t194 _ A19.out).mono ?_); rintro e w' ⟨rfl, ⟨nd, rfl⟩⟩) | (go_at_call 33; (with_reducible refine (gneisslaw0_Num.calls 2501 t195 _ A21.out).mono ?_); rintro e w' ⟨rfl, ⟨nd, rfl⟩⟩))
                        go_ret
                        exact ⟨by first | rfl | (simp; done) | (simp [*]; done), by repeat (first | exact Drawn0.refl _ | apply Drawn0.step)⟩
                    · rw [if_neg c20] at H
                      have c20b0 : (t194 == 2500) = false := beq_eq_false_iff_ne.mpr c20
                      have c20b1 : (t194 != 2500) = true := bne_iff_ne.mpr c20
                      obtain rfl := Option.some.inj H
                      go_enter Try.func19, Try.ntmps19
                      go_wp2_with (first | ((with_reducible refine gate_callee (f := 33) rfl ?_); refine goesL_ (some 1) rfl rfl Try.func33 (by kernel_rfl) rfl #[.int .i64 2100] rfl (by (try simp only [List.map_toArray, List.map_cons, List.map_nil]); first | done | rfl | (simp only [List.length_drop, List.length_take]; rfl)) ?_; (with_reducible refine (gneisslaw0_Num.calls 2100 t185 _ A1.out).mono ?_); rintro e w' ⟨rfl, ⟨nd, rfl⟩⟩; refine ⟨_, rfl, ?_⟩) | (go_at_call 33; (with_reducible refine (gneisslaw0_Num.calls 2101 t186 _ A3.out).mono ?_); rintro e w' ⟨rfl, ⟨nd, rfl⟩⟩) | (go_at_call 33; (with_reducible refine (gneisslaw0_Num.calls 2200 t187 _ A5.out).mono ?_); rintro e w' ⟨rfl, ⟨nd, rfl⟩⟩) | (go_at_call 33; (with_reducible refine (gneisslaw0_Num.calls 2201 t188 _ A7.out).mono ?_); rintro e w' ⟨rfl, ⟨nd, rfl⟩⟩) | (go_at_call 33; (with_reducible refine (gneisslaw0_Num.calls 2202 t189 _ A9.out).mono ?_); rintro e w' ⟨rfl, ⟨nd, rfl⟩⟩) | (go_at_call 33; (with_reducible refine (gneisslaw0_Num.calls 2300 t190 _ A11.out).mono ?_); rintro e w' ⟨rfl, ⟨nd, rfl⟩⟩) | (go_at_call 33; (with_reducible refine (gneisslaw0_Num.calls 2301 t191 _ A13.out).mono ?_); rintro e w' ⟨rfl, ⟨nd, rfl⟩⟩) | (go_at_call 33; (with_reducible refine (gneisslaw0_Num.calls 2400 t192 _ A15.out).mono ?_); rintro e w' ⟨rfl, ⟨nd, rfl⟩⟩) | (go_at_call 33; (with_reducible refine (gneisslaw0_Num.calls 2401 t193 _ A17.out).mono ?_); rintro e w' ⟨rfl, ⟨nd, rfl⟩⟩) | (go_at_call 33; (with_reducible refine (gneisslaw0_Num.calls 2500 t194 _ A19.out).mono ?_); rintro e w' ⟨rfl, ⟨nd, rfl⟩⟩))
                      go_ret
                      exact ⟨by first | rfl | (simp; done) | (simp [*]; done), by repeat (first | exact Drawn0.refl _ | apply Drawn0.step)⟩
                  · rw [if_neg c18] at H
                    have c18b0 : (t193 == 2401) = false := beq_eq_false_iff_ne.mpr c18
                    have c18b1 : (t193 != 2401) = true := bne_iff_ne.mpr c18
                    obtain rfl := Option.some.inj H
                    go_enter Try.func19, Try.ntmps19
                    go_wp2_with (first | ((with_reducible refine gate_callee (f := 33) rfl ?_); refine goesL_ (some 1) rfl rfl Try.func33 (by kernel_rfl) rfl #[.int .i64 2100] rfl (by (try simp only [List.map_toArray, List.map_cons, List.map_nil]); first | done | rfl | (simp only [List.length_drop, List.length_take]; rfl)) ?_; (with_reducible refine (gneisslaw0_Num.calls 2100 t185 _ A1.out).mono ?_); rintro e w' ⟨rfl, ⟨nd, rfl⟩⟩; refine ⟨_, rfl, ?_⟩) | (go_at_call 33; (with_reducible refine (gneisslaw0_Num.calls 2101 t186 _ A3.out).mono ?_); rintro e w' ⟨rfl, ⟨nd, rfl⟩⟩) | (go_at_call 33; (with_reducible refine (gneisslaw0_Num.calls 2200 t187 _ A5.out).mono ?_); rintro e w' ⟨rfl, ⟨nd, rfl⟩⟩) | (go_at_call 33; (with_reducible refine (gneisslaw0_Num.calls 2201 t188 _ A7.out).mono ?_); rintro e w' ⟨rfl, ⟨nd, rfl⟩⟩) | (go_at_call 33; (with_reducible refine (gneisslaw0_Num.calls 2202 t189 _ A9.out).mono ?_); rintro e w' ⟨rfl, ⟨nd, rfl⟩⟩) | (go_at_call 33; (with_reducible refine (gneisslaw0_Num.calls 2300 t190 _ A11.out).mono ?_); rintro e w' ⟨rfl, ⟨nd, rfl⟩⟩) | (go_at_call 33; (with_reducible refine (gneisslaw0_Num.calls 2301 t191 _ A13.out).mono ?_); rintro e w' ⟨rfl, ⟨nd, rfl⟩⟩) | (go_at_call 33; (with_reducible refine (gneisslaw0_Num.calls 2400 t192 _ A15.out).mono ?_); rintro e w' ⟨rfl, ⟨nd, rfl⟩⟩) | (go_at_call 33; (with_reducible refine (gneisslaw0_Num.calls 2401 t193 _ A17.out).mono ?_); rintro e w' ⟨rfl, ⟨nd, rfl⟩⟩))
                    go_ret
                    exact ⟨by first | rfl | (simp; done) | (simp [*]; done), by repeat (first | exact Drawn0.refl _ | apply Drawn0.step)⟩
                · rw [if_neg c16] at H
                  have c16b0 : (t192 == 2400) = false := beq_eq_false_iff_ne.mpr c16
                  have c16b1 : (t192 != 2400) = true := bne_iff_ne.mpr c16
                  obtain rfl := Option.some.inj H
                  go_enter Try.func19, Try.ntmps19
                  go_wp2_with (first | ((with_reducible refine gate_callee (f := 33) rfl ?_); refine goesL_ (some 1) rfl rfl Try.func33 (by kernel_rfl) rfl #[.int .i64 2100] rfl (by (try simp only [List.map_toArray, List.map_cons, List.map_nil]); first | done | rfl | (simp only [List.length_drop, List.length_take]; rfl)) ?_; (with_reducible refine (gneisslaw0_Num.calls 2100 t185 _ A1.out).mono ?_); rintro e w' ⟨rfl, ⟨nd, rfl⟩⟩; refine ⟨_, rfl, ?_⟩) | (go_at_call 33; (with_reducible refine (gneisslaw0_Num.calls 2101 t186 _ A3.out).mono ?_); rintro e w' ⟨rfl, ⟨nd, rfl⟩⟩) | (go_at_call 33; (with_reducible refine (gneisslaw0_Num.calls 2200 t187 _ A5.out).mono ?_); rintro e w' ⟨rfl, ⟨nd, rfl⟩⟩) | (go_at_call 33; (with_reducible refine (gneisslaw0_Num.calls 2201 t188 _ A7.out).mono ?_); rintro e w' ⟨rfl, ⟨nd, rfl⟩⟩) | (go_at_call 33; (with_reducible refine (gneisslaw0_Num.calls 2202 t189 _ A9.out).mono ?_); rintro e w' ⟨rfl, ⟨nd, rfl⟩⟩) | (go_at_call 33; (with_reducible refine (gneisslaw0_Num.calls 2300 t190 _ A11.out).mono ?_); rintro e w' ⟨rfl, ⟨nd, rfl⟩⟩) | (go_at_call 33; (with_reducible refine (gneisslaw0_Num.calls 2301 t191 _ A13.out).mono ?_); rintro e w' ⟨rfl, ⟨nd, rfl⟩⟩) | (go_at_call 33; (with_reducible refine (gneisslaw0_Num.calls 2400 t192 _ A15.out).mono ?_); rintro e w' ⟨rfl, ⟨nd, rfl⟩⟩))
                  go_ret
                  exact ⟨by first | rfl | (simp; done) | (simp [*]; done), by repeat (first | exact Drawn0.refl _ | apply Drawn0.step)⟩
              · rw [if_neg c14] at H
                have c14b0 : (t191 == 2301) = false := beq_eq_false_iff_ne.mpr c14
                have c14b1 : (t191 != 2301) = true := bne_iff_ne.mpr c14
                obtain rfl := Option.some.inj H
                go_enter Try.func19, Try.ntmps19
                go_wp2_with (first | ((with_reducible refine gate_callee (f := 33) rfl ?_); refine goesL_ (some 1) rfl rfl Try.func33 (by kernel_rfl) rfl #[.int .i64 2100] rfl (by (try simp only [List.map_toArray, List.map_cons, List.map_nil]); first | done | rfl | (simp only [List.length_drop, List.length_take]; rfl)) ?_; (with_reducible refine (gneisslaw0_Num.calls 2100 t185 _ A1.out).mono ?_); rintro e w' ⟨rfl, ⟨nd, rfl⟩⟩; refine ⟨_, rfl, ?_⟩) | (go_at_call 33; (with_reducible refine (gneisslaw0_Num.calls 2101 t186 _ A3.out).mono ?_); rintro e w' ⟨rfl, ⟨nd, rfl⟩⟩) | (go_at_call 33; (with_reducible refine (gneisslaw0_Num.calls 2200 t187 _ A5.out).mono ?_); rintro e w' ⟨rfl, ⟨nd, rfl⟩⟩) | (go_at_call 33; (with_reducible refine (gneisslaw0_Num.calls 2201 t188 _ A7.out).mono ?_); rintro e w' ⟨rfl, ⟨nd, rfl⟩⟩) | (go_at_call 33; (with_reducible refine (gneisslaw0_Num.calls 2202 t189 _ A9.out).mono ?_); rintro e w' ⟨rfl, ⟨nd, rfl⟩⟩) | (go_at_call 33; (with_reducible refine (gneisslaw0_Num.calls 2300 t190 _ A11.out).mono ?_); rintro e w' ⟨rfl, ⟨nd, rfl⟩⟩) | (go_at_call 33; (with_reducible refine (gneisslaw0_Num.calls 2301 t191 _ A13.out).mono ?_); rintro e w' ⟨rfl, ⟨nd, rfl⟩⟩))
                go_ret
                exact ⟨by first | rfl | (simp; done) | (simp [*]; done), by repeat (first | exact Drawn0.refl _ | apply Drawn0.step)⟩
            · rw [if_neg c12] at H
              have c12b0 : (t190 == 2300) = false := beq_eq_false_iff_ne.mpr c12
              have c12b1 : (t190 != 2300) = true := bne_iff_ne.mpr c12
              obtain rfl := Option.some.inj H
              go_enter Try.func19, Try.ntmps19
              go_wp2_with (first | ((with_reducible refine gate_callee (f := 33) rfl ?_); refine goesL_ (some 1) rfl rfl Try.func33 (by kernel_rfl) rfl #[.int .i64 2100] rfl (by (try simp only [List.map_toArray, List.map_cons, List.map_nil]); first | done | rfl | (simp only [List.length_drop, List.length_take]; rfl)) ?_; (with_reducible refine (gneisslaw0_Num.calls 2100 t185 _ A1.out).mono ?_); rintro e w' ⟨rfl, ⟨nd, rfl⟩⟩; refine ⟨_, rfl, ?_⟩) | (go_at_call 33; (with_reducible refine (gneisslaw0_Num.calls 2101 t186 _ A3.out).mono ?_); rintro e w' ⟨rfl, ⟨nd, rfl⟩⟩) | (go_at_call 33; (with_reducible refine (gneisslaw0_Num.calls 2200 t187 _ A5.out).mono ?_); rintro e w' ⟨rfl, ⟨nd, rfl⟩⟩) | (go_at_call 33; (with_reducible refine (gneisslaw0_Num.calls 2201 t188 _ A7.out).mono ?_); rintro e w' ⟨rfl, ⟨nd, rfl⟩⟩) | (go_at_call 33; (with_reducible refine (gneisslaw0_Num.calls 2202 t189 _ A9.out).mono ?_); rintro e w' ⟨rfl, ⟨nd, rfl⟩⟩) | (go_at_call 33; (with_reducible refine (gneisslaw0_Num.calls 2300 t190 _ A11.out).mono ?_); rintro e w' ⟨rfl, ⟨nd, rfl⟩⟩))
              go_ret
              exact ⟨by first | rfl | (simp; done) | (simp [*]; done), by repeat (first | exact Drawn0.refl _ | apply Drawn0.step)⟩
          · rw [if_neg c10] at H
            have c10b0 : (t189 == 2202) = false := beq_eq_false_iff_ne.mpr c10
            have c10b1 : (t189 != 2202) = true := bne_iff_ne.mpr c10
            obtain rfl := Option.some.inj H
            go_enter Try.func19, Try.ntmps19
            go_wp2_with (first | ((with_reducible refine gate_callee (f := 33) rfl ?_); refine goesL_ (some 1) rfl rfl Try.func33 (by kernel_rfl) rfl #[.int .i64 2100] rfl (by (try simp only [List.map_toArray, List.map_cons, List.map_nil]); first | done | rfl | (simp only [List.length_drop, List.length_take]; rfl)) ?_; (with_reducible refine (gneisslaw0_Num.calls 2100 t185 _ A1.out).mono ?_); rintro e w' ⟨rfl, ⟨nd, rfl⟩⟩; refine ⟨_, rfl, ?_⟩) | (go_at_call 33; (with_reducible refine (gneisslaw0_Num.calls 2101 t186 _ A3.out).mono ?_); rintro e w' ⟨rfl, ⟨nd, rfl⟩⟩) | (go_at_call 33; (with_reducible refine (gneisslaw0_Num.calls 2200 t187 _ A5.out).mono ?_); rintro e w' ⟨rfl, ⟨nd, rfl⟩⟩) | (go_at_call 33; (with_reducible refine (gneisslaw0_Num.calls 2201 t188 _ A7.out).mono ?_); rintro e w' ⟨rfl, ⟨nd, rfl⟩⟩) | (go_at_call 33; (with_reducible refine (gneisslaw0_Num.calls 2202 t189 _ A9.out).mono ?_); rintro e w' ⟨rfl, ⟨nd, rfl⟩⟩))
            go_ret
            exact ⟨by first | rfl | (simp; done) | (simp [*]; done), by repeat (first | exact Drawn0.refl _ | apply Drawn0.step)⟩
        · rw [if_neg c8] at H
          have c8b0 : (t188 == 2201) = false := beq_eq_false_iff_ne.mpr c8
          have c8b1 : (t188 != 2201) = true := bne_iff_ne.mpr c8
          obtain rfl := Option.some.inj H
          go_enter Try.func19, Try.ntmps19
          go_wp2_with (first | ((with_reducible refine gate_callee (f := 33) rfl ?_); refine goesL_ (some 1) rfl rfl Try.func33 (by kernel_rfl) rfl #[.int .i64 2100] rfl (by (try simp only [List.map_toArray, List.map_cons, List.map_nil]); first | done | rfl | (simp only [List.length_drop, List.length_take]; rfl)) ?_; (with_reducible refine (gneisslaw0_Num.calls 2100 t185 _ A1.out).mono ?_); rintro e w' ⟨rfl, ⟨nd, rfl⟩⟩; refine ⟨_, rfl, ?_⟩) | (go_at_call 33; (with_reducible refine (gneisslaw0_Num.calls 2101 t186 _ A3.out).mono ?_); rintro e w' ⟨rfl, ⟨nd, rfl⟩⟩) | (go_at_call 33; (with_reducible refine (gneisslaw0_Num.calls 2200 t187 _ A5.out).mono ?_); rintro e w' ⟨rfl, ⟨nd, rfl⟩⟩) | (go_at_call 33; (with_reducible refine (gneisslaw0_Num.calls 2201 t188 _ A7.out).mono ?_); rintro e w' ⟨rfl, ⟨nd, rfl⟩⟩))
          go_ret
          exact ⟨by first | rfl | (simp; done) | (simp [*]; done), by repeat (first | exact Drawn0.refl _ | apply Drawn0.step)⟩
      · rw [if_neg c6] at H
        have c6b0 : (t187 == 2200) = false := beq_eq_false_iff_ne.mpr c6
        have c6b1 : (t187 != 2200) = true := bne_iff_ne.mpr c6
        obtain rfl := Option.some.inj H
        go_enter Try.func19, Try.ntmps19
        go_wp2_with (first | ((with_reducible refine gate_callee (f := 33) rfl ?_); refine goesL_ (some 1) rfl rfl Try.func33 (by kernel_rfl) rfl #[.int .i64 2100] rfl (by (try simp only [List.map_toArray, List.map_cons, List.map_nil]); first | done | rfl | (simp only [List.length_drop, List.length_take]; rfl)) ?_; (with_reducible refine (gneisslaw0_Num.calls 2100 t185 _ A1.out).mono ?_); rintro e w' ⟨rfl, ⟨nd, rfl⟩⟩; refine ⟨_, rfl, ?_⟩) | (go_at_call 33; (with_reducible refine (gneisslaw0_Num.calls 2101 t186 _ A3.out).mono ?_); rintro e w' ⟨rfl, ⟨nd, rfl⟩⟩) | (go_at_call 33; (with_reducible refine (gneisslaw0_Num.calls 2200 t187 _ A5.out).mono ?_); rintro e w' ⟨rfl, ⟨nd, rfl⟩⟩))
        go_ret
        exact ⟨by first | rfl | (simp; done) | (simp [*]; done), by repeat (first | exact Drawn0.refl _ | apply Drawn0.step)⟩
    · rw [if_neg c4] at H
      have c4b0 : (t186 == 2101) = false := beq_eq_false_iff_ne.mpr c4
      have c4b1 : (t186 != 2101) = true := bne_iff_ne.mpr c4
      obtain rfl := Option.some.inj H
      go_enter Try.func19, Try.ntmps19
      go_wp2_with (first | ((with_reducible refine gate_callee (f := 33) rfl ?_); refine goesL_ (some 1) rfl rfl Try.func33 (by kernel_rfl) rfl #[.int .i64 2100] rfl (by (try simp only [List.map_toArray, List.map_cons, List.map_nil]); first | done | rfl | (simp only [List.length_drop, List.length_take]; rfl)) ?_; (with_reducible refine (gneisslaw0_Num.calls 2100 t185 _ A1.out).mono ?_); rintro e w' ⟨rfl, ⟨nd, rfl⟩⟩; refine ⟨_, rfl, ?_⟩) | (go_at_call 33; (with_reducible refine (gneisslaw0_Num.calls 2101 t186 _ A3.out).mono ?_); rintro e w' ⟨rfl, ⟨nd, rfl⟩⟩))
      go_ret
      exact ⟨by first | rfl | (simp; done) | (simp [*]; done), by repeat (first | exact Drawn0.refl _ | apply Drawn0.step)⟩
  · rw [if_neg c2] at H
    have c2b0 : (t185 == 2100) = false := beq_eq_false_iff_ne.mpr c2
    have c2b1 : (t185 != 2100) = true := bne_iff_ne.mpr c2
    obtain rfl := Option.some.inj H
    go_enter Try.func19, Try.ntmps19
    go_wp2_with (first | ((with_reducible refine gate_callee (f := 33) rfl ?_); refine goesL_ (some 1) rfl rfl Try.func33 (by kernel_rfl) rfl #[.int .i64 2100] rfl (by (try simp only [List.map_toArray, List.map_cons, List.map_nil]); first | done | rfl | (simp only [List.length_drop, List.length_take]; rfl)) ?_; (with_reducible refine (gneisslaw0_Num.calls 2100 t185 _ A1.out).mono ?_); rintro e w' ⟨rfl, ⟨nd, rfl⟩⟩; refine ⟨_, rfl, ?_⟩))
    go_ret
    exact ⟨by first | rfl | (simp; done) | (simp [*]; done), by repeat (first | exact Drawn0.refl _ | apply Drawn0.step)⟩

/-! ### gneisslaw0_numbers1: function 20 -/
def gneisslaw0_numbers1.f  : Option (Bool) := some true
set_option maxHeartbeats 8000000 in
set_option maxRecDepth 100000 in
theorem gneisslaw0_numbers1.calls  (r : Bool) (w : World) (h : gneisslaw0_numbers1.f  = some r) :
    Calls Try.prog 20 #[] w fun e w' => e = .returned (.bool r) ∧ Drawn0 w w' := by
  have H : (some true) = some r := h
  clear h
  obtain rfl := Option.some.inj H
  go_enter Try.func20, Try.ntmps20
  go_wp2
  go_ret
  exact ⟨by first | rfl | (simp; done) | (simp [*]; done), by repeat (first | exact Drawn0.refl _ | apply Drawn0.step)⟩

/-! ### gneisslaw0_numbers2: function 21 -/
def gneisslaw0_numbers2.f  : Option (Bool) := some true
set_option maxHeartbeats 8000000 in
set_option maxRecDepth 100000 in
theorem gneisslaw0_numbers2.calls  (r : Bool) (w : World) (h : gneisslaw0_numbers2.f  = some r) :
    Calls Try.prog 21 #[] w fun e w' => e = .returned (.bool r) ∧ Drawn0 w w' := by
  have H : (some true) = some r := h
  clear h
  obtain rfl := Option.some.inj H
  go_enter Try.func21, Try.ntmps21
  go_wp2
  go_ret
  exact ⟨by first | rfl | (simp; done) | (simp [*]; done), by repeat (first | exact Drawn0.refl _ | apply Drawn0.step)⟩

/-! ### gneisslaw0_numbers3: function 22 -/
def gneisslaw0_numbers3.f  : Option (Bool) := some true
set_option maxHeartbeats 8000000 in
set_option maxRecDepth 100000 in
theorem gneisslaw0_numbers3.calls  (r : Bool) (w : World) (h : gneisslaw0_numbers3.f  = some r) :
    Calls Try.prog 22 #[] w fun e w' => e = .returned (.bool r) ∧ Drawn0 w w' := by
  have H : (some true) = some r := h
  clear h
  obtain rfl := Option.some.inj H
  go_enter Try.func22, Try.ntmps22
  go_wp2
  go_ret
  exact ⟨by first | rfl | (simp; done) | (simp [*]; done), by repeat (first | exact Drawn0.refl _ | apply Drawn0.step)⟩

/-! ### gneisslaw0_numbers4: function 23 -/
def gneisslaw0_numbers4.f  : Option (Bool) := some true
set_option maxHeartbeats 8000000 in
set_option maxRecDepth 100000 in
theorem gneisslaw0_numbers4.calls  (r : Bool) (w : World) (h : gneisslaw0_numbers4.f  = some r) :
    Calls Try.prog 23 #[] w fun e w' => e = .returned (.bool r) ∧ Drawn0 w w' := by
  have H : (some true) = some r := h
  clear h
  obtain rfl := Option.some.inj H
  go_enter Try.func23, Try.ntmps23
  go_wp2
  go_ret
  exact ⟨by first | rfl | (simp; done) | (simp [*]; done), by repeat (first | exact Drawn0.refl _ | apply Drawn0.step)⟩

/-! ### gneisslaw0_numbers5: function 24 -/
def gneisslaw0_numbers5.f  : Option (Bool) := some true
set_option maxHeartbeats 8000000 in
set_option maxRecDepth 100000 in
theorem gneisslaw0_numbers5.calls  (r : Bool) (w : World) (h : gneisslaw0_numbers5.f  = some r) :
    Calls Try.prog 24 #[] w fun e w' => e = .returned (.bool r) ∧ Drawn0 w w' := by
  have H : (some true) = some r := h
  clear h
  obtain rfl := Option.some.inj H
  go_enter Try.func24, Try.ntmps24
  go_wp2
  go_ret
  exact ⟨by first | rfl | (simp; done) | (simp [*]; done), by repeat (first | exact Drawn0.refl _ | apply Drawn0.step)⟩

/-! ### gneisslaw0_numbers6: function 25 -/
def gneisslaw0_numbers6.f  : Option (Bool) := some true
set_option maxHeartbeats 8000000 in
set_option maxRecDepth 100000 in
theorem gneisslaw0_numbers6.calls  (r : Bool) (w : World) (h : gneisslaw0_numbers6.f  = some r) :
    Calls Try.prog 25 #[] w fun e w' => e = .returned (.bool r) ∧ Drawn0 w w' := by
  have H : (some true) = some r := h
  clear h
  obtain rfl := Option.some.inj H
  go_enter Try.func25, Try.ntmps25
  go_wp2
  go_ret
  exact ⟨by first | rfl | (simp; done) | (simp [*]; done), by repeat (first | exact Drawn0.refl _ | apply Drawn0.step)⟩

/-! ### gneisslaw0_numbers7: function 26 -/
def gneisslaw0_numbers7.f  : Option (Bool) := some true
set_option maxHeartbeats 8000000 in
set_option maxRecDepth 100000 in
theorem gneisslaw0_numbers7.calls  (r : Bool) (w : World) (h : gneisslaw0_numbers7.f  = some r) :
    Calls Try.prog 26 #[] w fun e w' => e = .returned (.bool r) ∧ Drawn0 w w' := by
  have H : (some true) = some r := h
  clear h
  obtain rfl := Option.some.inj H
  go_enter Try.func26, Try.ntmps26
  go_wp2
  go_ret
  exact ⟨by first | rfl | (simp; done) | (simp [*]; done), by repeat (first | exact Drawn0.refl _ | apply Drawn0.step)⟩

/-! ### gneisslaw0_numbers8: function 27 -/
def gneisslaw0_numbers8.f  : Option (Bool) := some true
set_option maxHeartbeats 8000000 in
set_option maxRecDepth 100000 in
theorem gneisslaw0_numbers8.calls  (r : Bool) (w : World) (h : gneisslaw0_numbers8.f  = some r) :
    Calls Try.prog 27 #[] w fun e w' => e = .returned (.bool r) ∧ Drawn0 w w' := by
  have H : (some true) = some r := h
  clear h
  obtain rfl := Option.some.inj H
  go_enter Try.func27, Try.ntmps27
  go_wp2
  go_ret
  exact ⟨by first | rfl | (simp; done) | (simp [*]; done), by repeat (first | exact Drawn0.refl _ | apply Drawn0.step)⟩

/-! ### gneisslaw0_numbers9: function 28 -/
def gneisslaw0_numbers9.f  : Option (Bool) := some true
set_option maxHeartbeats 8000000 in
set_option maxRecDepth 100000 in
theorem gneisslaw0_numbers9.calls  (r : Bool) (w : World) (h : gneisslaw0_numbers9.f  = some r) :
    Calls Try.prog 28 #[] w fun e w' => e = .returned (.bool r) ∧ Drawn0 w w' := by
  have H : (some true) = some r := h
  clear h
  obtain rfl := Option.some.inj H
  go_enter Try.func28, Try.ntmps28
  go_wp2
  go_ret
  exact ⟨by first | rfl | (simp; done) | (simp [*]; done), by repeat (first | exact Drawn0.refl _ | apply Drawn0.step)⟩

/-! ### gneisslaw0_numbers10: function 29 -/
def gneisslaw0_numbers10.f  : Option (Bool) := some true
set_option maxHeartbeats 8000000 in
set_option maxRecDepth 100000 in
theorem gneisslaw0_numbers10.calls  (r : Bool) (w : World) (h : gneisslaw0_numbers10.f  = some r) :
    Calls Try.prog 29 #[] w fun e w' => e = .returned (.bool r) ∧ Drawn0 w w' := by
  have H : (some true) = some r := h
  clear h
  obtain rfl := Option.some.inj H
  go_enter Try.func29, Try.ntmps29
  go_wp2
  go_ret
  exact ⟨by first | rfl | (simp; done) | (simp [*]; done), by repeat (first | exact Drawn0.refl _ | apply Drawn0.step)⟩

/-! ### gneisslaw0_GneissNames: function 3 -/
def gneisslaw0_GneissNames.f  : Option (Bool) := (gneisslaw0_errors1.f).bind fun t199 => (if t199 = true then ((gneisslaw0_errors2.f).bind fun t200 => (if t200 = true then ((gneisslaw0_errors3.f).bind fun t201 => (if t201 = true then ((gneisslaw0_errors4.f).bind fun t202 => (if t202 = true then ((gneisslaw0_errors5.f).bind fun t203 => (if t203 = true then ((gneisslaw0_errors6.f).bind fun t204 => (if t204 = true then ((gneisslaw0_errors7.f).bind fun t205 => (if t205 = true then ((gneisslaw0_numbers1.f).bind fun t206 => (if t206 = true then ((gneisslaw0_numbers2.f).bind fun t207 => (if t207 = true then ((gneisslaw0_numbers3.f).bind fun t208 => (if t208 = true then ((gneisslaw0_numbers4.f).bind fun t209 => (if t209 = true then ((gneisslaw0_numbers5.f).bind fun t210 => (if t210 = true then ((gneisslaw0_numbers6.f).bind fun t211 => (if t211 = true then ((gneisslaw0_numbers7.f).bind fun t212 => (if t212 = true then ((gneisslaw0_numbers8.f).bind fun t213 => (if t213 = true then ((gneisslaw0_numbers9.f).bind fun t214 => (if t214 = true then ((gneisslaw0_numbers10.f).bind fun t215 => (some t215)) else (some false))) else (some false))) else (some false))) else (some false))) else (some false))) else (some false))) else (some false))) else (some false))) else (some false))) else (some false))) else (some false))) else (some false))) else (some false))) else (some false))) else (some false))) else (some false))
set_option maxHeartbeats 8000000 in
set_option maxRecDepth 100000 in
theorem gneisslaw0_GneissNames.calls  (r : Bool) (w : World) (h : gneisslaw0_GneissNames.f  = some r) :
    Calls Try.prog 3 #[] w fun e w' => e = .returned (.bool r) ∧ Drawn0 w w' := by
  have H : ((gneisslaw0_errors1.f).bind fun t199 => (if t199 = true then ((gneisslaw0_errors2.f).bind fun t200 => (if t200 = true then ((gneisslaw0_errors3.f).bind fun t201 => (if t201 = true then ((gneisslaw0_errors4.f).bind fun t202 => (if t202 = true then ((gneisslaw0_errors5.f).bind fun t203 => (if t203 = true then ((gneisslaw0_errors6.f).bind fun t204 => (if t204 = true then ((gneisslaw0_errors7.f).bind fun t205 => (if t205 = true then ((gneisslaw0_numbers1.f).bind fun t206 => (if t206 = true then ((gneisslaw0_numbers2.f).bind fun t207 => (if t207 = true then ((gneisslaw0_numbers3.f).bind fun t208 => (if t208 = true then ((gneisslaw0_numbers4.f).bind fun t209 => (if t209 = true then ((gneisslaw0_numbers5.f).bind fun t210 => (if t210 = true then ((gneisslaw0_numbers6.f).bind fun t211 => (if t211 = true then ((gneisslaw0_numbers7.f).bind fun t212 => (if t212 = true then ((gneisslaw0_numbers8.f).bind fun t213 => (if t213 = true then ((gneisslaw0_numbers9.f).bind fun t214 => (if t214 = true then ((gneisslaw0_numbers10.f).bind fun t215 => (some t215)) else (some false))) else (some false))) else (some false))) else (some false))) else (some false))) else (some false))) else (some false))) else (some false))) else (some false))) else (some false))) else (some false))) else (some false))) else (some false))) else (some false))) else (some false))) else (some false))) = some r := h
  clear h
  replace H := Option.bind_eq_some_iff.mp H
  obtain ⟨t199, A10, H⟩ := H
  replace H : (if t199 = true then ((gneisslaw0_errors2.f).bind fun t200 => (if t200 = true then ((gneisslaw0_errors3.f).bind fun t201 => (if t201 = true then ((gneisslaw0_errors4.f).bind fun t202 => (if t202 = true then ((gneisslaw0_errors5.f).bind fun t203 => (if t203 = true then ((gneisslaw0_errors6.f).bind fun t204 => (if t204 = true then ((gneisslaw0_errors7.f).bind fun t205 => (if t205 = true then ((gneisslaw0_numbers1.f).bind fun t206 => (if t206 = true then ((gneisslaw0_numbers2.f).bind fun t207 => (if t207 = true then ((gneisslaw0_numbers3.f).bind fun t208 => (if t208 = true then ((gneisslaw0_numbers4.f).bind fun t209 => (if t209 = true then ((gneisslaw0_numbers5.f).bind fun t210 => (if t210 = true then ((gneisslaw0_numbers6.f).bind fun t211 => (if t211 = true then ((gneisslaw0_numbers7.f).bind fun t212 => (if t212 = true then ((gneisslaw0_numbers8.f).bind fun t213 => (if t213 = true then ((gneisslaw0_numbers9.f).bind fun t214 => (if t214 = true then ((gneisslaw0_numbers10.f).bind fun t215 => (some t215)) else (some false))) else (some false))) else (some false))) else (some false))) else (some false))) else (some false))) else (some false))) else (some false))) else (some false))) else (some false))) else (some false))) else (some false))) else (some false))) else (some false))) else (some false))) else (some false)) = some r := H
  have A1 := Aside0.mk A10
  clear A10
  by_cases c2 : t199 = true
  · subst c2
    have H1 : ((gneisslaw0_errors2.f).bind fun t200 => (if t200 = true then ((gneisslaw0_errors3.f).bind fun t201 => (if t201 = true then ((gneisslaw0_errors4.f).bind fun t202 => (if t202 = true then ((gneisslaw0_errors5.f).bind fun t203 => (if t203 = true then ((gneisslaw0_errors6.f).bind fun t204 => (if t204 = true then ((gneisslaw0_errors7.f).bind fun t205 => (if t205 = true then ((gneisslaw0_numbers1.f).bind fun t206 => (if t206 = true then ((gneisslaw0_numbers2.f).bind fun t207 => (if t207 = true then ((gneisslaw0_numbers3.f).bind fun t208 => (if t208 = true then ((gneisslaw0_numbers4.f).bind fun t209 => (if t209 = true then ((gneisslaw0_numbers5.f).bind fun t210 => (if t210 = true then ((gneisslaw0_numbers6.f).bind fun t211 => (if t211 = true then ((gneisslaw0_numbers7.f).bind fun t212 => (if t212 = true then ((gneisslaw0_numbers8.f).bind fun t213 => (if t213 = true then ((gneisslaw0_numbers9.f).bind fun t214 => (if t214 = true then ((gneisslaw0_numbers10.f).bind fun t215 => (some t215)) else (some false))) else (some false))) else (some false))) else (some false))) else (some false))) else (some false))) else (some false))) else (some false))) else (some false))) else (some false))) else (some false))) else (some false))) else (some false))) else (some false))) else (some false))) = some r := by rw [if_pos rfl] at H; exact H
    clear H
    have H := H1
    clear H1
    replace H := Option.bind_eq_some_iff.mp H
    obtain ⟨t200, A30, H⟩ := H
    replace H : (if t200 = true then ((gneisslaw0_errors3.f).bind fun t201 => (if t201 = true then ((gneisslaw0_errors4.f).bind fun t202 => (if t202 = true then ((gneisslaw0_errors5.f).bind fun t203 => (if t203 = true then ((gneisslaw0_errors6.f).bind fun t204 => (if t204 = true then ((gneisslaw0_errors7.f).bind fun t205 => (if t205 = true then ((gneisslaw0_numbers1.f).bind fun t206 => (if t206 = true then ((gneisslaw0_numbers2.f).bind fun t207 => (if t207 = true then ((gneisslaw0_numbers3.f).bind fun t208 => (if t208 = true then ((gneisslaw0_numbers4.f).bind fun t209 => (if t209 = true then ((gneisslaw0_numbers5.f).bind fun t210 => (if t210 = true then ((gneisslaw0_numbers6.f).bind fun t211 => (if t211 = true then ((gneisslaw0_numbers7.f).bind fun t212 => (if t212 = true then ((gneisslaw0_numbers8.f).bind fun t213 => (if t213 = true then ((gneisslaw0_numbers9.f).bind fun t214 => (if t214 = true then ((gneisslaw0_numbers10.f).bind fun t215 => (some t215)) else (some false))) else (some false))) else (some false))) else (some false))) else (some false))) else (some false))) else (some false))) else (some false))) else (some false))) else (some false))) else (some false))) else (some false))) else (some false))) else (some false))) else (some false)) = some r := H
    have A3 := Aside0.mk A30
    clear A30
    by_cases c4 : t200 = true
    · subst c4
      have H1 : ((gneisslaw0_errors3.f).bind fun t201 => (if t201 = true then ((gneisslaw0_errors4.f).bind fun t202 => (if t202 = true then ((gneisslaw0_errors5.f).bind fun t203 => (if t203 = true then ((gneisslaw0_errors6.f).bind fun t204 => (if t204 = true then ((gneisslaw0_errors7.f).bind fun t205 => (if t205 = true then ((gneisslaw0_numbers1.f).bind fun t206 => (if t206 = true then ((gneisslaw0_numbers2.f).bind fun t207 => (if t207 = true then ((gneisslaw0_numbers3.f).bind fun t208 => (if t208 = true then ((gneisslaw0_numbers4.f).bind fun t209 => (if t209 = true then ((gneisslaw0_numbers5.f).bind fun t210 => (if t210 = true then ((gneisslaw0_numbers6.f).bind fun t211 => (if t211 = true then ((gneisslaw0_numbers7.f).bind fun t212 => (if t212 = true then ((gneisslaw0_numbers8.f).bind fun t213 => (if t213 = true then ((gneisslaw0_numbers9.f).bind fun t214 => (if t214 = true then ((gneisslaw0_numbers10.f).bind fun t215 => (some t215)) else (some false))) else (some false))) else (some false))) else (some false))) else (some false))) else (some false))) else (some false))) else (some false))) else (some false))) else (some false))) else (some false))) else (some false))) else (some false))) else (some false))) = some r := by rw [if_pos rfl] at H; exact H
      clear H
      have H := H1
      clear H1
      replace H := Option.bind_eq_some_iff.mp H
      obtain ⟨t201, A50, H⟩ := H
      replace H : (if t201 = true then ((gneisslaw0_errors4.f).bind fun t202 => (if t202 = true then ((gneisslaw0_errors5.f).bind fun t203 => (if t203 = true then ((gneisslaw0_errors6.f).bind fun t204 => (if t204 = true then ((gneisslaw0_errors7.f).bind fun t205 => (if t205 = true then ((gneisslaw0_numbers1.f).bind fun t206 => (if t206 = true then ((gneisslaw0_numbers2.f).bind fun t207 => (if t207 = true then ((gneisslaw0_numbers3.f).bind fun t208 => (if t208 = true then ((gneisslaw0_numbers4.f).bind fun t209 => (if t209 = true then ((gneisslaw0_numbers5.f).bind fun t210 => (if t210 = true then ((gneisslaw0_numbers6.f).bind fun t211 => (if t211 = true then ((gneisslaw0_numbers7.f).bind fun t212 => (if t212 = true then ((gneisslaw0_numbers8.f).bind fun t213 => (if t213 = true then ((gneisslaw0_numbers9.f).bind fun t214 => (if t214 = true then ((gneisslaw0_numbers10.f).bind fun t215 => (some t215)) else (some false))) else (some false))) else (some false))) else (some false))) else (some false))) else (some false))) else (some false))) else (some false))) else (some false))) else (some false))) else (some false))) else (some false))) else (some false))) else (some false)) = some r := H
      have A5 := Aside0.mk A50
      clear A50
      by_cases c6 : t201 = true
      · subst c6
        have H1 : ((gneisslaw0_errors4.f).bind fun t202 => (if t202 = true then ((gneisslaw0_errors5.f).bind fun t203 => (if t203 = true then ((gneisslaw0_errors6.f).bind fun t204 => (if t204 = true then ((gneisslaw0_errors7.f).bind fun t205 => (if t205 = true then ((gneisslaw0_numbers1.f).bind fun t206 => (if t206 = true then ((gneisslaw0_numbers2.f).bind fun t207 => (if t207 = true then ((gneisslaw0_numbers3.f).bind fun t208 => (if t208 = true then ((gneisslaw0_numbers4.f).bind fun t209 => (if t209 = true then ((gneisslaw0_numbers5.f).bind fun t210 => (if t210 = true then ((gneisslaw0_numbers6.f).bind fun t211 => (if t211 = true then ((gneisslaw0_numbers7.f).bind fun t212 => (if t212 = true then ((gneisslaw0_numbers8.f).bind fun t213 => (if t213 = true then ((gneisslaw0_numbers9.f).bind fun t214 => (if t214 = true then ((gneisslaw0_numbers10.f).bind fun t215 => (some t215)) else (some false))) else (some false))) else (some false))) else (some false))) else (some false))) else (some false))) else (some false))) else (some false))) else (some false))) else (some false))) else (some false))) else (some false))) else (some false))) = some r := by rw [if_pos rfl] at H; exact H
        clear H
        have H := H1
        clear H1
        replace H := Option.bind_eq_some_iff.mp H
        obtain ⟨t202, A70, H⟩ := H
        replace H : (if t202 = true then ((gneisslaw0_errors5.f).bind fun t203 => (if t203 = true then ((gneisslaw0_errors6.f).bind fun t204 => (if t204 = true then ((gneisslaw0_errors7.f).bind fun t205 => (if t205 = true then ((gneisslaw0_numbers1.f).bind fun t206 => (if t206 = true then ((gneisslaw0_numbers2.f).bind fun t207 => (if t207 = true then ((gneisslaw0_numbers3.f).bind fun t208 => (if t208 = true then ((gneisslaw0_numbers4.f).bind fun t209 => (if t209 = true then ((gneisslaw0_numbers5.f).bind fun t210 => (if t210 = true then ((gneisslaw0_numbers6.f).bind fun t211 => (if t211 = true then ((gneisslaw0_numbers7.f).bind fun t212 => (if t212 = true then ((gneisslaw0_numbers8.f).bind fun t213 => (if t213 = true then ((gneisslaw0_numbers9.f).bind fun t214 => (if t214 = true then ((gneisslaw0_numbers10.f).bind fun t215 => (some t215)) else (some false))) else (some false))) else (some false))) else (some false))) else (some false))) else (some false))) else (some false))) else (some false))) else (some false))) else (some false))) else (some false))) else (some false))) else (some false)) = some r := H
        have A7 := Aside0.mk A70
        clear A70
        by_cases c8 : t202 = true
        · subst c8
          have H1 : ((gneisslaw0_errors5.f).bind fun t203 => (if t203 = true then ((gneisslaw0_errors6.f).bind fun t204 => (if t204 = true then ((gneisslaw0_errors7.f).bind fun t205 => (if t205 = true then ((gneisslaw0_numbers1.f).bind fun t206 => (if t206 = true then ((gneisslaw0_numbers2.f).bind fun t207 => (if t207 = true then ((gneisslaw0_numbers3.f).bind fun t208 => (if t208 = true then ((gneisslaw0_numbers4.f).bind fun t209 => (if t209 = true then ((gneisslaw0_numbers5.f).bind fun t210 => (if t210 = true then ((gneisslaw0_numbers6.f).bind fun t211 => (if t211 = true then ((gneisslaw0_numbers7.f).bind fun t212 => (if t212 = true then ((gneisslaw0_numbers8.f).bind fun t213 => (if t213 = true then ((gneisslaw0_numbers9.f).bind fun t214 => (if t214 = true then ((gneisslaw0_numbers10.f).bind fun t215 => (some t215)) else (some false))) else (some false))) else (some false))) else (some false))) else (some false))) else (some false))) else (some false))) else (some false))) else (some false))) else (some false))) else (some false))) else (some false))) = some r := by rw [if_pos rfl] at H; exact H
          clear H
          have H := H1
          clear H1
          replace H := Option.bind_eq_some_iff.mp H
          obtain ⟨t203, A90, H⟩ := H
          replace H : (if t203 = true then ((gneisslaw0_errors6.f).bind fun t204 => (if t204 = true then ((gneisslaw0_errors7.f).bind fun t205 => (if t205 = true then ((gneisslaw0_numbers1.f).bind fun t206 => (if t206 = true then ((gneisslaw0_numbers2.f).bind fun t207 => (if t207 = true then ((gneisslaw0_numbers3.f).bind fun t208 => (if t208 = true then ((gneisslaw0_numbers4.f).bind fun t209 => (if t209 = true then ((gneisslaw0_numbers5.f).bind fun t210 => (if t210 = true then ((gneisslaw0_numbers6.f).bind fun t211 => (if t211 = true then ((gneisslaw0_numbers7.f).bind fun t212 => (if t212 = true then ((gneisslaw0_numbers8.f).bind fun t213 => (if t213 = true then ((gneisslaw0_numbers9.f).bind fun t214 => (if t214 = true then ((gneisslaw0_numbers10.f).bind fun t215 => (some t215)) else (some false))) else (some false))) else (some false))) else (some false))) else (some false))) else (some false))) else (some false))) else (some false))) else (some false))) else (some false))) else (some false))) else (some false)) = some r := H
          have A9 := Aside0.mk A90
          clear A90
          by_cases c10 : t203 = true
          · subst c10
            have H1 : ((gneisslaw0_errors6.f).bind fun t204 => (if t204 = true then ((gneisslaw0_errors7.f).bind fun t205 => (if t205 = true then ((gneisslaw0_numbers1.f).bind fun t206 => (if t206 = true then ((gneisslaw0_numbers2.f).bind fun t207 => (if t207 = true then ((gneisslaw0_numbers3.f).bind fun t208 => (if t208 = true then ((gneisslaw0_numbers4.f).bind fun t209 => (if t209 = true then ((gneisslaw0_numbers5.f).bind fun t210 => (if t210 = true then ((gneisslaw0_numbers6.f).bind fun t211 => (if t211 = true then ((gneisslaw0_numbers7.f).bind fun t212 => (if t212 = true then ((gneisslaw0_numbers8.f).bind fun t213 => (if t213 = true then ((gneisslaw0_numbers9.f).bind fun t214 => (if t214 = true then ((gneisslaw0_numbers10.f).bind fun t215 => (some t215)) else (some false))) else (some false))) else (some false))) else (some false))) else (some false))) else (some false))) else (some false))) else (some false))) else (some false))) else (some false))) else (some false))) = some r := by rw [if_pos rfl] at H; exact H
            clear H
            have H := H1
            clear H1
            replace H := Option.bind_eq_some_iff.mp H
            obtain ⟨t204, A110, H⟩ := H
            replace H : (if t204 = true then ((gneisslaw0_errors7.f).bind fun t205 => (if t205 = true then ((gneisslaw0_numbers1.f).bind fun t206 => (if t206 = true then ((gneisslaw0_numbers2.f).bind fun t207 => (if t207 = true then ((gneisslaw0_numbers3.f).bind fun t208 => (if t208 = true then ((gneisslaw0_numbers4.f).bind fun t209 => (if t209 = true then ((gneisslaw0_numbers5.f).bind fun t210 => (if t210 = true then ((gneisslaw0_numbers6.f).bind fun t211 => (if t211 = true then ((gneisslaw0_numbers7.f).bind fun t212 => (if t212 = true then ((gneisslaw0_numbers8.f).bind fun t213 => (if t213 = true then ((gneisslaw0_numbers9.f).bind fun t214 => (if t214 = true then ((gneisslaw0_numbers10.f).bind fun t215 => (some t215)) else (some false))) else (some false))) else (some false))) else (some false))) else (some false))) else (some false))) else (some false))) else (some false))) else (some false))) else (some false))) else (some false)) = some r := H
            have A11 := Aside0.mk A110
            clear A110
            by_cases c12 : t204 = true
            · subst c12
              have H1 : ((gneisslaw0_errors7.f).bind fun t205 => (if t205 = true then ((gneisslaw0_numbers1.f).bind fun t206 => (if t206 = true then ((gneisslaw0_numbers2.f).bind fun t207 => (if t207 = true then ((gneisslaw0_numbers3.f).bind fun t208 => (if t208 = true then ((gneisslaw0_numbers4.f).bind fun t209 => (if t209 = true then ((gneisslaw0_numbers5.f).bind fun t210 => (if t210 = true then ((gneisslaw0_numbers6.f).bind fun t211 => (if t211 = true then ((gneisslaw0_numbers7.f).bind fun t212 => (if t212 = true then ((gneisslaw0_numbers8.f).bind fun t213 => (if t213 = true then ((gneisslaw0_numbers9.f).bind fun t214 => (if t214 = true then ((gneisslaw0_numbers10.f).bind fun t215 => (some t215)) else (some false))) else (some false))) else (some false))) else (some false))) else (some false))) else (some false))) else (some false))) else (some false))) else (some false))) else (some false))) = some r := by rw [if_pos rfl] at H; exact H
              clear H
              have H := H1
              clear H1
              replace H := Option.bind_eq_some_iff.mp H
              obtain ⟨t205, A130, H⟩ := H
              replace H : (if t205 = true then ((gneisslaw0_numbers1.f).bind fun t206 => (if t206 = true then ((gneisslaw0_numbers2.f).bind fun t207 => (if t207 = true then ((gneisslaw0_numbers3.f).bind fun t208 => (if t208 = true then ((gneisslaw0_numbers4.f).bind fun t209 => (if t209 = true then ((gneisslaw0_numbers5.f).bind fun t210 => (if t210 = true then ((gneisslaw0_numbers6.f).bind fun t211 => (if t211 = true then ((gneisslaw0_numbers7.f).bind fun t212 => (if t212 = true then ((gneisslaw0_numbers8.f).bind fun t213 => (if t213 = true then ((gneisslaw0_numbers9.f).bind fun t214 => (if t214 = true then ((gneisslaw0_numbers10.f).bind fun t215 => (some t215)) else (some false))) else (some false))) else (some false))) else (some false))) else (some false))) else (some false))) else (some false))) else (some false))) else (some false))) else (some false)) = some r := H
              have A13 := Aside0.mk A130
              clear A130
              by_cases c14 : t205 = true
              · subst c14
                have H1 : ((gneisslaw0_numbers1.f).bind fun t206 => (if t206 = true then ((gneisslaw0_numbers2.f).bind fun t207 => (if t207 = true then ((gneisslaw0_numbers3.f).bind fun t208 => (if t208 = true then ((gneisslaw0_numbers4.f).bind fun t209 => (if t209 = true then ((gneisslaw0_numbers5.f).bind fun t210 => (if t210 = true then ((gneisslaw0_numbers6.f).bind fun t211 => (if t211 = true then ((gneisslaw0_numbers7.f).bind fun t212 => (if t212 = true then ((gneisslaw0_numbers8.f).bind fun t213 => (if t213 = true then ((gneisslaw0_numbers9.f).bind fun t214 => (if t214 = true then ((gneisslaw0_numbers10.f).bind fun t215 => (some t215)) else (some false))) else (some false))) else (some false))) else (some false))) else (some false))) else (some false))) else (some false))) else (some false))) else (some false))) = some r := by rw [if_pos rfl] at H; exact H
                clear H
                have H := H1
                clear H1
                replace H := Option.bind_eq_some_iff.mp H
                obtain ⟨t206, A150, H⟩ := H
                replace H : (if t206 = true then ((gneisslaw0_numbers2.f).bind fun t207 => (if t207 = true then ((gneisslaw0_numbers3.f).bind fun t208 => (if t208 = true then ((gneisslaw0_numbers4.f).bind fun t209 => (if t209 = true then ((gneisslaw0_numbers5.f).bind fun t210 => (if t210 = true then ((gneisslaw0_numbers6.f).bind fun t211 => (if t211 = true then ((gneisslaw0_numbers7.f).bind fun t212 => (if t212 = true then ((gneisslaw0_numbers8.f).bind fun t213 => (if t213 = true then ((gneisslaw0_numbers9.f).bind fun t214 => (if t214 = true then ((gneisslaw0_numbers10.f).bind fun t215 => (some t215)) else (some false))) else (some false))) else (some false))) else (some false))) else (some false))) else (some false))) else (some false))) else (some false))) else (some false)) = some r := H
                have A15 := Aside0.mk A150
                clear A150
                by_cases c16 : t206 = true
                · subst c16
                  have H1 : ((gneisslaw0_numbers2.f).bind fun t207 => (if t207 = true then ((gneisslaw0_numbers3.f).bind fun t208 => (if t208 = true then ((gneisslaw0_numbers4.f).bind fun t209 => (if t209 = true then ((gneisslaw0_numbers5.f).bind fun t210 => (if t210 = true then ((gneisslaw0_numbers6.f).bind fun t211 => (if t211 = true then ((gneisslaw0_numbers7.f).bind fun t212 => (if t212 = true then ((gneisslaw0_numbers8.f).bind fun t213 => (if t213 = true then ((gneisslaw0_numbers9.f).bind fun t214 => (if t214 = true then ((gneisslaw0_numbers10.f).bind fun t215 => (some t215)) else (some false))) else (some false))) else (some false))) else (some false))) else (some false))) else (some false))) else (some false))) else (some false))) = some r := by rw [if_pos rfl] at H; exact H
                  clear H
                  have H := H1
                  clear H1
                  replace H := Option.bind_eq_some_iff.mp H
                  obtain ⟨t207, A170, H⟩ := H
                  replace H : (if t207 = true then ((gneisslaw0_numbers3.f).bind fun t208 => (if t208 = true then ((gneisslaw0_numbers4.f).bind fun t209 => (if t209 = true then ((gneisslaw0_numbers5.f).bind fun t210 => (if t210 = true then ((gneisslaw0_numbers6.f).bind fun t211 => (if t211 = true then ((gneisslaw0_numbers7.f).bind fun t212 => (if t212 = true then ((gneisslaw0_numbers8.f).bind fun t213 => (if t213 = true then ((gneisslaw0_numbers9.f).bind fun t214 => (if t214 = true then ((gneisslaw0_numbers10.f).bind fun t215 => (some t215)) else (some false))) else (some false))) else (some false))) else (some false))) else (some false))) else (some false))) else (some false))) else (some false)) = some r := H
                  have A17 := Aside0.mk A170
                  clear A170
                  by_cases c18 : t207 = true
                  · subst c18
                    have H1 : ((gneisslaw0_numbers3.f).bind fun t208 => (if t208 = true then ((gneisslaw0_numbers4.f).bind fun t209 => (if t209 = true then ((gneisslaw0_numbers5.f).bind fun t210 => (if t210 = true then ((gneisslaw0_numbers6.f).bind fun t211 => (if t211 = true then ((gneisslaw0_numbers7.f).bind fun t212 => (if t212 = true then ((gneisslaw0_numbers8.f).bind fun t213 => (if t213 = true then ((gneisslaw0_numbers9.f).bind fun t214 => (if t214 = true then ((gneisslaw0_numbers10.f).bind fun t215 => (some t215)) else (some false))) else (some false))) else (some false))) else (some false))) else (some false))) else (some false))) else (some false))) = some r := by rw [if_pos rfl] at H; exact H
                    clear H
                    have H := H1
                    clear H1
                    replace H := Option.bind_eq_some_iff.mp H
                    obtain ⟨t208, A190, H⟩ := H
                    replace H : (if t208 = true then ((gneisslaw0_numbers4.f).bind fun t209 => (if t209 = true then ((gneisslaw0_numbers5.f).bind fun t210 => (if t210 = true then ((gneisslaw0_numbers6.f).bind fun t211 => (if t211 = true then ((gneisslaw0_numbers7.f).bind fun t212 => (if t212 = true then ((gneisslaw0_numbers8.f).bind fun t213 => (if t213 = true then ((gneisslaw0_numbers9.f).bind fun t214 => (if t214 = true then ((gneisslaw0_numbers10.f).bind fun t215 => (some t215)) else (some false))) else (some false))) else (some false))) else (some false))) else (some false))) else (some false))) else (some false)) = some r := H
                    have A19 := Aside0.mk A190
                    clear A190
                    by_cases c20 : t208 = true
                    · subst c20
                      have H1 : ((gneisslaw0_numbers4.f).bind fun t209 => (if t209 = true then ((gneisslaw0_numbers5.f).bind fun t210 => (if t210 = true then ((gneisslaw0_numbers6.f).bind fun t211 => (if t211 = true then ((gneisslaw0_numbers7.f).bind fun t212 => (if t212 = true then ((gneisslaw0_numbers8.f).bind fun t213 => (if t213 = true then ((gneisslaw0_numbers9.f).bind fun t214 => (if t214 = true then ((gneisslaw0_numbers10.f).bind fun t215 => (some t215)) else (some false))) else (some false))) else (some false))) else (some false))) else (some false))) else (some false))) = some r := by rw [if_pos rfl] at H; exact H
                      clear H
                      have H := H1
                      clear H1
                      replace H := Option.bind_eq_some_iff.mp H
                      obtain ⟨t209, A210, H⟩ := H
                      replace H : (if t209 = true then ((gneisslaw0_numbers5.f).bind fun t210 => (if t210 = true then ((gneisslaw0_numbers6.f).bind fun t211 => (if t211 = true then ((gneisslaw0_numbers7.f).bind fun t212 => (if t212 = true then ((gneisslaw0_numbers8.f).bind fun t213 => (if t213 = true then ((gneisslaw0_numbers9.f).bind fun t214 => (if t214 = true then ((gneisslaw0_numbers10.f).bind fun t215 => (some t215)) else (some false))) else (some false))) else (some false))) else (some false))) else (some false))) else (some false)) = some r := H
                      have A21 := Aside0.mk A210
                      clear A210
                      by_cases c22 : t209 = true
                      · subst c22
                        have H1 : ((gneisslaw0_numbers5.f).bind fun t210 => (if t210 = true then ((gneisslaw0_numbers6.f).bind fun t211 => (if t211 = true then ((gneisslaw0_numbers7.f).bind fun t212 => (if t212 = true then ((gneisslaw0_numbers8.f).bind fun t213 => (if t213 = true then ((gneisslaw0_numbers9.f).bind fun t214 => (if t214 = true then ((gneisslaw0_numbers10.f).bind fun t215 => (some t215)) else (some false))) else (some false))) else (some false))) else (some false))) else (some false))) = some r := by rw [if_pos rfl] at H; exact H
                        clear H
                        have H := H1
                        clear H1
                        replace H := Option.bind_eq_some_iff.mp H
                        obtain ⟨t210, A230, H⟩ := H
                        replace H : (if t210 = true then ((gneisslaw0_numbers6.f).bind fun t211 => (if t211 = true then ((gneisslaw0_numbers7.f).bind fun t212 => (if t212 = true then ((gneisslaw0_numbers8.f).bind fun t213 => (if t213 = true then ((gneisslaw0_numbers9.f).bind fun t214 => (if t214 = true then ((gneisslaw0_numbers10.f).bind fun t215 => (some t215)) else (some false))) else (some false))) else (some false))) else (some false))) else (some false)) = some r := H
                        have A23 := Aside0.mk A230
                        clear A230
                        by_cases c24 : t210 = true
                        · subst c24
                          have H1 : ((gneisslaw0_numbers6.f).bind fun t211 => (if t211 = true then ((gneisslaw0_numbers7.f).bind fun t212 => (if t212 = true then ((gneisslaw0_numbers8.f).bind fun t213 => (if t213 = true then ((gneisslaw0_numbers9.f).bind fun t214 => (if t214 = true then ((gneisslaw0_numbers10.f).bind fun t215 => (some t215)) else (some false))) else (some false))) else (some false))) else (some false))) = some r := by rw [if_pos rfl] at H; exact H
                          clear H
                          have H := H1
                          clear H1
                          replace H := Option.bind_eq_some_iff.mp H
                          obtain ⟨t211, A250, H⟩ := H
                          replace H : (if t211 = true then ((gneisslaw0_numbers7.f).bind fun t212 => (if t212 = true then ((gneisslaw0_numbers8.f).bind fun t213 => (if t213 = true then ((gneisslaw0_numbers9.f).bind fun t214 => (if t214 = true then ((gneisslaw0_numbers10.f).bind fun t215 => (some t215)) else (some false))) else (some false))) else (some false))) else (some false)) = some r := H
                          have A25 := Aside0.mk A250
                          clear A250
                          by_cases c26 : t211 = true
                          · subst c26
                            have H1 : ((gneisslaw0_numbers7.f).bind fun t212 => (if t212 = true then ((gneisslaw0_numbers8.f).bind fun t213 => (if t213 = true then ((gneisslaw0_numbers9.f).bind fun t214 => (if t214 = true then ((gneisslaw0_numbers10.f).bind fun t215 => (some t215)) else (some false))) else (some false))) else (some false))) = some r := by rw [if_pos rfl] at H; exact H
                            clear H
                            have H := H1
                            clear H1
                            replace H := Option.bind_eq_some_iff.mp H
                            obtain ⟨t212, A270, H⟩ := H
                            replace H : (if t212 = true then ((gneisslaw0_numbers8.f).bind fun t213 => (if t213 = true then ((gneisslaw0_numbers9.f).bind fun t214 => (if t214 = true then ((gneisslaw0_numbers10.f).bind fun t215 => (some t215)) else (some false))) else (some false))) else (some false)) = some r := H
                            have A27 := Aside0.mk A270
                            clear A270
                            by_cases c28 : t212 = true
                            · subst c28
                              have H1 : ((gneisslaw0_numbers8.f).bind fun t213 => (if t213 = true then ((gneisslaw0_numbers9.f).bind fun t214 => (if t214 = true then ((gneisslaw0_numbers10.f).bind fun t215 => (some t215)) else (some false))) else (some false))) = some r := by rw [if_pos rfl] at H; exact H
                              clear H
                              have H := H1
                              clear H1
                              replace H := Option.bind_eq_some_iff.mp H
                              obtain ⟨t213, A290, H⟩ := H
                              replace H : (if t213 = true then ((gneisslaw0_numbers9.f).bind fun t214 => (if t214 = true then ((gneisslaw0_numbers10.f).bind fun t215 => (some t215)) else (some false))) else (some false)) = some r := H
                              have A29 := Aside0.mk A290
                              clear A290
                              by_cases c30 : t213 = true
                              · subst c30
                                have H1 : ((gneisslaw0_numbers9.f).bind fun t214 => (if t214 = true then ((gneisslaw0_numbers10.f).bind fun t215 => (some t215)) else (some false))) = some r := by rw [if_pos rfl] at H; exact H
                                clear H
                                have H := H1
                                clear H1
                                replace H := Option.bind_eq_some_iff.mp H
                                obtain ⟨t214, A310, H⟩ := H
                                replace H : (if t214 = true then ((gneisslaw0_numbers10.f).bind fun t215 => (some t215)) else (some false)) = some r := H
                                have A31 := Aside0.mk A310
                                clear A310
                                by_cases c32 : t214 = true
                                · subst c32
                                  have H1 : ((gneisslaw0_numbers10.f).bind fun t215 => (some t215)) = some r := by rw [if_pos rfl] at H; exact H
                                  clear H
                                  have H := H1
                                  clear H1
                                  replace H := Option.bind_eq_some_iff.mp H
                                  obtain ⟨t215, A330, H⟩ := H
                                  replace H : (some t215) = some r := H
                                  have A33 := Aside0.mk A330
                                  clear A330
                                  obtain rfl := Option.some.inj H
                                  go_enter Try.func3, Try.ntmps3
                                  go_wp2_with (first | ((with_reducible refine gate_callee (f := 13) rfl ?_); refine goesL_ (some 1) rfl rfl Try.func13 (by kernel_rfl) rfl #[] rfl (by (try simp only [List.map_toArray, List.map_cons, List.map_nil]); first | done | rfl | (simp only [List.length_drop, List.length_take]; rfl)) ?_; (with_reducible refine (gneisslaw0_errors1.calls  true _ A1.out).mono ?_); rintro e w' ⟨rfl, ⟨nd, rfl⟩⟩; refine ⟨_, rfl, ?_⟩) | (go_at_call 14; (with_reducible refine (gneisslaw0_errors2.calls  true _ A3.out).mono ?_); rintro e w' ⟨rfl, ⟨nd, rfl⟩⟩) | (go_at_call 15; (with_reducible refine (gneisslaw0_errors3.calls  true _ A5.out).mono ?_); rintro e w' ⟨rfl, ⟨nd, rfl⟩⟩) | (go_at_call 16; (with_reducible refine (gneisslaw0_errors4.calls  true _ A7.out).mono ?_); rintro e w' ⟨rfl, ⟨nd, rfl⟩⟩) | (go_at_call 17; (with_reducible refine (gneisslaw0_errors5.calls  true _ A9.out).mono ?_); rintro e w' ⟨rfl, ⟨nd, rfl⟩⟩) | (go_at_call 18; (with_reducible refine (gneisslaw0_errors6.calls  true _ A11.out).mono ?_); rintro e w' ⟨rfl, ⟨nd, rfl⟩⟩) | (go_at_call 19; (with_reducible refine (gneisslaw0_errors7.calls  true _ A13.out).mono ?_); rintro e w' ⟨rfl, ⟨nd, rfl⟩⟩) | (go_at_call 20; (with_reducible refine (gneisslaw0_numbers1.calls  true _ A15.out).mono ?_); rintro e w' ⟨rfl, ⟨nd, rfl⟩⟩) | (go_at_call 21; (with_reducible refine (gneisslaw0_numbers2.calls  true _ A17.out).mono ?_); rintro e w' ⟨rfl, ⟨nd, rfl⟩⟩) | (go_at_call 22; (with_reducible refine (gneisslaw0_numbers3.calls  true _ A19.out).mono ?_); rintro e w' ⟨rfl, ⟨nd, rfl⟩⟩) | (go_at_call 23; (with_reducible refine (gneisslaw0_numbers4.calls  true _ A21.out).mono ?_); rintro e w' ⟨rfl, ⟨nd, rfl⟩⟩) | (go_at_call 24; (with_reducible refine (gneisslaw0_numbers5.calls  true _ A23.out).mono ?_); rintro e w' ⟨rfl, ⟨nd, rfl⟩⟩) | (go_at_call 25; (with_reducible refine (gneisslaw0_numbers6.calls  true _ A25.out).mono ?_); rintro e w' ⟨rfl, ⟨nd, rfl⟩⟩) | (go_at_call 26; (with_reducible refine (gneisslaw0_numbers7.calls  true _ A27.out).mono ?_); rintro e w' ⟨rfl, ⟨nd, rfl⟩⟩) | (go_at_call 27; (with_reducible refine (gneisslaw0_numbers8.calls  true _ A29.out).mono ?_); rintro e w' ⟨rfl, ⟨nd, rfl⟩⟩) | (go_at_call 28; (with_reducible refine (gneisslaw0_numbers9.calls  true _ A31.out).mono ?_); rintro e w' ⟨rfl, ⟨nd, rfl⟩⟩) | (go_at_call 29; (with_reducible refine (gneisslaw0_numbers10.calls  t215 _ A33.out).mono ?_); rintro e w' ⟨rfl, ⟨nd, rfl⟩⟩))
                                  go_ret
                                  exact ⟨by first | rfl | (simp; done) | (simp [*]; done), by repeat (first | exact Drawn0.refl _ | apply Drawn0.step)⟩
                                · replace c32 := Bool.eq_false_iff.mpr c32
                                  subst c32
                                  have H1 : (some false) = some r := by rw [if_neg (show ¬ (false = true) by decide)] at H; exact H
                                  clear H
                                  have H := H1
                                  clear H1
                                  obtain rfl := Option.some.inj H
                                  go_enter Try.func3, Try.ntmps3
                                  go_wp2_with (first | ((with_reducible refine gate_callee (f := 13) rfl ?_); refine goesL_ (some 1) rfl rfl Try.func13 (by kernel_rfl) rfl #[] rfl (by (try simp only [List.map_toArray, List.map_cons, List.map_nil]); first | done | rfl | (simp only [List.length_drop, List.length_take]; rfl)) ?_; (with_reducible refine (gneisslaw0_errors1.calls  true _ A1.out).mono ?_); rintro e w' ⟨rfl, ⟨nd, rfl⟩⟩; refine ⟨_, rfl, ?_⟩) | (go_at_call 14; (with_reducible refine (gneisslaw0_errors2.calls  true _ A3.out).mono ?_); rintro e w' ⟨rfl, ⟨nd, rfl⟩⟩) | (go_at_call 15; (with_reducible refine (gneisslaw0_errors3.calls  true _ A5.out).mono ?_); rintro e w' ⟨rfl, ⟨nd, rfl⟩⟩) | (go_at_call 16; (with_reducible refine (gneisslaw0_errors4.calls  true _ A7.out).mono ?_); rintro e w' ⟨rfl, ⟨nd, rfl⟩⟩) | (go_at_call 17; (with_reducible refine (gneisslaw0_errors5.calls  true _ A9.out).mono ?_); rintro e w' ⟨rfl, ⟨nd, rfl⟩⟩) | (go_at_call 18; (with_reducible refine (gneisslaw0_errors6.calls  true _ A11.out).mono ?_); rintro e w' ⟨rfl, ⟨nd, rfl⟩⟩) | (go_at_call 19; (with_reducible refine (gneisslaw0_errors7.calls  true _ A13.out).mono ?_); rintro e w' ⟨rfl, ⟨nd, rfl⟩⟩) | (go_at_call 20; (with_reducible refine (gneisslaw0_numbers1.calls  true _ A15.out).mono ?_); rintro e w' ⟨rfl, ⟨nd, rfl⟩⟩) | (go_at_call 21; (with_reducible refine (gneisslaw0_numbers2.calls  true _ A17.out).mono ?_); rintro e w' ⟨rfl, ⟨nd, rfl⟩⟩) | (go_at_call 22; (with_reducible refine (gneisslaw0_numbers3.calls  true _ A19.out).mono ?_); rintro e w' ⟨rfl, ⟨nd, rfl⟩⟩) | (go_at_call 23; (with_reducible refine (gneisslaw0_numbers4.calls  true _ A21.out).mono ?_); rintro e w' ⟨rfl, ⟨nd, rfl⟩⟩) | (go_at_call 24; (with_reducible refine (gneisslaw0_numbers5.calls  true _ A23.out).mono ?_); rintro e w' ⟨rfl, ⟨nd, rfl⟩⟩) | (go_at_call 25; (with_reducible refine (gneisslaw0_numbers6.calls  true _ A25.out).mono ?_); rintro e w' ⟨rfl, ⟨nd, rfl⟩⟩) | (go_at_call 26; (with_reducible refine (gneisslaw0_numbers7.calls  true _ A27.out).mono ?_); rintro e w' ⟨rfl, ⟨nd, rfl⟩⟩) | (go_at_call 27; (with_reducible refine (gneisslaw0_numbers8.calls  true _ A29.out).mono ?_); rintro e w' ⟨rfl, ⟨nd, rfl⟩⟩) | (go_at_call 28; (with_reducible refine (gneisslaw0_numbers9.calls  false _ A31.out).mono ?_); rintro e w' ⟨rfl, ⟨nd, rfl⟩⟩))
                                  go_ret
                                  exact ⟨by first | rfl | (simp; done) | (simp [*]; done), by repeat (first | exact Drawn0.refl _ | apply Drawn0.step)⟩
                              · replace c30 := Bool.eq_false_iff.mpr c30
                                subst c30
                                have H1 : (some false) = some r := by rw [if_neg (show ¬ (false = true) by decide)] at H; exact H
                                clear H
                                have H := H1
                                clear H1
                                obtain rfl := Option.some.inj H
                                go_enter Try.func3, Try.ntmps3
                                go_wp2_with (first | ((with_reducible refine gate_callee (f := 13) rfl ?_); refine goesL_ (some 1) rfl rfl Try.func13 (by kernel_rfl) rfl #[] rfl (by (try simp only [List.map_toArray, List.map_cons, List.map_nil]); first | done | rfl | (simp only [List.length_drop, List.length_take]; rfl)) ?_; (with_reducible refine (gneisslaw0_errors1.calls  true _ A1.out).mono ?_); rintro e w' ⟨rfl, ⟨nd, rfl⟩⟩; refine ⟨_, rfl, ?_⟩) | (go_at_call 14; (with_reducible refine (gneisslaw0_errors2.calls  true _ A3.out).mono ?_); rintro e w' ⟨rfl, ⟨nd, rfl⟩⟩) | (go_at_call 15; (with_reducible refine (gneisslaw0_errors3.calls  true _ A5.out).mono ?_); rintro e w' ⟨rfl, ⟨nd, rfl⟩⟩) | (go_at_call 16; (with_reducible refine (gneisslaw0_errors4.calls  true _ A7.out).mono ?_); rintro e w' ⟨rfl, ⟨nd, rfl⟩⟩) | (go_at_call 17; (with_reducible refine (gneisslaw0_errors5.calls  true _ A9.out).mono ?_); rintro e w' ⟨rfl, ⟨nd, rfl⟩⟩) | (go_at_call 18; (with_reducible refine (gneisslaw0_errors6.calls  true _ A11.out).mono ?_); rintro e w' ⟨rfl, ⟨nd, rfl⟩⟩) | (go_at_call 19; (with_reducible refine (gneisslaw0_errors7.calls  true _ A13.out).mono ?_); rintro e w' ⟨rfl, ⟨nd, rfl⟩⟩) | (go_at_call 20; (with_reducible refine (gneisslaw0_numbers1.calls  true _ A15.out).mono ?_); rintro e w' ⟨rfl, ⟨nd, rfl⟩⟩) | (go_at_call 21; (with_reducible refine (gneisslaw0_numbers2.calls  true _ A17.out).mono ?_); rintro e w' ⟨rfl, ⟨nd, rfl⟩⟩) | (go_at_call 22; (with_reducible refine (gneisslaw0_numbers3.calls  true _ A19.out).mono ?_); rintro e w' ⟨rfl, ⟨nd, rfl⟩⟩) | (go_at_call 23; (with_reducible refine (gneisslaw0_numbers4.calls  true _ A21.out).mono ?_); rintro e w' ⟨rfl, ⟨nd, rfl⟩⟩) | (go_at_call 24; (with_reducible refine (gneisslaw0_numbers5.calls  true _ A23.out).mono ?_); rintro e w' ⟨rfl, ⟨nd, rfl⟩⟩) | (go_at_call 25; (with_reducible refine (gneisslaw0_numbers6.calls  true _ A25.out).mono ?_); rintro e w' ⟨rfl, ⟨nd, rfl⟩⟩) | (go_at_call 26; (with_reducible refine (gneisslaw0_numbers7.calls  true _ A27.out).mono ?_); rintro e w' ⟨rfl, ⟨nd, rfl⟩⟩) | (go_at_call 27; (with_reducible refine (gneisslaw0_numbers8.calls  false _ A29.out).mono ?_); rintro e w' ⟨rfl, ⟨nd, rfl⟩⟩))
                                go_ret
                                exact ⟨by first | rfl | (simp; done) | (simp [*]; done), by repeat (first | exact Drawn0.refl _ | apply Drawn0.step)⟩
                            · replace c28 := Bool.eq_false_iff.mpr c28
                              subst c28
                              have H1 : (some false) = some r := by rw [if_neg (show ¬ (false = true) by decide)] at H; exact H
                              clear H
                              have H := H1
                              clear H1
                              obtain rfl := Option.some.inj H
                              go_enter Try.func3, Try.ntmps3
                              go_wp2_with (first | ((with_reducible refine gate_callee (f := 13) rfl ?_); refine goesL_ (some 1) rfl rfl Try.func13 (by kernel_rfl) rfl #[] rfl (by (try simp only [List.map_toArray, List.map_cons, List.map_nil]); first | done | rfl | (simp only [List.length_drop, List.length_take]; rfl)) ?_; (with_reducible refine (gneisslaw0_errors1.calls  true _ A1.out).mono ?_); rintro e w' ⟨rfl, ⟨nd, rfl⟩⟩; refine ⟨_, rfl, ?_⟩) | (go_at_call 14; (with_reducible refine (gneisslaw0_errors2.calls  true _ A3.out).mono ?_); rintro e w' ⟨rfl, ⟨nd, rfl⟩⟩) | (go_at_call 15; (with_reducible refine (gneisslaw0_errors3.calls  true _ A5.out).mono ?_); rintro e w' ⟨rfl, ⟨nd, rfl⟩⟩) | (go_at_call 16; (with_reducible refine (gneisslaw0_errors4.calls  true _ A7.out).mono ?_); rintro e w' ⟨rfl, ⟨nd, rfl⟩⟩) | (go_at_call 17; (with_reducible refine (gneisslaw0_errors5.calls  true _ A9.out).mono ?_); rintro e w' ⟨rfl, ⟨nd, rfl⟩⟩) | (go_at_call 18; (with_reducible refine (gneisslaw0_errors6.calls  true _ A11.out).mono ?_); rintro e w' ⟨rfl, ⟨nd, rfl⟩⟩) | (go_at_call 19; (with_reducible refine (gneisslaw0_errors7.calls  true _ A13.out).mono ?_); rintro e w' ⟨rfl, ⟨nd, rfl⟩⟩) | (go_at_call 20; (with_reducible refine (gneisslaw0_numbers1.calls  true _ A15.out).mono ?_); rintro e w' ⟨rfl, ⟨nd, rfl⟩⟩) | (go_at_call 21; (with_reducible refine (gneisslaw0_numbers2.calls  true _ A17.out).mono ?_); rintro e w' ⟨rfl, ⟨nd, rfl⟩⟩) | (go_at_call 22; (with_reducible refine (gneisslaw0_numbers3.calls  true _ A19.out).mono ?_); rintro e w' ⟨rfl, ⟨nd, rfl⟩⟩) | (go_at_call 23; (with_reducible refine (gneisslaw0_numbers4.calls  true _ A21.out).mono ?_); rintro e w' ⟨rfl, ⟨nd, rfl⟩⟩) | (go_at_call 24; (with_reducible refine (gneisslaw0_numbers5.calls  true _ A23.out).mono ?_); rintro e w' ⟨rfl, ⟨nd, rfl⟩⟩) | (go_at_call 25; (with_reducible refine (gneisslaw0_numbers6.calls  true _ A25.out).mono ?_); rintro e w' ⟨rfl, ⟨nd, rfl⟩⟩) | (go_at_call 26; (with_reducible refine (gneisslaw0_numbers7.calls  false _ A27.out).mono ?_); rintro e w' ⟨rfl, ⟨nd, rfl⟩⟩))
                              go_ret
                              exact ⟨by first | rfl | (simp; done) | (simp [*]; done), by repeat (first | exact Drawn0.refl _ | apply Drawn0.step)⟩
                          · replace c26 := Bool.eq_false_iff.mpr c26
                            subst c26
                            have H1 : (some false) = some r := by rw [if_neg (show ¬ (false = true) by decide)] at H; exact H
                            clear H
                            have H := H1
                            clear H1
                            obtain rfl := Option.some.inj H
                            go_enter Try.func3, Try.ntmps3
                            go_wp2_with (first | ((with_reducible refine gate_callee (f := 13) rfl ?_); refine goesL_ (some 1) rfl rfl Try.func13 (by kernel_rfl) rfl #[] rfl (by (try simp only [List.map_toArray, List.map_cons, List.map_nil]); first | done | rfl | (simp only [List.length_drop, List.length_take]; rfl)) ?_; (with_reducible refine (gneisslaw0_errors1.calls  true _ A1.out).mono ?_); rintro e w' ⟨rfl, ⟨nd, rfl⟩⟩; refine ⟨_, rfl, ?_⟩) | (go_at_call 14; (with_reducible refine (gneisslaw0_errors2.calls  true _ A3.out).mono ?_); rintro e w' ⟨rfl, ⟨nd, rfl⟩⟩) | (go_at_call 15; (with_reducible refine (gneisslaw0_errors3.calls  true _ A5.out).mono ?_); rintro e w' ⟨rfl, ⟨nd, rfl⟩⟩) | (go_at_call 16; (with_reducible refine (gneisslaw0_errors4.calls  true _ A7.out).mono ?_); rintro e w' ⟨rfl, ⟨nd, rfl⟩⟩) | (go_at_call 17; (with_reducible refine (gneisslaw0_errors5.calls  true _ A9.out).mono ?_); rintro e w' ⟨rfl, ⟨nd, rfl⟩⟩) | (go_at_call 18; (with_reducible refine (gneisslaw0_errors6.calls  true _ A11.out).mono ?_); rintro e w' ⟨rfl, ⟨nd, rfl⟩⟩) | (go_at_call 19; (with_reducible refine (gneisslaw0_errors7.calls  true _ A13.out).mono ?_); rintro e w' ⟨rfl, ⟨nd, rfl⟩⟩) | (go_at_call 20; (with_reducible refine (gneisslaw0_numbers1.calls  true _ A15.out).mono ?_); rintro e w' ⟨rfl, ⟨nd, rfl⟩⟩) | (go_at_call 21; (with_reducible refine (gneisslaw0_numbers2.calls  true _ A17.out).mono ?_); rintro e w' ⟨rfl, ⟨nd, rfl⟩⟩) | (go_at_call 22; (with_reducible refine (gneisslaw0_numbers3.calls  true _ A19.out).mono ?_); rintro e w' ⟨rfl, ⟨nd, rfl⟩⟩) | (go_at_call 23; (with_reducible refine (gneisslaw0_numbers4.calls  true _ A21.out).mono ?_); rintro e w' ⟨rfl, ⟨nd, rfl⟩⟩) | (go_at_call 24; (with_reducible refine (gneisslaw0_numbers5.calls  true _ A23.out).mono ?_); rintro e w' ⟨rfl, ⟨nd, rfl⟩⟩) | (go_at_call 25; (with_reducible refine (gneisslaw0_numbers6.calls  false _ A25.out).mono ?_); rintro e w' ⟨rfl, ⟨nd, rfl⟩⟩))
                            go_ret
                            exact ⟨by first | rfl | (simp; done) | (simp [*]; done), by repeat (first | exact Drawn0.refl _ | apply Drawn0.step)⟩
                        · replace c24 := Bool.eq_false_iff.mpr c24
                          subst c24
                          have H1 : (some false) = some r := by rw [if_neg (show ¬ (false = true) by decide)] at H; exact H
                          clear H
                          have H := H1
                          clear H1
                          obtain rfl := Option.some.inj H
                          go_enter Try.func3, Try.ntmps3
                          go_wp2_with (first | ((with_reducible refine gate_callee (f := 13) rfl ?_); refine goesL_ (some 1) rfl rfl Try.func13 (by kernel_rfl) rfl #[] rfl (by (try simp only [List.map_toArray, List.map_cons, List.map_nil]); first | done | rfl | (simp only [List.length_drop, List.length_take]; rfl)) ?_; (with_reducible refine (gneisslaw0_errors1.calls  true _ A1.out).mono ?_); rintro e w' ⟨rfl, ⟨nd, rfl⟩⟩; refine ⟨_, rfl, ?_⟩) | (go_at_call 14; (with_reducible refine (gneisslaw0_errors2.calls  true _ A3.out).mono ?_); rintro e w' ⟨rfl, ⟨nd, rfl⟩⟩) | (go_at_call 15; (with_reducible refine (gneisslaw0_errors3.calls  true _ A5.out).mono ?_); rintro e w' ⟨rfl, ⟨nd, rfl⟩⟩) | (go_at_call 16; (with_reducible refine (gneisslaw0_errors4.calls  true _ A7.out).mono ?_); rintro e w' ⟨rfl, ⟨nd, rfl⟩⟩) | (go_at_call 17; (with_reducible refine (gneisslaw0_errors5.calls  true _ A9.out).mono ?_); rintro e w' ⟨rfl, ⟨nd, rfl⟩⟩) | (go_at_call 18; (with_reducible refine (gneisslaw0_errors6.calls  true _ A11.out).mono ?_); rintro e w' ⟨rfl, ⟨nd, rfl⟩⟩) | (go_at_call 19; (with_reducible refine (gneisslaw0_errors7.calls  true _ A13.out).mono ?_); rintro e w' ⟨rfl, ⟨nd, rfl⟩⟩) | (go_at_call 20; (with_reducible refine (gneisslaw0_numbers1.calls  true _ A15.out).mono ?_); rintro e w' ⟨rfl, ⟨nd, rfl⟩⟩) | (go_at_call 21; (with_reducible refine (gneisslaw0_numbers2.calls  true _ A17.out).mono ?_); rintro e w' ⟨rfl, ⟨nd, rfl⟩⟩) | (go_at_call 22; (with_reducible refine (gneisslaw0_numbers3.calls  true _ A19.out).mono ?_); rintro e w' ⟨rfl, ⟨nd, rfl⟩⟩) | (go_at_call 23; (with_reducible refine (gneisslaw0_numbers4.calls  true _ A21.out).mono ?_); rintro e w' ⟨rfl, ⟨nd, rfl⟩⟩) | (go_at_call 24; (with_reducible refine (gneisslaw0_numbers5.calls  false _ A23.out).mono ?_); rintro e w' ⟨rfl, ⟨nd, rfl⟩⟩))
                          go_ret
                          exact ⟨by first | rfl | (simp; done) | (simp [*]; done), by repeat (first | exact Drawn0.refl _ | apply Drawn0.step)⟩
                      · replace c22 := Bool.eq_false_iff.mpr c22
                        subst c22
                        have H1 : (some false) = some r := by rw [if_neg (show ¬ (false = true) by decide)] at H; exact H
                        clear H
                        have H := H1
                        clear H1
                        obtain rfl := Option.some.inj H
                        go_enter Try.func3, Try.ntmps3
                        go_wp2_with (first | ((with_reducible refine gate_callee (f := 13) rfl ?_); refine goesL_ (some 1) rfl rfl Try.func13 (by kernel_rfl) rfl #[] rfl (by (try simp only [List.map_toArray, List.map_cons, List.map_nil]); first | done | rfl | (simp only [List.length_drop, List.length_take]; rfl)) ?_; (with_reducible refine (gneisslaw0_errors1.calls  true _ A1.out).mono ?_); rintro e w' ⟨rfl, ⟨nd, rfl⟩⟩; refine ⟨_, rfl, ?_⟩) | (go_at_call 14; (with_reducible refine (gneisslaw0_errors2.calls  true _ A3.out).mono ?_); rintro e w' ⟨rfl, ⟨nd, rfl⟩⟩) | (go_at_call 15; (with_reducible refine (gneisslaw0_errors3.calls  true _ A5.out).mono ?_); rintro e w' ⟨rfl, ⟨nd, rfl⟩⟩) | (go_at_call 16; (with_reducible refine (gneisslaw0_errors4.calls  true _ A7.out).mono ?_); rintro e w' ⟨rfl, ⟨nd, rfl⟩⟩) | (go_at_call 17; (with_reducible refine (gneisslaw0_errors5.calls  true _ A9.out).mono ?_); rintro e w' ⟨rfl, ⟨nd, rfl⟩⟩) | (go_at_call 18; (with_reducible refine (gneisslaw0_errors6.calls  true _ A11.out).mono ?_); rintro e w' ⟨rfl, ⟨nd, rfl⟩⟩) | (go_at_call 19; (with_reducible refine (gneisslaw0_errors7.calls  true _ A13.out).mono ?_); rintro e w' ⟨rfl, ⟨nd, rfl⟩⟩) | (go_at_call 20; (with_reducible refine (gneisslaw0_numbers1.calls  true _ A15.out).mono ?_); rintro e w' ⟨rfl, ⟨nd, rfl⟩⟩) | (go_at_call 21; (with_reducible refine (gneisslaw0_numbers2.calls  true _ A17.out).mono ?_); rintro e w' ⟨rfl, ⟨nd, rfl⟩⟩) | (go_at_call 22; (with_reducible refine (gneisslaw0_numbers3.calls  true _ A19.out).mono ?_); rintro e w' ⟨rfl, ⟨nd, rfl⟩⟩) | (go_at_call 23; (with_reducible refine (gneisslaw0_numbers4.calls  false _ A21.out).mono ?_); rintro e w' ⟨rfl, ⟨nd, rfl⟩⟩))
                        go_ret
                        exact ⟨by first | rfl | (simp; done) | (simp [*]; done), by repeat (first | exact Drawn0.refl _ | apply Drawn0.step)⟩
                    · replace c20 := Bool.eq_false_iff.mpr c20
                      subst c20
                      have H1 : (some false) = some r := by rw [if_neg (show ¬ (false = true) by decide)] at H; exact H
                      clear H
                      have H := H1
                      clear H1
                      obtain rfl := Option.some.inj H
                      go_enter Try.func3, Try.ntmps3
                      go_wp2_with (first | ((with_reducible refine gate_callee (f := 13) rfl ?_); refine goesL_ (some 1) rfl rfl Try.func13 (by kernel_rfl) rfl #[] rfl (by (try simp only [List.map_toArray, List.map_cons, List.map_nil]); first | done | rfl | (simp only [List.length_drop, List.length_take]; rfl)) ?_; (with_reducible refine (gneisslaw0_errors1.calls  true _ A1.out).mono ?_); rintro e w' ⟨rfl, ⟨nd, rfl⟩⟩; refine ⟨_, rfl, ?_⟩) | (go_at_call 14; (with_reducible refine (gneisslaw0_errors2.calls  true _ A3.out).mono ?_); rintro e w' ⟨rfl, ⟨nd, rfl⟩⟩) | (go_at_call 15; (with_reducible refine (gneisslaw0_errors3.calls  true _ A5.out).mono ?_); rintro e w' ⟨rfl, ⟨nd, rfl⟩⟩) | (go_at_call 16; (with_reducible refine (gneisslaw0_errors4.calls  true _ A7.out).mono ?_); rintro e w' ⟨rfl, ⟨nd, rfl⟩⟩) | (go_at_call 17; (with_reducible refine (gneisslaw0_errors5.calls  true _ A9.out).mono ?_); rintro e w' ⟨rfl, ⟨nd, rfl⟩⟩) | (go_at_call 18; (with_reducible refine (gneisslaw0_errors6.calls  true _ A11.out).mono ?_); rintro e w' ⟨rfl, ⟨nd, rfl⟩⟩) | (go_at_call 19; (with_reducible refine (gneisslaw0_errors7.calls  true _ A13.out).mono ?_); rintro e w' ⟨rfl, ⟨nd, rfl⟩⟩) | (go_at_call 20; (with_reducible refine (gneisslaw0_numbers1.calls  true _ A15.out).mono ?_); rintro e w' ⟨rfl, ⟨nd, rfl⟩⟩) | (go_at_call 21; (with_reducible refine (gneisslaw0_numbers2.calls  true _ A17.out).mono ?_); rintro e w' ⟨rfl, ⟨nd, rfl⟩⟩) | (go_at_call 22; (with_reducible refine (gneisslaw0_numbers3.calls  false _ A19.out).mono ?_); rintro e w' ⟨rfl, ⟨nd, rfl⟩⟩))
                      go_ret
                      exact ⟨by first | rfl | (simp; done) | (simp [*]; done), by repeat (first | exact Drawn0.refl _ | apply Drawn0.step)⟩
                  · replace c18 := Bool.eq_false_iff.mpr c18
                    subst c18
                    have H1 : (some false) = some r := by rw [if_neg (show ¬ (false = true) by decide)] at H; exact H
                    clear H
                    have H := H1
                    clear H1
                    obtain rfl := Option.some.inj H
                    go_enter Try.func3, Try.ntmps3
                    go_wp2_with (first | ((with_reducible refine gate_callee (f := 13) rfl ?_); refine goesL_ (some 1) rfl rfl Try.func13 (by kernel_rfl) rfl #[] rfl (by (try simp only [List.map_toArray, List.map_cons, List.map_nil]); first | done | rfl | (simp only [List.length_drop, List.length_take]; rfl)) ?_; (with_reducible refine (gneisslaw0_errors1.calls  true _ A1.out).mono ?_); rintro e w' ⟨rfl, ⟨nd, rfl⟩⟩; refine ⟨_, rfl, ?_⟩) | (go_at_call 14; (with_reducible refine (gneisslaw0_errors2.calls  true _ A3.out).mono ?_); rintro e w' ⟨rfl, ⟨nd, rfl⟩⟩) | (go_at_call 15; (with_reducible refine (gneisslaw0_errors3.calls  true _ A5.out).mono ?_); rintro e w' ⟨rfl, ⟨nd, rfl⟩⟩) | (go_at_call 16; (with_reducible refine (gneisslaw0_errors4.calls  true _ A7.out).mono ?_); rintro e w' ⟨rfl, ⟨nd, rfl⟩⟩) | (go_at_call 17; (with_reducible refine (gneisslaw0_errors5.calls  true _ A9.out).mono ?_); rintro e w' ⟨rfl, ⟨nd, rfl⟩⟩) | (go_at_call 18; (with_reducible refine (gneisslaw0_errors6.calls  true _ A11.out).mono ?_); rintro e w' ⟨rfl, ⟨nd, rfl⟩⟩) | (go_at_call 19; (with_reducible refine (gneisslaw0_errors7.calls  true _ A13.out).mono ?_); rintro e w' ⟨rfl, ⟨nd, rfl⟩⟩) | (go_at_call 20; (with_reducible refine (gneisslaw0_numbers1.calls  true _ A15.out).mono ?_); rintro e w' ⟨rfl, ⟨nd, rfl⟩⟩) | (go_at_call 21; (with_reducible refine (gneisslaw0_numbers2.calls  false _ A17.out).mono ?_); rintro e w' ⟨rfl, ⟨nd, rfl⟩⟩))
                    go_ret
                    exact ⟨by first | rfl | (simp; done) | (simp [*]; done), by repeat (first | exact Drawn0.refl _ | apply Drawn0.step)⟩
                · replace c16 := Bool.eq_false_iff.mpr c16
                  subst c16
                  have H1 : (some false) = some r := by rw [if_neg (show ¬ (false = true) by decide)] at H; exact H
                  clear H
                  have H := H1
                  clear H1
                  obtain rfl := Option.some.inj H
                  go_enter Try.func3, Try.ntmps3
                  go_wp2_with (first | ((with_reducible refine gate_callee (f := 13) rfl ?_); refine goesL_ (some 1) rfl rfl Try.func13 (by kernel_rfl) rfl #[] rfl (by (try simp only [List.map_toArray, List.map_cons, List.map_nil]); first | done | rfl | (simp only [List.length_drop, List.length_take]; rfl)) ?_; (with_reducible refine (gneisslaw0_errors1.calls  true _ A1.out).mono ?_); rintro e w' ⟨rfl, ⟨nd, rfl⟩⟩; refine ⟨_, rfl, ?_⟩) | (go_at_call 14; (with_reducible refine (gneisslaw0_errors2.calls  true _ A3.out).mono ?_); rintro e w' ⟨rfl, ⟨nd, rfl⟩⟩) | (go_at_call 15; (with_reducible refine (gneisslaw0_errors3.calls  true _ A5.out).mono ?_); rintro e w' ⟨rfl, ⟨nd, rfl⟩⟩) | (go_at_call 16; (with_reducible refine (gneisslaw0_errors4.calls  true _ A7.out).mono ?_); rintro e w' ⟨rfl, ⟨nd, rfl⟩⟩) | (go_at_call 17; (with_reducible refine (gneisslaw0_errors5.calls  true _ A9.out).mono ?_); rintro e w' ⟨rfl, ⟨nd, rfl⟩⟩) | (go_at_call 18; (with_reducible refine (gneisslaw0_errors6.calls  true _ A11.out).mono ?_); rintro e w' ⟨rfl, ⟨nd, rfl⟩⟩) | (go_at_call 19; (with_reducible refine (gneisslaw0_errors7.calls  true _ A13.out).mono ?_); rintro e w' ⟨rfl, ⟨nd, rfl⟩⟩) | (go_at_call 20; (with_reducible refine (gneisslaw0_numbers1.calls  false _ A15.out).mono ?_); rintro e w' ⟨rfl, ⟨nd, rfl⟩⟩))
                  go_ret
                  exact ⟨by first | rfl | (simp; done) | (simp [*]; done), by repeat (first | exact Drawn0.refl _ | apply Drawn0.step)⟩
              · replace c14 := Bool.eq_false_iff.mpr c14
                subst c14
                have H1 : (some false) = some r := by rw [if_neg (show ¬ (false = true) by decide)] at H; exact H
                clear H
                have H := H1
                clear H1
                obtain rfl := Option.some.inj H
                go_enter Try.func3, Try.ntmps3
                go_wp2_with (first | ((with_reducible refine gate_callee (f := 13) rfl ?_); refine goesL_ (some 1) rfl rfl Try.func13 (by kernel_rfl) rfl #[] rfl (by (try simp only [List.map_toArray, List.map_cons, List.map_nil]); first | done | rfl | (simp only [List.length_drop, List.length_take]; rfl)) ?_; (with_reducible refine (gneisslaw0_errors1.calls  true _ A1.out).mono ?_); rintro e w' ⟨rfl, ⟨nd, rfl⟩⟩; refine ⟨_, rfl, ?_⟩) | (go_at_call 14; (with_reducible refine (gneisslaw0_errors2.calls  true _ A3.out).mono ?_); rintro e w' ⟨rfl, ⟨nd, rfl⟩⟩) | (go_at_call 15; (with_reducible refine (gneisslaw0_errors3.calls  true _ A5.out).mono ?_); rintro e w' ⟨rfl, ⟨nd, rfl⟩⟩) | (go_at_call 16; (with_reducible refine (gneisslaw0_errors4.calls  true _ A7.out).mono ?_); rintro e w' ⟨rfl, ⟨nd, rfl⟩⟩) | (go_at_call 17; (with_reducible refine (gneisslaw0_errors5.calls  true _ A9.out).mono ?_); rintro e w' ⟨rfl, ⟨nd, rfl⟩⟩) | (go_at_call 18; (with_reducible refine (gneisslaw0_errors6.calls  true _ A11.out).mono ?_); rintro e w' ⟨rfl, ⟨nd, rfl⟩⟩) | (go_at_call 19; (with_reducible refine (gneisslaw0_errors7.calls  false _ A13.out).mono ?_); rintro e w' ⟨rfl, ⟨nd, rfl⟩⟩))
                go_ret
                exact ⟨by first | rfl | (simp; done) | (simp [*]; done), by repeat (first | exact Drawn0.refl _ | apply Drawn0.step)⟩
            · replace c12 := Bool.eq_false_iff.mpr c12
              subst c12
              have H1 : (some false) = some r := by rw [if_neg (show ¬ (false = true) by decide)] at H; exact H
              clear H
              have H := H1
              clear H1
              obtain rfl := Option.some.inj H
              go_enter Try.func3, Try.ntmps3
              go_wp2_with (first | ((with_reducible refine gate_callee (f := 13) rfl ?_); refine goesL_ (some 1) rfl rfl Try.func13 (by kernel_rfl) rfl #[] rfl (by (try simp only [List.map_toArray, List.map_cons, List.map_nil]); first | done | rfl | (simp only [List.length_drop, List.length_take]; rfl)) ?_; (with_reducible refine (gneisslaw0_errors1.calls  true _ A1.out).mono ?_); rintro e w' ⟨rfl, ⟨nd, rfl⟩⟩; refine ⟨_, rfl, ?_⟩) | (go_at_call 14; (with_reducible refine (gneisslaw0_errors2.calls  true _ A3.out).mono ?_); rintro e w' ⟨rfl, ⟨nd, rfl⟩⟩) | (go_at_call 15; (with_reducible refine (gneisslaw0_errors3.calls  true _ A5.out).mono ?_); rintro e w' ⟨rfl, ⟨nd, rfl⟩⟩) | (go_at_call 16; (with_reducible refine (gneisslaw0_errors4.calls  true _ A7.out).mono ?_); rintro e w' ⟨rfl, ⟨nd, rfl⟩⟩) | (go_at_call 17; (with_reducible refine (gneisslaw0_errors5.calls  true _ A9.out).mono ?_); rintro e w' ⟨rfl, ⟨nd, rfl⟩⟩) | (go_at_call 18; (with_reducible refine (gneisslaw0_errors6.calls  false _ A11.out).mono ?_); rintro e w' ⟨rfl, ⟨nd, rfl⟩⟩))
              go_ret
              exact ⟨by first | rfl | (simp; done) | (simp [*]; done), by repeat (first | exact Drawn0.refl _ | apply Drawn0.step)⟩
          · replace c10 := Bool.eq_false_iff.mpr c10
            subst c10
            have H1 : (some false) = some r := by rw [if_neg (show ¬ (false = true) by decide)] at H; exact H
            clear H
            have H := H1
            clear H1
            obtain rfl := Option.some.inj H
            go_enter Try.func3, Try.ntmps3
            go_wp2_with (first | ((with_reducible refine gate_callee (f := 13) rfl ?_); refine goesL_ (some 1) rfl rfl Try.func13 (by kernel_rfl) rfl #[] rfl (by (try simp only [List.map_toArray, List.map_cons, List.map_nil]); first | done | rfl | (simp only [List.length_drop, List.length_take]; rfl)) ?_; (with_reducible refine (gneisslaw0_errors1.calls  true _ A1.out).mono ?_); rintro e w' ⟨rfl, ⟨nd, rfl⟩⟩; refine ⟨_, rfl, ?_⟩) | (go_at_call 14; (with_reducible refine (gneisslaw0_errors2.calls  true _ A3.out).mono ?_); rintro e w' ⟨rfl, ⟨nd, rfl⟩⟩) | (go_at_call 15; (with_reducible refine (gneisslaw0_errors3.calls  true _ A5.out).mono ?_); rintro e w' ⟨rfl, ⟨nd, rfl⟩⟩) | (go_at_call 16; (with_reducible refine (gneisslaw0_errors4.calls  true _ A7.out).mono ?_); rintro e w' ⟨rfl, ⟨nd, rfl⟩⟩) | (go_at_call 17; (with_reducible refine (gneisslaw0_errors5.calls  false _ A9.out).mono ?_); rintro e w' ⟨rfl, ⟨nd, rfl⟩⟩))
            go_ret
            exact ⟨by first | rfl | (simp; done) | (simp [*]; done), by repeat (first | exact Drawn0.refl _ | apply Drawn0.step)⟩
        · replace c8 := Bool.eq_false_iff.mpr c8
          subst c8
          have H1 : (some false) = some r := by rw [if_neg (show ¬ (false = true) by decide)] at H; exact H
          clear H
          have H := H1
          clear H1
          obtain rfl := Option.some.inj H
          go_enter Try.func3, Try.ntmps3
          go_wp2_with (first | ((with_reducible refine gate_callee (f := 13) rfl ?_); refine goesL_ (some 1) rfl rfl Try.func13 (by kernel_rfl) rfl #[] rfl (by (try simp only [List.map_toArray, List.map_cons, List.map_nil]); first | done | rfl | (simp only [List.length_drop, List.length_take]; rfl)) ?_; (with_reducible refine (gneisslaw0_errors1.calls  true _ A1.out).mono ?_); rintro e w' ⟨rfl, ⟨nd, rfl⟩⟩; refine ⟨_, rfl, ?_⟩) | (go_at_call 14; (with_reducible refine (gneisslaw0_errors2.calls  true _ A3.out).mono ?_); rintro e w' ⟨rfl, ⟨nd, rfl⟩⟩) | (go_at_call 15; (with_reducible refine (gneisslaw0_errors3.calls  true _ A5.out).mono ?_); rintro e w' ⟨rfl, ⟨nd, rfl⟩⟩) | (go_at_call 16; (with_reducible refine (gneisslaw0_errors4.calls  false _ A7.out).mono ?_); rintro e w' ⟨rfl, ⟨nd, rfl⟩⟩))
          go_ret
          exact ⟨by first | rfl | (simp; done) | (simp [*]; done), by repeat (first | exact Drawn0.refl _ | apply Drawn0.step)⟩
      · replace c6 := Bool.eq_false_iff.mpr c6
        subst c6
        have H1 : (some false) = some r := by rw [if_neg (show ¬ (false = true) by decide)] at H; exact H
        clear H
        have H := H1
        clear H1
        obtain rfl := Option.some.inj H
        go_enter Try.func3, Try.ntmps3
        go_wp2_with (first | ((with_reducible refine gate_callee (f := 13) rfl ?_); refine goesL_ (some 1) rfl rfl Try.func13 (by kernel_rfl) rfl #[] rfl (by (try simp only [List.map_toArray, List.map_cons, List.map_nil]); first | done | rfl | (simp only [List.length_drop, List.length_take]; rfl)) ?_; (with_reducible refine (gneisslaw0_errors1.calls  true _ A1.out).mono ?_); rintro e w' ⟨rfl, ⟨nd, rfl⟩⟩; refine ⟨_, rfl, ?_⟩) | (go_at_call 14; (with_reducible refine (gneisslaw0_errors2.calls  true _ A3.out).mono ?_); rintro e w' ⟨rfl, ⟨nd, rfl⟩⟩) | (go_at_call 15; (with_reducible refine (gneisslaw0_errors3.calls  false _ A5.out).mono ?_); rintro e w' ⟨rfl, ⟨nd, rfl⟩⟩))
        go_ret
        exact ⟨by first | rfl | (simp; done) | (simp [*]; done), by repeat (first | exact Drawn0.refl _ | apply Drawn0.step)⟩
    · replace c4 := Bool.eq_false_iff.mpr c4
      subst c4
      have H1 : (some false) = some r := by rw [if_neg (show ¬ (false = true) by decide)] at H; exact H
      clear H
      have H := H1
      clear H1
      obtain rfl := Option.some.inj H
      go_enter Try.func3, Try.ntmps3
      go_wp2_with (first | ((with_reducible refine gate_callee (f := 13) rfl ?_); refine goesL_ (some 1) rfl rfl Try.func13 (by kernel_rfl) rfl #[] rfl (by (try simp only [List.map_toArray, List.map_cons, List.map_nil]); first | done | rfl | (simp only [List.length_drop, List.length_take]; rfl)) ?_; (with_reducible refine (gneisslaw0_errors1.calls  true _ A1.out).mono ?_); rintro e w' ⟨rfl, ⟨nd, rfl⟩⟩; refine ⟨_, rfl, ?_⟩) | (go_at_call 14; (with_reducible refine (gneisslaw0_errors2.calls  false _ A3.out).mono ?_); rintro e w' ⟨rfl, ⟨nd, rfl⟩⟩))
      go_ret
      exact ⟨by first | rfl | (simp; done) | (simp [*]; done), by repeat (first | exact Drawn0.refl _ | apply Drawn0.step)⟩
  · replace c2 := Bool.eq_false_iff.mpr c2
    subst c2
    have H1 : (some false) = some r := by rw [if_neg (show ¬ (false = true) by decide)] at H; exact H
    clear H
    have H := H1
    clear H1
    obtain rfl := Option.some.inj H
    go_enter Try.func3, Try.ntmps3
    go_wp2_with (first | ((with_reducible refine gate_callee (f := 13) rfl ?_); refine goesL_ (some 1) rfl rfl Try.func13 (by kernel_rfl) rfl #[] rfl (by (try simp only [List.map_toArray, List.map_cons, List.map_nil]); first | done | rfl | (simp only [List.length_drop, List.length_take]; rfl)) ?_; (with_reducible refine (gneisslaw0_errors1.calls  false _ A1.out).mono ?_); rintro e w' ⟨rfl, ⟨nd, rfl⟩⟩; refine ⟨_, rfl, ?_⟩))
    go_ret
    exact ⟨by first | rfl | (simp; done) | (simp [*]; done), by repeat (first | exact Drawn0.refl _ | apply Drawn0.step)⟩

/-- THE ONE PURE STATEMENT of gneisslaw0_GneissNames: yours. -/
def gneisslaw0_GneissNames.Pure : Prop := gneisslaw0_GneissNames.f  = some true
theorem gneisslaw0_GneissNames.walk (P : gneisslaw0_GneissNames.Pure)  (w : World)  :
    Calls Try.prog 3 #[] w fun e w' => e = .returned (.bool true) ∧ Below w.heap.size w w' := by
  have h := P  
  refine (gneisslaw0_GneissNames.calls  true w h).mono ?_
  rintro e w' ⟨rfl, hd⟩
  exact ⟨rfl, hd.below⟩

end Go.Proofs.Ytjopegohhenpiaa.PGneissNames
