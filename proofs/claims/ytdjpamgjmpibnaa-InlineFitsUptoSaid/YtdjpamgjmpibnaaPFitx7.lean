-- written by a program of this session (leafprint.py) over the translation; Lean checks it
import Derived.Test.YtdjpamgjmpibnaaPFitx0
namespace Go.Proofs.Ytdjpamgjmpibnaa.PFit
open Go.RowKit Go.Proofs.YtdjpamgjmpibnaaW.PrintWords Go.Proofs.YtdjpamgjmpibnaaW.PrintLast Go.Proofs.YtdjpamgjmpibnaaW.PrintMore
attribute [local go_sem] max2_int min2_int max_two min_two max_three min_three max_four min_four   -- for this text's walks alone
set_option linter.unusedVariables false
set_option linter.unusedSimpArgs false

/-! ### portageref13_Applies: function 21 -/
def portageref13_Applies.f (a0 : Int) : Option (Bool) := if a0 = 46 then (some true) else (if a0 = 47 then (some true) else (if a0 = 48 then (some true) else (if a0 = 49 then (some true) else (if a0 = 50 then (some true) else (if a0 = 51 then (some true) else (if a0 = 52 then (some true) else (if a0 = 53 then (some true) else (if a0 = 54 then (some true) else (if a0 = 55 then (some true) else (if a0 = 56 then (some true) else (if a0 = 57 then (some true) else (if a0 = 62 then (some true) else (if a0 = 65 then (some true) else (if a0 = 66 then (some true) else (if a0 ≥ 12 then (some (decide (a0 ≤ 39))) else (some false))))))))))))))))
set_option maxHeartbeats 8000000 in
set_option maxRecDepth 100000 in
theorem portageref13_Applies.calls (a0 : Int) (r : Bool) (w : World) (h : portageref13_Applies.f a0 = some r) :
    Calls Try.prog 21 #[.int .i64 a0] w fun e w' => e = .returned (.bool r) ∧ Drawn0 w w' := by
  have H : (if a0 = 46 then (some true) else (if a0 = 47 then (some true) else (if a0 = 48 then (some true) else (if a0 = 49 then (some true) else (if a0 = 50 then (some true) else (if a0 = 51 then (some true) else (if a0 = 52 then (some true) else (if a0 = 53 then (some true) else (if a0 = 54 then (some true) else (if a0 = 55 then (some true) else (if a0 = 56 then (some true) else (if a0 = 57 then (some true) else (if a0 = 62 then (some true) else (if a0 = 65 then (some true) else (if a0 = 66 then (some true) else (if a0 ≥ 12 then (some (decide (a0 ≤ 39))) else (some false))))))))))))))))) = some r := h
  clear h
  by_cases c2 : a0 = 46
  · rw [if_pos c2] at H
    have c2b0 : (a0 == 46) = true := beq_iff_eq.mpr c2
    have c2b1 : (a0 != 46) = false := bne_eq_false_iff_eq.mpr c2
    clear c2
    obtain rfl := Option.some.inj H
    go_enter Try.func21, Try.ntmps21
    go_wp2
    go_ret
    exact ⟨by first | rfl | (simp; done) | (simp [*]; done), by repeat (first | exact Drawn0.refl _ | apply Drawn0.step)⟩
  · rw [if_neg c2] at H
    have c2b0 : (a0 == 46) = false := beq_eq_false_iff_ne.mpr c2
    have c2b1 : (a0 != 46) = true := bne_iff_ne.mpr c2
    by_cases c3 : a0 = 47
    · rw [if_pos c3] at H
      have c3b0 : (a0 == 47) = true := beq_iff_eq.mpr c3
      have c3b1 : (a0 != 47) = false := bne_eq_false_iff_eq.mpr c3
      clear c3
      obtain rfl := Option.some.inj H
      go_enter Try.func21, Try.ntmps21
      go_wp2
      go_ret
      exact ⟨by first | rfl | (simp; done) | (simp [*]; done), by repeat (first | exact Drawn0.refl _ | apply Drawn0.step)⟩
    · rw [if_neg c3] at H
      have c3b0 : (a0 == 47) = false := beq_eq_false_iff_ne.mpr c3
      have c3b1 : (a0 != 47) = true := bne_iff_ne.mpr c3
      by_cases c4 : a0 = 48
      · rw [if_pos c4] at H
        have c4b0 : (a0 == 48) = true := beq_iff_eq.mpr c4
        have c4b1 : (a0 != 48) = false := bne_eq_false_iff_eq.mpr c4
        clear c4
        obtain rfl := Option.some.inj H
        go_enter Try.func21, Try.ntmps21
        go_wp2
        go_ret
        exact ⟨by first | rfl | (simp; done) | (simp [*]; done), by repeat (first | exact Drawn0.refl _ | apply Drawn0.step)⟩
      · rw [if_neg c4] at H
        have c4b0 : (a0 == 48) = false := beq_eq_false_iff_ne.mpr c4
        have c4b1 : (a0 != 48) = true := bne_iff_ne.mpr c4
        by_cases c5 : a0 = 49
        · rw [if_pos c5] at H
          have c5b0 : (a0 == 49) = true := beq_iff_eq.mpr c5
          have c5b1 : (a0 != 49) = false := bne_eq_false_iff_eq.mpr c5
          clear c5
          obtain rfl := Option.some.inj H
          go_enter Try.func21, Try.ntmps21
          go_wp2
          go_ret
          exact ⟨by first | rfl | (simp; done) | (simp [*]; done), by repeat (first | exact Drawn0.refl _ | apply Drawn0.step)⟩
        · rw [if_neg c5] at H
          have c5b0 : (a0 == 49) = false := beq_eq_false_iff_ne.mpr c5
          have c5b1 : (a0 != 49) = true := bne_iff_ne.mpr c5
          by_cases c6 : a0 = 50
          · rw [if_pos c6] at H
            have c6b0 : (a0 == 50) = true := beq_iff_eq.mpr c6
            have c6b1 : (a0 != 50) = false := bne_eq_false_iff_eq.mpr c6
            clear c6
            obtain rfl := Option.some.inj H
            go_enter Try.func21, Try.ntmps21
            go_wp2
            go_ret
            exact ⟨by first | rfl | (simp; done) | (simp [*]; done), by repeat (first | exact Drawn0.refl _ | apply Drawn0.step)⟩
          · rw [if_neg c6] at H
            have c6b0 : (a0 == 50) = false := beq_eq_false_iff_ne.mpr c6
            have c6b1 : (a0 != 50) = true := bne_iff_ne.mpr c6
            by_cases c7 : a0 = 51
            · rw [if_pos c7] at H
              have c7b0 : (a0 == 51) = true := beq_iff_eq.mpr c7
              have c7b1 : (a0 != 51) = false := bne_eq_false_iff_eq.mpr c7
              clear c7
              obtain rfl := Option.some.inj H
              go_enter Try.func21, Try.ntmps21
              go_wp2
              go_ret
              exact ⟨by first | rfl | (simp; done) | (simp [*]; done), by repeat (first | exact Drawn0.refl _ | apply Drawn0.step)⟩
            · rw [if_neg c7] at H
              have c7b0 : (a0 == 51) = false := beq_eq_false_iff_ne.mpr c7
              have c7b1 : (a0 != 51) = true := bne_iff_ne.mpr c7
              by_cases c8 : a0 = 52
              · rw [if_pos c8] at H
                have c8b0 : (a0 == 52) = true := beq_iff_eq.mpr c8
                have c8b1 : (a0 != 52) = false := bne_eq_false_iff_eq.mpr c8
                clear c8
                obtain rfl := Option.some.inj H
                go_enter Try.func21, Try.ntmps21
                go_wp2
                go_ret
                exact ⟨by first | rfl | (simp; done) | (simp [*]; done), by repeat (first | exact Drawn0.refl _ | apply Drawn0.step)⟩
              · rw [if_neg c8] at H
                have c8b0 : (a0 == 52) = false := beq_eq_false_iff_ne.mpr c8
                have c8b1 : (a0 != 52) = true := bne_iff_ne.mpr c8
                by_cases c9 : a0 = 53
                · rw [if_pos c9] at H
                  have c9b0 : (a0 == 53) = true := beq_iff_eq.mpr c9
                  have c9b1 : (a0 != 53) = false := bne_eq_false_iff_eq.mpr c9
                  clear c9
                  obtain rfl := Option.some.inj H
                  go_enter Try.func21, Try.ntmps21
                  go_wp2
                  go_ret
                  exact ⟨by first | rfl | (simp; done) | (simp [*]; done), by repeat (first | exact Drawn0.refl _ | apply Drawn0.step)⟩
                · rw [if_neg c9] at H
                  have c9b0 : (a0 == 53) = false := beq_eq_false_iff_ne.mpr c9
                  have c9b1 : (a0 != 53) = true := bne_iff_ne.mpr c9
                  by_cases c10 : a0 = 54
                  · rw [if_pos c10] at H
                    have c10b0 : (a0 == 54) = true := beq_iff_eq.mpr c10
                    have c10b1 : (a0 != 54) = false := bne_eq_false_iff_eq.mpr c10
                    clear c10
                    obtain rfl := Option.some.inj H
                    go_enter Try.func21, Try.ntmps21
                    go_wp2
                    go_ret
                    exact ⟨by first | rfl | (simp; done) | (simp [*]; done), by repeat (first | exact Drawn0.refl _ | apply Drawn0.step)⟩
                  · rw [if_neg c10] at H
                    have c10b0 : (a0 == 54) = false := beq_eq_false_iff_ne.mpr c10
                    have c10b1 : (a0 != 54) = true := bne_iff_ne.mpr c10
                    by_cases c11 : a0 = 55
                    · rw [if_pos c11] at H
                      have c11b0 : (a0 == 55) = true := beq_iff_eq.mpr c11
                      have c11b1 : (a0 != 55) = false := bne_eq_false_iff_eq.mpr c11
                      clear c11
                      obtain rfl := Option.some.inj H
                      go_enter Try.func21, Try.ntmps21
                      go_wp2
                      go_ret
                      exact ⟨by first | rfl | (simp; done) | (simp [*]; done), by repeat (first | exact Drawn0.refl _ | apply Drawn0.step)⟩
                    · rw [if_neg c11] at H
                      have c11b0 : (a0 == 55) = false := beq_eq_false_iff_ne.mpr c11
                      have c11b1 : (a0 != 55) = true := bne_iff_ne.mpr c11
                      by_cases c12 : a0 = 56
                      · rw [if_pos c12] at H
                        have c12b0 : (a0 == 56) = true := beq_iff_eq.mpr c12
                        have c12b1 : (a0 != 56) = false := bne_eq_false_iff_eq.mpr c12
                        clear c12
                        obtain rfl := Option.some.inj H
                        go_enter Try.func21, Try.ntmps21
                        go_wp2
                        go_ret
                        exact ⟨by first | rfl | (simp; done) | (simp [*]; done), by repeat (first | exact Drawn0.refl _ | apply Drawn0.step)⟩
                      · rw [if_neg c12] at H
                        have c12b0 : (a0 == 56) = false := beq_eq_false_iff_ne.mpr c12
                        have c12b1 : (a0 != 56) = true := bne_iff_ne.mpr c12
                        by_cases c13 : a0 = 57
                        · rw [if_pos c13] at H
                          have c13b0 : (a0 == 57) = true := beq_iff_eq.mpr c13
                          have c13b1 : (a0 != 57) = false := bne_eq_false_iff_eq.mpr c13
                          clear c13
                          obtain rfl := Option.some.inj H
                          go_enter Try.func21, Try.ntmps21
                          go_wp2
                          go_ret
                          exact ⟨by first | rfl | (simp; done) | (simp [*]; done), by repeat (first | exact Drawn0.refl _ | apply Drawn0.step)⟩
                        · rw [if_neg c13] at H
                          have c13b0 : (a0 == 57) = false := beq_eq_false_iff_ne.mpr c13
                          have c13b1 : (a0 != 57) = true := bne_iff_ne.mpr c13
                          by_cases c14 : a0 = 62
                          · rw [if_pos c14] at H
                            have c14b0 : (a0 == 62) = true := beq_iff_eq.mpr c14
                            have c14b1 : (a0 != 62) = false := bne_eq_false_iff_eq.mpr c14
                            clear c14
                            obtain rfl := Option.some.inj H
                            go_enter Try.func21, Try.ntmps21
                            go_wp2
                            go_ret
                            exact ⟨by first | rfl | (simp; done) | (simp [*]; done), by repeat (first | exact Drawn0.refl _ | apply Drawn0.step)⟩
                          · rw [if_neg c14] at H
                            have c14b0 : (a0 == 62) = false := beq_eq_false_iff_ne.mpr c14
                            have c14b1 : (a0 != 62) = true := bne_iff_ne.mpr c14
                            by_cases c15 : a0 = 65
                            · rw [if_pos c15] at H
                              have c15b0 : (a0 == 65) = true := beq_iff_eq.mpr c15
                              have c15b1 : (a0 != 65) = false := bne_eq_false_iff_eq.mpr c15
                              clear c15
                              obtain rfl := Option.some.inj H
                              go_enter Try.func21, Try.ntmps21
                              go_wp2
                              go_ret
                              exact ⟨by first | rfl | (simp; done) | (simp [*]; done), by repeat (first | exact Drawn0.refl _ | apply Drawn0.step)⟩
                            · rw [if_neg c15] at H
                              have c15b0 : (a0 == 65) = false := beq_eq_false_iff_ne.mpr c15
                              have c15b1 : (a0 != 65) = true := bne_iff_ne.mpr c15
                              by_cases c16 : a0 = 66
                              · rw [if_pos c16] at H
                                have c16b0 : (a0 == 66) = true := beq_iff_eq.mpr c16
                                have c16b1 : (a0 != 66) = false := bne_eq_false_iff_eq.mpr c16
                                clear c16
                                obtain rfl := Option.some.inj H
                                go_enter Try.func21, Try.ntmps21
                                go_wp2
                                go_ret
                                exact ⟨by first | rfl | (simp; done) | (simp [*]; done), by repeat (first | exact Drawn0.refl _ | apply Drawn0.step)⟩
                              · rw [if_neg c16] at H
                                have c16b0 : (a0 == 66) = false := beq_eq_false_iff_ne.mpr c16
                                have c16b1 : (a0 != 66) = true := bne_iff_ne.mpr c16
                                by_cases c17 : a0 ≥ 12
                                · rw [if_pos c17] at H
                                  have c17b0 : decide (12 ≤ a0) = true := decide_eq_true c17
                                  clear c17
                                  obtain rfl := Option.some.inj H
                                  go_enter Try.func21, Try.ntmps21
                                  go_wp2
                                  go_ret
                                  exact ⟨by first | rfl | (simp; done) | (simp [*]; done), by repeat (first | exact Drawn0.refl _ | apply Drawn0.step)⟩
                                · rw [if_neg c17] at H
                                  have c17b0 : decide (12 ≤ a0) = false := decide_eq_false c17
                                  clear c17
                                  obtain rfl := Option.some.inj H
                                  go_enter Try.func21, Try.ntmps21
                                  go_wp2
                                  go_ret
                                  exact ⟨by first | rfl | (simp; done) | (simp [*]; done), by repeat (first | exact Drawn0.refl _ | apply Drawn0.step)⟩

end Go.Proofs.Ytdjpamgjmpibnaa.PFit
