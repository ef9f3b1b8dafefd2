-- Written by a program of this work out of the translation.
import Derived.Test.YtcnhklcbibpjpaaGreatDoorPRqux0
namespace Go.Proofs.YtcnhklcbibpjpaaGreatDoor.PRqu
open Go.RowKit Go.Proofs.YtcnhklcbibpjpaaGreatDoor.Ext Go.Proofs.YtcnhklcbibpjpaaGreatDoorW.PrintWords Go.Proofs.YtcnhklcbibpjpaaGreatDoorW.PrintLast Go.Proofs.YtcnhklcbibpjpaaGreatDoorW.PrintMore
attribute [local go_sem] max2_int min2_int max_two min_two max_three min_three max_four min_four   -- for this text's walks alone
set_option linter.unusedVariables false
set_option linter.unusedSimpArgs false

/-! ### idiomref19_Special: function 27 -/
def idiomref19_Special.f (a0 : Int) (a1 : Int) : Option (Bool) := if a0 = 123 then (some true) else (if a0 = 125 then (some true) else (if a0 = 35 then (if a1 = 1 then (some true) else (if a0 = 124 then (some (a1 == 2)) else (some false))) else (if a0 = 124 then (some (a1 == 2)) else (some false))))
set_option maxHeartbeats 8000000 in
set_option maxRecDepth 100000 in
theorem idiomref19_Special.calls (a0 : Int) (a1 : Int) (r : Bool) (w : World) (hG : GlH w) (h : idiomref19_Special.f a0 a1 = some r) :
    Calls Tryz.prog 27 #[.int .u8 a0, .int .i64 a1] w fun e w' => e = .returned (.bool r) ∧ Drawn0 w w' := by
  have H : (if a0 = 123 then (some true) else (if a0 = 125 then (some true) else (if a0 = 35 then (if a1 = 1 then (some true) else (if a0 = 124 then (some (a1 == 2)) else (some false))) else (if a0 = 124 then (some (a1 == 2)) else (some false))))) = some r := h
  clear h
  by_cases c3 : a0 = 123
  · rw [if_pos c3] at H
    have c3b0 : (a0 == 123) = true := beq_iff_eq.mpr c3
    have c3b1 : (a0 != 123) = false := bne_eq_false_iff_eq.mpr c3
    clear c3
    obtain rfl := Option.some.inj H
    go_enter Tryz.func27, Tryz.ntmps27
    go_wp2
    go_ret
    exact ⟨by first | rfl | (simp; done) | (simp [*]; done), by repeat (first | exact Drawn0.refl _ | apply Drawn0.step)⟩
  · rw [if_neg c3] at H
    have c3b0 : (a0 == 123) = false := beq_eq_false_iff_ne.mpr c3
    have c3b1 : (a0 != 123) = true := bne_iff_ne.mpr c3
    by_cases c4 : a0 = 125
    · rw [if_pos c4] at H
      have c4b0 : (a0 == 125) = true := beq_iff_eq.mpr c4
      have c4b1 : (a0 != 125) = false := bne_eq_false_iff_eq.mpr c4
      clear c4
      obtain rfl := Option.some.inj H
      go_enter Tryz.func27, Tryz.ntmps27
      go_wp2
      go_ret
      exact ⟨by first | rfl | (simp; done) | (simp [*]; done), by repeat (first | exact Drawn0.refl _ | apply Drawn0.step)⟩
    · rw [if_neg c4] at H
      have c4b0 : (a0 == 125) = false := beq_eq_false_iff_ne.mpr c4
      have c4b1 : (a0 != 125) = true := bne_iff_ne.mpr c4
      by_cases c5 : a0 = 35
      · rw [if_pos c5] at H
        have c5b0 : (a0 == 35) = true := beq_iff_eq.mpr c5
        have c5b1 : (a0 != 35) = false := bne_eq_false_iff_eq.mpr c5
        clear c5
        by_cases c6 : a1 = 1
        · rw [if_pos c6] at H
          have c6b0 : (a1 == 1) = true := beq_iff_eq.mpr c6
          have c6b1 : (a1 != 1) = false := bne_eq_false_iff_eq.mpr c6
          clear c6
          obtain rfl := Option.some.inj H
          go_enter Tryz.func27, Tryz.ntmps27
          go_wp2
          go_ret
          exact ⟨by first | rfl | (simp; done) | (simp [*]; done), by repeat (first | exact Drawn0.refl _ | apply Drawn0.step)⟩
        · rw [if_neg c6] at H
          have c6b0 : (a1 == 1) = false := beq_eq_false_iff_ne.mpr c6
          have c6b1 : (a1 != 1) = true := bne_iff_ne.mpr c6
          by_cases c7 : a0 = 124
          · rw [if_pos c7] at H
            have c7b0 : (a0 == 124) = true := beq_iff_eq.mpr c7
            have c7b1 : (a0 != 124) = false := bne_eq_false_iff_eq.mpr c7
            clear c7
            obtain rfl := Option.some.inj H
            go_enter Tryz.func27, Tryz.ntmps27
            go_wp2
            go_ret
            exact ⟨by first | rfl | (simp; done) | (simp [*]; done), by repeat (first | exact Drawn0.refl _ | apply Drawn0.step)⟩
          · rw [if_neg c7] at H
            have c7b0 : (a0 == 124) = false := beq_eq_false_iff_ne.mpr c7
            have c7b1 : (a0 != 124) = true := bne_iff_ne.mpr c7
            obtain rfl := Option.some.inj H
            go_enter Tryz.func27, Tryz.ntmps27
            go_wp2
            go_ret
            exact ⟨by first | rfl | (simp; done) | (simp [*]; done), by repeat (first | exact Drawn0.refl _ | apply Drawn0.step)⟩
      · rw [if_neg c5] at H
        have c5b0 : (a0 == 35) = false := beq_eq_false_iff_ne.mpr c5
        have c5b1 : (a0 != 35) = true := bne_iff_ne.mpr c5
        by_cases c8 : a0 = 124
        · rw [if_pos c8] at H
          have c8b0 : (a0 == 124) = true := beq_iff_eq.mpr c8
          have c8b1 : (a0 != 124) = false := bne_eq_false_iff_eq.mpr c8
          clear c8
          obtain rfl := Option.some.inj H
          go_enter Tryz.func27, Tryz.ntmps27
          go_wp2
          go_ret
          exact ⟨by first | rfl | (simp; done) | (simp [*]; done), by repeat (first | exact Drawn0.refl _ | apply Drawn0.step)⟩
        · rw [if_neg c8] at H
          have c8b0 : (a0 == 124) = false := beq_eq_false_iff_ne.mpr c8
          have c8b1 : (a0 != 124) = true := bne_iff_ne.mpr c8
          obtain rfl := Option.some.inj H
          go_enter Tryz.func27, Tryz.ntmps27
          go_wp2
          go_ret
          exact ⟨by first | rfl | (simp; done) | (simp [*]; done), by repeat (first | exact Drawn0.refl _ | apply Drawn0.step)⟩

end Go.Proofs.YtcnhklcbibpjpaaGreatDoor.PRqu
