-- Written for this claim by a program (see NOTES.md): functions of the translation as plain Lean functions, with proofs. Lean checks it.
import Derived.Test.YtmlfpcnemganbaaQ0


namespace Go.Proofs.Ytmlfpcnemganbaa.Q
open Go.RowKit Go.Proofs.YtmlfpcnemganbaaW.PrintWords Go.Proofs.YtmlfpcnemganbaaW.PrintLast Go.Proofs.YtmlfpcnemganbaaW.PrintMore
attribute [local go_sem] max2_int min2_int max_two min_two max_three min_three max_four min_four   -- for this text's walks alone
set_option linter.unusedVariables false
set_option linter.unusedSimpArgs false

/-! ### field_Add: function 60 -/
def field_Add.f (a0 : Int) (a1 : Int) : Option (Int) := some (Go.bits .xor .u8 a0 a1)
set_option maxHeartbeats 8000000 in
set_option maxRecDepth 100000 in
theorem field_Add.calls (a0 : Int) (a1 : Int) (r : Int) (w : World) (h : field_Add.f a0 a1 = some r) :
    Calls Try.prog 60 #[.int .u8 a0, .int .u8 a1] w fun e w' => e = .returned (.int .u8 r) ∧ Drawn0 w w' := by
  have H : (some (Go.bits .xor .u8 a0 a1)) = some r := h
  clear h
  obtain rfl := Option.some.inj H
  go_enter Try.func60, Try.ntmps60
  go_wp2
  go_ret
  exact ⟨by first | rfl | (simp; done) | (simp [*]; done), by repeat (first | exact Drawn0.refl _ | apply Drawn0.step)⟩

-- NOT PRINTED: function 41 (matrix_dot)

end Go.Proofs.Ytmlfpcnemganbaa.Q
