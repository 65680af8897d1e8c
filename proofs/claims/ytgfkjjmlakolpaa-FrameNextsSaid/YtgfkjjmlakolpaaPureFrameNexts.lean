/- FrameNexts: the pure statement. -/
import Derived.Test.YtgfkjjmlakolpaaFNEv
namespace Go.Proofs.Ytgfkjjmlakolpaa.Pure
open Go.RowKit Go.Proofs.Ytgfkjjmlakolpaa.Q Go.Proofs.YtgfkjjmlakolpaaW.PrintWords Go.Proofs.YtgfkjjmlakolpaaW.PrintLast
open Go.Proofs.Ytgfkjjmlakolpaa.Cr Go.Proofs.Ytgfkjjmlakolpaa.Evs
set_option linter.unusedVariables false
theorem FrameNexts : tapearchivelaw03_FrameNexts.Pure := by
  intro l0 a1 _ _ b0 _
  obtain ⟨p, rfl, hp⟩ := bytes_of b0
  have k1 : (p.take 300).length ≤ 300 := by rw [List.length_take]; omega
  have hq : ∀ x ∈ p.take 300, x < 256 := fun x hx => hp x (List.mem_of_mem_take hx)
  refine Ev.rounds ?_
  unfold tapearchivelaw03_FrameNexts.f
  refine Ev.call (short_ev p) (Ev.call (Next_ev hq (by omega) a1) (Ev.bind (rnext_ev hq (by omega) a1) ?_))
  exact Ev.pos rfl (Ev.pos rfl (Ev.pos rfl (Ev.call awake_ev (Ev.now _))))
end Go.Proofs.Ytgfkjjmlakolpaa.Pure
