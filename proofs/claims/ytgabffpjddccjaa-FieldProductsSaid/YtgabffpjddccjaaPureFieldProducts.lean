/- FieldProducts: the pure statement. -/
import Derived.Test.YtgabffpjddccjaaLawA
namespace Go.Proofs.Ytgabffpjddccjaa.Pure
open Go.RowKit Go.Proofs.Ytgabffpjddccjaa.Q Go.Proofs.YtgabffpjddccjaaW.PrintWords Go.Proofs.YtgabffpjddccjaaW.PrintLast
open Go.Proofs.Ytgabffpjddccjaa.Gf Go.Proofs.Ytgabffpjddccjaa.Evs
set_option linter.unusedVariables false
theorem FieldProducts : tapearchivelaw04_FieldProducts.Pure := by
  intro a0 a1 w0 w1
  obtain ⟨a, rfl, ha⟩ := byte_of w0
  obtain ⟨b, rfl, hb⟩ := byte_of w1
  refine Ev.rounds ?_
  unfold tapearchivelaw04_FieldProducts.f
  refine Ev.call (add_ev ha hb) (Ev.pos (by rw [xor_u8 ha hb]) ?_)
  refine Ev.bind (mul_ev ha hb) (Ev.bind (refmul_ev ha hb) (Ev.pos rfl ?_))
  exact Ev.bind awake_ev (Ev.now true)
end Go.Proofs.Ytgabffpjddccjaa.Pure
