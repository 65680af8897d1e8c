/- The laws of sums and products hold in the field: the pure statement. -/
import Derived.Test.YtgabffpjddccjaaLawA
namespace Go.Proofs.Ytgabffpjddccjaa.Pure
open Go.RowKit Go.Proofs.Ytgabffpjddccjaa.Q Go.Proofs.YtgabffpjddccjaaW.PrintWords Go.Proofs.YtgabffpjddccjaaW.PrintLast
open Go.Proofs.Ytgabffpjddccjaa.Gf Go.Proofs.Ytgabffpjddccjaa.Evs
theorem FieldAxioms : tapearchivelaw04_FieldAxioms.Pure := by
  intro a0 a1 a2 w0 w1 w2
  obtain ⟨a, rfl, ha⟩ := byte_of w0
  obtain ⟨b, rfl, hb⟩ := byte_of w1
  obtain ⟨c, rfl, hc⟩ := byte_of w2
  refine Ev.rounds ?_
  unfold tapearchivelaw04_FieldAxioms.f
  refine Ev.call (add_ev ha hb) (Ev.call (add_ev hb ha) (Ev.pos (by rw [Nat.xor_comm]) ?_))
  refine Ev.call (add_ev ha hb) (Ev.call (add_ev (xor_lt ha hb) hc) (Ev.call (add_ev hb hc) (Ev.call (add_ev ha (xor_lt hb hc)) (Ev.pos (by rw [Nat.xor_assoc]) ?_))))
  refine Ev.call (add_ev ha (by omega : 0 < 256)) (Ev.pos (by rw [Nat.xor_zero]) ?_)
  refine Ev.call (add_ev ha ha) ?_
  rw [Nat.xor_self]
  refine Ev.step (fun k => by simp only [tapearchivelaw04_FieldAxioms.j0]; rfl) ?_
  refine Ev.bind (mul_ev ha hb) (Ev.bind (mul_ev hb ha) (Ev.pos (by rw [gmul_comm ha hb]) ?_))
  refine Ev.bind (mul_ev ha hb) (Ev.bind (mul_ev (gmul_lt ha) hc) (Ev.bind (mul_ev hb hc) (Ev.bind (mul_ev ha (gmul_lt hb)) (Ev.pos (by rw [gmul_assoc ha hb hc]) ?_))))
  refine Ev.bind (mul_ev (b := 1) ha (by omega)) (Ev.pos (by rw [gmul_one]) ?_)
  refine Ev.bind (mul_ev (b := 0) ha (by omega)) ?_
  rw [gmul_zero]
  refine Ev.step (fun k => by simp only [tapearchivelaw04_FieldAxioms.j1]; rfl) ?_
  refine Ev.pos (by rfl) (Ev.pos (by rfl) ?_)
  refine Ev.call (add_ev hb hc) (Ev.bind (mul_ev ha (xor_lt hb hc)) (Ev.bind (mul_ev ha hb) (Ev.bind (mul_ev ha hc) (Ev.call (add_ev (gmul_lt ha) (gmul_lt ha)) (Ev.pos (by rw [gmul_xor]) ?_)))))
  exact Ev.bind awake_ev (Ev.now true)
end Go.Proofs.Ytgabffpjddccjaa.Pure
