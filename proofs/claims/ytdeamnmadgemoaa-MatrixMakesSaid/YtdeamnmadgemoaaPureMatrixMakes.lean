import Derived.Test.YtdeamnmadgemoaaRIdC
namespace Go.Proofs.Ytdeamnmadgemoaa.Pure
open Go.RowKit Go.Proofs.Ytdeamnmadgemoaa.Q Go.Proofs.YtdeamnmadgemoaaW.PrintWords Go.Proofs.YtdeamnmadgemoaaW.PrintLast
open Go.Proofs.Ytdeamnmadgemoaa.Gf Go.Proofs.Ytdeamnmadgemoaa.Lin Go.Proofs.Ytdeamnmadgemoaa.Evs
theorem MatrixMakes : tapearchivelaw05_MatrixMakes.Pure := by
  intro n rows columns hn hr hc
  refine Ev.rounds ?_
  have hr := int_of hr
  have hc := int_of hc
  unfold tapearchivelaw05_MatrixMakes.f
  refine Ev.call rfl (Ev.pos (by trivial) (Ev.bind (ident_ev n) (Ev.bind (rident_ev n) (Ev.bind (same_ev ?_) ?_))))
  · by_cases h : 1 ≤ n ∧ n ≤ 64
    · rw [if_pos h, rowsL_length]; omega
    · rw [if_neg h]; decide
  · refine Ev.step (fun k => by simp only [tapearchivelaw05_MatrixMakes.j0]; rfl) (Ev.neg (by decide) (Ev.bind (cauchy_ev rows columns) (Ev.bind (rcauchy_ev hr hc) (Ev.pos (beq_self_eq_true _) (Ev.bind (same_ev ?_) (Ev.now _))))))
    by_cases h : cauOk rows columns
    · rw [if_pos h, rowsL_length]; have := h.1; omega
    · rw [if_neg h]; decide
end Go.Proofs.Ytdeamnmadgemoaa.Pure
