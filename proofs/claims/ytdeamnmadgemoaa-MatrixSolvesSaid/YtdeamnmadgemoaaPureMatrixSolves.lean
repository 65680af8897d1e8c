/- MatrixSolves: inverse and rank as the reference's. -/
import Derived.Test.YtdeamnmadgemoaaQ7S
namespace Go.Proofs.Ytdeamnmadgemoaa.Pure
set_option linter.unusedVariables false
set_option linter.unnecessarySimpa false
open Go.RowKit Go.Proofs.Ytdeamnmadgemoaa.Q Go.Proofs.YtdeamnmadgemoaaW.PrintWords Go.Proofs.YtdeamnmadgemoaaW.PrintLast
open Go.Proofs.Ytdeamnmadgemoaa.Gf Go.Proofs.Ytdeamnmadgemoaa.Lin Go.Proofs.Ytdeamnmadgemoaa.Evs
theorem MatrixSolves (l : List (List Int)) (hl : l.length ≤ maxLen) (hw : ∀ r ∈ l, r.length ≤ maxLen ∧ ∀ x ∈ r, (Lit.int .u8 x).wf = true) :
    ∃ k, tapearchivelaw05_MatrixSolves.f k l = some true := by
  refine Ev.rounds ?_
  have hb := allB_wf hw
  unfold tapearchivelaw05_MatrixSolves.f
  refine Ev.call rfl (Ev.pos (by trivial) (Ev.bind (few_ev l) ?_))
  by_cases hf : FewM l
  rotate_left
  · rw [decide_eq_false hf]
    exact Ev.neg (by decide) (Ev.now _)
  rw [decide_eq_true hf]
  have hsm : (invR l).1.length < 1000 := by
    unfold invR
    split
    · rw [rowsL_length]; have := hf.1; omega
    · decide
  have e1 : matrix_Invert.f l = some (invR l) := by unfold matrix_Invert.f; rw [if_pos hb]
  have e2 : tapearchiveref05_Invert.f l = some (invR l) := by unfold tapearchiveref05_Invert.f; rw [if_pos hb]
  have e3 : matrix_Rank.f l = some (if isV l then ((rankF l.length (wid l) (toM l) : Nat) : Int) else 0) := by unfold matrix_Rank.f; rw [if_pos hb]
  have e4 : tapearchiveref05_Rank.f l = some (if isV l then ((rankF l.length (wid l) (toM l) : Nat) : Int) else 0) := by unfold tapearchiveref05_Rank.f; rw [if_pos hb]
  refine Ev.pos (by trivial) (Ev.call e1 (Ev.call e2 (Ev.pos (beq_self_eq_true _) (Ev.bind (same_ev hsm) (Ev.pos (by trivial) (Ev.call e3 (Ev.call e4 (Ev.val ?_))))))))
  rw [beq_self_eq_true]
end Go.Proofs.Ytdeamnmadgemoaa.Pure
