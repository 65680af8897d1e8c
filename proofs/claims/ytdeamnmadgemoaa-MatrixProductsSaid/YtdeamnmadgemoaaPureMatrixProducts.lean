/- MatrixProducts: products as the reference's. -/
import Derived.Test.YtdeamnmadgemoaaQ12
import Derived.Test.YtdeamnmadgemoaaRMul
namespace Go.Proofs.Ytdeamnmadgemoaa.Pure
set_option linter.unusedVariables false
set_option linter.unnecessarySimpa false
open Go.RowKit Go.Proofs.Ytdeamnmadgemoaa.Q Go.Proofs.YtdeamnmadgemoaaW.PrintWords Go.Proofs.YtdeamnmadgemoaaW.PrintLast
open Go.Proofs.Ytdeamnmadgemoaa.Gf Go.Proofs.Ytdeamnmadgemoaa.Lin Go.Proofs.Ytdeamnmadgemoaa.Evs
theorem MatrixProducts (a : List (List Int)) (hla : a.length ≤ maxLen) (hwa : ∀ r ∈ a, r.length ≤ maxLen ∧ ∀ x ∈ r, (Lit.int .u8 x).wf = true)
    (b : List (List Int)) (hlb : b.length ≤ maxLen) (hwb : ∀ r ∈ b, r.length ≤ maxLen ∧ ∀ x ∈ r, (Lit.int .u8 x).wf = true)
    (v : List Int) (hlv : v.length ≤ maxLen) (hwv : ∀ x ∈ v, (Lit.int .u8 x).wf = true) :
    ∃ k, tapearchivelaw05_MatrixProducts.f k a b v = some true := by
  refine Ev.rounds ?_
  have ha := allB_wf hwa
  have hb := allB_wf hwb
  have hv := bytes_wf hwv
  have out : Ev (fun k => tapearchivelaw05_MatrixProducts.j0 k a b v true) true := Ev.step (fun k => by simp only [tapearchivelaw05_MatrixProducts.j0]; rfl) (Ev.pos (by trivial) (Ev.now _))
  unfold tapearchivelaw05_MatrixProducts.f
  refine Ev.call rfl (Ev.pos (by trivial) (Ev.bind (few_ev a) ?_))
  by_cases hf : FewM a
  rotate_left
  · rw [decide_eq_false hf]
    exact Ev.neg (by decide) out
  rw [decide_eq_true hf]
  refine Ev.pos (by trivial) (Ev.bind (few_ev b) ?_)
  by_cases hf2 : FewM b
  rotate_left
  · rw [decide_eq_false hf2]
    exact Ev.neg (by decide) out
  rw [decide_eq_true hf2]
  refine Ev.pos (by trivial) ?_
  by_cases h70 : ((v.length : Nat) : Int) > 70
  · rw [decide_eq_true h70]
    exact out
  rw [decide_eq_false h70]
  have hsm : (mulR a b).1.length < 1000 := by
    unfold mulR
    split
    · rw [rowsL_length]; have := hf.1; omega
    · decide
  refine Ev.step (fun k => by simp only [tapearchivelaw05_MatrixProducts.j0]; rfl) (Ev.neg (by decide) (Ev.call (mul_v' ha hb) (Ev.bind (rMul_ev ha hb) (Ev.neg ?_ (Ev.bind (same_ev hsm) ?_)))))
  · rw [bne_self_eq_false]; decide
  refine Ev.step (fun k => by simp only [tapearchivelaw05_MatrixProducts.j1]; rfl) (Ev.neg (by decide) (Ev.call (app_v ha hv) (Ev.bind (rApp_ev ha hv) (Ev.pos (beq_self_eq_true _) ?_))))
  refine Ev.pos ?_ ?_
  · rfl
  refine Ev.bind (valid_ev a) (Ev.bind (rvalid_ev a) (Ev.pos (beq_self_eq_true _) (Ev.bind (valid_ev b) (Ev.bind (rvalid_ev b) (Ev.val ?_)))))
  rw [beq_self_eq_true]
end Go.Proofs.Ytdeamnmadgemoaa.Pure
