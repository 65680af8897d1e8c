/- FieldEvaluates: the pure statement. -/
import Derived.Test.YtgabffpjddccjaaTimes
namespace Go.Proofs.Ytgabffpjddccjaa.Pure
open Go.RowKit Go.Proofs.Ytgabffpjddccjaa.Q Go.Proofs.YtgabffpjddccjaaW.PrintWords Go.Proofs.YtgabffpjddccjaaW.PrintLast
open Go.Proofs.Ytgabffpjddccjaa.Gf Go.Proofs.Ytgabffpjddccjaa.Evs
set_option linter.unusedVariables false
theorem FieldEvaluates : tapearchivelaw04_FieldEvaluates.Pure := by
  intro l0 l1 a2 _ _ b0 _ _ b1 w2
  obtain ⟨p, rfl, hp⟩ := bytes_of b0
  obtain ⟨q, rfl, hq⟩ := bytes_of b1
  obtain ⟨x, rfl, hx⟩ := byte_of w2
  refine Ev.rounds ?_
  unfold tapearchivelaw04_FieldEvaluates.f
  have long : Ev (fun k => tapearchivelaw04_FieldEvaluates.j0 k (ints p) (ints q) (x : Int) true) true := by
    refine Ev.step (fun k => by simp only [tapearchivelaw04_FieldEvaluates.j0]; rfl) ?_
    exact Ev.pos (by simp) (Ev.bind awake_ev (Ev.now true))
  refine Ev.pick (fun _ => long) fun c1 => ?_
  by_cases c2 : ((ints q).length : Int) > 200
  · rw [decide_eq_true c2]
    exact long
  · rw [decide_eq_false c2]
    rw [ints_length] at c1 c2
    refine Ev.step (fun k => by simp only [tapearchivelaw04_FieldEvaluates.j0]; rfl) ?_
    obtain ⟨r, r1, r2, r3, r4⟩ := times_ev hp hq (by omega) (by omega)
    refine Ev.neg (by simp) ?_
    refine Ev.bind (eval_ev hp (by omega) hx) (Ev.bind (refeval_ev hp (by omega) hx) (Ev.pos rfl ?_))
    refine Ev.bind r4 (Ev.bind (eval_ev r1 (by omega) hx) (Ev.bind (eval_ev hp (by omega) hx) (Ev.bind (eval_ev hq (by omega) hx) ?_)))
    rw [geval_val r1 hx, geval_val hp hx, geval_val hq hx, r3 x hx]
    refine Ev.bind (mul_ev (val_lt hp) (val_lt hq)) (Ev.pos rfl ?_)
    exact Ev.bind awake_ev (Ev.now true)
end Go.Proofs.Ytgabffpjddccjaa.Pure
