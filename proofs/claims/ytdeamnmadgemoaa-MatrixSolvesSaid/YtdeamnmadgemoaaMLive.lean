/- 'lives' answers true. -/
import Derived.Test.YtdeamnmadgemoaaMLiP
namespace Go.Proofs.Ytdeamnmadgemoaa.Q
open Go.RowKit Go.Proofs.YtdeamnmadgemoaaW.PrintWords Go.Proofs.YtdeamnmadgemoaaW.PrintLast Go.Proofs.YtdeamnmadgemoaaW.PrintMore
open Go.Proofs.Ytdeamnmadgemoaa.Gf Go.Proofs.Ytdeamnmadgemoaa.Lin Go.Proofs.Ytdeamnmadgemoaa.Evs
set_option maxRecDepth 100000
theorem live_app : matrix_Apply.f [[1, 2], [3, 4]] [5, 6] = some ([9, 23], true) := by
  unfold matrix_Apply.f
  rw [if_pos (by decide)]
  unfold appR
  rw [if_pos (by decide)]
  decide +kernel
theorem live_inv : matrix_Invert.f [[2]] = some ([[142]], true) := by
  unfold matrix_Invert.f
  rw [if_pos (by decide)]
  unfold invR
  rw [if_pos (by decide +kernel)]
  decide +kernel
theorem live_rank : matrix_Rank.f [[1, 2], [2, 4]] = some 1 := by
  unfold matrix_Rank.f
  rw [if_pos (by decide), if_pos (by decide)]
  decide +kernel
theorem live_cau : Ev (fun k => matrix_Cauchy.f k 1 2) ([[142, 244]], true) :=
  Ev.eq (cauchy_ev 1 2) (by
    rw [if_pos (by decide)]
    decide +kernel)
theorem live_ev : Ev (fun k => tapearchivelaw05_livesP.f k) true := by
  unfold tapearchivelaw05_livesP.f
  refine Ev.call live_app (Ev.call live_inv (Ev.bind live_cau ?_))
  iterate 20 refine Ev.pos (by decide) ?_
  refine Ev.call live_rank (Ev.pos (by decide) ?_)
  exact Ev.bind (valid_ev [[142]]) (Ev.val (by rw [decide_eq_true (show isV [[142]] by decide)]))
def tapearchivelaw05_lives.f : Option Bool := some true
theorem tapearchivelaw05_lives.calls (r : Bool) (w : World) (h : tapearchivelaw05_lives.f = some r) :
    Calls Try.prog 9 #[] w fun e w' => e = .returned (.bool r) ∧ Below w.heap.size w w' := by
  have e : r = true := (Option.some.inj h).symm
  subst e
  obtain ⟨k, hk⟩ := Ev.rounds live_ev
  exact tapearchivelaw05_livesP.calls k true w hk rfl
end Go.Proofs.Ytdeamnmadgemoaa.Q
