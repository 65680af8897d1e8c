/- FrameFinds: the pure statement. -/
import Derived.Test.YtgfkjjmlakolpaaFFnd
namespace Go.Proofs.Ytgfkjjmlakolpaa.Pure
open Go.RowKit Go.Proofs.Ytgfkjjmlakolpaa.Q Go.Proofs.YtgfkjjmlakolpaaW.PrintWords Go.Proofs.YtgfkjjmlakolpaaW.PrintLast
open Go.Proofs.Ytgfkjjmlakolpaa.Cr Go.Proofs.Ytgfkjjmlakolpaa.Evs
set_option linter.unusedVariables false
theorem FrameFinds : tapearchivelaw03_FrameFinds.Pure := by
  intro l0 a1 _ _ b0 _
  obtain ⟨p, rfl, hp⟩ := bytes_of b0
  have k1 : (p.take 300).length ≤ 300 := by rw [List.length_take]; omega
  have hq : ∀ x ∈ p.take 300, x < 256 := fun x hx => hp x (List.mem_of_mem_take hx)
  refine Ev.rounds ?_
  unfold tapearchivelaw03_FrameFinds.f
  have hs := scan_len (p := p.take 300) 0
  have hv := salv_len (p := p.take 300) ((p.take 300).length + 1) 0
  refine Ev.call (short_ev p) (Ev.call (fscan_ev hq (by omega)) (Ev.bind (rscan_ev hq (by omega)) (Ev.bind (frs_ev hq (by omega) a1) (Ev.bind (rrs_ev hq (by omega) a1) (Ev.bind (same_ev rfl (by simp [bods]; omega)) ?_)))))
  refine Ev.pos rfl (Ev.pos rfl (Ev.pos rfl (Ev.pos (beq_self_eq_true _) (Ev.bind (fsal_ev hq (by omega)) (Ev.bind (rsal_ev hq (by omega)) (Ev.bind (same_ev rfl (by rw [List.length_map]; omega)) ?_))))))
  exact Ev.pos rfl (Ev.call awake_ev (Ev.now _))
end Go.Proofs.Ytgfkjjmlakolpaa.Pure
