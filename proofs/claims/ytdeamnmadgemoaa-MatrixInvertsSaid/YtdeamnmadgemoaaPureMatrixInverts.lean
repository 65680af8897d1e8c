/- MatrixInverts: a matrix's inverse, its rank, the products. -/
import Derived.Test.YtdeamnmadgemoaaQ12
import Derived.Test.YtdeamnmadgemoaaPMat
namespace Go.Proofs.Ytdeamnmadgemoaa.Pure
set_option linter.unusedVariables false
set_option linter.unnecessarySimpa false
open Go.RowKit Go.Proofs.Ytdeamnmadgemoaa.Q Go.Proofs.YtdeamnmadgemoaaW.PrintWords Go.Proofs.YtdeamnmadgemoaaW.PrintLast
open Go.Proofs.Ytdeamnmadgemoaa.Gf Go.Proofs.Ytdeamnmadgemoaa.Lin Go.Proofs.Ytdeamnmadgemoaa.Evs
theorem MatrixInverts (l : List (List Int)) (hl : l.length ≤ maxLen) (hw : ∀ r ∈ l, r.length ≤ maxLen ∧ ∀ x ∈ r, (Lit.int .u8 x).wf = true) :
    ∃ k, tapearchivelaw05_MatrixInverts.f k l = some true := by
  refine Ev.rounds ?_
  have hb := allB_wf hw
  have out : Ev (fun k => tapearchivelaw05_MatrixInverts.j0 k l true) true := Ev.step (fun k => by simp only [tapearchivelaw05_MatrixInverts.j0]; rfl) (Ev.pos (by trivial) (Ev.now _))
  unfold tapearchivelaw05_MatrixInverts.f
  refine Ev.call rfl (Ev.pos (by trivial) (Ev.bind (few_ev l) ?_))
  by_cases hf : FewM l
  rotate_left
  · rw [decide_eq_false hf]
    exact Ev.neg (by decide) out
  rw [decide_eq_true hf]
  refine Ev.pos (by trivial) (Ev.bind (valid_ev l) ?_)
  by_cases hv : isV l
  rotate_left
  · rw [decide_eq_false hv]
    exact Ev.neg (by decide) out
  rw [decide_eq_true hv]
  refine Ev.pos (by trivial) (Ev.pos (by have := hv.1.1; omega) ?_)
  have hwid : ((rd_L1 l 0).length : Int) = (wid l : Int) := by rw [wid_rd]; rfl
  rw [hwid]
  by_cases hsq : l.length = wid l
  rotate_left
  · rw [show (((l.length : Nat) : Int) != (wid l : Int)) = true from bne_iff_ne.2 (by omega)]
    exact out
  rw [show (((l.length : Nat) : Int) != (wid l : Int)) = false from bne_eq_false_iff_eq.2 (by omega)]
  refine Ev.step (fun k => by simp only [tapearchivelaw05_MatrixInverts.j0]; rfl) (Ev.neg (by decide) (Ev.call (inv_v' hb) (Ev.call (rank_v hb hv) ?_)))
  have h1 := hv.1.1
  have h2 := hv.1.2
  rw [← hsq]
  by_cases hr : rankF l.length l.length (toM l) = l.length
  · have e1 : invR l = (rowsL (invF l.length (toM l)) l.length l.length, true) := by
      unfold invR
      rw [if_pos ⟨hv, hsq, hr⟩]
    rw [e1, hr]
    refine Ev.neg (by rw [beq_self_eq_true]; dsimp only; decide) (Ev.pos (by trivial) (Ev.bind (ident_ev _) ?_))
    rw [if_pos (by omega), Int.toNat_natCast]
    have hlr : l = rowsL (toM l) l.length l.length := toM_rows hb (fun r hr => by rw [hv.2.2 r hr, hsq])
    generalize hn : l.length = n at h1 h2 hr e1 hsq hlr ⊢
    have hiB : AllB (rowsL (invF n (toM l)) n n) := rowsL_allB _ _ _
    have hiV : isV (rowsL (invF n (toM l)) n n) := isV_rowsL h1 h2 h1 h2
    have hiw : wid (rowsL (invF n (toM l)) n n) = n := rowsL_wid (by omega)
    have hil : (rowsL (invF n (toM l)) n n).length = n := rowsL_length _ _ _
    have hs := inv_spec hr
    have m1 : mulR (rowsL (invF n (toM l)) n n) l = (rowsL dlt n n, true) := by
      unfold mulR
      rw [if_pos ⟨hiV, hv, by rw [hiw, hn]⟩, hiw, hil, ← hsq]
      congr 1
      refine rowsL_congr fun i hi j hj => ?_
      rw [← hs.1 i j hi hj]
      exact mulF_congr (fun k hk => toM_rowsL hi hk) (fun k hk => rfl)
    have m2 : mulR l (rowsL (invF n (toM l)) n n) = (rowsL dlt n n, true) := by
      unfold mulR
      rw [if_pos ⟨hv, hiV, by rw [hil, ← hsq]⟩, hn, hiw, ← hsq]
      congr 1
      refine rowsL_congr fun i hi j hj => ?_
      rw [← hs.2 i j hi hj]
      exact mulF_congr (fun k hk => rfl) (fun k hk => toM_rowsL hk hj)
    have hii := inv_inv_ hr
    have m3 : invR (rowsL (invF n (toM l)) n n) = (l, true) := by
      unfold invR
      rw [hil, hiw, if_pos ⟨hiV, rfl, by rw [rank_agree_ (B := invF n (toM l)) (fun i hi c hc => toM_rowsL hi hc)]; exact hii.1⟩]
      congr 1
      conv => rhs; rw [hlr]
      refine rowsL_congr fun i hi j hj => ?_
      rw [← hii.2 i j hi hj]
      exact inv_agree_ (fun i hi c hc => toM_rowsL hi hc) i hi j hj
    have hdl : (rowsL dlt n n).length < 1000 := by rw [rowsL_length]; omega
    refine Ev.call (mul_v' hiB hb) ?_
    rw [m1]
    refine Ev.call (mul_v' hb hiB) ?_
    rw [m2]
    refine Ev.call (inv_v' hiB) ?_
    rw [m3]
    exact Ev.pos (by trivial) (Ev.pos (by trivial) (Ev.pos (by trivial) (Ev.bind (same_ev hdl) (Ev.pos (by trivial) (Ev.bind (same_ev hdl) (Ev.pos (by trivial) (Ev.bind (same_ev (by show l.length < 1000; omega)) (Ev.now _))))))))
  · have e1 : invR l = ([], false) := by
      unfold invR
      rw [if_neg (fun h => hr h.2.2)]
    have e2 : (((rankF l.length l.length (toM l) : Nat) : Int) == ((l.length : Nat) : Int)) = false := beq_eq_false_iff_ne.2 (by omega)
    rw [e1, e2]
    exact Ev.neg (by decide) (Ev.neg (by decide) (Ev.now _))
end Go.Proofs.Ytdeamnmadgemoaa.Pure
