/- MatrixComposes: applying a product; ranks of products. -/
import Derived.Test.YtdeamnmadgemoaaQ13
import Derived.Test.YtdeamnmadgemoaaPMat
namespace Go.Proofs.Ytdeamnmadgemoaa.Pure
set_option linter.unusedVariables false
set_option linter.unnecessarySimpa false
open Go.RowKit Go.Proofs.Ytdeamnmadgemoaa.Q Go.Proofs.YtdeamnmadgemoaaW.PrintWords Go.Proofs.YtdeamnmadgemoaaW.PrintLast
open Go.Proofs.Ytdeamnmadgemoaa.Gf Go.Proofs.Ytdeamnmadgemoaa.Lin Go.Proofs.Ytdeamnmadgemoaa.Evs
theorem toV_vecL {y : Row} {K k : Nat} (hk : k < K) : toV (vecL y K) k = y k :=
  toM_rowsL (M := fun _ => y) (N := 1) (C := K) (i := 0) (by omega) hk
theorem app_assoc (K C : Nat) (A B : Mat) (x : Row) (i : Nat) : appF (mulF K A B) C x i = appF A K (appF B C x) i :=
  mul_assoc_F K C A B (fun c _ => x c) i 0
theorem appF_congr {C : Nat} {A A' : Mat} {x x' : Row} {i : Nat} (hA : ∀ k, k < C → A i k = A' i k) (hx : ∀ k, k < C → x k = x' k) : appF A C x i = appF A' C x' i :=
  sum_congr fun k hk => by rw [hA k hk, hx k hk]
theorem MatrixComposes (a : List (List Int)) (hla : a.length ≤ maxLen) (hwa : ∀ r ∈ a, r.length ≤ maxLen ∧ ∀ x ∈ r, (Lit.int .u8 x).wf = true)
    (b : List (List Int)) (hlb : b.length ≤ maxLen) (hwb : ∀ r ∈ b, r.length ≤ maxLen ∧ ∀ x ∈ r, (Lit.int .u8 x).wf = true)
    (v : List Int) (hlv : v.length ≤ maxLen) (hwv : ∀ x ∈ v, (Lit.int .u8 x).wf = true) :
    ∃ k, tapearchivelaw05_MatrixComposes.f k a b v = some true := by
  refine Ev.rounds ?_
  have ha := allB_wf hwa
  have hb := allB_wf hwb
  have hv := bytes_wf hwv
  have out : Ev (fun k => tapearchivelaw05_MatrixComposes.j0 k a b v true) true := Ev.step (fun k => by simp only [tapearchivelaw05_MatrixComposes.j0]; rfl) (Ev.pos (by trivial) (Ev.now _))
  unfold tapearchivelaw05_MatrixComposes.f
  refine Ev.call rfl (Ev.pos (by trivial) (Ev.bind (few_ev a) ?_))
  by_cases hf : FewM a
  rotate_left
  · rw [decide_eq_false hf]
    exact Ev.neg (by decide) out
  rw [decide_eq_true hf]
  refine Ev.pos (by trivial) (Ev.bind (few_ev b) ?_)
  by_cases hf2 : FewM b
  rotate_left
  · rw [decide_eq_false hf2]
    exact Ev.neg (by decide) out
  rw [decide_eq_true hf2]
  refine Ev.pos (by trivial) ?_
  by_cases h70 : ((v.length : Nat) : Int) > 70
  · rw [decide_eq_true h70]
    exact out
  rw [decide_eq_false h70]
  refine Ev.step (fun k => by simp only [tapearchivelaw05_MatrixComposes.j0]; rfl) (Ev.neg (by decide) (Ev.call (mul_v' ha hb) ?_))
  by_cases hm : isV a ∧ isV b ∧ wid a = b.length
  rotate_left
  · have e1 : mulR a b = ([], false) := by
      unfold mulR
      rw [if_neg hm]
    rw [e1]
    exact Ev.neg (by decide) (Ev.now _)
  have e1 : mulR a b = (rowsL (mulF (wid a) (toM a) (toM b)) a.length (wid b), true) := by
    unfold mulR
    rw [if_pos hm]
  obtain ⟨va, vb, hk⟩ := hm
  rw [e1]
  have hmB : AllB (rowsL (mulF (wid a) (toM a) (toM b)) a.length (wid b)) := rowsL_allB _ _ _
  have hmV : isV (rowsL (mulF (wid a) (toM a) (toM b)) a.length (wid b)) := isV_rowsL va.1.1 va.1.2 vb.2.1.1 vb.2.1.2
  have hmw : wid (rowsL (mulF (wid a) (toM a) (toM b)) a.length (wid b)) = wid b := rowsL_wid (by have := va.1.1; omega)
  have hml : (rowsL (mulF (wid a) (toM a) (toM b)) a.length (wid b)).length = a.length := rowsL_length _ _ _
  have hr : matrix_Rank.f (rowsL (mulF (wid a) (toM a) (toM b)) a.length (wid b)) = some ((rankF a.length (wid b) (mulF (wid a) (toM a) (toM b)) : Nat) : Int) := by
    rw [rank_v hmB hmV, hml, hmw, rank_agree_ (B := mulF (wid a) (toM a) (toM b)) (fun i hi c hc => toM_rowsL hi hc)]
  have r1 := rank_mul_left a.length (wid a) (wid b) (toM a) (toM b)
  have r2 := rank_mul_right a.length (wid a) (wid b) (toM a) (toM b)
  rw [hk] at r2
  rw [hk] at hr hmB hmV hmw hml ⊢
  rw [hk] at r1
  generalize hM : rowsL (mulF b.length (toM a) (toM b)) a.length (wid b) = m at hr hmB hmV hmw hml ⊢
  refine Ev.pos (by trivial) (Ev.call hr (Ev.call (rank_v ha va) (Ev.neg (by rw [hk]; omega) (Ev.call hr (Ev.call (rank_v hb vb) ?_)))))
  rw [decide_eq_false (by omega)]
  refine Ev.step (fun k => by simp only [tapearchivelaw05_MatrixComposes.j1]; rfl) (Ev.neg (by decide) (Ev.call (app_v hb hv) (Ev.call (app_v hmB hv) ?_)))
  by_cases hvl : wid b = v.length
  rotate_left
  · have e2 : appR b v = ([], false) := by
      unfold appR
      rw [if_neg (fun h => hvl h.2)]
    have e3 : appR m v = ([], false) := by
      unfold appR
      rw [if_neg (fun h => hvl (hmw ▸ h.2))]
    rw [e2, e3]
    exact Ev.neg (by decide) (Ev.neg (by decide) (Ev.now _))
  have e2 : appR b v = (vecL (appF (toM b) (wid b) (toV v)) b.length, true) := by
    unfold appR
    rw [if_pos ⟨vb, hvl⟩]
  have e3 : appR m v = (vecL (appF (toM m) (wid b) (toV v)) a.length, true) := by
    unfold appR
    rw [if_pos ⟨hmV, by rw [hmw]; exact hvl⟩, hml, hmw]
  have hxB : Bytes (vecL (appF (toM b) (wid b) (toV v)) b.length) := rowV_bytes _ _ _
  have e4 : appR a (vecL (appF (toM b) (wid b) (toV v)) b.length) = (vecL (appF (toM m) (wid b) (toV v)) a.length, true) := by
    unfold appR
    rw [if_pos ⟨va, by rw [rowV_length]; exact hk⟩, hk]
    congr 1
    refine rowV_congr fun i hi => ?_
    show appF (toM a) b.length (toV (vecL (appF (toM b) (wid b) (toV v)) b.length)) i = appF (toM m) (wid b) (toV v) i
    rw [appF_congr (A := toM m) (A' := mulF b.length (toM a) (toM b)) (x := toV v) (x' := toV v) (fun k hk => by rw [← hM]; exact toM_rowsL hi hk) (fun k hk => rfl), app_assoc]
    exact appF_congr (fun k hk => rfl) (fun k hk => toV_vecL hk)
  rw [e2, e3]
  refine Ev.neg (by dsimp only; decide) (Ev.pos (by trivial) (Ev.call (app_v ha hxB) ?_))
  rw [e4]
  refine Ev.pos (by trivial) (Ev.val ?_)
  rw [beq_self_eq_true]
end Go.Proofs.Ytdeamnmadgemoaa.Pure
