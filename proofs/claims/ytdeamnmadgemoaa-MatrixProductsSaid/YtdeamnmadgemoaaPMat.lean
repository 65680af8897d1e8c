/- Plain words shared by the laws over matrices. -/
import Derived.Test.YtdeamnmadgemoaaMApp
import Derived.Test.YtdeamnmadgemoaaMMul
import Derived.Test.YtdeamnmadgemoaaMLive
import Derived.Test.YtdeamnmadgemoaaQ4
import Derived.Test.YtdeamnmadgemoaaREv
namespace Go.Proofs.Ytdeamnmadgemoaa.Q
open Go.RowKit Go.Proofs.YtdeamnmadgemoaaW.PrintWords Go.Proofs.YtdeamnmadgemoaaW.PrintLast Go.Proofs.YtdeamnmadgemoaaW.PrintMore
open Go.Proofs.Ytdeamnmadgemoaa.Gf Go.Proofs.Ytdeamnmadgemoaa.Lin Go.Proofs.Ytdeamnmadgemoaa.Evs
set_option linter.unusedVariables false
set_option linter.unnecessarySimpa false
theorem rank_agree_ {N C : Nat} {A B : Mat} (h : ∀ i, i < N → ∀ c, c < C → A i c = B i c) : rankF N C A = rankF N C B :=
  (red_agree N C C A B 0 0 (by omega) (by omega) h).1
theorem inv_agree_ {n : Nat} {A B : Mat} (h : ∀ i, i < n → ∀ c, c < n → A i c = B i c) : ∀ i, i < n → ∀ j, j < n → invF n A i j = invF n B i j := fun i hi j hj => by
  unfold invF formF
  refine (red_agree n (n + n) n (augF n A) (augF n B) 0 0 (by omega) (by omega) (fun i hi c hc => ?_)).2 i hi (n + j) (by omega)
  unfold augF
  by_cases hc2 : c < n
  · rw [if_pos hc2, if_pos hc2]; exact h i hi c hc2
  · rw [if_neg hc2, if_neg hc2]
theorem rank_v {l : List (List Int)} (hb : AllB l) (hv : isV l) : matrix_Rank.f l = some ((rankF l.length (wid l) (toM l) : Nat) : Int) := by
  unfold matrix_Rank.f
  rw [if_pos hb, if_pos hv]
theorem inv_v' {l : List (List Int)} (hb : AllB l) : matrix_Invert.f l = some (invR l) := by
  unfold matrix_Invert.f
  rw [if_pos hb]
theorem mul_v' {l m : List (List Int)} (hb : AllB l) (hm : AllB m) : matrix_Mul.f l m = some (mulR l m) := by
  unfold matrix_Mul.f
  rw [if_pos ⟨hb, hm⟩]
theorem app_v {l : List (List Int)} {v : List Int} (hb : AllB l) (hm : Bytes v) : matrix_Apply.f l v = some (appR l v) := by
  unfold matrix_Apply.f
  rw [if_pos ⟨hb, hm⟩]
theorem mulF_congr {K i j : Nat} {A A' B B' : Mat} (hA : ∀ k, k < K → A i k = A' i k) (hB : ∀ k, k < K → B k j = B' k j) : mulF K A B i j = mulF K A' B' i j :=
  sum_congr fun k hk => by rw [hA k hk, hB k hk]
end Go.Proofs.Ytdeamnmadgemoaa.Q
