/- Plain words shared by the laws over matrices. -/
import Derived.Test.YtdeamnmadgemoaaMApp
import Derived.Test.YtdeamnmadgemoaaMMul
import Derived.Test.YtdeamnmadgemoaaMLive
import Derived.Test.YtdeamnmadgemoaaQ4
import Derived.Test.YtdeamnmadgemoaaREv
namespace Go.Proofs.Ytdeamnmadgemoaa.Q
open Go.RowKit Go.Proofs.YtdeamnmadgemoaaW.PrintWords Go.Proofs.YtdeamnmadgemoaaW.PrintLast Go.Proofs.YtdeamnmadgemoaaW.PrintMore
open Go.Proofs.Ytdeamnmadgemoaa.Gf Go.Proofs.Ytdeamnmadgemoaa.Lin Go.Proofs.Ytdeamnmadgemoaa.Evs
set_option linter.unusedVariables false
set_option linter.unnecessarySimpa false
theorem rank_agree_ {N C : Nat} {A B : Mat} (h : ∀ i, i < N → ∀ c, c < C → A i c = B i c) : rankF N C A = rankF N C B :=
  (red_agree N C C A B 0 0 (by omega) (by omega) h).1
theorem inv_agree_ {n : Nat} {A B : Mat} (h : ∀ i, i < n → ∀ c, c < n → A i c = B i c) : ∀ i, i < n → ∀ j, j < n → invF n A i j = invF n B i j := fun i hi j hj => by
  unfold invF formF
  refine (red_agree n (n + n) n (augF n A) (augF n B) 0 0 (by omega) (by omega) (fun i hi c hc => ?_)).2 i hi (n + j) (by omega)
  unfold augF
  by_cases hc2 : c < n
  · rw [if_pos hc2, if_pos hc2]; exact h i hi c hc2
  · rw [if_neg hc2, if_neg hc2]
def FewM (l : List (List Int)) : Prop := l.length ≤ 70 ∧ ∀ r ∈ l, r.length ≤ 70
instance (l : List (List Int)) : Decidable (FewM l) := inferInstanceAs (Decidable (_ ∧ ∀ r ∈ l, r.length ≤ 70))
theorem rd_L1_get {l : List (List Int)} {i : Nat} (h : i < l.length) : rd_L1 l (i : Int) = l[i] := by
  unfold rd_L1
  rw [Int.toNat_natCast, List.getD_eq_getElem?_getD, List.getElem?_eq_getElem h]
  rfl
theorem few_loop {l : List (List Int)} (hl : l.length ≤ 70) : ∀ (d i : Nat), i + d = l.length → (∀ k (hk : k < l.length), k < i → l[k].length ≤ 70) → Ev (fun k => tapearchivelaw05_few.l0 k l (i : Int)) (decide (FewM l))
  | 0, i, hi, hn => by
    refine Ev.step (fun k => by simp only [tapearchivelaw05_few.l0]; rfl) (Ev.neg (by omega) (Ev.val ?_))
    rw [decide_eq_true]
    refine ⟨hl, fun r hr => ?_⟩
    obtain ⟨k, hk, rfl⟩ := List.getElem_of_mem hr
    exact hn k hk (by omega)
  | d + 1, i, hi, hn => by
    have hil : i < l.length := by omega
    refine Ev.step (fun k => by simp only [tapearchivelaw05_few.l0]; rfl) (Ev.pos (by omega) (Ev.pos (by omega) ?_))
    rw [rd_L1_get hil]
    by_cases h : ((l[i].length : Nat) : Int) > 70
    · refine Ev.pos h (Ev.val ?_)
      rw [decide_eq_false]
      intro hf
      have := hf.2 _ (List.getElem_mem hil)
      omega
    · refine Ev.neg h ?_
      rw [w_succ (by omega)]
      refine few_loop hl d (i + 1) (by omega) fun k hk hki => ?_
      by_cases e : k = i
      · subst e; omega
      · exact hn k hk (by omega)
theorem few_ev (l : List (List Int)) : Ev (fun k => tapearchivelaw05_few.f k l) (decide (FewM l)) := by
  unfold tapearchivelaw05_few.f
  by_cases h : (l.length : Int) > 70
  · refine Ev.pos h (Ev.val ?_)
    rw [decide_eq_false]
    intro hf
    have := hf.1
    omega
  · exact Ev.neg h (few_loop (by omega) l.length 0 (by omega) fun k _ hk => absurd hk (by omega))
theorem bytes_wf {r : List Int} (h : ∀ x ∈ r, (Lit.int .u8 x).wf = true) : Bytes r := fun x hx => by
  obtain ⟨a, rfl, ha⟩ := byte_of (h x hx)
  exact ⟨by omega, by omega⟩
theorem allB_wf {l : List (List Int)} (h : ∀ r ∈ l, r.length ≤ maxLen ∧ ∀ x ∈ r, (Lit.int .u8 x).wf = true) : AllB l := fun r hr => bytes_wf (h r hr).2
theorem wid_rd (l : List (List Int)) : rd_L1 l 0 = l.getD 0 [] := by
  unfold rd_L1
  rfl
theorem rank_v {l : List (List Int)} (hb : AllB l) (hv : isV l) : matrix_Rank.f l = some ((rankF l.length (wid l) (toM l) : Nat) : Int) := by
  unfold matrix_Rank.f
  rw [if_pos hb, if_pos hv]
theorem inv_v' {l : List (List Int)} (hb : AllB l) : matrix_Invert.f l = some (invR l) := by
  unfold matrix_Invert.f
  rw [if_pos hb]
theorem mul_v' {l m : List (List Int)} (hb : AllB l) (hm : AllB m) : matrix_Mul.f l m = some (mulR l m) := by
  unfold matrix_Mul.f
  rw [if_pos ⟨hb, hm⟩]
theorem app_v {l : List (List Int)} {v : List Int} (hb : AllB l) (hm : Bytes v) : matrix_Apply.f l v = some (appR l v) := by
  unfold matrix_Apply.f
  rw [if_pos ⟨hb, hm⟩]
theorem mulF_congr {K i j : Nat} {A A' B B' : Mat} (hA : ∀ k, k < K → A i k = A' i k) (hB : ∀ k, k < K → B k j = B' k j) : mulF K A B i j = mulF K A' B' i j :=
  sum_congr fun k hk => by rw [hA k hk, hB k hk]
end Go.Proofs.Ytdeamnmadgemoaa.Q
