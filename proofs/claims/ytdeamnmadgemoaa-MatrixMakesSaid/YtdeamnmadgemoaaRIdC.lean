/- The reference's identity and Cauchy matrices. -/
import Derived.Test.YtdeamnmadgemoaaQ7
import Derived.Test.YtdeamnmadgemoaaREv
namespace Go.Proofs.Ytdeamnmadgemoaa.Q
open Go.RowKit Go.Proofs.YtdeamnmadgemoaaW.PrintWords Go.Proofs.YtdeamnmadgemoaaW.PrintLast Go.Proofs.YtdeamnmadgemoaaW.PrintMore
open Go.Proofs.Ytdeamnmadgemoaa.Gf Go.Proofs.Ytdeamnmadgemoaa.Lin Go.Proofs.Ytdeamnmadgemoaa.Evs
set_option linter.unusedVariables false
set_option linter.unnecessarySimpa false
theorem rowsL_snoc (M : Mat) (i C : Nat) : rowsL M i C ++ [rowV M i C] = rowsL M (i + 1) C := by
  unfold rowsL
  rw [List.range_succ, List.map_append]
  rfl
theorem zrow (i m : Nat) : List.replicate m (0 : Int) = rowV (fun _ _ => (0 : GF)) i m := by
  apply List.ext_getElem?
  intro c
  unfold rowV
  by_cases hc : c < m
  · rw [List.getElem?_replicate, if_pos hc, List.getElem?_map, List.getElem?_range hc, Option.map_some, zero_v]
    rfl
  · rw [List.getElem?_eq_none (by simp; omega), List.getElem?_eq_none (by simp; omega)]
theorem rident_loop {m : Nat} (hm : m ≤ 64) : ∀ (d i : Nat), i + d = m → Ev (fun k => tapearchiveref05_Identity.l0 k (m : Int) (rowsL dlt i m) (i : Int)) (rowsL dlt m m)
  | 0, i, h => by
    have e : i = m := by omega
    subst e
    exact Ev.step (fun k => by simp only [tapearchiveref05_Identity.l0]; rfl) (Ev.neg (by omega) (Ev.now _))
  | d + 1, i, h => by
    have hlen := rowsL_length dlt i m
    refine Ev.step (fun k => by simp only [tapearchiveref05_Identity.l0]; rfl) (Ev.pos (by omega) (Ev.pos (by omega) (Ev.pos (by omega) (Ev.call rfl (Ev.pos (by omega) (Ev.pos (by rw [List.length_replicate]; omega) (Ev.pos (by omega) ?_)))))))
    rw [Int.toNat_natCast, Int.toNat_natCast, zrow i m, w_succ (by omega), show (1 : Int) = ((1 : GF).v : Int) from rfl, rowV_set]
    have e : rowV (updM (fun _ _ => 0) i i 1) i m = rowV dlt i m := rowV_congr fun c _ => by
      unfold updM dlt
      rw [if_pos rfl]
      by_cases h1 : c = i
      · rw [if_pos h1, if_pos h1.symm]
      · rw [if_neg h1, if_neg (fun h => h1 h.symm)]
    rw [e, rowsL_snoc]
    exact rident_loop hm d (i + 1) (by omega)
theorem rident_ev (n : Int) : Ev (fun k => tapearchiveref05_Identity.f k n) (if 1 ≤ n ∧ n ≤ 64 then rowsL dlt n.toNat n.toNat else []) := by
  unfold tapearchiveref05_Identity.f
  by_cases h : 1 ≤ n ∧ n ≤ 64
  · rw [if_pos h]
    obtain ⟨m, rfl⟩ := Int.eq_ofNat_of_zero_le (show 0 ≤ n by omega)
    refine Ev.neg (by omega) ?_
    rw [decide_eq_false (by omega), Int.toNat_natCast]
    exact Ev.step (fun k => by simp only [tapearchiveref05_Identity.j0]; rfl) (Ev.neg (by decide) (rident_loop (by omega) m 0 (by omega)))
  · rw [if_neg h]
    have out : Ev (fun k => tapearchiveref05_Identity.j0 k n true) [] := Ev.step (fun k => by simp only [tapearchiveref05_Identity.j0]; rfl) (Ev.pos (by trivial) (Ev.now _))
    by_cases h1 : n < 1
    · exact Ev.pos h1 out
    · refine Ev.neg h1 ?_
      rw [decide_eq_true (by omega)]
      exact out
theorem rcau_arg {C i j : Nat} (h : C + i ≤ 64) (hj : j < C) : (Go.bits .xor .i64 (wrap64 ((C : Int) + (i : Int))) ((j : Nat) : Int)) % 256 = ((ofN (C + i) + ofN j).v : Int) := by
  have e : wrap64 ((C : Int) + (i : Int)) = ((C + i : Nat) : Int) := by unfold wrap64; omega
  have hx : (C + i) ^^^ j < 256 := xor_lt (by omega) (by omega)
  rw [e, i64_xor_nat (by omega) (by omega), add_v, ofN_v (by omega), ofN_v (by omega)]
  omega
theorem rcau_row {N C : Nat} (hNC : N + C ≤ 64) : ∀ (d j i : Nat), j + d = C → i < N → ∀ {r : List (List Int) × Bool}, Ev (fun k => tapearchiveref05_Cauchy.l0 k (N : Int) (C : Int) (rowsL (cauM C) (i + 1) C) ((i + 1 : Nat) : Int)) r →
    Ev (fun k => tapearchiveref05_Cauchy.l1 k (N : Int) (C : Int) (rowsL (cauM C) i C) (i : Int) (rowV (cauK C i j) i C) (j : Int)) r
  | 0, j, i, h, hi, r, hr => by
    have hlen := rowsL_length (cauM C) i C
    refine Ev.step (fun k => by simp only [tapearchiveref05_Cauchy.l1]; rfl) (Ev.neg (by omega) (Ev.pos (by omega) ?_))
    rw [w_succ (by omega), show rowV (cauK C i j) i C = rowV (cauM C) i C from rowV_congr fun c hc => by unfold cauK; rw [if_pos (by omega)], rowsL_snoc]
    exact hr
  | d + 1, j, i, h, hi, r, hr => by
    have hrl := rowV_length (cauK C i j) i C
    refine Ev.step (fun k => by simp only [tapearchiveref05_Cauchy.l1]; rfl) (Ev.pos (by omega) ?_)
    rw [rcau_arg (by omega) (by omega)]
    refine Ev.bind (rinv_ev (cau_ne (by omega) (by omega))) (Ev.pos (by omega) (Ev.pos (by omega) ?_))
    rw [Int.toNat_natCast, rowV_set, w_succ (by omega)]
    have e : rowV (updM (cauK C i j) i j (inv (ofN (C + i) + ofN j))) i C = rowV (cauK C i (j + 1)) i C := rowV_congr fun c _ => by
      unfold updM
      rw [if_pos rfl]
      unfold cauK
      by_cases h2 : c = j
      · rw [if_pos h2, if_pos (by omega), h2]; rfl
      · rw [if_neg h2]
        by_cases h3 : c < j
        · rw [if_pos (by omega), if_pos (by omega)]
        · rw [if_neg (by omega), if_neg (by omega)]
    rw [e]
    exact rcau_row hNC d (j + 1) i (by omega) hi hr
theorem rcau_loop {N C : Nat} (hNC : N + C ≤ 64) : ∀ (d i : Nat), i + d = N → Ev (fun k => tapearchiveref05_Cauchy.l0 k (N : Int) (C : Int) (rowsL (cauM C) i C) (i : Int)) (rowsL (cauM C) N C, true)
  | 0, i, h => by
    have e : i = N := by omega
    subst e
    exact Ev.step (fun k => by simp only [tapearchiveref05_Cauchy.l0]; rfl) (Ev.neg (by omega) (Ev.now _))
  | d + 1, i, h => by
    refine Ev.step (fun k => by simp only [tapearchiveref05_Cauchy.l0]; rfl) (Ev.pos (by omega) (Ev.pos (by omega) (Ev.pos (by omega) ?_)))
    rw [Int.toNat_natCast, zrow i C, show rowV (fun _ _ => (0 : GF)) i C = rowV (cauK C i 0) i C from rowV_congr fun c _ => by unfold cauK; rw [if_neg (by omega)]]
    exact rcau_row hNC C 0 i (by omega) (by omega) (rcau_loop hNC d (i + 1) (by omega))
theorem rcauchy_ev {n m : Int} (hn : -9223372036854775808 ≤ n ∧ n ≤ 9223372036854775807) (hm : -9223372036854775808 ≤ m ∧ m ≤ 9223372036854775807) : Ev (fun k => tapearchiveref05_Cauchy.f k n m) (if cauOk n m then (rowsL (cauM m.toNat) n.toNat m.toNat, true) else ([], false)) := by
  unfold tapearchiveref05_Cauchy.f
  have out : ∀ b : Bool, b = true → ¬ cauOk n m → Ev (fun k => tapearchiveref05_Cauchy.j0 k n m b) (if cauOk n m then (rowsL (cauM m.toNat) n.toNat m.toNat, true) else ([], false)) := fun b hb hc => by
    rw [if_neg hc, hb]
    exact Ev.step (fun k => by simp only [tapearchiveref05_Cauchy.j0]; rfl) (Ev.pos (by trivial) (Ev.now _))
  by_cases h1 : n < 1
  · exact Ev.pos h1 (out true rfl (fun h => by have := h.1; omega))
  refine Ev.neg h1 ?_
  by_cases h2 : m < 1
  · exact Ev.pos h2 (out true rfl (fun h => by have := h.2.1; omega))
  refine Ev.neg h2 ?_
  by_cases h3 : n > 64
  · exact Ev.pos h3 (out true rfl (fun h => by have := h.1; omega))
  refine Ev.neg h3 ?_
  by_cases h4 : m > 64
  · exact Ev.pos h4 (out true rfl (fun h => by have := h.2.1; omega))
  refine Ev.neg h4 ?_
  have e : wrap64 (n + m) = n + m := by unfold wrap64; omega
  rw [e]
  clear e
  by_cases h5 : n + m > 64
  · exact out _ (decide_eq_true h5) (fun h => by have := h.2.2; omega)
  have hc : cauOk n m := ⟨by omega, by omega, by omega⟩
  rw [decide_eq_false h5, if_pos hc]
  obtain ⟨N, rfl⟩ := Int.eq_ofNat_of_zero_le (show 0 ≤ n by omega)
  obtain ⟨C, rfl⟩ := Int.eq_ofNat_of_zero_le (show 0 ≤ m by omega)
  rw [Int.toNat_natCast, Int.toNat_natCast]
  exact Ev.step (fun k => by simp only [tapearchiveref05_Cauchy.j0]; rfl) (Ev.neg (by decide) (rcau_loop (by omega) N 0 (by omega)))
end Go.Proofs.Ytdeamnmadgemoaa.Q
