/- matrix.Rank: what it answers. -/
import Derived.Test.YtdeamnmadgemoaaMRed
import Derived.Test.YtdeamnmadgemoaaMEv
namespace Go.Proofs.Ytdeamnmadgemoaa.Q
open Go.RowKit Go.Proofs.YtdeamnmadgemoaaW.PrintWords Go.Proofs.YtdeamnmadgemoaaW.PrintLast Go.Proofs.YtdeamnmadgemoaaW.PrintMore
open Go.Proofs.Ytdeamnmadgemoaa.Gf Go.Proofs.Ytdeamnmadgemoaa.Lin Go.Proofs.Ytdeamnmadgemoaa.Evs
set_option linter.unusedVariables false
set_option linter.unnecessarySimpa false
theorem valid_calls (A0 : Option Addr) (c0 : Nat) (l : List (List Int)) (w : World) (hC : Kd.C (Kd.slice 5 (Kd.int .u8)) w A0 l.length l) (hc : l.length ≤ c0) :
    Calls Try.prog 25 #[.slice A0 l.length c0] w fun e w' => e = .returned (.bool (decide (isV l))) ∧ ∃ n, w' = w.drewN n := by
  obtain ⟨k, hk⟩ := Ev.rounds (valid_ev l)
  exact (matrix_Valid.calls k A0 c0 l _ w hC hc hk).mono fun e w' ⟨he, hd⟩ => ⟨he, hd.out⟩
theorem valid_calls2 {N C : Nat} {M : Mat} (h1 : 1 ≤ N) (h2 : N ≤ 64) (h3 : 1 ≤ C) (h4 : C ≤ 64) (A0 : Option Addr) (c0 : Nat) (w : World) (hC : Kd.C (Kd.slice 5 (Kd.int .u8)) w A0 N (rowsL M N C)) (hc : N ≤ c0) :
    Calls Try.prog 25 #[.slice A0 N c0] w fun e w' => e = .returned (.bool true) ∧ ∃ n, w' = w.drewN n := by
  have h := valid_calls A0 c0 (rowsL M N C) w (by rw [rowsL_length]; exact hC) (by rw [rowsL_length]; exact hc)
  rw [rowsL_length, decide_eq_true (isV_rowsL h1 h2 h3 h4)] at h
  exact h
theorem copied_calls {N C : Nat} {M : Mat} (h1 : 1 ≤ N) (h2 : N ≤ 64) (h3 : 1 ≤ C) (h4 : C ≤ 64) (A0 : Option Addr) (c0 : Nat) (w : World) (hC : Kd.C (Kd.slice 5 (Kd.int .u8)) w A0 N (rowsL M N C)) (hc : N ≤ c0) :
    Calls Try.prog 27 #[.slice A0 N c0] w fun e w' => ∃ (G cap : Nat) (g cp : Nat → Nat), e = .returned (.slice (some ⟨G, 0, none⟩) N cap) ∧ MatO w' w.heap.size G cap g cp N C M ∧ Below w.heap.size w w' := by
  obtain ⟨k, hk⟩ := Ev.rounds (copied_ev (l := rowsL M N C) (by rw [rowsL_length]; omega) (fun r hr => by rw [rowsL_rect r hr]; omega))
  have h := matrix_copied_byte.calls k A0 c0 (rowsL M N C) _ w (by rw [rowsL_length]; exact hC) (by rw [rowsL_length]; exact hc) hk
  rw [rowsL_length] at h
  refine h.mono fun e w' ⟨v, he, hS, hb⟩ => ?_
  obtain ⟨G, cap, g, cp, rfl, hm⟩ := MatO.of_S hS (by omega) (by omega)
  exact ⟨G, cap, g, cp, he, hm, hb⟩
/-- The first row's slice, of a matrix that is read. -/
theorem first_row {N C : Nat} {M : Mat} (h1 : 1 ≤ N) (A0 : Option Addr) (w : World) (hC : Kd.C (Kd.slice 5 (Kd.int .u8)) w A0 N (rowsL M N C)) : ∃ (ad : Addr) (A : Option Addr) (c : Nat), A0 = some ad ∧ w.cell? ad = some (.slice A C c) := by
  obtain ⟨ad, A, c, rfl, hx, _, _⟩ := at_L1 hC 0 (by omega) (by omega)
  have e : rd_L1 (rowsL M N C) 0 = rowV M 0 C := rd_rows (i := 0) (by omega)
  rw [e, rowV_length] at hx
  exact ⟨ad, A, c, rfl, hx⟩
set_option maxRecDepth 100000 in
set_option maxHeartbeats 4000000 in
theorem rank_walk {N C : Nat} {M : Mat} (h1 : 1 ≤ N) (h2 : N ≤ 64) (h3 : 1 ≤ C) (h4 : C ≤ 64) (A0 : Option Addr) (c0 : Nat) (w : World) (hC : Kd.C (Kd.slice 5 (Kd.int .u8)) w A0 N (rowsL M N C)) (hc : N ≤ c0) :
    Calls Try.prog 14 #[.slice A0 N c0] w fun e w' => e = .returned (.int .i64 (rankF N C M : Nat)) ∧ Below w.heap.size w w' := by
  obtain ⟨ad, A, c, rfl, hx⟩ := first_row h1 A0 w hC
  have HC := Aside0.mk hC
  clear hC
  have hn0 : (0 : Int) < (N : Int) := by omega
  have hn1 : 0 < N := by omega
  go_enter Try.func14, Try.ntmps14
  go_wp2_with (first | (go_at_call 25; refine (valid_calls2 h1 h2 h3 h4 _ _ _ HC.out hc).mono ?_; rintro e_ w_ ⟨rfl, nv, rfl⟩))
  go_region_law (first | (go_simp; go_at_call 27; refine (copied_calls h1 h2 h3 h4 _ _ _ (Kd.C_below HC.out (pw_below_drewN (Below.refl _ _) _)) hc).mono ?_; rintro e_ w1 ⟨G, cap, g, cp, rfl, hm, hb⟩; have HM := Aside0.mk hm; have HB : Aside0 (Below w.heap.size w w1) := ⟨⟨hb.os, hb.tape, hb.output, hb.size, hb.block⟩⟩; have hx1 := pw_cell_below HB.out hx; clear hm hb) | (go_simp; go_at_call 28; refine (reduce_walk (by omega) (by omega) (Nat.le_refl C) M _ w.heap.size G cap g cp (HM.out.step (by rfl) (by intro _ _; rfl))).mono ?_; rintro e_ w2 ⟨rfl, g2, cp2, hm2, hb2⟩; have HB2 : Aside0 (Below w.heap.size w w2) := ⟨HB.out.trans ⟨hb2.os, hb2.tape, hb2.output, hb2.size, hb2.block⟩⟩))
  all_goals (
    go_wp2
    go_ret
    exact ⟨rfl, ⟨HB2.out.os, HB2.out.tape, HB2.out.output, HB2.out.size, HB2.out.block⟩⟩)
set_option maxRecDepth 100000 in
set_option maxHeartbeats 4000000 in
theorem rank_bad {l : List (List Int)} (hv : ¬ isV l) (A0 : Option Addr) (c0 : Nat) (w : World) (hC : Kd.C (Kd.slice 5 (Kd.int .u8)) w A0 l.length l) (hc : l.length ≤ c0) :
    Calls Try.prog 14 #[.slice A0 l.length c0] w fun e w' => e = .returned (.int .i64 0) ∧ Below w.heap.size w w' := by
  have HV := valid_calls A0 c0 l w hC hc
  rw [decide_eq_false hv] at HV
  have HVA := Aside0.mk HV
  clear hC HV hv
  go_enter Try.func14, Try.ntmps14
  go_wp2_with (first | (go_at_call 25; refine HVA.out.mono ?_; rintro e_ w_ ⟨rfl, nv, rfl⟩))
  go_ret
  exact ⟨rfl, pw_below_drewN (Below.refl _ _) _⟩
def matrix_Rank.f (l : List (List Int)) : Option Int := if AllB l then some (if isV l then ((rankF l.length (wid l) (toM l) : Nat) : Int) else 0) else none
theorem matrix_Rank.calls (A0 : Option Addr) (c0 : Nat) (l0 : List (List Int)) (r : Int) (w : World) (hr0 : Kd.C (Kd.slice 5 (Kd.int .u8)) w A0 l0.length l0) (hc0 : l0.length ≤ c0) (h : matrix_Rank.f l0 = some r) :
    Calls Try.prog 14 #[.slice A0 l0.length c0] w fun e w' => e = .returned (.int .i64 r) ∧ Below w.heap.size w w' := by
  unfold matrix_Rank.f at h
  by_cases hb : AllB l0
  · rw [if_pos hb] at h
    obtain rfl := Option.some.inj h
    by_cases hv : isV l0
    · rw [if_pos hv]
      refine rank_walk hv.1.1 hv.1.2 hv.2.1.1 hv.2.1.2 A0 c0 w ?_ hc0
      rw [← toM_rows hb hv.2.2]
      exact hr0
    · rw [if_neg hv]
      exact rank_bad hv A0 c0 w hr0 hc0
  · rw [if_neg hb] at h
    exact absurd h (by simp)
end Go.Proofs.Ytdeamnmadgemoaa.Q
