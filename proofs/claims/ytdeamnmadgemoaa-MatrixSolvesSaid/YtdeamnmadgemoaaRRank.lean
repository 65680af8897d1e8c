/- The reference's Rank. -/
import Derived.Test.YtdeamnmadgemoaaRRed
import Derived.Test.YtdeamnmadgemoaaMRank
namespace Go.Proofs.Ytdeamnmadgemoaa.Q
open Go.RowKit Go.Proofs.YtdeamnmadgemoaaW.PrintWords Go.Proofs.YtdeamnmadgemoaaW.PrintLast Go.Proofs.YtdeamnmadgemoaaW.PrintMore
open Go.Proofs.Ytdeamnmadgemoaa.Gf Go.Proofs.Ytdeamnmadgemoaa.Lin Go.Proofs.Ytdeamnmadgemoaa.Evs
set_option linter.unusedVariables false
set_option linter.unnecessarySimpa false
def padF (C : Nat) (M : Mat) : Mat := fun i c => if c < C then M i c else 0
theorem pad_row (M : Mat) (i C m : Nat) : rowV M i C ++ List.replicate m 0 = rowV (padF C M) i (C + m) := by
  apply List.ext_getElem?
  intro c
  by_cases hc : c < C
  · rw [List.getElem?_append_left (by rw [rowV_length]; exact hc)]
    unfold rowV padF
    rw [List.getElem?_map, List.getElem?_range hc, List.getElem?_map, List.getElem?_range (by omega), Option.map_some, Option.map_some, if_pos hc]
  · rw [List.getElem?_append_right (by rw [rowV_length]; omega), rowV_length]
    by_cases hc2 : c < C + m
    · unfold rowV padF
      rw [List.getElem?_replicate, if_pos (by omega), List.getElem?_map, List.getElem?_range hc2, Option.map_some, if_neg hc, zero_v]
      rfl
    · rw [List.getElem?_eq_none (by simp; omega), List.getElem?_eq_none (by rw [rowV_length]; omega)]
theorem rcopied_loop {N C m : Nat} {M : Mat} (hN : N ≤ 64) (hC : C ≤ 64) (hm : m ≤ 64) : ∀ (d i : Nat), i + d = N → Ev (fun k => tapearchiveref05_copied.l0 k (rowsL M N C) (m : Int) (rowsL (padF C M) i (C + m)) (i : Int)) (rowsL (padF C M) N (C + m))
  | 0, i, hi => by
    have ha := rowsL_length M N C
    have e : i = N := by omega
    subst e
    exact Ev.step (fun k => by simp only [tapearchiveref05_copied.l0]; rfl) (Ev.neg (by omega) (Ev.now _))
  | d + 1, i, hi => by
    have ha := rowsL_length M N C
    have hb := rowsL_length (padF C M) i (C + m)
    have hr := rowV_length M i C
    have e1 : rd_L1 (rowsL M N C) (i : Int) = rowV M i C := rd_rows (by omega)
    refine Ev.step (fun k => by simp only [tapearchiveref05_copied.l0]; rfl) (Ev.pos (by omega) (Ev.call rfl (Ev.pos (by omega) ?_)))
    rw [e1]
    refine Ev.pos (by rw [List.length_nil]; omega) (Ev.call rfl (Ev.pos (by omega) (Ev.pos (by rw [List.nil_append]; omega) (Ev.pos (by omega) ?_))))
    rw [Int.toNat_natCast, List.nil_append, pad_row, snoc_, w_succ (by omega)]
    exact rcopied_loop hN hC hm d (i + 1) (by omega)
theorem rcopied_calls {N C m : Nat} {M : Mat} (h1 : 1 ≤ N) (h2 : N ≤ 64) (h3 : 1 ≤ C) (h4 : C ≤ 64) (hm : m ≤ 64) (A0 : Option Addr) (c0 : Nat) (w : World) (hC : Kd.C (Kd.slice 5 (Kd.int .u8)) w A0 N (rowsL M N C)) (hc : N ≤ c0) :
    Calls Try.prog 29 #[.slice A0 N c0, .int .i64 (m : Nat)] w fun e w' => ∃ (G cap : Nat) (g cp : Nat → Nat), e = .returned (.slice (some ⟨G, 0, none⟩) N cap) ∧ MatO w' w.heap.size G cap g cp N (C + m) (padF C M) ∧ Below w.heap.size w w' := by
  obtain ⟨k, hk⟩ := Ev.rounds (rcopied_loop (M := M) h2 h4 hm N 0 (by omega))
  have h := tapearchiveref05_copied.calls k A0 c0 (rowsL M N C) (m : Int) _ w (by rw [rowsL_length]; exact hC) (by rw [rowsL_length]; exact hc) hk
  rw [rowsL_length] at h
  refine h.mono fun e w' ⟨v, he, hS, hb⟩ => ?_
  obtain ⟨G, cap, g, cp, rfl, hm⟩ := MatO.of_S hS (by omega) (by omega)
  exact ⟨G, cap, g, cp, he, hm, hb⟩
theorem rvalid_calls (A0 : Option Addr) (c0 : Nat) (l : List (List Int)) (w : World) (hC : Kd.C (Kd.slice 5 (Kd.int .u8)) w A0 l.length l) (hc : l.length ≤ c0) :
    Calls Try.prog 26 #[.slice A0 l.length c0] w fun e w' => e = .returned (.bool (decide (isV l))) ∧ ∃ n, w' = w.drewN n := by
  obtain ⟨k, hk⟩ := Ev.rounds (rvalid_ev l)
  exact (tapearchiveref05_Valid.calls k A0 c0 l _ w hC hc hk).mono fun e w' ⟨he, hd⟩ => ⟨he, hd.out⟩
theorem rvalid_calls2 {N C : Nat} {M : Mat} (h1 : 1 ≤ N) (h2 : N ≤ 64) (h3 : 1 ≤ C) (h4 : C ≤ 64) (A0 : Option Addr) (c0 : Nat) (w : World) (hC : Kd.C (Kd.slice 5 (Kd.int .u8)) w A0 N (rowsL M N C)) (hc : N ≤ c0) :
    Calls Try.prog 26 #[.slice A0 N c0] w fun e w' => e = .returned (.bool true) ∧ ∃ n, w' = w.drewN n := by
  have h := rvalid_calls A0 c0 (rowsL M N C) w (by rw [rowsL_length]; exact hC) (by rw [rowsL_length]; exact hc)
  rw [rowsL_length, decide_eq_true (isV_rowsL h1 h2 h3 h4)] at h
  exact h
set_option maxRecDepth 100000 in
set_option maxHeartbeats 4000000 in
theorem rrank_walk {N C : Nat} {M : Mat} (h1 : 1 ≤ N) (h2 : N ≤ 64) (h3 : 1 ≤ C) (h4 : C ≤ 64) (A0 : Option Addr) (c0 : Nat) (w : World) (hC : Kd.C (Kd.slice 5 (Kd.int .u8)) w A0 N (rowsL M N C)) (hc : N ≤ c0) :
    Calls Try.prog 15 #[.slice A0 N c0] w fun e w' => e = .returned (.int .i64 (rankF N C M : Nat)) ∧ Below w.heap.size w w' := by
  obtain ⟨ad, A, c, rfl, hx⟩ := first_row h1 A0 w hC
  have HC := Aside0.mk hC
  clear hC
  have hn0 : (0 : Int) < (N : Int) := by omega
  have hn1 : 0 < N := by omega
  go_enter Try.func15, Try.ntmps15
  go_wp2_with (first | (go_at_call 26; refine (rvalid_calls2 h1 h2 h3 h4 _ _ _ HC.out hc).mono ?_; rintro e_ w_ ⟨rfl, nv, rfl⟩))
  (first | (go_region_law (first | (go_simp; go_at_call 29; refine (rcopied_calls (m := 0) h1 h2 h3 h4 (by omega) _ _ _ (Kd.C_below HC.out (pw_below_drewN (Below.refl _ _) _)) hc).mono ?_; rintro e_ w1 ⟨G, cap, g, cp, rfl, hm, hb⟩; have HM := Aside0.mk (MatO.agree hm (M' := M) (fun i _ c hc => if_pos hc)); have HB : Aside0 (Below w.heap.size w w1) := ⟨⟨hb.os, hb.tape, hb.output, hb.size, hb.block⟩⟩; have hx1 := pw_cell_below HB.out hx; clear hm hb) | (go_simp; go_at_call 30; refine (rreduce_walk (by omega) (by omega) (Nat.le_refl C) M _ w.heap.size G cap g cp (HM.out.step (by rfl) (by intro _ _; rfl))).mono ?_; rintro e_ w2 ⟨rfl, g2, cp2, hm2, hb2⟩; have HB2 : Aside0 (Below w.heap.size w w2) := ⟨HB.out.trans ⟨hb2.os, hb2.tape, hb2.output, hb2.size, hb2.block⟩⟩))) | fail)
  all_goals (
    go_wp2
    go_ret
    exact ⟨rfl, ⟨HB2.out.os, HB2.out.tape, HB2.out.output, HB2.out.size, HB2.out.block⟩⟩)
set_option maxRecDepth 100000 in
set_option maxHeartbeats 4000000 in
theorem rrank_bad {l : List (List Int)} (hv : ¬ isV l) (A0 : Option Addr) (c0 : Nat) (w : World) (hC : Kd.C (Kd.slice 5 (Kd.int .u8)) w A0 l.length l) (hc : l.length ≤ c0) :
    Calls Try.prog 15 #[.slice A0 l.length c0] w fun e w' => e = .returned (.int .i64 0) ∧ Below w.heap.size w w' := by
  have HV := rvalid_calls A0 c0 l w hC hc
  rw [decide_eq_false hv] at HV
  have HVA := Aside0.mk HV
  clear hC HV hv
  go_enter Try.func15, Try.ntmps15
  go_wp2_with (first | (go_at_call 26; refine HVA.out.mono ?_; rintro e_ w_ ⟨rfl, nv, rfl⟩))
  go_ret
  exact ⟨rfl, pw_below_drewN (Below.refl _ _) _⟩
def tapearchiveref05_Rank.f (l : List (List Int)) : Option Int := if AllB l then some (if isV l then ((rankF l.length (wid l) (toM l) : Nat) : Int) else 0) else none
theorem tapearchiveref05_Rank.calls (A0 : Option Addr) (c0 : Nat) (l0 : List (List Int)) (r : Int) (w : World) (hr0 : Kd.C (Kd.slice 5 (Kd.int .u8)) w A0 l0.length l0) (hc0 : l0.length ≤ c0) (h : tapearchiveref05_Rank.f l0 = some r) :
    Calls Try.prog 15 #[.slice A0 l0.length c0] w fun e w' => e = .returned (.int .i64 r) ∧ Below w.heap.size w w' := by
  unfold tapearchiveref05_Rank.f at h
  by_cases hb : AllB l0
  · rw [if_pos hb] at h
    obtain rfl := Option.some.inj h
    by_cases hv : isV l0
    · rw [if_pos hv]
      refine rrank_walk hv.1.1 hv.1.2 hv.2.1.1 hv.2.1.2 A0 c0 w ?_ hc0
      rw [← toM_rows hb hv.2.2]
      exact hr0
    · rw [if_neg hv]
      exact rrank_bad hv A0 c0 w hr0 hc0
  · rw [if_neg hb] at h
    exact absurd h (by simp)
end Go.Proofs.Ytdeamnmadgemoaa.Q
