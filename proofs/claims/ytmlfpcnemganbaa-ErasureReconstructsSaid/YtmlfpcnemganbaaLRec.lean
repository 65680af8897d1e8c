/- The statement ErasureReconstructs, walked. -/
import Derived.Test.YtmlfpcnemganbaaEC2
import Derived.Test.YtmlfpcnemganbaaEAwk
namespace Go.Proofs.Ytmlfpcnemganbaa.Q
open Go.RowKit Go.Proofs.YtmlfpcnemganbaaW.PrintWords Go.Proofs.YtmlfpcnemganbaaW.PrintLast Go.Proofs.YtmlfpcnemganbaaW.PrintMore
open Go.Proofs.Ytmlfpcnemganbaa.Gf Go.Proofs.Ytmlfpcnemganbaa.Lin Go.Proofs.Ytmlfpcnemganbaa.Evs
set_option linter.unusedVariables false
set_option linter.unnecessarySimpa false
set_option maxRecDepth 100000 in
set_option maxHeartbeats 4000000 in
theorem lrec_walk {A0 A1 : Option Addr} {n0 c0 n1 c1 m : Nat} {l0 : List (List Int)} {l1 : List Bool} (p : Int) (w : World) (h0 : RC w A0 n0 c0 l0) (hb : AllB l0) (h1 : Kd.C Kd.bool w A1 m (l1.take 18)) (hm : m ≤ c1) (hcase : (n1 ≤ 18 ∧ m = n1) ∨ (18 < n1 ∧ m = 18)) (hn : n1 ≤ c1) (hc1 : n1 ≤ c1) :
    Calls Try.prog 5 #[.slice A0 n0 c0, .slice A1 n1 c1, .int .i64 p] w fun e w' => e = .returned (.bool true) ∧ Below w.heap.size w w' := by
  have H0 := Aside0.mk h0
  have H1 := Aside0.mk h1
  have HF := fewV_allB hb
  have hlen := fewV_length l0
  have HFL := Aside0.mk (fewV_len (l := l0))
  have HFB := Aside0.mk HF
  have HL := Lib.hid hlen
  clear h0 h1 HF hlen
  obtain ⟨q, hq⟩ : ∃ q, q = fewV l0 := ⟨_, rfl⟩
  obtain ⟨b, hbq⟩ : ∃ b, b = l1.take 18 := ⟨_, rfl⟩
  obtain ⟨R, hR⟩ : ∃ R, R = recR q b p := ⟨_, rfl⟩
  have HRA : Aside0 (AllB R.1) := ⟨by rw [hR]; exact recR_allB _ _ _⟩
  have HRL : Aside0 (R.1.length ≤ 1000) := ⟨by rw [hR]; exact recR_len _ _ _ (by rw [hq]; have := HL.out; omega)⟩
  have HP := Aside0.mk hR
  rw [← hq] at HFL HFB
  have HFEW := Aside0.mk (few_c H0.out)
  rw [← hq] at HFEW
  have HQL : Aside0 (q.length ≤ 17) := ⟨by rw [hq]; exact HL.out⟩
  rw [← hbq] at H1
  clear HL hq hbq hR
  rcases hcase with ⟨hle, rfl⟩ | ⟨hgt, rfl⟩
  · have hd1 : decide ((18 : Int) < (m : Int)) = false := decide_eq_false (by omega)
    have hd2 : decide (18 < m) = false := decide_eq_false (by omega)
    go_enter Try.func5, Try.ntmps5
    go_wp2_with (first
      | (go_at_call 17; refine HFEW.out.mono ?_; rintro e_ w1 ⟨A2, c2, rfl, h2, hb2⟩; have H2 := Aside0.mk h2; have HB2 := Aside0.mk hb2; have HC1 := Aside0.mk (Kd.C_below H1.out hb2); clear h2 hb2)
      | (go_at_call 16; refine (rec_c H2.out HC1.out hm HFB.out HFL.out (by have := HQL.out; omega) p).mono ?_; rw [← HP.out]; rintro e_ w3 ⟨A3, c3, rfl, h3, hb3⟩; have H3 := Aside0.mk h3; have H2' := Aside0.mk (H2.out.below hb3); have HC1' := Aside0.mk (Kd.C_below HC1.out hb3); have HB3 := Aside0.mk (below_step HB2.out hb3); clear h3 hb3)
      | (go_at_call 23; refine (rrec_c H2'.out HC1'.out hm HFB.out HFL.out (by have := HQL.out; omega) p).mono ?_; rw [← HP.out]; rintro e_ w4 ⟨A4, c4, rfl, h4, hb4⟩; have H4 := Aside0.mk h4; have H3' := Aside0.mk (H3.out.below hb4); have HB4 := Aside0.mk (below_step HB3.out hb4); clear h4 hb4)
      | (go_at_call 19; refine (same_c H3'.out H4.out HRA.out HRA.out HRL.out).mono ?_; rw [decide_eq_true rfl]; rintro e_ w5 ⟨rfl, hb5⟩; have HB5 := Aside0.mk (below_step HB4.out hb5); clear hb5)
      | (go_at_call 22; refine (awake_c _).mono ?_; rintro e_ w6 ⟨rfl, hb6⟩; have HB6 := Aside0.mk (below_step HB5.out hb6); clear hb6))
    go_ret
    exact ⟨rfl, HB6.out⟩
  · have hd1 : decide ((18 : Int) < (n1 : Int)) = true := decide_eq_true (by omega)
    have hd2 : decide (18 < n1) = true := decide_eq_true (by omega)
    have hcut : ∀ W : World, (Instr.slice 23 (.slice A1 n1 c1) none (some (.int .i64 18)) none).run Try.prog W = .ok (.slice A1 18 c1) W := by
      obtain ⟨i0, hi0, _⟩ := info_parts info4
      exact cut_to (P := Try.prog) 23 4 .i64 Try.underlying23 hi0 A1 n1 c1 18 (by omega) (by omega) hn
    go_enter Try.func5, Try.ntmps5
    go_wp2_with (first
      | (go_at_call 17; refine HFEW.out.mono ?_; rintro e_ w1 ⟨A2, c2, rfl, h2, hb2⟩; have H2 := Aside0.mk h2; have HB2 := Aside0.mk hb2; have HC1 := Aside0.mk (Kd.C_below H1.out hb2); clear h2 hb2)
      | (go_at_call 16; refine (rec_c H2.out HC1.out hm HFB.out HFL.out (by have := HQL.out; omega) p).mono ?_; rw [← HP.out]; rintro e_ w3 ⟨A3, c3, rfl, h3, hb3⟩; have H3 := Aside0.mk h3; have H2' := Aside0.mk (H2.out.below hb3); have HC1' := Aside0.mk (Kd.C_below HC1.out hb3); have HB3 := Aside0.mk (below_step HB2.out hb3); clear h3 hb3)
      | (go_at_call 23; refine (rrec_c H2'.out HC1'.out hm HFB.out HFL.out (by have := HQL.out; omega) p).mono ?_; rw [← HP.out]; rintro e_ w4 ⟨A4, c4, rfl, h4, hb4⟩; have H4 := Aside0.mk h4; have H3' := Aside0.mk (H3.out.below hb4); have HB4 := Aside0.mk (below_step HB3.out hb4); clear h4 hb4)
      | (go_at_call 19; refine (same_c H3'.out H4.out HRA.out HRA.out HRL.out).mono ?_; rw [decide_eq_true rfl]; rintro e_ w5 ⟨rfl, hb5⟩; have HB5 := Aside0.mk (below_step HB4.out hb5); clear hb5)
      | (go_at_call 22; refine (awake_c _).mono ?_; rintro e_ w6 ⟨rfl, hb6⟩; have HB6 := Aside0.mk (below_step HB5.out hb6); clear hb6))
    go_ret
    exact ⟨rfl, HB6.out⟩
def tapearchivelaw06_ErasureReconstructs.f (_ : Nat) (l0 : List (List Int)) (_ : List Bool) (_ : Int) : Option Bool := if AllB l0 then some true else none
theorem tapearchivelaw06_ErasureReconstructs.calls (k : Nat) (A0 : Option Addr) (c0 : Nat) (l0 : List (List Int)) (A1 : Option Addr) (c1 : Nat) (l1 : List Bool) (a2 : Int) (r : Bool) (w : World) (hr0 : Kd.C (Kd.slice 5 (Kd.int .u8)) w A0 l0.length l0) (hc0 : l0.length ≤ c0) (hr1 : Kd.C Kd.bool w A1 l1.length l1) (hc1 : l1.length ≤ c1) (h : tapearchivelaw06_ErasureReconstructs.f k l0 l1 a2 = some r) :
    Calls Try.prog 5 #[.slice A0 l0.length c0, .slice A1 l1.length c1, .int .i64 a2] w fun e w' => e = .returned (.bool r) ∧ Below w.heap.size w w' := by
  unfold tapearchivelaw06_ErasureReconstructs.f at h
  by_cases hb : AllB l0
  · rw [if_pos hb] at h
    obtain rfl := Option.some.inj h
    by_cases hl : l1.length ≤ 18
    · exact lrec_walk (m := l1.length) (l1 := l1) a2 w ⟨hr0, hc0⟩ hb (by rw [List.take_of_length_le hl]; exact hr1) hc1 (.inl ⟨hl, rfl⟩) hc1 hc1
    · have ht := Kd.C_take (m := 18) hr1 (by omega)
      have e : (l1.take 18).length = 18 := by rw [List.length_take]; omega
      rw [e] at ht
      exact lrec_walk (m := 18) (l1 := l1) a2 w ⟨hr0, hc0⟩ hb ht (by omega) (.inr ⟨by omega, rfl⟩) hc1 hc1
  · rw [if_neg hb] at h
    exact absurd h (by simp)
end Go.Proofs.Ytmlfpcnemganbaa.Q
namespace Go.Proofs.Ytmlfpcnemganbaa.Pure
open Go.Proofs.Ytmlfpcnemganbaa.Q
theorem ErasureReconstructs (l : List (List Int)) (hl : l.length ≤ maxLen) (hw : ∀ r ∈ l, r.length ≤ maxLen ∧ ∀ x ∈ r, (Lit.int .u8 x).wf = true) (h : List Bool) (hh : h.length ≤ maxLen) (p : Int) (hp : (Lit.int .i64 p).wf = true) :
    ∃ k, tapearchivelaw06_ErasureReconstructs.f k l h p = some true := ⟨0, by unfold tapearchivelaw06_ErasureReconstructs.f; rw [if_pos (allB_wf hw)]⟩
end Go.Proofs.Ytmlfpcnemganbaa.Pure
