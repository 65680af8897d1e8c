/- What the reference of Check answers. -/
import Derived.Test.YtmlfpcnemganbaaEAwk
import Derived.Test.YtmlfpcnemganbaaQ11
namespace Go.Proofs.Ytmlfpcnemganbaa.Q
open Go.RowKit Go.Proofs.YtmlfpcnemganbaaW.PrintWords Go.Proofs.YtmlfpcnemganbaaW.PrintLast Go.Proofs.YtmlfpcnemganbaaW.PrintMore
open Go.Proofs.Ytmlfpcnemganbaa.Gf Go.Proofs.Ytmlfpcnemganbaa.Lin Go.Proofs.Ytmlfpcnemganbaa.Evs
set_option linter.unusedVariables false
set_option linter.unnecessarySimpa false
theorem ref_check {l : List (List Int)} (hb : AllB l) (hw : wid l ≤ 1000) (hl : l.length ≤ 1000) (p : Int) : Ev (fun k => tapearchiveref06_Check.f k l p) (chkR l p) := by
  unfold tapearchiveref06_Check.f
  have out : ∀ (z : Int) (b : Bool), b = true → ¬ (cOk ((l.length : Int) - p) p ∧ evenP l) → Ev (fun k => tapearchiveref06_Check.j0 k l p z b) (chkR l p) := fun z b hb hn => by
    subst hb
    unfold chkR
    rw [decide_eq_false (fun h => hn ⟨h.1, h.2.1⟩)]
    exact Ev.step (fun k => by simp only [tapearchiveref06_Check.j0]; rfl) (Ev.pos (by trivial) (Ev.now _))
  by_cases h0 : p < 0
  · exact Ev.pos h0 (out _ _ rfl (fun h => by have := h.1.2.1; omega))
  refine Ev.neg h0 ?_
  by_cases h1 : p > 16
  · exact Ev.pos h1 (out _ _ rfl (fun h => by have := h.1.2.2.1; omega))
  refine Ev.neg (by omega) ?_
  have e : wrap64 ((l.length : Int) - p) = (l.length : Int) - p := by unfold wrap64; omega
  rw [e]
  clear e
  refine Ev.call (rvalid6_ev _ _) ?_
  by_cases hc : cOk ((l.length : Int) - p) p
  · rw [decide_eq_true hc]
    refine Ev.pos (by trivial) (Ev.bind (equal_ev hl) ?_)
    by_cases he : evenP l
    · rw [decide_eq_true he]
      obtain ⟨q, rfl⟩ := Int.eq_ofNat_of_zero_le hc.2.1
      have hq : ((l.length : Int) - (q : Int)) = ((l.length - q : Nat) : Int) := by have := hc.1; omega
      have hq1 : 1 ≤ l.length - q := by have := hc.1; omega
      have hlen : (l.take (l.length - q)).length = l.length - q := by rw [List.length_take]; omega
      have hpar : parR (l.take (l.length - q)) (q : Int) = (parD (l.take (l.length - q)) q, 0) := by
        unfold parR
        rw [if_pos (by rw [hlen, ← hq]; unfold cOk at hc ⊢; omega), if_pos (even_take hq1 he), Int.toNat_natCast]
      rw [hq]
      refine Ev.step (fun k => by simp only [tapearchiveref06_Check.j0]; rfl) (Ev.neg (by decide) (Ev.pos (by omega) (Ev.pos (by omega) ?_)))
      rw [Int.toNat_natCast]
      have hr := rparity_ev (l := l.take (l.length - q)) (hb.take_ _) (by rw [wid_take hq1]; exact hw) (by omega) (q : Int)
      rw [hpar] at hr
      refine Ev.bind hr (Ev.bind (same6_ev (parD_allB _ _) (hb.drop_ _) (by rw [parD_length]; omega)) ?_)
      refine Ev.eq (Ev.now _) ?_
      unfold chkR
      rw [Int.toNat_natCast]
      exact decide_eq_decide.2 ⟨fun h => ⟨by rw [hq] at hc ⊢; exact hc, he, h⟩, fun h => h.2.2⟩
    · rw [decide_eq_false he]
      exact out _ _ rfl (fun h => he h.2)
  · rw [decide_eq_false hc]
    exact Ev.neg (by decide) (out _ _ rfl (fun h => hc h.1))
theorem rpar_c {w : World} {A : Option Addr} {n c : Nat} {l : List (List Int)} (h : RC w A n c l) (hb : AllB l) (hw : wid l ≤ 1000) (hl : l.length ≤ 1000) (p : Int) :
    Calls Try.prog 18 #[.slice A n c, .int .i64 p] w fun e w' => ∃ A' c', e = .returned (.tuple #[.slice A' (parR l p).1.length c', .int .i64 (parR l p).2]) ∧ RC w' A' (parR l p).1.length c' (parR l p).1 ∧ Below w.heap.size w w' := by
  obtain ⟨hC, hc⟩ := h
  obtain rfl := hC.1
  obtain ⟨k, hk⟩ := Ev.rounds (rparity_ev hb hw hl p)
  refine (tapearchiveref06_Parity.calls k A c l p _ _ w hC hc hk).mono fun e w' ⟨v, he, hS, hbel⟩ => ?_
  obtain ⟨A', c', rfl, hrc⟩ := N_rc hS
  exact ⟨A', c', he, hrc, hbel⟩
theorem rchk_c {w : World} {A : Option Addr} {n c : Nat} {l : List (List Int)} (h : RC w A n c l) (hb : AllB l) (hw : wid l ≤ 1000) (hl : l.length ≤ 1000) (p : Int) :
    Calls Try.prog 21 #[.slice A n c, .int .i64 p] w fun e w' => e = .returned (.bool (chkR l p)) ∧ Below w.heap.size w w' := by
  obtain ⟨hC, hc⟩ := h
  obtain rfl := hC.1
  obtain ⟨k, hk⟩ := Ev.rounds (ref_check hb hw hl p)
  exact tapearchiveref06_Check.calls k A c l p _ w hC hc hk
set_option maxRecDepth 100000 in
set_option maxHeartbeats 4000000 in
theorem lpar_walk {A0 : Option Addr} {n0 c0 : Nat} {l0 : List (List Int)} (p : Int) (w : World) (h0 : RC w A0 n0 c0 l0) (hb : AllB l0) :
    Calls Try.prog 4 #[.slice A0 n0 c0, .int .i64 p] w fun e w' => e = .returned (.bool true) ∧ Below w.heap.size w w' := by
  have HFB := Aside0.mk (fewV_allB hb)
  have HWD := Aside0.mk (wid_le (fewV_len (l := l0)))
  have HL := Aside0.mk (fewV_length l0)
  have HFEW := Aside0.mk (few_c h0)
  obtain ⟨q, hq⟩ : ∃ q, q = fewV l0 := ⟨_, rfl⟩
  rw [← hq] at HFB HWD HL HFEW
  have hl : q.length ≤ 1000 := by have := HL.out; omega
  obtain ⟨R, hR⟩ : ∃ R, R = parR q p := ⟨_, rfl⟩
  have HRA : Aside0 (AllB R.1) := ⟨by rw [hR]; exact parR_allB _ _⟩
  have HRL : Aside0 (R.1.length ≤ 1000) := ⟨by rw [hR]; exact parR_len _ _⟩
  have HP := Aside0.mk hR
  obtain ⟨K, hK⟩ : ∃ K, K = chkR q p := ⟨_, rfl⟩
  have HK := Aside0.mk hK
  clear h0 hq hR hK
  go_enter Try.func4, Try.ntmps4
  go_wp2_with (first
    | (go_at_call 17; refine HFEW.out.mono ?_; rintro e_ w1 ⟨A2, c2, rfl, h2, hb2⟩; have H2 := Aside0.mk h2; have HB2 := Aside0.mk hb2; clear h2 hb2)
    | (go_at_call 12; refine (par_c H2.out HFB.out HWD.out hl p).mono ?_; rw [← HP.out]; rintro e_ w3 ⟨A3, c3, rfl, h3, hb3⟩; have H3 := Aside0.mk h3; have H2' := Aside0.mk (H2.out.below hb3); have HB3 := Aside0.mk (below_step HB2.out hb3); clear h3 hb3)
    | (go_at_call 18; refine (rpar_c H2'.out HFB.out HWD.out hl p).mono ?_; rw [← HP.out]; rintro e_ w4 ⟨A4, c4, rfl, h4, hb4⟩; have H4 := Aside0.mk h4; have H3' := Aside0.mk (H3.out.below hb4); have H2'' := Aside0.mk (H2'.out.below hb4); have HB4 := Aside0.mk (below_step HB3.out hb4); clear h4 hb4)
    | (go_at_call 19; refine (same_c H3'.out H4.out HRA.out HRA.out HRL.out).mono ?_; rw [decide_eq_true rfl]; rintro e_ w5 ⟨rfl, hb5⟩; have H25 := Aside0.mk (H2''.out.below hb5); have HB5 := Aside0.mk (below_step HB4.out hb5); clear hb5)
    | (go_at_call 20; refine (chk_c H25.out HFB.out HWD.out hl p).mono ?_; rw [← HK.out]; rintro e_ w6 ⟨rfl, hb6⟩; have H26 := Aside0.mk (H25.out.below hb6); have HB6 := Aside0.mk (below_step HB5.out hb6); clear hb6)
    | (go_at_call 21; refine (rchk_c H26.out HFB.out HWD.out hl p).mono ?_; rw [← HK.out]; rintro e_ w7 ⟨rfl, hb7⟩; have HB7 := Aside0.mk (below_step HB6.out hb7); clear hb7)
    | (go_at_call 22; refine (awake_c _).mono ?_; rintro e_ w8 ⟨rfl, hb8⟩; have HB8 := Aside0.mk (below_step HB7.out hb8); clear hb8))
  go_ret
  exact ⟨rfl, HB8.out⟩
def tapearchivelaw06_ErasureParities.f (_ : Nat) (l0 : List (List Int)) (_ : Int) : Option Bool := if AllB l0 then some true else none
theorem tapearchivelaw06_ErasureParities.calls (k : Nat) (A0 : Option Addr) (c0 : Nat) (l0 : List (List Int)) (a1 : Int) (r : Bool) (w : World) (hr0 : Kd.C (Kd.slice 5 (Kd.int .u8)) w A0 l0.length l0) (hc0 : l0.length ≤ c0) (h : tapearchivelaw06_ErasureParities.f k l0 a1 = some r) :
    Calls Try.prog 4 #[.slice A0 l0.length c0, .int .i64 a1] w fun e w' => e = .returned (.bool r) ∧ Below w.heap.size w w' := by
  unfold tapearchivelaw06_ErasureParities.f at h
  by_cases hb : AllB l0
  · rw [if_pos hb] at h
    obtain rfl := Option.some.inj h
    exact lpar_walk a1 w ⟨hr0, hc0⟩ hb
  · rw [if_neg hb] at h
    exact absurd h (by simp)
end Go.Proofs.Ytmlfpcnemganbaa.Q
namespace Go.Proofs.Ytmlfpcnemganbaa.Pure
open Go.Proofs.Ytmlfpcnemganbaa.Q
theorem ErasureParities (l : List (List Int)) (hl : l.length ≤ maxLen) (hw : ∀ r ∈ l, r.length ≤ maxLen ∧ ∀ x ∈ r, (Lit.int .u8 x).wf = true) (p : Int) (hp : (Lit.int .i64 p).wf = true) :
    ∃ k, tapearchivelaw06_ErasureParities.f k l p = some true := ⟨0, by unfold tapearchivelaw06_ErasureParities.f; rw [if_pos (allB_wf hw)]⟩
end Go.Proofs.Ytmlfpcnemganbaa.Pure
