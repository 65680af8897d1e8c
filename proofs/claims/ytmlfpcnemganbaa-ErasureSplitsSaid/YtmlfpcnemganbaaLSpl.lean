/- The statement ErasureSplits, walked. -/
import Derived.Test.YtmlfpcnemganbaaRSpl
namespace Go.Proofs.Ytmlfpcnemganbaa.Q
open Go.RowKit Go.Proofs.YtmlfpcnemganbaaW.PrintWords Go.Proofs.YtmlfpcnemganbaaW.PrintLast Go.Proofs.YtmlfpcnemganbaaW.PrintMore
open Go.Proofs.Ytmlfpcnemganbaa.Gf Go.Proofs.Ytmlfpcnemganbaa.Lin Go.Proofs.Ytmlfpcnemganbaa.Evs
set_option linter.unusedVariables false
set_option linter.unnecessarySimpa false
theorem split_c {w : World} {A : Option Addr} {n c : Nat} {b : List Int} (h : BC w A n c b) (hb : n ≤ 1000) (p : Int) :
    Calls Try.prog 27 #[.slice A n c, .int .i64 p] w fun e w' => ∃ A' c', e = .returned (.tuple #[.slice A' (splitR b p).1.length c', .int .i64 (splitR b p).2]) ∧ RC w' A' (splitR b p).1.length c' (splitR b p).1 ∧ Below w.heap.size w w' := by
  obtain rfl := h.len
  unfold splitR
  by_cases hp : 1 ≤ p ∧ p ≤ 16
  · rw [if_pos hp]
    obtain ⟨n, rfl⟩ := Int.eq_ofNat_of_zero_le (show 0 ≤ p by omega)
    rw [Int.toNat_natCast]
    refine (split_walk (n := n) (s := sizeS b n) (by omega) (by omega) (by omega) rfl w h).mono fun e w' ⟨v, he, hS, hbel⟩ => ?_
    obtain ⟨A', c', rfl, hrc⟩ := S_rc hS
    exact ⟨A', c', he, hrc, hbel⟩
  · rw [if_neg hp]
    refine (split_bad (b := b) (by omega) w).mono fun e w' ⟨he, hbel⟩ => ?_
    exact ⟨none, 0, he, ⟨⟨rfl, Nat.zero_le _, fun h => absurd h (Nat.lt_irrefl _)⟩, Nat.le_refl _⟩, hbel⟩
theorem rsplit_c {w : World} {A : Option Addr} {n c : Nat} {b : List Int} (h : BC w A n c b) (hb : n ≤ 1000) (p : Int) :
    Calls Try.prog 28 #[.slice A n c, .int .i64 p] w fun e w' => ∃ A' c', e = .returned (.tuple #[.slice A' (splitR b p).1.length c', .int .i64 (splitR b p).2]) ∧ RC w' A' (splitR b p).1.length c' (splitR b p).1 ∧ Below w.heap.size w w' := by
  obtain ⟨hC, hc⟩ := h
  obtain rfl := hC.1
  obtain ⟨k, hk⟩ := Ev.rounds (rsplit_ev hb p)
  refine (tapearchiveref06_Split.calls k A c b p _ _ w hC hc hk).mono fun e w' ⟨v, he, hS, hbel⟩ => ?_
  obtain ⟨A', c', rfl, hrc⟩ := S_rc hS
  exact ⟨A', c', he, hrc, hbel⟩
theorem rjoin_c {w : World} {A : Option Addr} {n c : Nat} {l : List (List Int)} (h : RC w A n c l) (hn : n ≤ 1000) (hr : ∀ r ∈ l, r.length ≤ 1000) (p : Int) :
    Calls Try.prog 30 #[.slice A n c, .int .i64 p] w fun e w' => ∃ A' c', e = .returned (.tuple #[.slice A' (joinR l p).1.length c', .int .i64 (joinR l p).2]) ∧ BC w' A' (joinR l p).1.length c' (joinR l p).1 ∧ Below w.heap.size w w' := by
  obtain ⟨hC, hc⟩ := h
  obtain rfl := hC.1
  obtain ⟨k, hk⟩ := Ev.rounds (rjoin_ev hn hr p)
  refine (tapearchiveref06_Join.calls k A c l p _ _ w hC hc hk).mono fun e w' ⟨v, he, hS, hbel⟩ => ?_
  obtain ⟨A', c', rfl, hrc⟩ := R_bc hS
  exact ⟨A', c', he, hrc, hbel⟩
theorem BC.str {w : World} {A : Option Addr} {n c : Nat} {l : List Int} (h : BC w A n c l) : (convert 33 9 (.slice A n c)).run Try.prog w = .ok (.string (strOfNums l)) w :=
  Kd.C_string Try.underlying33 Try.underlying5 Try.underlying9 h.row
theorem splitR_facts {b : List Int} (hb : Bytes b) (hl : b.length ≤ 300) (p : Int) : AllB (splitR b p).1 ∧ (splitR b p).1.length ≤ 1000 ∧ ∀ r ∈ (splitR b p).1, r.length ≤ 1000 := by
  unfold splitR
  by_cases hp : 1 ≤ p ∧ p ≤ 16
  · rw [if_pos hp]
    have hs := sizeS_le (b := b) (n := p.toNat) (by omega)
    exact ⟨splitV_allB hb, by show (splitV _ _ _ _).length ≤ 1000; rw [splitV_length]; omega, splitV_row (by omega)⟩
  · rw [if_neg hp]
    exact ⟨fun r hr => absurd hr (by simp), Nat.zero_le _, fun r hr => absurd hr (by simp)⟩
set_option maxRecDepth 100000 in
set_option maxHeartbeats 8000000 in
theorem lspl_walk {A0 A2 : Option Addr} {n0 c0 m n2 c2 : Nat} {b : List Int} {l : List (List Int)} (p z : Int) (w : World) (h0 : BC w A0 m c0 b) (hm : m ≤ 300) (hcase : (n0 ≤ 300 ∧ m = n0) ∨ (300 < n0 ∧ m = 300)) (hn0 : n0 ≤ c0) (hbb : Bytes b) (h2 : RC w A2 n2 c2 l) :
    Calls Try.prog 9 #[.slice A0 n0 c0, .int .i64 p, .slice A2 n2 c2, .int .i64 z] w fun e w' => e = .returned (.bool true) ∧ Below w.heap.size w w' := by
  have hbl := h0.len
  have hsf := splitR_facts hbb (by omega) p
  have HBB := Aside0.mk h0
  have HFEW := Aside0.mk (few_c h2)
  have HQL := Aside0.mk (fewV_length l)
  have HFL := Aside0.mk (fewV_len (l := l))
  have hjs : 1 ≤ p ∧ p ≤ 16 → joinR (splitR b p).1 (m : Int) = (b, 0) ∧ (splitR b p).2 = 0 := fun hp => by
    unfold splitR
    rw [if_pos hp, ← hbl]
    exact ⟨join_split (by omega), rfl⟩
  have hjn : ¬ (1 ≤ p ∧ p ≤ 16) → (splitR b p).2 = 7 := fun hp => by
    unfold splitR
    rw [if_neg hp]
  obtain ⟨X, hX⟩ : ∃ X, X = splitR b p := ⟨_, rfl⟩
  obtain ⟨q, hq⟩ : ∃ q, q = fewV l := ⟨_, rfl⟩
  rw [← hX] at hsf hjs hjn
  rw [← hq] at HFEW HQL HFL
  obtain ⟨U, hU⟩ : ∃ U, U = joinR q z := ⟨_, rfl⟩
  obtain ⟨K, hK⟩ : ∃ K, K = joinR X.1 (m : Int) := ⟨_, rfl⟩
  rw [← hK] at hjs
  have HX := Aside0.mk hX
  have HU := Aside0.mk hU
  have HK := Aside0.mk hK
  have HXA := Aside0.mk hsf.1
  have HXL := Aside0.mk hsf.2.1
  have HXN := Aside0.mk hsf.2.1
  have HXR := Aside0.mk hsf.2.2
  have hm1000 : m ≤ 1000 := by omega
  clear h0 h2 hX hq hU hK hsf hbb hbl
  by_cases hp : 1 ≤ p ∧ p ≤ 16
  · obtain ⟨hKe, hX2⟩ := hjs hp
    obtain ⟨X1, X2⟩ := X
    obtain rfl : X2 = 0 := hX2
    subst hKe
    clear hjs hjn
    rcases hcase with ⟨hle, rfl⟩ | ⟨hgt, hm3⟩
    · have hd1 : decide ((300 : Int) < (m : Int)) = false := decide_eq_false (by omega)
      have hd2 : decide (300 < m) = false := decide_eq_false (by omega)
      go_enter Try.func9, Try.ntmps9
      go_wp2_with (first
        | (go_at_call 17; refine HFEW.out.mono ?_; rintro e_ w1 ⟨A2, c2, rfl, h2, hb2⟩; have HRL := Aside0.mk h2; have HB1 := Aside0.mk hb2; have HBb := Aside0.mk (HBB.out.below hb2); clear h2 hb2)
        | (go_at_call 27; refine (split_c HBb.out hm1000 p).mono ?_; rw [← HX.out]; rintro e_ w2 ⟨A3, c3, rfl, h3, hb3⟩; have HRX := Aside0.mk h3; have HRL2 := Aside0.mk (HRL.out.below hb3); have HBb2 := Aside0.mk (HBb.out.below hb3); have HB2 := Aside0.mk (below_step HB1.out hb3); clear h3 hb3)
        | (go_at_call 28; refine (rsplit_c HBb2.out hm1000 p).mono ?_; rw [← HX.out]; rintro e_ w3 ⟨A4, c4, rfl, h4, hb4⟩; have HRY := Aside0.mk h4; have HRX3 := Aside0.mk (HRX.out.below hb4); have HRL3 := Aside0.mk (HRL2.out.below hb4); have HBb3 := Aside0.mk (HBb2.out.below hb4); have HB3 := Aside0.mk (below_step HB2.out hb4); have hj1 := join_walk (p := z) w3 HRL3.out (by have := HQL.out; omega) HFL.out; rw [← HU.out] at hj1; have HJ1 := Aside0.mk hj1; clear h4 hb4 hj1)
        | (go_at_call 29; (with_reducible refine HJ1.out.mono ?_); rintro e_ w4 ⟨A5, c5, rfl, h5, hb5⟩; have HBU := Aside0.mk h5; have HRX4 := Aside0.mk (HRX3.out.below hb5); have HRY4 := Aside0.mk (HRY.out.below hb5); have HRL4 := Aside0.mk (HRL3.out.below hb5); have HBb4 := Aside0.mk (HBb3.out.below hb5); have HB4 := Aside0.mk (below_step HB3.out hb5); clear h5 hb5)
        | (go_at_call 29; (with_reducible refine HJ2.out.mono ?_); rintro e_ w7 ⟨A7, c7, rfl, h8, hb8⟩; have hcvK := (show BC w7 A7 b.length c7 b from h8).str; have hcvB := (HBb6.out.below hb8).str; have HB7 := Aside0.mk (below_step HB6.out hb8); clear h8 hb8)
        | (go_at_call 30; refine (rjoin_c HRL4.out (by have := HQL.out; omega) HFL.out z).mono ?_; rw [← HU.out]; rintro e_ w5 ⟨A6, c6, rfl, h6, hb6⟩; have HBV := Aside0.mk h6; have HBU5 := Aside0.mk (HBU.out.below hb6); have HRX5 := Aside0.mk (HRX4.out.below hb6); have HRY5 := Aside0.mk (HRY4.out.below hb6); have HBb5 := Aside0.mk (HBb4.out.below hb6); have HB5 := Aside0.mk (below_step HB4.out hb6); clear h6 hb6)
        | (go_at_call 19; refine (same_c HRX5.out HRY5.out HXA.out HXA.out HXL.out).mono ?_; rw [decide_eq_true rfl]; rintro e_ w6 ⟨rfl, hb7⟩; have hcvU := (HBU5.out.below hb7).str; have hcvV := (HBV.out.below hb7).str; have HRX6 := Aside0.mk (HRX5.out.below hb7); have HBb6 := Aside0.mk (HBb5.out.below hb7); have HB6 := Aside0.mk (below_step HB5.out hb7); have hj2 := join_walk (p := (m : Int)) w6 HRX6.out HXN.out HXR.out; rw [← HK.out] at hj2; have HJ2 := Aside0.mk hj2; clear hb7 hj2)
        | (go_at_call 22; refine (awake_c _).mono ?_; rintro e_ w8 ⟨rfl, hb9⟩; have HB8 := Aside0.mk (below_step HB7.out hb9); clear hb9))
      go_ret
      exact ⟨rfl, HB8.out⟩
    · have hd1 : decide ((300 : Int) < (n0 : Int)) = true := decide_eq_true (by omega)
      have hd2 : decide (300 < n0) = true := decide_eq_true (by omega)
      have hcut : ∀ W : World, (Instr.slice 33 (.slice A0 n0 c0) none (some (.int .i64 300)) none).run Try.prog W = .ok (.slice A0 m c0) W := by
        rw [hm3]
        obtain ⟨i0, hi0, _⟩ := info_parts info5
        exact cut_to (P := Try.prog) 33 5 .i64 Try.underlying33 hi0 A0 n0 c0 300 (by omega) (by omega) hn0
      clear hm3
      go_enter Try.func9, Try.ntmps9
      go_wp2_with (first
        | (go_at_call 17; refine HFEW.out.mono ?_; rintro e_ w1 ⟨A2, c2, rfl, h2, hb2⟩; have HRL := Aside0.mk h2; have HB1 := Aside0.mk hb2; have HBb := Aside0.mk (HBB.out.below hb2); clear h2 hb2)
        | (go_at_call 27; refine (split_c HBb.out hm1000 p).mono ?_; rw [← HX.out]; rintro e_ w2 ⟨A3, c3, rfl, h3, hb3⟩; have HRX := Aside0.mk h3; have HRL2 := Aside0.mk (HRL.out.below hb3); have HBb2 := Aside0.mk (HBb.out.below hb3); have HB2 := Aside0.mk (below_step HB1.out hb3); clear h3 hb3)
        | (go_at_call 28; refine (rsplit_c HBb2.out hm1000 p).mono ?_; rw [← HX.out]; rintro e_ w3 ⟨A4, c4, rfl, h4, hb4⟩; have HRY := Aside0.mk h4; have HRX3 := Aside0.mk (HRX.out.below hb4); have HRL3 := Aside0.mk (HRL2.out.below hb4); have HBb3 := Aside0.mk (HBb2.out.below hb4); have HB3 := Aside0.mk (below_step HB2.out hb4); have hj1 := join_walk (p := z) w3 HRL3.out (by have := HQL.out; omega) HFL.out; rw [← HU.out] at hj1; have HJ1 := Aside0.mk hj1; clear h4 hb4 hj1)
        | (go_at_call 29; (with_reducible refine HJ1.out.mono ?_); rintro e_ w4 ⟨A5, c5, rfl, h5, hb5⟩; have HBU := Aside0.mk h5; have HRX4 := Aside0.mk (HRX3.out.below hb5); have HRY4 := Aside0.mk (HRY.out.below hb5); have HRL4 := Aside0.mk (HRL3.out.below hb5); have HBb4 := Aside0.mk (HBb3.out.below hb5); have HB4 := Aside0.mk (below_step HB3.out hb5); clear h5 hb5)
        | (go_at_call 29; (with_reducible refine HJ2.out.mono ?_); rintro e_ w7 ⟨A7, c7, rfl, h8, hb8⟩; have hcvK := (show BC w7 A7 b.length c7 b from h8).str; have hcvB := (HBb6.out.below hb8).str; have HB7 := Aside0.mk (below_step HB6.out hb8); clear h8 hb8)
        | (go_at_call 30; refine (rjoin_c HRL4.out (by have := HQL.out; omega) HFL.out z).mono ?_; rw [← HU.out]; rintro e_ w5 ⟨A6, c6, rfl, h6, hb6⟩; have HBV := Aside0.mk h6; have HBU5 := Aside0.mk (HBU.out.below hb6); have HRX5 := Aside0.mk (HRX4.out.below hb6); have HRY5 := Aside0.mk (HRY4.out.below hb6); have HBb5 := Aside0.mk (HBb4.out.below hb6); have HB5 := Aside0.mk (below_step HB4.out hb6); clear h6 hb6)
        | (go_at_call 19; refine (same_c HRX5.out HRY5.out HXA.out HXA.out HXL.out).mono ?_; rw [decide_eq_true rfl]; rintro e_ w6 ⟨rfl, hb7⟩; have hcvU := (HBU5.out.below hb7).str; have hcvV := (HBV.out.below hb7).str; have HRX6 := Aside0.mk (HRX5.out.below hb7); have HBb6 := Aside0.mk (HBb5.out.below hb7); have HB6 := Aside0.mk (below_step HB5.out hb7); have hj2 := join_walk (p := (m : Int)) w6 HRX6.out HXN.out HXR.out; rw [← HK.out] at hj2; have HJ2 := Aside0.mk hj2; clear hb7 hj2)
        | (go_at_call 22; refine (awake_c _).mono ?_; rintro e_ w8 ⟨rfl, hb9⟩; have HB8 := Aside0.mk (below_step HB7.out hb9); clear hb9))
      go_ret
      exact ⟨rfl, HB8.out⟩
  · have hX2 := hjn hp
    obtain ⟨X1, X2⟩ := X
    obtain rfl : X2 = 7 := hX2
    clear hjs hjn
    rcases hcase with ⟨hle, rfl⟩ | ⟨hgt, hm3⟩
    · have hd1 : decide ((300 : Int) < (m : Int)) = false := decide_eq_false (by omega)
      have hd2 : decide (300 < m) = false := decide_eq_false (by omega)
      go_enter Try.func9, Try.ntmps9
      go_wp2_with (first
        | (go_at_call 17; refine HFEW.out.mono ?_; rintro e_ w1 ⟨A2, c2, rfl, h2, hb2⟩; have HRL := Aside0.mk h2; have HB1 := Aside0.mk hb2; have HBb := Aside0.mk (HBB.out.below hb2); clear h2 hb2)
        | (go_at_call 27; refine (split_c HBb.out hm1000 p).mono ?_; rw [← HX.out]; rintro e_ w2 ⟨A3, c3, rfl, h3, hb3⟩; have HRX := Aside0.mk h3; have HRL2 := Aside0.mk (HRL.out.below hb3); have HBb2 := Aside0.mk (HBb.out.below hb3); have HB2 := Aside0.mk (below_step HB1.out hb3); clear h3 hb3)
        | (go_at_call 28; refine (rsplit_c HBb2.out hm1000 p).mono ?_; rw [← HX.out]; rintro e_ w3 ⟨A4, c4, rfl, h4, hb4⟩; have HRY := Aside0.mk h4; have HRX3 := Aside0.mk (HRX.out.below hb4); have HRL3 := Aside0.mk (HRL2.out.below hb4); have HBb3 := Aside0.mk (HBb2.out.below hb4); have HB3 := Aside0.mk (below_step HB2.out hb4); have hj1 := join_walk (p := z) w3 HRL3.out (by have := HQL.out; omega) HFL.out; rw [← HU.out] at hj1; have HJ1 := Aside0.mk hj1; clear h4 hb4 hj1)
        | (go_at_call 29; (with_reducible refine HJ1.out.mono ?_); rintro e_ w4 ⟨A5, c5, rfl, h5, hb5⟩; have HBU := Aside0.mk h5; have HRX4 := Aside0.mk (HRX3.out.below hb5); have HRY4 := Aside0.mk (HRY.out.below hb5); have HRL4 := Aside0.mk (HRL3.out.below hb5); have HBb4 := Aside0.mk (HBb3.out.below hb5); have HB4 := Aside0.mk (below_step HB3.out hb5); clear h5 hb5)
        | (go_at_call 29; (with_reducible refine HJ2.out.mono ?_); rintro e_ w7 ⟨A7, c7, rfl, h8, hb8⟩; skip; have HB7 := Aside0.mk (below_step HB6.out hb8); clear h8 hb8)
        | (go_at_call 30; refine (rjoin_c HRL4.out (by have := HQL.out; omega) HFL.out z).mono ?_; rw [← HU.out]; rintro e_ w5 ⟨A6, c6, rfl, h6, hb6⟩; have HBV := Aside0.mk h6; have HBU5 := Aside0.mk (HBU.out.below hb6); have HRX5 := Aside0.mk (HRX4.out.below hb6); have HRY5 := Aside0.mk (HRY4.out.below hb6); have HBb5 := Aside0.mk (HBb4.out.below hb6); have HB5 := Aside0.mk (below_step HB4.out hb6); clear h6 hb6)
        | (go_at_call 19; refine (same_c HRX5.out HRY5.out HXA.out HXA.out HXL.out).mono ?_; rw [decide_eq_true rfl]; rintro e_ w6 ⟨rfl, hb7⟩; have hcvU := (HBU5.out.below hb7).str; have hcvV := (HBV.out.below hb7).str; have HRX6 := Aside0.mk (HRX5.out.below hb7); have HBb6 := Aside0.mk (HBb5.out.below hb7); have HB6 := Aside0.mk (below_step HB5.out hb7); have hj2 := join_walk (p := (m : Int)) w6 HRX6.out HXN.out HXR.out; rw [← HK.out] at hj2; have HJ2 := Aside0.mk hj2; clear hb7 hj2)
        | (go_at_call 22; refine (awake_c _).mono ?_; rintro e_ w8 ⟨rfl, hb9⟩; have HB8 := Aside0.mk (below_step HB7.out hb9); clear hb9))
      go_ret
      exact ⟨rfl, HB8.out⟩
    · have hd1 : decide ((300 : Int) < (n0 : Int)) = true := decide_eq_true (by omega)
      have hd2 : decide (300 < n0) = true := decide_eq_true (by omega)
      have hcut : ∀ W : World, (Instr.slice 33 (.slice A0 n0 c0) none (some (.int .i64 300)) none).run Try.prog W = .ok (.slice A0 m c0) W := by
        rw [hm3]
        obtain ⟨i0, hi0, _⟩ := info_parts info5
        exact cut_to (P := Try.prog) 33 5 .i64 Try.underlying33 hi0 A0 n0 c0 300 (by omega) (by omega) hn0
      clear hm3
      go_enter Try.func9, Try.ntmps9
      go_wp2_with (first
        | (go_at_call 17; refine HFEW.out.mono ?_; rintro e_ w1 ⟨A2, c2, rfl, h2, hb2⟩; have HRL := Aside0.mk h2; have HB1 := Aside0.mk hb2; have HBb := Aside0.mk (HBB.out.below hb2); clear h2 hb2)
        | (go_at_call 27; refine (split_c HBb.out hm1000 p).mono ?_; rw [← HX.out]; rintro e_ w2 ⟨A3, c3, rfl, h3, hb3⟩; have HRX := Aside0.mk h3; have HRL2 := Aside0.mk (HRL.out.below hb3); have HBb2 := Aside0.mk (HBb.out.below hb3); have HB2 := Aside0.mk (below_step HB1.out hb3); clear h3 hb3)
        | (go_at_call 28; refine (rsplit_c HBb2.out hm1000 p).mono ?_; rw [← HX.out]; rintro e_ w3 ⟨A4, c4, rfl, h4, hb4⟩; have HRY := Aside0.mk h4; have HRX3 := Aside0.mk (HRX.out.below hb4); have HRL3 := Aside0.mk (HRL2.out.below hb4); have HBb3 := Aside0.mk (HBb2.out.below hb4); have HB3 := Aside0.mk (below_step HB2.out hb4); have hj1 := join_walk (p := z) w3 HRL3.out (by have := HQL.out; omega) HFL.out; rw [← HU.out] at hj1; have HJ1 := Aside0.mk hj1; clear h4 hb4 hj1)
        | (go_at_call 29; (with_reducible refine HJ1.out.mono ?_); rintro e_ w4 ⟨A5, c5, rfl, h5, hb5⟩; have HBU := Aside0.mk h5; have HRX4 := Aside0.mk (HRX3.out.below hb5); have HRY4 := Aside0.mk (HRY.out.below hb5); have HRL4 := Aside0.mk (HRL3.out.below hb5); have HBb4 := Aside0.mk (HBb3.out.below hb5); have HB4 := Aside0.mk (below_step HB3.out hb5); clear h5 hb5)
        | (go_at_call 29; (with_reducible refine HJ2.out.mono ?_); rintro e_ w7 ⟨A7, c7, rfl, h8, hb8⟩; skip; have HB7 := Aside0.mk (below_step HB6.out hb8); clear h8 hb8)
        | (go_at_call 30; refine (rjoin_c HRL4.out (by have := HQL.out; omega) HFL.out z).mono ?_; rw [← HU.out]; rintro e_ w5 ⟨A6, c6, rfl, h6, hb6⟩; have HBV := Aside0.mk h6; have HBU5 := Aside0.mk (HBU.out.below hb6); have HRX5 := Aside0.mk (HRX4.out.below hb6); have HRY5 := Aside0.mk (HRY4.out.below hb6); have HBb5 := Aside0.mk (HBb4.out.below hb6); have HB5 := Aside0.mk (below_step HB4.out hb6); clear h6 hb6)
        | (go_at_call 19; refine (same_c HRX5.out HRY5.out HXA.out HXA.out HXL.out).mono ?_; rw [decide_eq_true rfl]; rintro e_ w6 ⟨rfl, hb7⟩; have hcvU := (HBU5.out.below hb7).str; have hcvV := (HBV.out.below hb7).str; have HRX6 := Aside0.mk (HRX5.out.below hb7); have HBb6 := Aside0.mk (HBb5.out.below hb7); have HB6 := Aside0.mk (below_step HB5.out hb7); have hj2 := join_walk (p := (m : Int)) w6 HRX6.out HXN.out HXR.out; rw [← HK.out] at hj2; have HJ2 := Aside0.mk hj2; clear hb7 hj2)
        | (go_at_call 22; refine (awake_c _).mono ?_; rintro e_ w8 ⟨rfl, hb9⟩; have HB8 := Aside0.mk (below_step HB7.out hb9); clear hb9))
      go_ret
      exact ⟨rfl, HB8.out⟩
end Go.Proofs.Ytmlfpcnemganbaa.Q
namespace Go.Proofs.Ytmlfpcnemganbaa.Q
open Go.RowKit Go.Proofs.YtmlfpcnemganbaaW.PrintWords Go.Proofs.Ytmlfpcnemganbaa.Evs
def tapearchivelaw06_ErasureSplits.f (_ : Nat) (l0 : List Int) (_ : Int) (l2 : List (List Int)) (_ : Int) : Option Bool := if Bytes l0 then some true else none
theorem tapearchivelaw06_ErasureSplits.calls (k : Nat) (A0 : Option Addr) (c0 : Nat) (l0 : List Int) (a1 : Int) (A2 : Option Addr) (c2 : Nat) (l2 : List (List Int)) (a3 : Int) (r : Bool) (w : World) (hr0 : Kd.C (Kd.int .u8) w A0 l0.length l0) (hc0 : l0.length ≤ c0) (hr2 : Kd.C (Kd.slice 5 (Kd.int .u8)) w A2 l2.length l2) (hc2 : l2.length ≤ c2) (h : tapearchivelaw06_ErasureSplits.f k l0 a1 l2 a3 = some r) :
    Calls Try.prog 9 #[.slice A0 l0.length c0, .int .i64 a1, .slice A2 l2.length c2, .int .i64 a3] w fun e w' => e = .returned (.bool r) ∧ Below w.heap.size w w' := by
  unfold tapearchivelaw06_ErasureSplits.f at h
  by_cases hb : Bytes l0
  · rw [if_pos hb] at h
    obtain rfl := Option.some.inj h
    by_cases hl : l0.length ≤ 300
    · exact lspl_walk a1 a3 w ⟨hr0, hc0⟩ hl (.inl ⟨hl, rfl⟩) hc0 hb ⟨hr2, hc2⟩
    · have ht := Kd.C_take (m := 300) hr0 (by omega)
      have e : (l0.take 300).length = 300 := by rw [List.length_take]; omega
      rw [e] at ht
      exact lspl_walk a1 a3 w ⟨ht, by omega⟩ (Nat.le_refl _) (.inr ⟨by omega, rfl⟩) hc0 (fun x hx => hb x (List.mem_of_mem_take hx)) ⟨hr2, hc2⟩
  · rw [if_neg hb] at h
    exact absurd h (by simp)
end Go.Proofs.Ytmlfpcnemganbaa.Q
namespace Go.Proofs.Ytmlfpcnemganbaa.Pure
open Go.Proofs.Ytmlfpcnemganbaa.Q
theorem ErasureSplits (b : List Int) (hbl : b.length ≤ maxLen) (hbw : ∀ x ∈ b, (Lit.int .u8 x).wf = true) (n : Int) (hn : (Lit.int .i64 n).wf = true) (l : List (List Int)) (hl : l.length ≤ maxLen) (hw : ∀ r ∈ l, r.length ≤ maxLen ∧ ∀ x ∈ r, (Lit.int .u8 x).wf = true) (p : Int) (hp : (Lit.int .i64 p).wf = true) :
    ∃ k, tapearchivelaw06_ErasureSplits.f k b n l p = some true := ⟨0, by unfold tapearchivelaw06_ErasureSplits.f; rw [if_pos (bytes_wf hbw)]⟩
end Go.Proofs.Ytmlfpcnemganbaa.Pure
