/- The reference's reduce: the same as matrix.reduce. -/
import Derived.Test.YtdeamnmadgemoaaMRed
import Derived.Test.YtdeamnmadgemoaaREv
namespace Go.Proofs.Ytdeamnmadgemoaa.Q
open Go.RowKit Go.Proofs.YtdeamnmadgemoaaW.PrintWords Go.Proofs.YtdeamnmadgemoaaW.PrintLast Go.Proofs.YtdeamnmadgemoaaW.PrintMore
open Go.Proofs.Ytdeamnmadgemoaa.Gf Go.Proofs.Ytdeamnmadgemoaa.Lin Go.Proofs.Ytdeamnmadgemoaa.Evs
set_option linter.unusedVariables false
set_option linter.unnecessarySimpa false
theorem rmul_calls (x y : GF) (w : World) : Calls Try.prog 37 #[.int .u8 (x.v : Int), .int .u8 (y.v : Int)] w fun e w' => e = .returned (.int .u8 ((x * y).v : Int)) ∧ ∃ n, w' = w.drewN n := by
  obtain ⟨k, hk⟩ := Ev.rounds (rmul_ev x y)
  exact (tapearchiveref05_mul.calls k _ _ _ w hk).mono fun e w' ⟨he, hd⟩ => ⟨he, hd.out⟩
theorem rinv_calls (x : GF) (h : x ≠ 0) (w : World) : Calls Try.prog 34 #[.int .u8 (x.v : Int)] w fun e w' => e = .returned (.int .u8 ((inv x).v : Int)) ∧ ∃ n, w' = w.drewN n := by
  obtain ⟨k, hk⟩ := Ev.rounds (rinv_ev h)
  exact (tapearchiveref05_inverse.calls k _ _ w hk).mono fun e w' ⟨he, hd⟩ => ⟨he, hd.out⟩
theorem swapF_comm (A : Mat) (r i : Nat) : swapF A i r = swapF A r i := by
  funext k
  unfold swapF
  by_cases h1 : k = i
  · rw [if_pos h1]
    by_cases h2 : k = r
    · rw [if_pos h2, ← h1, h2]
    · rw [if_neg h2, if_pos h1]
  · rw [if_neg h1, if_neg h1]
/-- A row to which a multiple of another one is added, as far as k. -/
def addK (M : Mat) (i r : Nat) (f : GF) (k : Nat) : Mat := fun a c => if a = i ∧ c < k then M a c + f * M r c else M a c
theorem addK_zero (M : Mat) (i r : Nat) (f : GF) : addK M i r f 0 = M := by
  funext a c
  unfold addK
  rw [if_neg (by omega)]
theorem addK_full (M : Mat) (i r : Nat) (f : GF) (N C : Nat) : ∀ a, a < N → ∀ c, c < C → addK M i r f C a c = addM M i r f a c := fun a _ c hc => by
  unfold addK addM
  by_cases h : a = i
  · rw [if_pos h, if_pos ⟨h, hc⟩, h]
  · rw [if_neg h, if_neg (fun h2 => h h2.1)]
theorem addK_src {M : Mat} {i r : Nat} (f : GF) (k : Nat) (h : i ≠ r) (c : Nat) : addK M i r f k r c = M r c := by
  unfold addK
  rw [if_neg (fun h2 => h h2.1.symm)]
theorem addK_at (M : Mat) (i r : Nat) (f : GF) (k : Nat) : addK M i r f k i k = M i k := by
  unfold addK
  rw [if_neg (by omega)]
theorem addK_step (M : Mat) (i r : Nat) (f : GF) (k : Nat) : updM (addK M i r f k) i k (M i k + f * M r k) = addK M i r f (k + 1) := by
  funext a c
  unfold updM addK
  by_cases h1 : a = i
  · rw [if_pos h1]
    by_cases h2 : c = k
    · rw [if_pos h2, if_pos ⟨h1, by omega⟩, h1, h2]
    · rw [if_neg h2]
      by_cases h3 : c < k
      · rw [if_pos ⟨h1, h3⟩, if_pos ⟨h1, by omega⟩]
      · rw [if_neg (by omega), if_neg (by omega)]
  · rw [if_neg h1, if_neg (fun h => h1 h.1), if_neg (fun h => h1 h.1)]
set_option maxRecDepth 100000 in
set_option maxHeartbeats 4000000 in
theorem rreduce_walk {N C cols : Nat} (hN : N ≤ 1000) (hC : C ≤ 1000) (hcols : cols ≤ C) (M : Mat) (w : World) (B G cap : Nat) (g0 cp0 : Nat → Nat) (hM : MatO w B G cap g0 cp0 N C M) :
    Calls Try.prog 30 #[.slice (some ⟨G, 0, none⟩) N cap, .int .i64 (cols : Nat)] w (RedPost B G cap N C cols M w) := by
  have hW0 : Aside0 (Below B w w) := ⟨Below.refl _ _⟩
  have HM0 := Aside0.mk hM
  have hcap := Lib.hid (own_cap hM.outer)
  clear hM
  go_enter Try.func30, Try.ntmps30
  go_wp2
  go_loopg [5, 6] (cols + 1) (fun kq v5 v6 W => ∃ (r j : Nat) (A : Mat) (g cp : Nat → Nat), Hid (kq + j = cols + 1) ∧ j ≤ cols ∧ r ≤ N ∧ v5 = .int .i64 (r : Nat) ∧ v6 = .int .i64 (j : Nat) ∧ Hid (redF N A r j (cols - j) = redF N M 0 0 cols) ∧ Aside0 (MatO W B G cap g cp N C A) ∧ Aside0 (Below B w W))
  case atStart => exact ⟨0, 0, M, g0, cp0, Lib.hid (by omega), by omega, by omega, rfl, rfl, Lib.hid rfl, HM0, hW0⟩
  case round =>
    clear HM0 hW0
    obtain ⟨r, j, A, g, cp, HK, hj, hr, rfl, rfl, HR, HM, HB⟩ := hrel
    by_cases hjc : j < cols
    · have hj1 : decide ((j : Int) < (cols : Int)) = true := decide_eq_true (by omega)
      have hj2 : decide (j < cols) = true := decide_eq_true hjc
      by_cases hrN : r < N
      · have hr1 : decide ((r : Int) < (N : Int)) = true := decide_eq_true (by omega)
        have hr2 : decide (r < N) = true := decide_eq_true hrN
        go_wp2
        go_loopg [7] (N + 1 - r) (fun kq2 v7 W => ∃ i : Nat, Hid (kq2 + i = N + 1) ∧ r ≤ i ∧ i ≤ N ∧ v7 = .int .i64 (i : Nat) ∧ Hid (∀ k, r ≤ k → k < i → A k j = 0) ∧ Aside0 (MatO W B G cap g cp N C A) ∧ Aside0 (Below B w W))
        case atStart => exact ⟨r, Lib.hid (by omega), Nat.le_refl _, hr, rfl, Lib.hid (fun k h1 h2 => absurd h2 (by omega)), HM, HB⟩
        case round =>
          clear HM HB
          obtain ⟨i, HK2, hri, hiN, rfl, HZ, HM, HB⟩ := hrel
          by_cases hi : i < N
          · have hi1 : decide ((i : Int) < (N : Int)) = true := decide_eq_true (by omega)
            have hi2 : decide (i < N) = true := decide_eq_true hi
            have hi3 : ((i : Int) == (N : Int)) = false := beq_eq_false_iff_ne.2 (by omega)
            have hi4 : (i == N) = false := beq_eq_false_iff_ne.2 (by omega)
            have hi5 : (i : Int) < (N : Int) := by omega
            have hr5 : (r : Int) < (N : Int) := by omega
            have hjC : j < C := by omega
            have hjC1 : (j : Int) < (C : Int) := by omega
            obtain ⟨e1, e2⟩ := HM.out.outerCell hi
            obtain ⟨e3, e4⟩ := HM.out.elt hi hjC
            by_cases h0 : A i j = 0
            · rw [h0] at e3
              rw [zero_v] at e3
              have HZ2 : Hid (∀ k, r ≤ k → k < i + 1 → A k j = 0) := Lib.hid fun k h1 h2 => by
                by_cases e : k = i
                · rw [e]; exact h0
                · exact HZ.out k h1 (by omega)
              clear h0
              go_wp2
              go_roundg (N + 1 - (i + 1))
              case measure => have := HK2.out; omega
              case rel => exact ⟨i + 1, Lib.hid (by have := HK2.out; omega), by omega, by omega, by go_num, HZ2, HM, HB⟩
            · have hv := ne_v h0
              have hn1 : (((A i j).v : Int) == 0) = false := beq_eq_false_iff_ne.2 (by omega)
              have hn2 : (((A i j).v : Int) != 0) = true := by simp only [bne, hn1]; rfl
              obtain ⟨e5, e6⟩ := HM.out.outerCell hrN
              have H0 := Lib.hid h0
              have HRI := Lib.hid hri
              have hs1 : (wr.setCell ⟨G, i, none⟩ (.slice (some ⟨g r, 0, none⟩) C (cp r))).cell? ⟨G, r, none⟩ = some (.slice (some ⟨g r, 0, none⟩) C (cp r)) := by
                by_cases e : r = i
                · subst e; exact World.cell?_setCell_same' _ _ _ (by rw [e1]; rfl)
                · rw [World.cell?_setCell_other _ _ _ _ (by simpa using fun h => e h.symm)]; exact e5
              have HM1 : Aside0 (MatO ((wr.setCell ⟨G, i, none⟩ (.slice (some ⟨g r, 0, none⟩) C (cp r))).setCell ⟨G, r, none⟩ (.slice (some ⟨g i, 0, none⟩) C (cp i))) B G cap (swN g i r) (swN cp i r) N C (swapF A r i)) := ⟨by
                rw [← swapF_comm]; exact HM.out.swap hi hrN⟩
              have HB1 : Aside0 (Below B w ((wr.setCell ⟨G, i, none⟩ (.slice (some ⟨g r, 0, none⟩) C (cp r))).setCell ⟨G, r, none⟩ (.slice (some ⟨g i, 0, none⟩) C (cp i)))) :=
                ⟨(HB.out.setCell (p := ⟨G, i, none⟩) (own_block HM.out.outer).1 _).setCell (p := ⟨G, r, none⟩) (own_block HM.out.outer).1 _⟩
              have H1 : Hid (swapF A r i r j ≠ 0) := Lib.hid (by unfold swapF; rw [if_pos rfl]; exact H0.out)
              have HR1 : Hid (redF N (elimF (swapF A r i) r j) (r + 1) (j + 1) (cols - (j + 1)) = redF N M 0 0 cols) := Lib.hid (by
                rw [← HR.out, show cols - j = (cols - (j + 1)) + 1 by omega, redF_some HRI.out hi HZ.out H0.out])
              have hgr : swN g i r r = g i := by unfold swN; rw [if_pos rfl]
              have hcr : swN cp i r r = cp i := by unfold swN; rw [if_pos rfl]
              obtain ⟨x3, x4⟩ := HM1.out.elt hrN hjC
              rw [hgr] at x3 x4
              clear hv h0
              go_wp2_with (first | (go_at_call 34; refine (rinv_calls (swapF A r i r j) H1.out _).mono ?_; rintro e_ W2 ⟨rfl, nd, rfl⟩))
              have HM2 := Aside0.mk (HM1.out.drewN nd)
              have HB2 := Aside0.mk (pw_below_drewN HB1.out nd)
              clear e1 e2 e3 e4 e5 e6 hs1 hn1 hn2 HM HB HR HZ H0 HM1 HB1 x3 x4
              generalize ((wr.setCell ⟨G, i, none⟩ (.slice (some ⟨g r, 0, none⟩) C (cp r))).setCell ⟨G, r, none⟩ (.slice (some ⟨g i, 0, none⟩) C (cp i))).drewN nd = W1 at HM2 HB2 ⊢
              generalize swN g i r = g1 at HM2 hgr
              generalize swN cp i r = cp1 at HM2 hcr
              generalize swapF A r i = A1 at HM2 H1 HR1 ⊢
              generalize g i = p0 at hgr ⊢
              generalize cp i = q0 at hcr ⊢
              go_loopg [10] (C + 1) (fun kq3 v10 W => ∃ k : Nat, Hid (kq3 + k = C + 1) ∧ k ≤ C ∧ v10 = .int .i64 (k : Nat) ∧ Aside0 (MatO W B G cap g1 cp1 N C (scaleK A1 r j k)) ∧ Aside0 (Below B w W))
              case atStart => exact ⟨0, Lib.hid (by omega), Nat.zero_le _, rfl, ⟨HM2.out.agree (fun i _ c _ => by unfold scaleK; rw [if_neg (fun h => absurd h.2 (by omega))])⟩, HB2⟩
              case round =>
                clear HM2 HB2
                obtain ⟨k, HK3, hkC, rfl, HM, HB⟩ := hrel
                by_cases hlt : k < C
                · obtain ⟨e3, e4⟩ := HM.out.elt hrN hlt
                  rw [hgr] at e3 e4
                  have hk1 : decide ((k : Int) < (C : Int)) = true := decide_eq_true (by omega)
                  have hk2 : decide (k < C) = true := decide_eq_true hlt
                  have hk3 : (k : Int) < (C : Int) := by omega
                  go_wp2_with (first | (go_at_call 37; refine (rmul_calls _ _ _).mono ?_; rintro e_ w_ ⟨rfl, nq, rfl⟩))
                  go_roundg (C + 1 - (k + 1))
                  case measure => have := HK3.out; omega
                  case rel =>
                    have hm := (HM.out.setElt k (scaleK A1 r j k r k * inv (A1 r j)) hrN).agree (M' := scaleK A1 r j (k + 1)) (scaleK_step A1 r j k)
                    have hb := HB.out.setCell (p := ⟨g1 r, k, none⟩) (own_block (HM.out.inner r hrN)).1 (.int .u8 ((scaleK A1 r j k r k * inv (A1 r j)).v : Int))
                    rw [hgr] at hm hb
                    exact ⟨k + 1, Lib.hid (by have := HK3.out; omega), by omega, by go_num, ⟨hm.step rfl (fun _ _ => rfl)⟩, ⟨⟨hb.os, hb.tape, hb.output, hb.size, hb.block⟩⟩⟩
                · have hk1 : decide ((k : Int) < (C : Int)) = false := decide_eq_false (by omega)
                  have hk2 : decide (k < C) = false := decide_eq_false hlt
                  have hkC2 : k = C := by omega
                  have HM3 := Aside0.mk (HM.out.agree (M' := clearK A1 r j 0) (by rw [hkC2]; exact clearK_zero A1 r j))
                  clear HM hkC2
                  go_wp2
                  go_loopg [11] (N + 1) (fun kq4 v11 W => ∃ k : Nat, Hid (kq4 + k = N + 1) ∧ k ≤ N ∧ v11 = .int .i64 (k : Nat) ∧ Aside0 (MatO W B G cap g1 cp1 N C (clearK A1 r j k)) ∧ Aside0 (Below B w W))
                  case atStart => exact ⟨0, Lib.hid (by omega), Nat.zero_le _, rfl, HM3, HB⟩
                  case round =>
                    clear HM3 HB
                    obtain ⟨k2, HK4, hkN, rfl, HM, HB⟩ := hrel
                    by_cases hkl : k2 < N
                    · have hl1 : decide ((k2 : Int) < (N : Int)) = true := decide_eq_true (by omega)
                      have hl2 : decide (k2 < N) = true := decide_eq_true hkl
                      have hl3 : (k2 : Int) < (N : Int) := by omega
                      obtain ⟨e1, e2⟩ := HM.out.outerCell hkl
                      obtain ⟨e3, e4⟩ := HM.out.elt hkl hjC
                      by_cases hkr : k2 = r
                      · have hx1 : ((k2 : Int) == (r : Int)) = true := beq_iff_eq.2 (by omega)
                        have hx2 : (k2 == r) = true := beq_iff_eq.2 hkr
                        have HM4 := Aside0.mk (HM.out.agree (clearK_skip A1 r j k2 (.inl hkr)))
                        clear HM hkr
                        go_wp2
                        go_roundg (N + 1 - (k2 + 1))
                        case measure => have := HK4.out; omega
                        case rel => exact ⟨k2 + 1, Lib.hid (by have := HK4.out; omega), by omega, by go_num, HM4, HB⟩
                      have hx1 : ((k2 : Int) == (r : Int)) = false := beq_eq_false_iff_ne.2 (by omega)
                      have hx2 : (k2 == r) = false := beq_eq_false_iff_ne.2 hkr
                      rw [clearK_col A1 r j k2 hkr] at e3
                      by_cases h0 : A1 k2 j = 0
                      · rw [h0, zero_v] at e3
                        have HM4 := Aside0.mk (HM.out.agree (clearK_skip A1 r j k2 (.inr h0)))
                        clear HM hkr h0
                        go_wp2
                        go_roundg (N + 1 - (k2 + 1))
                        case measure => have := HK4.out; omega
                        case rel => exact ⟨k2 + 1, Lib.hid (by have := HK4.out; omega), by omega, by go_num, HM4, HB⟩
                      · have hv := ne_v h0
                        have hn1 : (((A1 k2 j).v : Int) == 0) = false := beq_eq_false_iff_ne.2 (by omega)
                        have HKR := Lib.hid hkr
                        clear hv h0 hkr
                        go_wp2
                        go_loopg [13] (C + 1) (fun kq5 v13 W => ∃ c : Nat, Hid (kq5 + c = C + 1) ∧ c ≤ C ∧ v13 = .int .i64 (c : Nat) ∧ Aside0 (MatO W B G cap g1 cp1 N C (addK (clearK A1 r j k2) k2 r (A1 k2 j) c)) ∧ Aside0 (Below B w W))
                        case atStart => exact ⟨0, Lib.hid (by omega), Nat.zero_le _, rfl, ⟨by rw [addK_zero]; exact HM.out⟩, HB⟩
                        case round =>
                          clear HM HB e1 e2 e3 e4
                          obtain ⟨c, HK5, hcC, rfl, HM, HB⟩ := hrel
                          by_cases hlc : c < C
                          · have hc1 : decide ((c : Int) < (C : Int)) = true := decide_eq_true (by omega)
                            have hc2 : decide (c < C) = true := decide_eq_true hlc
                            have hc3 : (c : Int) < (C : Int) := by omega
                            obtain ⟨e1, e2⟩ := HM.out.outerCell hkl
                            obtain ⟨e3, e4⟩ := HM.out.elt hkl hlc
                            obtain ⟨e5, e6⟩ := HM.out.elt hrN hlc
                            rw [hgr] at e5 e6
                            rw [addK_at] at e3
                            rw [addK_src _ _ HKR.out] at e5
                            go_wp2
                            go_region_law (go_simp; go_at_call 37; refine (rmul_calls (A1 k2 j) (clearK A1 r j k2 r c) _).mono ?_; rintro e_ w_ ⟨rfl, nq, rfl⟩)
                            all_goals (
                              rw [xor_u8 (clearK A1 r j k2 k2 c).h (A1 k2 j * clearK A1 r j k2 r c).h]
                              go_wp2
                              go_roundg (C + 1 - (c + 1))
                              case measure => have := HK5.out; omega
                              case rel =>
                                have hm := HM.out.setElt c (clearK A1 r j k2 k2 c + A1 k2 j * clearK A1 r j k2 r c) hkl
                                have hb := HB.out.setCell (p := ⟨g1 k2, c, none⟩) (own_block (HM.out.inner k2 hkl)).1 (.int .u8 ((clearK A1 r j k2 k2 c + A1 k2 j * clearK A1 r j k2 r c).v : Int))
                                rw [addK_step] at hm
                                exact ⟨c + 1, Lib.hid (by have := HK5.out; omega), by omega, by go_num, ⟨hm.step rfl (fun _ _ => rfl)⟩, ⟨⟨hb.os, hb.tape, hb.output, hb.size, hb.block⟩⟩⟩)
                          · have hc1 : decide ((c : Int) < (C : Int)) = false := decide_eq_false (by omega)
                            have hc2 : decide (c < C) = false := decide_eq_false hlc
                            have hcC2 : c = C := by omega
                            have HM4 := Aside0.mk ((HM.out.agree (by rw [hcC2]; exact addK_full _ _ _ _ N C)).agree (clearK_add A1 r j k2 HKR.out))
                            clear HM hcC2
                            go_wp2
                            go_roundg (N + 1 - (k2 + 1))
                            case measure => have := HK4.out; omega
                            case rel => exact ⟨k2 + 1, Lib.hid (by have := HK4.out; omega), by omega, by go_num, HM4, HB⟩
                    · have hl1 : decide ((k2 : Int) < (N : Int)) = false := decide_eq_false (by omega)
                      have hl2 : decide (k2 < N) = false := decide_eq_false hkl
                      have hkN2 : k2 = N := by omega
                      have HM4 := Aside0.mk (HM.out.agree (M' := elimF A1 r j) (by rw [hkN2]; exact clearK_full A1 r j N))
                      clear HM hkN2
                      go_wp2
                      go_roundg (cols + 1 - (j + 1))
                      case measure => have := HK.out; omega
                      case rel => exact ⟨r + 1, j + 1, _, g1, cp1, Lib.hid (by have := HK.out; omega), by omega, by omega, by go_num, by go_num, HR1, HM4, HB⟩
          · have hi1 : decide ((i : Int) < (N : Int)) = false := decide_eq_false (by omega)
            have hi2 : decide (i < N) = false := decide_eq_false hi
            have hiN2 : i = N := by omega
            have hi3 : ((i : Int) == (N : Int)) = true := beq_iff_eq.2 (by omega)
            have hi4 : (i == N) = true := beq_iff_eq.2 hiN2
            have HIN := Lib.hid hiN2
            clear hiN2
            go_wp2
            go_roundg (cols + 1 - (j + 1))
            case measure => have := HK.out; omega
            case rel =>
              have hi := HIN.out
              refine ⟨r, j + 1, A, g, cp, Lib.hid (by have := HK.out; omega), by omega, hr, rfl, by go_num, Lib.hid ?_, HM, HB⟩
              rw [← HR.out, show cols - j = (cols - (j + 1)) + 1 by omega, redF_none (by omega) (fun k h1 h2 => HZ.out k h1 (by omega))]
      · have hr1 : decide ((r : Int) < (N : Int)) = false := decide_eq_false (by omega)
        have hr2 : decide (r < N) = false := decide_eq_false hrN
        go_wp2
        go_ret
        have hrn : r = N := by omega
        subst hrn
        have e := HR.out
        rw [redF_full] at e
        have e1 : rankF r cols M = r := by unfold rankF; rw [← e]
        have e2 : formF r cols M = A := by unfold formF; rw [← e]
        exact ⟨by rw [e1]; rfl, g, cp, by rw [e2]; exact HM.out, HB.out⟩
    · have hj1 : decide ((j : Int) < (cols : Int)) = false := decide_eq_false (by omega)
      have hj2 : decide (j < cols) = false := decide_eq_false hjc
      go_wp2
      go_ret
      have e : j = cols := by omega
      subst e
      have e := HR.out
      rw [Nat.sub_self, redF_zero] at e
      have e1 : rankF N j M = r := by unfold rankF; rw [← e]
      have e2 : formF N j M = A := by unfold formF; rw [← e]
      exact ⟨by rw [e1]; rfl, g, cp, by rw [e2]; exact HM.out, HB.out⟩
end Go.Proofs.Ytdeamnmadgemoaa.Q
