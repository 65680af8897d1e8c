/- matrix.reduce: what it does to a matrix in memory of the call's own. -/
import Derived.Test.YtdeamnmadgemoaaMat
import Derived.Test.YtdeamnmadgemoaaOwnI
import Derived.Deep.LoopGhost
import Derived.StillTailTactics
import Derived.Deep.RegionHeld3
import Derived.Deep.RegionLaw
namespace Go.Proofs.Ytdeamnmadgemoaa.Q
open Go.RowKit Go.Proofs.YtdeamnmadgemoaaW.PrintWords Go.Proofs.YtdeamnmadgemoaaW.PrintLast Go.Proofs.YtdeamnmadgemoaaW.PrintMore
open Go.Proofs.Ytdeamnmadgemoaa.Gf Go.Proofs.Ytdeamnmadgemoaa.Lin
set_option linter.unusedVariables false
set_option linter.unnecessarySimpa false
theorem mul_calls (x y : GF) (w : World) : Calls Try.prog 39 #[.int .u8 (x.v : Int), .int .u8 (y.v : Int)] w fun e w' => e = .returned (.int .u8 ((x * y).v : Int)) ∧ ∃ n, w' = w.drewN n := by
  obtain ⟨k, hk⟩ := Ev.rounds (mul_ev x.h y.h)
  exact (field_Mul.calls k _ _ _ w hk).mono fun e w' ⟨he, hd⟩ => ⟨he, hd.out⟩
theorem inv_calls (x : GF) (h : x ≠ 0) (w : World) : Calls Try.prog 33 #[.int .u8 (x.v : Int)] w fun e w' => e = .returned (.tuple #[.int .u8 ((inv x).v : Int), .bool true]) ∧ Below w.heap.size w w' := by
  rw [inv_v]
  exact inv_some x.v x.h (ne_v h) w
/-- A row and a multiple of another one. -/
def addM (M : Mat) (i r : Nat) (f : GF) : Mat := fun k c => if k = i then M i c + f * M r c else M k c
theorem scale_calls {W : World} {B G cap : Nat} {g cp : Nat → Nat} {N C : Nat} {M : Mat} (h : MatO W B G cap g cp N C M) {i r : Nat} (hi : i < N) (hr : r < N) (hC : C ≤ 1000) (f : GF) :
    Calls Try.prog 40 #[.slice (some ⟨g i, 0, none⟩) C (cp i), .slice (some ⟨g r, 0, none⟩) C (cp r), .int .u8 (f.v : Int)] W fun e w' => e = .returned (.slice (some ⟨W.heap.size, 0, none⟩) C C) ∧
      w'.ownsRow B 5 1 (.slice (some ⟨W.heap.size, 0, none⟩) C C) C (nums .u8 (rowV (addM M i r f) i C)) ∧ Below W.heap.size W w' := by
  obtain ⟨c0, l0⟩ := h.row hi
  obtain ⟨c1, l1⟩ := h.row hr
  have hl0 := rowV_length M i C
  have hl1 := rowV_length M r C
  have hs := scale_walk (some ⟨g i, 0, none⟩) (cp i) (rowV M i C) (some ⟨g r, 0, none⟩) (cp r) (rowV M r C) f.v W c0 l0 c1 l1 (rowV_bytes _ _ _) (rowV_bytes _ _ _) f.h (by omega)
  rw [hl0, hl1] at hs
  refine hs.mono fun e w' ⟨he, hg, hb⟩ => ⟨he, ⟨by simp [nums, rowV_length], .inr ⟨W.heap.size, C, _, rfl, ?_, hg, Nat.le_refl _, by unfold maxLen; omega, by rw [outA_size, hl0]; omega, ?_⟩⟩, hb⟩
  · have := (own_block h.outer).1
    have := (own_block h.outer).2.1
    omega
  · have e1 : scaleL (rowV M i C) (rowV M r C) f.v = rowV (addM M i r f) i C := by
      unfold scaleL
      rw [hl0]
      unfold rowV
      refine List.map_congr_left fun c hc => ?_
      have hc := List.mem_range.1 hc
      show scaleAt (rowV M i C) (rowV M r C) f.v c = _
      unfold scaleAt addM
      rw [if_pos (by rw [hl1]; exact hc), rowV_rd hc, rowV_rd hc, if_pos rfl, Int.toNat_natCast, Int.toNat_natCast]
      rw [add_v, mul_comm_, mul_v]
    have e2 := outA_list (rowV M i C) (rowV M r C) f.v
    rw [hl0] at e2
    rw [e2, e1, List.take_of_length_le (by simp [nums, rowV_length])]
theorem redF_zero (N : Nat) (A : Mat) (r j : Nat) : redF N A r j 0 = (A, r) := rfl
theorem redF_full {N : Nat} {A : Mat} {j : Nat} : ∀ d, redF N A N j d = (A, N)
  | 0 => rfl
  | d + 1 => by unfold redF; rw [if_pos rfl]
theorem pivF_none {A : Mat} {j : Nat} : ∀ (n r : Nat), (∀ i, r ≤ i → i < r + n → A i j = 0) → pivF A j r n = r + n
  | 0, r, _ => rfl
  | n + 1, r, h => by
    unfold pivF
    rw [if_pos (h r (Nat.le_refl _) (by omega)), pivF_none n (r + 1) (fun i h1 h2 => h i (by omega) (by omega))]
    omega
theorem pivF_at {A : Mat} {j : Nat} : ∀ (n r i : Nat), r ≤ i → i < r + n → (∀ k, r ≤ k → k < i → A k j = 0) → A i j ≠ 0 → pivF A j r n = i
  | 0, r, i, h1, h2, _, _ => absurd h2 (by omega)
  | n + 1, r, i, h1, h2, hz, h0 => by
    unfold pivF
    by_cases e : r = i
    · subst e
      rw [if_neg h0]
    · rw [if_pos (hz r (Nat.le_refl _) (by omega))]
      exact pivF_at n (r + 1) i (by omega) (by omega) (fun k h1 h2 => hz k (by omega) h2) h0
theorem redF_none {N : Nat} {A : Mat} {r j d : Nat} (hr : r < N) (hz : ∀ i, r ≤ i → i < N → A i j = 0) : redF N A r j (d + 1) = redF N A r (j + 1) d := by
  rw [redF, if_neg (by omega), pivF_none (N - r) r (fun i h1 h2 => hz i h1 (by omega)), if_pos (by omega)]
theorem redF_some {N : Nat} {A : Mat} {r j d i : Nat} (hr : r ≤ i) (hi : i < N) (hz : ∀ k, r ≤ k → k < i → A k j = 0) (h0 : A i j ≠ 0) : redF N A r j (d + 1) = redF N (elimF (swapF A r i) r j) (r + 1) (j + 1) d := by
  rw [redF, if_neg (by omega), pivF_at (N - r) r i hr (by omega) hz h0, if_neg (by omega)]
/-- A row scaled in its first k columns. -/
def scaleK (A : Mat) (r j k : Nat) : Mat := fun i c => if i = r ∧ c < k then scaleF A r j c else A i c
theorem scaleK_step (A : Mat) (r j k : Nat) {N C : Nat} : ∀ i, i < N → ∀ c, c < C → updM (scaleK A r j k) r k (scaleK A r j k r k * inv (A r j)) i c = scaleK A r j (k + 1) i c := fun i _ c _ => by
  unfold updM scaleK
  by_cases h1 : i = r
  · by_cases h2 : c = k
    · rw [if_pos h1, if_pos h2, if_neg (fun h => absurd h.2 (by omega)), if_pos ⟨h1, by omega⟩, h2]; rfl
    · rw [if_pos h1, if_neg h2]
      by_cases h3 : c < k
      · rw [if_pos ⟨h1, h3⟩, if_pos ⟨h1, by omega⟩]
      · rw [if_neg (fun h => h3 h.2), if_neg (fun h => absurd h.2 (by omega))]
  · rw [if_neg h1, if_neg (fun h => h1 h.1), if_neg (fun h => h1 h.1)]
/-- The rows before i have been cleared in column j, all but row r; row r is scaled. -/
def clearK (A : Mat) (r j i : Nat) : Mat := fun k c => if k = r then scaleF A r j c else if k < i then A k c + A k j * scaleF A r j c else A k c
theorem clearK_zero (A : Mat) (r j : Nat) {N C : Nat} : ∀ i, i < N → ∀ c, c < C → scaleK A r j C i c = clearK A r j 0 i c := fun i _ c hc => by
  unfold scaleK clearK
  by_cases h1 : i = r
  · rw [if_pos ⟨h1, hc⟩, if_pos h1]
  · rw [if_neg (fun h => h1 h.1), if_neg h1, if_neg (by omega)]
theorem clearK_full (A : Mat) (r j N : Nat) {C : Nat} : ∀ i, i < N → ∀ c, c < C → clearK A r j N i c = elimF A r j i c := fun i hi c _ => by
  unfold clearK elimF
  by_cases h1 : i = r
  · rw [if_pos h1, if_pos h1]
  · rw [if_neg h1, if_neg h1, if_pos hi]
theorem clearK_skip (A : Mat) (r j k : Nat) {N C : Nat} (h : k = r ∨ A k j = 0) : ∀ i, i < N → ∀ c, c < C → clearK A r j k i c = clearK A r j (k + 1) i c := fun i _ c _ => by
  unfold clearK
  by_cases h1 : i = r
  · rw [if_pos h1, if_pos h1]
  · rw [if_neg h1, if_neg h1]
    by_cases h2 : i = k
    · rcases h with h | h
      · omega
      · rw [if_neg (by omega), if_pos (by omega), h2, h, zero_mul_, add_zero_]
    · by_cases h3 : i < k
      · rw [if_pos h3, if_pos (by omega)]
      · rw [if_neg h3, if_neg (by omega)]
theorem clearK_col (A : Mat) (r j k : Nat) (h : k ≠ r) : clearK A r j k k j = A k j := by unfold clearK; rw [if_neg h, if_neg (by omega)]
theorem clearK_add (A : Mat) (r j k : Nat) (h : k ≠ r) {N C : Nat} : ∀ i, i < N → ∀ c, c < C → addM (clearK A r j k) k r (A k j) i c = clearK A r j (k + 1) i c := fun i _ c _ => by
  unfold addM
  by_cases h2 : i = k
  · rw [if_pos h2]
    unfold clearK
    rw [if_neg h, if_neg (by omega), if_pos rfl, if_neg (by omega), if_pos (by omega), h2]
  · rw [if_neg h2]
    unfold clearK
    by_cases h1 : i = r
    · rw [if_pos h1, if_pos h1]
    · rw [if_neg h1, if_neg h1]
      by_cases h3 : i < k
      · rw [if_pos h3, if_pos (by omega)]
      · rw [if_neg h3, if_neg (by omega)]
/-- How the call ends. -/
def RedPost (B G cap N C cols : Nat) (M : Mat) (w : World) (e : Ending) (w' : World) : Prop :=
  e = .returned (.int .i64 (rankF N cols M : Nat)) ∧ ∃ g cp, MatO w' B G cap g cp N C (formF N cols M) ∧ Below B w w'
set_option maxRecDepth 100000 in
set_option maxHeartbeats 4000000 in
theorem reduce_walk {N C cols : Nat} (hN : N ≤ 1000) (hC : C ≤ 1000) (hcols : cols ≤ C) (M : Mat) (w : World) (B G cap : Nat) (g0 cp0 : Nat → Nat) (hM : MatO w B G cap g0 cp0 N C M) :
    Calls Try.prog 28 #[.slice (some ⟨G, 0, none⟩) N cap, .int .i64 (cols : Nat)] w (RedPost B G cap N C cols M w) := by
  have hW0 : Aside0 (Below B w w) := ⟨Below.refl _ _⟩
  have HM0 := Aside0.mk hM
  have hcap := Lib.hid (own_cap hM.outer)
  clear hM
  go_enter Try.func28, Try.ntmps28
  go_wp2
  go_step3
  go_wp2
  go_step3
  go_wp2
  go_loopg [5, 13] (cols + 1) (fun kq v5 v13 W => ∃ (r j : Nat) (A : Mat) (g cp : Nat → Nat), Hid (kq + j = cols + 1) ∧ j ≤ cols ∧ r ≤ N ∧ v5 = .int .i64 (r : Nat) ∧ v13 = .int .i64 (j : Nat) ∧ Hid (redF N A r j (cols - j) = redF N M 0 0 cols) ∧ Aside0 (MatO W B G cap g cp N C A) ∧ Aside0 (Below B w W))
  case atStart => exact ⟨0, 0, M, g0, cp0, Lib.hid (by omega), by omega, by omega, rfl, rfl, Lib.hid rfl, HM0, hW0⟩
  case round =>
    clear HM0 hW0
    obtain ⟨r, j, A, g, cp, HK, hj, hr, rfl, rfl, HR, HM, HB⟩ := hrel
    by_cases hjc : j < cols
    · have hj1 : decide ((j : Int) < (cols : Int)) = true := decide_eq_true (by omega)
      have hj2 : decide (j < cols) = true := decide_eq_true hjc
      go_wp2
      go_loopg [7] (N + 1 - r) (fun kq2 v7 W => ∃ i : Nat, Hid (kq2 + i = N + 1) ∧ r ≤ i ∧ i ≤ N ∧ v7 = .int .i64 (i : Nat) ∧ Hid (∀ k, r ≤ k → k < i → A k j = 0) ∧ Aside0 (MatO W B G cap g cp N C A) ∧ Aside0 (Below B w W))
      case atStart => exact ⟨r, Lib.hid (by omega), Nat.le_refl _, hr, rfl, Lib.hid (fun k h1 h2 => absurd h2 (by omega)), HM, HB⟩
      case round =>
        clear HM HB
        obtain ⟨i, HK2, hri, hiN, rfl, HZ, HM, HB⟩ := hrel
        by_cases hrN : r = N
        · have hrN1 : ((r : Int) == (N : Int)) = true := beq_iff_eq.2 (by omega)
          have hrN2 : (r == N) = true := beq_iff_eq.2 hrN
          have HRN := Lib.hid hrN
          clear hrN
          go_wp2
          rw [Exit.noGoto_ret]
          go_ret
          have hrn := HRN.out
          subst hrn
          have e := HR.out
          rw [redF_full] at e
          have e1 : rankF r cols M = r := by unfold rankF; rw [← e]
          have e2 : formF r cols M = A := by unfold formF; rw [← e]
          exact ⟨by rw [e1]; rfl, g, cp, by rw [e2]; exact HM.out, HB.out⟩
        have hrN1 : ((r : Int) == (N : Int)) = false := beq_eq_false_iff_ne.2 (by omega)
        have hrN2 : (r == N) = false := beq_eq_false_iff_ne.2 hrN
        by_cases hiN2 : i = N
        · have hiN3 : ((i : Int) == (N : Int)) = true := beq_iff_eq.2 (by omega)
          have hiN4 : (i == N) = true := beq_iff_eq.2 hiN2
          have HIN := Lib.hid hiN2
          have HRN := Lib.hid hrN
          clear hiN2 hrN
          go_wp2
          go_roundg (cols + 1 - (j + 1))
          case measure => have := HK.out; omega
          case rel =>
            have hi := HIN.out
            have hrn := HRN.out
            refine ⟨r, j + 1, A, g, cp, Lib.hid (by have := HK.out; omega), by omega, hr, rfl, by go_num, Lib.hid ?_, HM, HB⟩
            rw [← HR.out, show cols - j = (cols - (j + 1)) + 1 by omega, redF_none (by omega) (fun k h1 h2 => HZ.out k h1 (by omega))]
        have hiN3 : ((i : Int) == (N : Int)) = false := beq_eq_false_iff_ne.2 (by omega)
        have hiN4 : (i == N) = false := beq_eq_false_iff_ne.2 hiN2
        have hi : i < N := by omega
        have hri2 : r < N := by omega
        obtain ⟨e1, e2⟩ := HM.out.outerCell hi
        obtain ⟨e3, e4⟩ := HM.out.elt hi (show j < C by omega)
        clear hiN2 hrN
        by_cases h0 : A i j = 0
        · rw [h0] at e3
          rw [zero_v] at e3
          have HZ2 : Hid (∀ k, r ≤ k → k < i + 1 → A k j = 0) := Lib.hid fun k h1 h2 => by
            by_cases e : k = i
            · rw [e]; exact h0
            · exact HZ.out k h1 (by omega)
          clear h0
          go_wp2
          go_roundg (N + 1 - (i + 1))
          case measure => have := HK2.out; omega
          case rel => exact ⟨i + 1, Lib.hid (by have := HK2.out; omega), by omega, by omega, by go_num, HZ2, HM, HB⟩
        · have hv := ne_v h0
          have hn1 : (((A i j).v : Int) == 0) = false := beq_eq_false_iff_ne.2 (by omega)
          have hn2 : (((A i j).v : Int) != 0) = true := by simp only [bne, hn1]; rfl
          obtain ⟨e5, e6⟩ := HM.out.outerCell hri2
          have H0 := Lib.hid h0
          have HRI := Lib.hid hri
          have hs1 : (wr.setCell ⟨G, r, none⟩ (.slice (some ⟨g i, 0, none⟩) C (cp i))).cell? ⟨G, i, none⟩ = some (.slice (some ⟨g i, 0, none⟩) C (cp i)) := by
            by_cases e : r = i
            · subst e; exact World.cell?_setCell_same' _ _ _ (by rw [e1]; rfl)
            · rw [World.cell?_setCell_other _ _ _ _ (by simpa using e)]; exact e1
          clear hv h0
          go_wp2
          go_region
          have HM1 := Aside0.mk (HM.out.swap hri2 hi).drew
          have HB1 : Aside0 (Below B w ((wr.setCell ⟨G, r, none⟩ (.slice (some ⟨g i, 0, none⟩) C (cp i))).setCell ⟨G, i, none⟩ (.slice (some ⟨g r, 0, none⟩) C (cp r))).drew) :=
            ⟨below_drew ((HB.out.setCell (p := ⟨G, r, none⟩) (own_block HM.out.outer).1 _).setCell (p := ⟨G, i, none⟩) (own_block HM.out.outer).1 _)⟩
          have H1 : Hid (swapF A r i r j ≠ 0) := Lib.hid (by unfold swapF; rw [if_pos rfl]; exact H0.out)
          have HR1 : Hid (redF N (elimF (swapF A r i) r j) (r + 1) (j + 1) (cols - (j + 1)) = redF N M 0 0 cols) := Lib.hid (by
            rw [← HR.out, show cols - j = (cols - (j + 1)) + 1 by omega, redF_some HRI.out hi HZ.out H0.out])
          clear e1 e2 e3 e4 e5 e6 hs1 hn1 hn2 HM HB HR HZ H0
          generalize ((wr.setCell ⟨G, r, none⟩ (.slice (some ⟨g i, 0, none⟩) C (cp i))).setCell ⟨G, i, none⟩ (.slice (some ⟨g r, 0, none⟩) C (cp r))).drew = W1 at HM1 HB1 ⊢
          generalize swN g r i = g1 at HM1
          generalize swN cp r i = cp1 at HM1
          generalize swapF A r i = A1 at HM1 H1 HR1
          obtain ⟨e1, e2⟩ := HM1.out.outerCell hri2
          obtain ⟨e3, e4⟩ := HM1.out.elt hri2 (show j < C by omega)
          go_wp2_with (go_at_call 33; refine (inv_calls (A1 r j) H1.out _).mono ?_; rintro e_ W2 ⟨rfl, hb2⟩; have HM2 := Aside0.mk (HM1.out.below hb2); have HB2 : Aside0 (Below B w W2) := ⟨HB1.out.trans (hb2.mono (by have := (own_block HM1.out.outer).1; have := (own_block HM1.out.outer).2.1; omega))⟩; clear e1 e2 e3 e4 hb2 HB1 HM1; obtain ⟨e1, e2⟩ := HM2.out.outerCell hri2)
          go_loopg [67] (C + 1) (fun kq3 v67 W => ∃ k : Nat, Hid (kq3 + k = C + 1) ∧ k ≤ C ∧ v67 = .int .i64 (k : Nat) ∧ Aside0 (MatO W B G cap g1 cp1 N C (scaleK A1 r j k)) ∧ Aside0 (Below B w W))
          case atStart => exact ⟨0, Lib.hid (by omega), Nat.zero_le _, rfl, ⟨HM2.out.agree (fun i _ c _ => by unfold scaleK; rw [if_neg (fun h => absurd h.2 (by omega))])⟩, HB2⟩
          case round =>
            clear HM2 HB2 e1 e2
            obtain ⟨k, HK3, hkC, rfl, HM, HB⟩ := hrel
            obtain ⟨e1, e2⟩ := HM.out.outerCell hri2
            by_cases hlt : k < C
            · obtain ⟨e3, e4⟩ := HM.out.elt hri2 hlt
              have hk1 : decide ((k : Int) < (C : Int)) = true := decide_eq_true (by omega)
              have hk2 : decide (k < C) = true := decide_eq_true hlt
              go_wp2
              go_region_law (go_simp; go_at_call 39; refine (mul_calls _ _ _).mono ?_; rintro e_ w_ ⟨rfl, nq, rfl⟩)
              all_goals (
                go_wp2
                go_roundg (C + 1 - (k + 1))
                case measure => have := HK3.out; omega
                case rel =>
                  have hm := (HM.out.setElt k (scaleK A1 r j k r k * inv (A1 r j)) hri2).agree (M' := scaleK A1 r j (k + 1)) (scaleK_step A1 r j k)
                  have hb := HB.out.setCell (p := ⟨g1 r, k, none⟩) (own_block (HM.out.inner r hri2)).1 (.int .u8 ((scaleK A1 r j k r k * inv (A1 r j)).v : Int))
                  exact ⟨k + 1, Lib.hid (by have := HK3.out; omega), by omega, by go_num, ⟨hm.step rfl (fun _ _ => rfl)⟩, ⟨⟨hb.os, hb.tape, hb.output, hb.size, hb.block⟩⟩⟩)
            · have hk1 : decide ((k : Int) < (C : Int)) = false := decide_eq_false (by omega)
              have hk2 : decide (k < C) = false := decide_eq_false hlt
              have hkC2 : k = C := by omega
              have HM3 := Aside0.mk (HM.out.agree (M' := clearK A1 r j 0) (by rw [hkC2]; exact clearK_zero A1 r j))
              clear HM hkC2 e1 e2
              go_wp2
              go_loopg [88] (N + 1) (fun kq4 v88 W => ∃ (k : Nat) (g cp : Nat → Nat), Hid (kq4 + k = N + 1) ∧ k ≤ N ∧ v88 = .int .i64 (k : Nat) ∧ Aside0 (MatO W B G cap g cp N C (clearK A1 r j k)) ∧ Aside0 (Below B w W))
              case atStart => exact ⟨0, g1, cp1, Lib.hid (by omega), Nat.zero_le _, rfl, HM3, HB⟩
              case round =>
                clear HM3 HB
                obtain ⟨k2, g2, cp2, HK4, hkN, rfl, HM, HB⟩ := hrel
                by_cases hkl : k2 < N
                · have hl1 : decide ((k2 : Int) < (N : Int)) = true := decide_eq_true (by omega)
                  have hl2 : decide (k2 < N) = true := decide_eq_true hkl
                  by_cases hkr : k2 = r
                  · have hx1 : ((k2 : Int) == (r : Int)) = true := beq_iff_eq.2 (by omega)
                    have hx2 : ((k2 : Int) != (r : Int)) = false := bne_eq_false_iff_eq.2 (by omega)
                    have hx3 : (k2 == r) = true := beq_iff_eq.2 hkr
                    have HM4 := Aside0.mk (HM.out.agree (clearK_skip A1 r j k2 (.inl hkr)))
                    clear HM hkr
                    go_wp2
                    go_roundg (N + 1 - (k2 + 1))
                    case measure => have := HK4.out; omega
                    case rel => exact ⟨k2 + 1, g2, cp2, Lib.hid (by have := HK4.out; omega), by omega, by go_num, HM4, HB⟩
                  have hx1 : ((k2 : Int) == (r : Int)) = false := beq_eq_false_iff_ne.2 (by omega)
                  have hx2 : ((k2 : Int) != (r : Int)) = true := bne_iff_ne.2 (by omega)
                  have hx3 : (k2 == r) = false := beq_eq_false_iff_ne.2 hkr
                  obtain ⟨e1, e2⟩ := HM.out.outerCell hkl
                  obtain ⟨e3, e4⟩ := HM.out.elt hkl (show j < C by omega)
                  rw [clearK_col A1 r j k2 hkr] at e3
                  by_cases h0 : A1 k2 j = 0
                  · rw [h0, zero_v] at e3
                    have HM4 := Aside0.mk (HM.out.agree (clearK_skip A1 r j k2 (.inr h0)))
                    clear HM hkr h0
                    go_wp2
                    go_roundg (N + 1 - (k2 + 1))
                    case measure => have := HK4.out; omega
                    case rel => exact ⟨k2 + 1, g2, cp2, Lib.hid (by have := HK4.out; omega), by omega, by go_num, HM4, HB⟩
                  · have hv := ne_v h0
                    have hn1 : (((A1 k2 j).v : Int) == 0) = false := beq_eq_false_iff_ne.2 (by omega)
                    have hn2 : (((A1 k2 j).v : Int) != 0) = true := by simp only [bne, hn1]; rfl
                    obtain ⟨e5, e6⟩ := HM.out.outerCell hri2
                    have HKR := Lib.hid hkr
                    have hjC : j < C := by omega
                    have hjC1 : (j : Int) < (C : Int) := by omega
                    have hjC2 : (0 : Int) ≤ (j : Int) := by omega
                    clear hv h0 hkr
                    go_wp2
                    go_region_law (go_simp; go_at_call 40; refine (scale_calls (B := B) (G := G) (cap := cap) (g := g2) (cp := cp2) (M := clearK A1 r j k2) (HM.out.step (by rfl) (by intro _ _; rfl)) hkl hri2 hC (A1 k2 j)).mono ?_; rintro e_ w1 ⟨rfl, ho1, hb1⟩; have HO1 := Aside0.mk ho1; have HB1 := Aside0.mk hb1; have HM1 : Aside0 (MatO w1 B G cap g2 cp2 N C (clearK A1 r j k2)) := ⟨MatO.below (HM.out.step (by rfl) (by intro _ _; rfl)) hb1⟩; clear ho1 hb1; obtain ⟨e7, e8⟩ := HM1.out.outerCell hkl)
                    all_goals (
                      go_wp2
                      go_roundg (N + 1 - (k2 + 1))
                      case measure => have := HK4.out; omega
                      case rel =>
                        have hlow : B ≤ wr.heap.size := by have := (own_block HM.out.outer).1; have := (own_block HM.out.outer).2.1; omega
                        have hm := HM1.out.setRow hkl (p := wr.heap.size) (q := C) (M' := addM (clearK A1 r j k2) k2 r (A1 k2 j)) HO1.out (fun k hk _ => by have := (own_block (HM.out.inner k hk)).2.1; omega) (fun k _ hk c _ => by unfold addM; rw [if_neg hk])
                        have hm2 := hm.agree (clearK_add A1 r j k2 HKR.out)
                        have hb := (HB.out.trans (Below.mono (B := wr.heap.size) ⟨HB1.out.os, HB1.out.tape, HB1.out.output, HB1.out.size, HB1.out.block⟩ hlow)).setCell (p := ⟨G, k2, none⟩) (own_block HM.out.outer).1 (.slice (some ⟨wr.heap.size, 0, none⟩) C C)
                        exact ⟨k2 + 1, _, _, Lib.hid (by have := HK4.out; omega), by omega, by go_num, ⟨hm2.step rfl (fun _ _ => rfl)⟩, ⟨⟨hb.os, hb.tape, hb.output, hb.size, hb.block⟩⟩⟩)
                · have hl1 : decide ((k2 : Int) < (N : Int)) = false := decide_eq_false (by omega)
                  have hl2 : decide (k2 < N) = false := decide_eq_false hkl
                  have hkN2 : k2 = N := by omega
                  have HM4 := Aside0.mk (HM.out.agree (M' := elimF A1 r j) (by rw [hkN2]; exact clearK_full A1 r j N))
                  clear HM hkN2
                  go_wp2
                  go_roundg (cols + 1 - (j + 1))
                  case measure => have := HK.out; omega
                  case rel => exact ⟨r + 1, j + 1, _, g2, cp2, Lib.hid (by have := HK.out; omega), by omega, by omega, by go_num, by go_num, HR1, HM4, HB⟩
    · have hj1 : decide ((j : Int) < (cols : Int)) = false := decide_eq_false (by omega)
      have hj2 : decide (j < cols) = false := decide_eq_false hjc
      go_wp2
      go_ret
      have e : j = cols := by omega
      subst e
      have e := HR.out
      rw [Nat.sub_self, redF_zero] at e
      have e1 : rankF N j M = r := by unfold rankF; rw [← e]
      have e2 : formF N j M = A := by unfold formF; rw [← e]
      exact ⟨by rw [e1]; rfl, g, cp, by rw [e2]; exact HM.out, HB.out⟩
end Go.Proofs.Ytdeamnmadgemoaa.Q
