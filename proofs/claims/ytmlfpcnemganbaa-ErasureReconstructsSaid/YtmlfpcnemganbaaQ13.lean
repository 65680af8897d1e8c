-- Written for this claim by a program (see NOTES.md): functions of the translation as plain Lean functions, with proofs. Lean checks it.
import Derived.Test.YtmlfpcnemganbaaQ0
import Derived.Test.YtmlfpcnemganbaaQ8
import Derived.Test.YtmlfpcnemganbaaQ9
import Derived.Test.YtmlfpcnemganbaaQ10
import Derived.Test.YtmlfpcnemganbaaGR
namespace Go.Proofs.Ytmlfpcnemganbaa.Q
open Go.RowKit Go.Proofs.YtmlfpcnemganbaaW.PrintWords Go.Proofs.YtmlfpcnemganbaaW.PrintLast Go.Proofs.YtmlfpcnemganbaaW.PrintMore
attribute [local go_sem] max2_int min2_int max_two min_two max_three min_three max_four min_four   -- for this text's walks alone
set_option linter.unusedVariables false
set_option linter.unusedSimpArgs false

/-! ### tapearchiveref06_Reconstruct: function 23 -/
mutual
def tapearchiveref06_Reconstruct.j0 : Nat → List (List Int) → List Bool → Int → Int → Bool → Option ((List (List Int)) × Int)
  | 0, _, _, _, _, _ => none
  | k + 1, x0, x1, x2, x8, x34 => if x34 = true then (some (([] : List (List Int)), 7)) else (if (x1.length : Int) = (x0.length : Int) then ((tapearchiveref06_rows.f k x8 x2).bind fun t510 => (tapearchiveref06_Reconstruct.l0 k x0 x1 x2 x8 t510 ([] : List (List Int)) ([] : List (List Int)) 0)) else (some (([] : List (List Int)), 8)))
def tapearchiveref06_Reconstruct.l0 : Nat → List (List Int) → List Bool → Int → Int → List (List Int) → List (List Int) → List (List Int) → Int → Option ((List (List Int)) × Int)
  | 0, _, _, _, _, _, _, _, _ => none
  | k + 1, x0, x1, x2, x8, x9, x10, x11, x12 => if x12 < (x0.length : Int) then (if 0 ≤ x12 then (if x12 < (x1.length : Int) then (if rdOf false x1 x12 = true then (if x10.length < 5864062014805 then (if x12 < (x9.length : Int) then (if x11.length < 5864062014805 then (tapearchiveref06_Reconstruct.l0 k x0 x1 x2 x8 x9 (x10 ++ [rd_L1 x0 x12]) (x11 ++ [rd_L1 x9 x12]) (wrap64 (x12 + 1))) else (none)) else (none)) else (none)) else (tapearchiveref06_Reconstruct.l0 k x0 x1 x2 x8 x9 x10 x11 (wrap64 (x12 + 1)))) else (none)) else (none)) else ((tapearchiveref06_equal.f k x10).bind fun t522 => (if t522 = true then (if (x10.length : Int) < x8 then (some (([] : List (List Int)), 23)) else (if 0 ≤ x8 then (if x8 ≤ (x11.length : Int) then ((tapearchiveref05_Invert.f (x11.take (x8 : Int).toNat)).bind fun bt528 => (tapearchiveref06_Reconstruct.l1 k x2 x8 x10 bt528.1 ([] : List (List Int)) 0)) else (none)) else (none))) else (some (([] : List (List Int)), 8))))
def tapearchiveref06_Reconstruct.l1 : Nat → Int → Int → List (List Int) → List (List Int) → List (List Int) → Int → Option ((List (List Int)) × Int)
  | 0, _, _, _, _, _, _ => none
  | k + 1, x2, x8, x10, x13, x15, x16 => if x16 < x8 then (if 0 ≤ x16 then (if x16 < (x13.length : Int) then (if 0 ≤ x8 then (if x8 ≤ (x10.length : Int) then ((tapearchiveref06_times.f k (rd_L1 x13 x16) (x10.take (x8 : Int).toNat)).bind fun t538 => (if x15.length < 5864062014805 then (tapearchiveref06_Reconstruct.l1 k x2 x8 x10 x13 (x15 ++ [t538]) (wrap64 (x16 + 1))) else (none))) else (none)) else (none)) else (none)) else (none)) else ((tapearchiveref06_Parity.f k x15 x2).bind fun bt544 => (if x15.length + bt544.1.length < 5864062014805 then (some ((x15 ++ bt544.1), 0)) else (none)))
end
def tapearchiveref06_Reconstruct.f (k : Nat) (l0 : List (List Int)) (l1 : List Bool) (a2 : Int) : Option ((List (List Int)) × Int) := if a2 < 0 then (tapearchiveref06_Reconstruct.j0 k l0 l1 a2 (wrap64 ((l0.length : Int) - a2)) true) else (if a2 > 16 then (tapearchiveref06_Reconstruct.j0 k l0 l1 a2 (wrap64 ((l0.length : Int) - a2)) true) else ((tapearchiveref06_valid.f (wrap64 ((l0.length : Int) - a2)) a2).bind fun t509 => (tapearchiveref06_Reconstruct.j0 k l0 l1 a2 (wrap64 ((l0.length : Int) - a2)) (!t509))))
theorem tapearchiveref06_Reconstruct.mono_l : ∀ k, (∀ y0 y1 y2 y3 y4, LeO (tapearchiveref06_Reconstruct.j0 k y0 y1 y2 y3 y4) (tapearchiveref06_Reconstruct.j0 (k + 1) y0 y1 y2 y3 y4)) ∧ (∀ y0 y1 y2 y3 y4 y5 y6 y7, LeO (tapearchiveref06_Reconstruct.l0 k y0 y1 y2 y3 y4 y5 y6 y7) (tapearchiveref06_Reconstruct.l0 (k + 1) y0 y1 y2 y3 y4 y5 y6 y7)) ∧ (∀ y0 y1 y2 y3 y4 y5, LeO (tapearchiveref06_Reconstruct.l1 k y0 y1 y2 y3 y4 y5) (tapearchiveref06_Reconstruct.l1 (k + 1) y0 y1 y2 y3 y4 y5))
  | 0 => ⟨fun _ _ _ _ _ r h => by simp [tapearchiveref06_Reconstruct.j0] at h, fun _ _ _ _ _ _ _ _ r h => by simp [tapearchiveref06_Reconstruct.l0] at h, fun _ _ _ _ _ _ r h => by simp [tapearchiveref06_Reconstruct.l1] at h⟩
  | k + 1 => by
    obtain ⟨ih0, ih1, ih2⟩ := tapearchiveref06_Reconstruct.mono_l k
    refine ⟨?_, ?_, ?_⟩
    · intro y0 y1 y2 y3 y4
      unfold tapearchiveref06_Reconstruct.j0
      repeat' first
      | (with_reducible exact ih0 _ _ _ _ _)
      | (with_reducible exact ih1 _ _ _ _ _ _ _ _)
      | (with_reducible exact ih2 _ _ _ _ _ _)
      | (with_reducible exact tapearchiveref06_Parity.mono _ _ _)
      | (with_reducible exact tapearchiveref06_equal.mono _ _)
      | (with_reducible exact tapearchiveref06_rows.mono _ _ _)
      | (with_reducible exact tapearchiveref06_times.mono _ _ _)
      | (with_reducible exact LeO.refl _)
      | (with_reducible exact LeO.none _)
      | (with_reducible refine LeO.ite ?_ ?_)
      | (with_reducible refine LeO.bind ?_ (fun _ => ?_))
      | exact ih0 _ _ _ _ _
      | exact ih1 _ _ _ _ _ _ _ _
      | exact ih2 _ _ _ _ _ _
      | exact tapearchiveref06_Parity.mono _ _ _
      | exact tapearchiveref06_equal.mono _ _
      | exact tapearchiveref06_rows.mono _ _ _
      | exact tapearchiveref06_times.mono _ _ _
      | exact LeO.none _
      | refine LeO.ite ?_ ?_
      | refine LeO.bind ?_ (fun _ => ?_)
    · intro y0 y1 y2 y3 y4 y5 y6 y7
      unfold tapearchiveref06_Reconstruct.l0
      repeat' first
      | (with_reducible exact ih0 _ _ _ _ _)
      | (with_reducible exact ih1 _ _ _ _ _ _ _ _)
      | (with_reducible exact ih2 _ _ _ _ _ _)
      | (with_reducible exact tapearchiveref06_Parity.mono _ _ _)
      | (with_reducible exact tapearchiveref06_equal.mono _ _)
      | (with_reducible exact tapearchiveref06_rows.mono _ _ _)
      | (with_reducible exact tapearchiveref06_times.mono _ _ _)
      | (with_reducible exact LeO.refl _)
      | (with_reducible exact LeO.none _)
      | (with_reducible refine LeO.ite ?_ ?_)
      | (with_reducible refine LeO.bind ?_ (fun _ => ?_))
      | exact ih0 _ _ _ _ _
      | exact ih1 _ _ _ _ _ _ _ _
      | exact ih2 _ _ _ _ _ _
      | exact tapearchiveref06_Parity.mono _ _ _
      | exact tapearchiveref06_equal.mono _ _
      | exact tapearchiveref06_rows.mono _ _ _
      | exact tapearchiveref06_times.mono _ _ _
      | exact LeO.none _
      | refine LeO.ite ?_ ?_
      | refine LeO.bind ?_ (fun _ => ?_)
    · intro y0 y1 y2 y3 y4 y5
      unfold tapearchiveref06_Reconstruct.l1
      repeat' first
      | (with_reducible exact ih0 _ _ _ _ _)
      | (with_reducible exact ih1 _ _ _ _ _ _ _ _)
      | (with_reducible exact ih2 _ _ _ _ _ _)
      | (with_reducible exact tapearchiveref06_Parity.mono _ _ _)
      | (with_reducible exact tapearchiveref06_equal.mono _ _)
      | (with_reducible exact tapearchiveref06_rows.mono _ _ _)
      | (with_reducible exact tapearchiveref06_times.mono _ _ _)
      | (with_reducible exact LeO.refl _)
      | (with_reducible exact LeO.none _)
      | (with_reducible refine LeO.ite ?_ ?_)
      | (with_reducible refine LeO.bind ?_ (fun _ => ?_))
      | exact ih0 _ _ _ _ _
      | exact ih1 _ _ _ _ _ _ _ _
      | exact ih2 _ _ _ _ _ _
      | exact tapearchiveref06_Parity.mono _ _ _
      | exact tapearchiveref06_equal.mono _ _
      | exact tapearchiveref06_rows.mono _ _ _
      | exact tapearchiveref06_times.mono _ _ _
      | exact LeO.none _
      | refine LeO.ite ?_ ?_
      | refine LeO.bind ?_ (fun _ => ?_)
theorem tapearchiveref06_Reconstruct.mono : ∀ a0 a1 a2 k, LeO (tapearchiveref06_Reconstruct.f k a0 a1 a2) (tapearchiveref06_Reconstruct.f (k + 1) a0 a1 a2) := by
  intro a0 a1 a2 k
  obtain ⟨ih0, ih1, ih2⟩ := tapearchiveref06_Reconstruct.mono_l k
  unfold tapearchiveref06_Reconstruct.f
  repeat' first
      | (with_reducible exact ih0 _ _ _ _ _)
      | (with_reducible exact ih1 _ _ _ _ _ _ _ _)
      | (with_reducible exact ih2 _ _ _ _ _ _)
      | (with_reducible exact tapearchiveref06_Parity.mono _ _ _)
      | (with_reducible exact tapearchiveref06_equal.mono _ _)
      | (with_reducible exact tapearchiveref06_rows.mono _ _ _)
      | (with_reducible exact tapearchiveref06_times.mono _ _ _)
      | (with_reducible exact LeO.refl _)
      | (with_reducible exact LeO.none _)
      | (with_reducible refine LeO.ite ?_ ?_)
      | (with_reducible refine LeO.bind ?_ (fun _ => ?_))
      | exact ih0 _ _ _ _ _
      | exact ih1 _ _ _ _ _ _ _ _
      | exact ih2 _ _ _ _ _ _
      | exact tapearchiveref06_Parity.mono _ _ _
      | exact tapearchiveref06_equal.mono _ _
      | exact tapearchiveref06_rows.mono _ _ _
      | exact tapearchiveref06_times.mono _ _ _
      | exact LeO.none _
      | refine LeO.ite ?_ ?_
      | refine LeO.bind ?_ (fun _ => ?_)
def tapearchiveref06_Reconstruct.T23 : Bool × List (List Nat × List Nat) := (true, [([], []), ([], []), ([], []), ([1, 2], [1, 2]), ([3], [3]), ([], []), ([], []), ([5, 6], [5, 6]), ([4, 7], [4, 7]), ([8], [8]), ([0, 9, 8], [0, 9]), ([10, 10, 0, 1, 2, 3, 4, 5, 6, 7, 8, 9, 10], [0, 10])])
def tapearchiveref06_Reconstruct.B23 : List Nat := [0, 0, 0, 6, 14, 0, 0, 96, 254, 510, 1023, 2047]
theorem tapearchiveref06_Reconstruct.tab23 : rtab .any (opsOf Try.f23 23) = tapearchiveref06_Reconstruct.T23 := by kernel_rfl
theorem tapearchiveref06_Reconstruct.bits23 : waitsOk tapearchiveref06_Reconstruct.T23.2 tapearchiveref06_Reconstruct.B23 = true := by kernel_rfl
set_option maxHeartbeats 8000000 in
set_option maxRecDepth 100000 in
theorem tapearchiveref06_Reconstruct.calls (k : Nat) (P0_ : Nat → Prop) (A0 : Option Addr) (c0 : Nat) (l0 : List (List Int)) (A1 : Option Addr) (c1 : Nat) (l1 : List Bool) (a2 : Int) (r1 : List (List Int)) (r2 : Int) (w : World) (hs0 : Kd.V (Kd.slice 5 (Kd.int .u8)) 33 w w.heap.size (fun k_ => P0_ k_) (.slice A0 l0.length c0) l0) (hr1 : Kd.C Kd.bool w A1 l1.length l1) (hc1 : l1.length ≤ c1) (h : tapearchiveref06_Reconstruct.f k l0 l1 a2 = some (r1, r2)) :
    Calls Try.prog 23 #[.slice A0 l0.length c0, .slice A1 l1.length c1, .int .i64 a2] w fun e w' => ∃ v0_ : Value, e = .returned (.tuple #[v0_, .int .i64 r2]) ∧ Kd.N (Kd.slice 5 (Kd.int .u8)) 33 w' w.heap.size (fun k_ => (P0_ k_ ∨ w.heap.size ≤ k_)) v0_ r1 ∧ Below w.heap.size w w' := by
  have HO0 := Aside0.mk (show Kd.V (Kd.slice 5 (Kd.int .u8)) 33 w w.heap.size (fun k_ => (P0_ k_ ∨ w.heap.size ≤ k_)) (.slice A0 l0.length c0) l0 from Kd.V_mono hs0 (fun k_ hk => .inl hk))
  have HR1 := Aside0.mk hr1
  have HC1 := Aside0.mk hc1
  clear hr1 hc1
  have HB := Aside0.mk (Below.refl w.heap.size w)
  have H : (if a2 < 0 then (tapearchiveref06_Reconstruct.j0 k l0 l1 a2 (wrap64 ((l0.length : Int) - a2)) true) else (if a2 > 16 then (tapearchiveref06_Reconstruct.j0 k l0 l1 a2 (wrap64 ((l0.length : Int) - a2)) true) else ((tapearchiveref06_valid.f (wrap64 ((l0.length : Int) - a2)) a2).bind fun t509 => (tapearchiveref06_Reconstruct.j0 k l0 l1 a2 (wrap64 ((l0.length : Int) - a2)) (!t509))))) = some (r1, r2) := h
  clear h
  have HC4 := Aside0.mk H
  clear H
  go_enter Try.func23, Try.ntmps23
  go_upto_region 2 with (fail)
  go_cut [34] (fun v34 wc => ∃ (kq : Nat) (x34_3 : Bool), v34 = .bool x34_3 ∧ Aside0 (tapearchiveref06_Reconstruct.j0 kq l0 l1 a2 (wrap64 ((l0.length : Int) - a2)) x34_3 = some (r1, r2)) ∧ Aside0 (kq ≤ k) ∧ Aside0 (Kd.V (Kd.slice 5 (Kd.int .u8)) 33 wc w.heap.size (fun k_ => (P0_ k_ ∨ w.heap.size ≤ k_)) (.slice A0 l0.length c0) l0) ∧ Aside0 (Below w.heap.size w wc))
  case first =>
    have H := HC4.out
    clear HC4
    by_cases c5 : a2 < 0
    · rw [if_pos c5] at H
      have c5b0 : decide (a2 < 0) = true := decide_eq_true c5
      clear c5
      (first | rw [c5b0] | (simp only [i64_w, i32_w]; rw [c5b0]) | skip)
      have H' := Aside0.mk H
      clear H
      go_wp2
      go_meet
      case rel => exact ⟨_, (true), (by first | rfl | (simp; done) | (simp [*]; done)), H', ⟨by first | omega | exact Nat.le_refl _⟩, ⟨by (with_reducible repeat (first | apply Kd.V_alloc | apply Kd.V_drewN | apply Kd.V_drew)); exact HO0.out⟩, ⟨by repeat (first | (with_reducible first | exact HB.out | apply below_alloc | apply pw_below_drewN | apply below_drew1) | exact HB.out)⟩⟩
    · rw [if_neg c5] at H
      have c5b0 : decide (a2 < 0) = false := decide_eq_false c5
      clear c5
      (first | rw [c5b0] | (simp only [i64_w, i32_w]; rw [c5b0]) | skip)
      by_cases c6 : a2 > 16
      · rw [if_pos c6] at H
        have c6b0 : decide (16 < a2) = true := decide_eq_true c6
        clear c6
        have H' := Aside0.mk H
        clear H
        go_wp2
        go_meet
        case rel => exact ⟨_, (true), (by first | rfl | (simp; done) | (simp [*]; done)), H', ⟨by first | omega | exact Nat.le_refl _⟩, ⟨by (with_reducible repeat (first | apply Kd.V_alloc | apply Kd.V_drewN | apply Kd.V_drew)); exact HO0.out⟩, ⟨by repeat (first | (with_reducible first | exact HB.out | apply below_alloc | apply pw_below_drewN | apply below_drew1) | exact HB.out)⟩⟩
      · rw [if_neg c6] at H
        have c6b0 : decide (16 < a2) = false := decide_eq_false c6
        clear c6
        replace H := Option.bind_eq_some_iff.mp H
        obtain ⟨t509, A70, H⟩ := H
        replace H : (tapearchiveref06_Reconstruct.j0 k l0 l1 a2 (wrap64 ((l0.length : Int) - a2)) (!t509)) = some (r1, r2) := H
        have A7 := Aside0.mk A70
        clear A70
        have H' := Aside0.mk H
        clear H
        go_wp2_with (first | (go_at_call 45; (with_reducible refine (tapearchiveref06_valid.calls (wrap64 ((l0.length : Int) - a2)) a2 t509 _ A7.out).mono ?_); rintro e w' ⟨rfl, ⟨nd, rfl⟩⟩))
        go_meet
        case rel => exact ⟨_, (!t509), (by first | rfl | (simp; done) | (simp [*]; done)), H', ⟨by first | omega | exact Nat.le_refl _⟩, ⟨by (with_reducible repeat (first | apply Kd.V_alloc | apply Kd.V_drewN | apply Kd.V_drew)); exact HO0.out⟩, ⟨by repeat (first | (with_reducible first | exact HB.out | apply below_alloc | apply pw_below_drewN | apply below_drew1) | exact HB.out)⟩⟩
  case rest =>
    clear HC4
    try clear c1
    try clear c2
    try clear p2
    try clear c5
    try clear c5b0
    try clear c6
    try clear c6b0
    try clear p6
    obtain ⟨kq, x34_3, rfl, HA, HJ3, HO_0, HB⟩ := hcut
    cases kq with
    | zero => exact absurd HA.out (by simp [tapearchiveref06_Reconstruct.j0])
    | succ kj3 =>
      have H := HA.out
      clear HA
      simp only [tapearchiveref06_Reconstruct.j0] at H
      by_cases c8 : x34_3 = true
      · subst c8
        have H1 : (some (([] : List (List Int)), 7)) = some (r1, r2) := by rw [if_pos rfl] at H; exact H
        clear H
        have H := H1
        clear H1
        simp only [Option.some.injEq, Prod.mk.injEq] at H
        obtain ⟨rfl, rfl⟩ := H
        go_wp2
        go_ret2
        exact ⟨_, by first | rfl | (simp [errW_none, errW_some] <;> rfl) | (simp [*, errW_none, errW_some] <;> rfl), by first | exact Kd.S_nil _ _ _ _ _ | exact Kd.N_nil _ _ _ _ _ | exact Kd.V_nil _ _ _ _ _ | exact Kd.Q_nil _ _ _ _ _ | exact Kd.R_nil _ _ _ _ _, by repeat (first | (with_reducible first | exact HB.out | apply below_alloc | apply pw_below_drewN | apply below_drew1) | exact HB.out)⟩
      · replace c8 := Bool.eq_false_iff.mpr c8
        subst c8
        have H1 : (if (l1.length : Int) = (l0.length : Int) then ((tapearchiveref06_rows.f kj3 (wrap64 ((l0.length : Int) - a2)) a2).bind fun t510 => (tapearchiveref06_Reconstruct.l0 kj3 l0 l1 a2 (wrap64 ((l0.length : Int) - a2)) t510 ([] : List (List Int)) ([] : List (List Int)) 0)) else (some (([] : List (List Int)), 8))) = some (r1, r2) := by rw [if_neg (show ¬ (false = true) by decide)] at H; exact H
        clear H
        have H := H1
        clear H1
        by_cases c9 : (l1.length : Int) = (l0.length : Int)
        · rw [if_pos c9] at H
          have c9b0 : ((l1.length : Int) == (l0.length : Int)) = true := beq_iff_eq.mpr c9
          have c9b1 : ((l1.length : Int) != (l0.length : Int)) = false := bne_eq_false_iff_eq.mpr c9
          have c9b2 : (l1.length == l0.length) = true := by first | simpa using c9 | (simp at c9 ⊢; omega)
          clear c9
          replace H := Option.bind_eq_some_iff.mp H
          obtain ⟨t510, A100, H⟩ := H
          replace H : (tapearchiveref06_Reconstruct.l0 kj3 l0 l1 a2 (wrap64 ((l0.length : Int) - a2)) t510 ([] : List (List Int)) ([] : List (List Int)) 0) = some (r1, r2) := H
          have A10 := Aside0.mk A100
          clear A100
          have H' := Aside0.mk H
          clear H
          go_wp2_with (first | ((with_reducible refine gate_callee (f := 47) rfl ?_); refine goesL_ (some 42) rfl rfl Try.func47 (by kernel_rfl) rfl #[.int .i64 (wrap64 ((l0.length : Int) - a2)), .int .i64 a2] rfl (by (try simp only [List.map_toArray, List.map_cons, List.map_nil]); first | done | rfl | (simp only [List.length_drop, List.length_take]; rfl)) ?_; (with_reducible refine (tapearchiveref06_rows.calls kj3 (wrap64 ((l0.length : Int) - a2)) a2 t510 _ A10.out).mono ?_); rintro e w11 ⟨v511, rfl, ho0, hb⟩; refine ⟨_, rfl, ?_⟩; have n0_ := Aside0.mk (Kd.V_elder' (by (with_reducible repeat (first | apply Kd.V_alloc | apply Kd.V_drewN | apply Kd.V_drew)); exact HO_0.out) (Kd.N_base ho0) hb); have n1_ := Aside0.mk (Kd.N_lower (Kd.N_mono (ok' := fun k_ => (P0_ k_ ∨ w.heap.size ≤ k_)) ho0 (fun k_ hk_ => (.inr (Nat.le_trans (below_size (by repeat (first | (with_reducible first | exact HB.out | apply below_alloc | apply pw_below_drewN | apply below_drew1) | exact HB.out))) hk_)))) (below_size (by repeat (first | (with_reducible first | exact HB.out | apply below_alloc | apply pw_below_drewN | apply below_drew1) | exact HB.out)))); have n2_ := Aside0.mk (below_step (by repeat (first | (with_reducible first | exact HB.out | apply below_alloc | apply pw_below_drewN | apply below_drew1) | exact HB.out)) hb); clear HO_0; clear HB; have HO_0 := n0_; have HO512 := n1_; have HB := n2_; clear n0_ n1_ n2_; (try clear hb); (try clear hb2); (try clear hk); (try clear hi); (try clear ho0)))
          go_loopg [10, 11, 12] kj3 (fun kq v10 v11 v12 w' => ∃ (x10_2 : List (List Int)) (x11_2 : List (List Int)) (x12_2 : Int), v12 = .int .i64 x12_2 ∧ Aside0 (tapearchiveref06_Reconstruct.l0 kq l0 l1 a2 (wrap64 ((l0.length : Int) - a2)) t510 x10_2 x11_2 x12_2 = some (r1, r2)) ∧ Aside0 (kq ≤ kj3) ∧ Aside0 (Kd.V (Kd.slice 5 (Kd.int .u8)) 33 w' w.heap.size (fun k_ => (P0_ k_ ∨ w.heap.size ≤ k_) ∧ some k_ ≠ (v511 : Value).ownBlock ∧ some k_ ≠ (v10 : Value).ownBlock ∧ some k_ ≠ (v11 : Value).ownBlock) (.slice A0 l0.length c0) l0) ∧ Aside0 (Kd.N (Kd.slice 5 (Kd.int .u8)) 33 w' w.heap.size (fun k_ => (P0_ k_ ∨ w.heap.size ≤ k_) ∧ some k_ ≠ (v10 : Value).ownBlock ∧ some k_ ≠ (v11 : Value).ownBlock) v511 t510) ∧ Aside0 (Kd.N (Kd.slice 5 (Kd.int .u8)) 33 w' w.heap.size (fun k_ => (P0_ k_ ∨ w.heap.size ≤ k_) ∧ some k_ ≠ (v511 : Value).ownBlock ∧ some k_ ≠ (v11 : Value).ownBlock) v10 x10_2) ∧ Aside0 (Kd.N (Kd.slice 5 (Kd.int .u8)) 33 w' w.heap.size (fun k_ => (P0_ k_ ∨ w.heap.size ≤ k_) ∧ some k_ ≠ (v511 : Value).ownBlock ∧ some k_ ≠ (v10 : Value).ownBlock) v11 x11_2) ∧ Aside0 (Below w.heap.size w w'))
          case atStart => exact ⟨(([] : List (List Int))), (([] : List (List Int))), (0), (by first | rfl | (simp; done) | (simp [*]; done)), H', ⟨Nat.le_refl _⟩, ⟨by (with_reducible repeat (first | apply Kd.V_alloc | apply Kd.V_drewN | apply Kd.V_drew)); exact Kd.V_mono HO_0.out (fun _ hk => ⟨hk.1, ⟨hk.2, ⟨(by simp [Value.ownBlock]), (by simp [Value.ownBlock])⟩⟩⟩)⟩, ⟨by (with_reducible repeat (first | apply Kd.N_alloc | apply Kd.N_drewN | apply Kd.N_drew)); exact Kd.N_mono HO512.out (fun _ hk => ⟨hk, ⟨(by simp [Value.ownBlock]), (by simp [Value.ownBlock])⟩⟩)⟩, ⟨by first | exact Kd.S_nil _ _ _ _ _ | exact Kd.N_nil _ _ _ _ _ | exact Kd.V_nil _ _ _ _ _ | exact Kd.Q_nil _ _ _ _ _ | exact Kd.R_nil _ _ _ _ _⟩, ⟨by first | exact Kd.S_nil _ _ _ _ _ | exact Kd.N_nil _ _ _ _ _ | exact Kd.V_nil _ _ _ _ _ | exact Kd.Q_nil _ _ _ _ _ | exact Kd.R_nil _ _ _ _ _⟩, ⟨by repeat (first | (with_reducible first | exact HB.out | apply below_alloc | apply pw_below_drewN | apply below_drew1) | exact HB.out)⟩⟩
          case round =>
            clear H'
            try clear c1
            try clear c2
            try clear p2
            try clear c4
            try clear c5
            try clear c5b0
            try clear c6
            try clear c6b0
            try clear p6
            try clear c8
            try clear c9
            try clear c9b0
            try clear c9b1
            try clear c9b2
            try clear p2
            try clear p6
            obtain ⟨x10_2, x11_2, x12_2, rfl, HA, HK2, HO_0, HO_9, HO_10, HO_11, HB⟩ := hrel
            cases gk with
            | zero => exact absurd HA.out (by simp [tapearchiveref06_Reconstruct.l0])
            | succ k2 =>
              have H := HA.out
              clear HA
              simp only [tapearchiveref06_Reconstruct.l0] at H
              by_cases c12 : x12_2 < (l0.length : Int)
              · rw [if_pos c12] at H
                have c12b0 : decide (x12_2 < (l0.length : Int)) = true := decide_eq_true c12
                clear c12
                by_cases c13 : 0 ≤ x12_2
                · rw [if_pos c13] at H
                  have c13b0 : decide (0 ≤ x12_2) = true := decide_eq_true c13
                  clear c13
                  by_cases c14 : x12_2 < (l1.length : Int)
                  · rw [if_pos c14] at H
                    have c14b0 : decide (x12_2 < (l1.length : Int)) = true := decide_eq_true c14
                    clear c14
                    obtain ⟨bq15, hbq15⟩ : ∃ b_ : Bool, b_ = (rdOf false l1 x12_2) := ⟨_, rfl⟩
                    replace H : (if bq15 = true then (if x10_2.length < 5864062014805 then (if x12_2 < (t510.length : Int) then (if x11_2.length < 5864062014805 then (tapearchiveref06_Reconstruct.l0 k2 l0 l1 a2 (wrap64 ((l0.length : Int) - a2)) t510 (x10_2 ++ [rd_L1 l0 x12_2]) (x11_2 ++ [rd_L1 t510 x12_2]) (wrap64 (x12_2 + 1))) else (none)) else (none)) else (none)) else (tapearchiveref06_Reconstruct.l0 k2 l0 l1 a2 (wrap64 ((l0.length : Int) - a2)) t510 x10_2 x11_2 (wrap64 (x12_2 + 1)))) = some (r1, r2) := by rw [← hbq15] at H; exact H
                    have Nbq15 := Aside0.mk hbq15
                    clear hbq15
                    by_cases c16 : bq15 = true
                    · subst c16
                      have H1 : (if x10_2.length < 5864062014805 then (if x12_2 < (t510.length : Int) then (if x11_2.length < 5864062014805 then (tapearchiveref06_Reconstruct.l0 k2 l0 l1 a2 (wrap64 ((l0.length : Int) - a2)) t510 (x10_2 ++ [rd_L1 l0 x12_2]) (x11_2 ++ [rd_L1 t510 x12_2]) (wrap64 (x12_2 + 1))) else (none)) else (none)) else (none)) = some (r1, r2) := by rw [if_pos rfl] at H; exact H
                      clear H
                      have H := H1
                      clear H1
                      by_cases c17 : x10_2.length < 5864062014805
                      · rw [if_pos c17] at H
                        have LMc17 := Aside0.mk c17
                        clear c17
                        obtain ⟨y515, hy515⟩ : ∃ y_ : List (List Int), y_ = (x10_2 ++ [rd_L1 l0 x12_2]) := ⟨_, rfl⟩
                        replace H : (if x12_2 < (t510.length : Int) then (if x11_2.length < 5864062014805 then (tapearchiveref06_Reconstruct.l0 k2 l0 l1 a2 (wrap64 ((l0.length : Int) - a2)) t510 y515 (x11_2 ++ [rd_L1 t510 x12_2]) (wrap64 (x12_2 + 1))) else (none)) else (none)) = some (r1, r2) := by first | (rw [hy515]; with_reducible exact H) | (have H2_ := (Option.bind_some _ _).symm.trans H; rw [hy515]; with_reducible exact H2_) | (have H2_ := (Option.bind_some _ _).symm.trans H; with_reducible exact H2_) | with_reducible exact H | (rw [hy515]; exact H) | exact H
                        have Ny515 := Aside0.mk hy515
                        clear hy515
                        by_cases c18 : x12_2 < (t510.length : Int)
                        · rw [if_pos c18] at H
                          have c18b0 : decide (x12_2 < (t510.length : Int)) = true := decide_eq_true c18
                          clear c18
                          by_cases c19 : x11_2.length < 5864062014805
                          · rw [if_pos c19] at H
                            have LMc19 := Aside0.mk c19
                            clear c19
                            obtain ⟨y519, hy519⟩ : ∃ y_ : List (List Int), y_ = (x11_2 ++ [rd_L1 t510 x12_2]) := ⟨_, rfl⟩
                            replace H : (tapearchiveref06_Reconstruct.l0 k2 l0 l1 a2 (wrap64 ((l0.length : Int) - a2)) t510 y515 y519 (wrap64 (x12_2 + 1))) = some (r1, r2) := by first | (rw [hy519]; with_reducible exact H) | (have H2_ := (Option.bind_some _ _).symm.trans H; rw [hy519]; with_reducible exact H2_) | (have H2_ := (Option.bind_some _ _).symm.trans H; with_reducible exact H2_) | with_reducible exact H | (rw [hy519]; exact H) | exact H
                            have Ny519 := Aside0.mk hy519
                            clear hy519
                            have H' := Aside0.mk H
                            clear H
                            have p513 : 0 ≤ (x12_2 : Int) := of_decide_eq_true (by first | (with_reducible assumption) | assumption)
                            have q513 : x12_2 < (l1.length : Int) := of_decide_eq_true (by first | (with_reducible assumption) | assumption)
                            obtain ⟨ad513, e513, hx513_0⟩ := Kd.at_bool HR1.out x12_2 p513 q513
                            (try rw [← Nbq15.out] at hx513_0)
                            cases e513
                            replace hx513_0 := (HB.out.cell (World.block_lt_of_cell? w _ hx513_0)).trans hx513_0
                            replace p513 := eq_true p513
                            replace q513 := eq_true q513
                            have p514 : 0 ≤ (x12_2 : Int) := of_decide_eq_true (by first | (with_reducible assumption) | assumption)
                            have q514 : x12_2 < (l0.length : Int) := of_decide_eq_true (by first | (with_reducible assumption) | assumption)
                            obtain ⟨ad514, A514_0, c514_0, e514, hx514_0, hl514_0, hi514_0⟩ := at_L1 (Kd.V_reads' HO_0.out).2.2 x12_2 p514 q514
                            cases e514
                            obtain ⟨ce514, hce514, hMe514, hcc514⟩ := Kd.V_get HO_0.out [] x12_2 p514 (by first | exact q514 | exact of_decide_eq_true (by first | (with_reducible assumption) | assumption) | (have e_ := (Kd.V_reads' HO_0.out).1; omega))
                            obtain ⟨ua514_0, uc514_0, rfl, ul514_0, ge514_0⟩ := Kd.FK_slice_open hMe514
                            have hv514_0 := hcc514 0 _ rfl
                            rw [Nat.add_zero, show ((Kd.slice 5 (Kd.int .u8))).sz = 1 from rfl, Nat.mul_one] at hv514_0
                            replace hv514_0 := Option.some.inj (hv514_0.symm.trans hx514_0)
                            injection hv514_0 with hva_ hvn_ hvc_
                            rw [hva_] at ge514_0
                            rw [hvc_] at ul514_0
                            have HL514_0 := Aside0.mk (show Kd.V (Kd.int .u8) 5 _ w.heap.size _ _ (rd_L1 l0 x12_2) from Kd.V_mk ul514_0 ge514_0)
                            clear hva_ hvn_ hvc_ ge514_0 ul514_0
                            clear hcc514 hce514
                            have HR514_0 := Aside0.mk hi514_0
                            have HC514_0 := Aside0.mk hl514_0
                            clear hi514_0 hl514_0
                            replace p514 := eq_true p514
                            replace q514 := eq_true q514
                            go_wp2_with (first | ((with_reducible refine gate_builtin (b := .append) (xs := #[.tmp 53, .tmp 58]) rfl ?_); at_builtin; refine Kd.N_append (Kd.slice 5 (Kd.int .u8)) (w0 := w) w.heap.size rfl (.tmp 53) (.tmp 58) 22 33 (.slice none 0 0) 24 rfl Try.underlying22 info33 rfl (by decide) (by omega) u10 x10_2 (rd_L1 l0 x12_2) [.slice A514_0 (rd_L1 l0 x12_2).length c514_0] (fun k_ => (P0_ k_ ∨ w.heap.size ≤ k_) ∧ some k_ ≠ (v511 : Value).ownBlock ∧ some k_ ≠ (u11 : Value).ownBlock) (fun k_ => ((fun k_ => (P0_ k_ ∨ w.heap.size ≤ k_) ∧ some k_ ≠ (v511 : Value).ownBlock ∧ some k_ ≠ (u11 : Value).ownBlock)) k_ ∧ some k_ ≠ (u10 : Value).ownBlock) rfl rfl ?aP (fun _ hk => hk) ?aF ?aO ?aB ?aS ?aL ?_; (case aP => exact (Kd.FK_slice_mk (Kd.V_reads' (Kd.V_mono (ok' := (fun k_ => ((fun k_ => (P0_ k_ ∨ w.heap.size ≤ k_) ∧ some k_ ≠ (v511 : Value).ownBlock ∧ some k_ ≠ (u11 : Value).ownBlock)) k_ ∧ some k_ ≠ (u10 : Value).ownBlock)) (HL514_0.out) (fun k_ hk => ⟨⟨hk.1, ⟨hk.2.1, hk.2.2.2⟩⟩, hk.2.2.1⟩))).2.1 (Kd.V_F (Kd.V_mono (ok' := (fun k_ => ((fun k_ => (P0_ k_ ∨ w.heap.size ≤ k_) ∧ some k_ ≠ (v511 : Value).ownBlock ∧ some k_ ≠ (u11 : Value).ownBlock)) k_ ∧ some k_ ≠ (u10 : Value).ownBlock)) (HL514_0.out) (fun k_ hk => ⟨⟨hk.1, ⟨hk.2.1, hk.2.2.2⟩⟩, hk.2.2.1⟩))))); (case aB => exact (by repeat (first | (with_reducible first | exact HB.out | apply below_alloc | apply pw_below_drewN | apply below_drew1) | exact HB.out))); (case aF => exact (fun k_ hk => ⟨(.inr (Nat.le_trans (below_size (by repeat (first | (with_reducible first | exact HB.out | apply below_alloc | apply pw_below_drewN | apply below_drew1) | exact HB.out))) hk)), Kd.fresh' (Kd.N_lt (by (with_reducible repeat (first | apply Kd.N_alloc | apply Kd.N_drewN | apply Kd.N_drew)); exact HO_9.out)) k_ hk, Kd.fresh' (Kd.N_lt (by (with_reducible repeat (first | apply Kd.N_alloc | apply Kd.N_drewN | apply Kd.N_drew)); exact HO_11.out)) k_ hk⟩)); (case aO => exact (by (with_reducible repeat (first | apply Kd.N_alloc | apply Kd.N_drewN | apply Kd.N_drew)); exact HO_10.out)); (case aS => exact (below_size (by repeat (first | (with_reducible first | exact HB.out | apply below_alloc | apply pw_below_drewN | apply below_drew1) | exact HB.out)))); (case aL => have := LMc17.out; omega); intro v516 w20 ho hb hg hat; rw [← Ny515.out] at ho; have n0_ := Aside0.mk (Kd.V_afterv (ok := (fun k_ => (P0_ k_ ∨ w.heap.size ≤ k_) ∧ some k_ ≠ (v511 : Value).ownBlock ∧ some k_ ≠ (u11 : Value).ownBlock)) (by (with_reducible repeat (first | apply Kd.V_alloc | apply Kd.V_drewN | apply Kd.V_drew)); exact Kd.V_mono HO_0.out (fun _ hk => ⟨⟨hk.1, ⟨hk.2.1, hk.2.2.2⟩⟩, hk.2.2.1⟩)) hg hat); have n1_ := Aside0.mk (Kd.N_afterv (ok := (fun k_ => (P0_ k_ ∨ w.heap.size ≤ k_) ∧ some k_ ≠ (u11 : Value).ownBlock)) (by (with_reducible repeat (first | apply Kd.N_alloc | apply Kd.N_drewN | apply Kd.N_drew)); exact Kd.N_mono HO_9.out (fun _ hk => ⟨⟨hk.1, hk.2.2⟩, hk.2.1⟩)) hg hat); have n2_ := Aside0.mk (Kd.N_afterv (ok := (fun k_ => (P0_ k_ ∨ w.heap.size ≤ k_) ∧ some k_ ≠ (v511 : Value).ownBlock)) (by (with_reducible repeat (first | apply Kd.N_alloc | apply Kd.N_drewN | apply Kd.N_drew)); exact Kd.N_mono HO_11.out (fun _ hk => ⟨⟨hk.1, hk.2.1⟩, hk.2.2⟩)) hg hat); have n3_ := Aside0.mk (Kd.V_afterv (ok := (fun k_ => (P0_ k_ ∨ w.heap.size ≤ k_) ∧ some k_ ≠ (v511 : Value).ownBlock ∧ some k_ ≠ (u11 : Value).ownBlock)) (by (with_reducible repeat (first | apply Kd.V_alloc | apply Kd.V_drewN | apply Kd.V_drew)); exact Kd.V_mono HL514_0.out (fun _ hk => ⟨⟨hk.1, ⟨hk.2.1, hk.2.2.2⟩⟩, hk.2.2.1⟩)) hg hat); have n4_ := Aside0.mk (hb); have n5_ := Aside0.mk (ho); clear HO_0; clear HO_9; clear HO_11; clear HL514_0; clear HB; clear HO_10; have HO_0 := n0_; have HO_9 := n1_; have HO_11 := n2_; have HL514_0 := n3_; have HB := n4_; have HO517 := n5_; clear n0_ n1_ n2_ n3_ n4_ n5_; clear ho hb hg hat; obtain ⟨Ao21, co21, eo21⟩ := Kd.N_slice HO_9.out; subst eo21; have p518 : 0 ≤ (x12_2 : Int) := of_decide_eq_true (by first | (with_reducible assumption) | assumption); have q518 : x12_2 < (t510.length : Int) := of_decide_eq_true (by first | (with_reducible assumption) | assumption); obtain ⟨ad518, A518_0, c518_0, e518, hx518_0, hl518_0, hi518_0⟩ := at_L1 (Kd.N_reads' HO_9.out).2.2 x12_2 p518 q518; cases e518; obtain ⟨ce518, hce518, hMe518, hcc518⟩ := Kd.N_get HO_9.out [] x12_2 p518 (by first | exact q518 | exact of_decide_eq_true (by first | (with_reducible assumption) | assumption) | (have e_ := (Kd.N_reads' HO_9.out).1; omega)); obtain ⟨ua518_0, uc518_0, rfl, ul518_0, ge518_0⟩ := Kd.FK_slice_open hMe518; have hv518_0 := hcc518 0 _ rfl; rw [Nat.add_zero, show ((Kd.slice 5 (Kd.int .u8))).sz = 1 from rfl, Nat.mul_one] at hv518_0; replace hv518_0 := Option.some.inj (hv518_0.symm.trans hx518_0); injection hv518_0 with hva_ hvn_ hvc_; rw [hva_] at ge518_0; rw [hvc_] at ul518_0; have HL518_0 := Aside0.mk (show Kd.V (Kd.int .u8) 5 _ w.heap.size _ _ (rd_L1 t510 x12_2) from Kd.V_mk ul518_0 ge518_0); clear hva_ hvn_ hvc_ ge518_0 ul518_0; clear hcc518 hce518; have HR518_0 := Aside0.mk hi518_0; have HC518_0 := Aside0.mk hl518_0; clear hi518_0 hl518_0; replace p518 := eq_true p518; replace q518 := eq_true q518) | ((with_reducible refine gate_builtin (b := .append) (xs := #[.tmp 60, .tmp 65]) rfl ?_); at_builtin; refine Kd.N_append (Kd.slice 5 (Kd.int .u8)) (w0 := w) w.heap.size rfl (.tmp 60) (.tmp 65) 22 33 (.slice none 0 0) 24 rfl Try.underlying22 info33 rfl (by decide) (by omega) u11 x11_2 (rd_L1 t510 x12_2) [.slice A518_0 (rd_L1 t510 x12_2).length c518_0] (fun k_ => (P0_ k_ ∨ w.heap.size ≤ k_) ∧ some k_ ≠ (.slice (some ad518) t510.length co21 : Value).ownBlock ∧ some k_ ≠ (v516 : Value).ownBlock) (fun k_ => ((fun k_ => (P0_ k_ ∨ w.heap.size ≤ k_) ∧ some k_ ≠ (.slice (some ad518) t510.length co21 : Value).ownBlock ∧ some k_ ≠ (v516 : Value).ownBlock)) k_ ∧ some k_ ≠ (u11 : Value).ownBlock) rfl rfl ?aP (fun _ hk => hk) ?aF ?aO ?aB ?aS ?aL ?_; (case aP => exact (Kd.FK_slice_mk (Kd.V_reads' (Kd.V_mono (ok' := (fun k_ => ((fun k_ => (P0_ k_ ∨ w.heap.size ≤ k_) ∧ some k_ ≠ (.slice (some ad518) t510.length co21 : Value).ownBlock ∧ some k_ ≠ (v516 : Value).ownBlock)) k_ ∧ some k_ ≠ (u11 : Value).ownBlock)) (HL518_0.out) (fun k_ hk => ⟨⟨hk.1.1.1, ⟨hk.2, hk.1.2⟩⟩, hk.1.1.2⟩))).2.1 (Kd.V_F (Kd.V_mono (ok' := (fun k_ => ((fun k_ => (P0_ k_ ∨ w.heap.size ≤ k_) ∧ some k_ ≠ (.slice (some ad518) t510.length co21 : Value).ownBlock ∧ some k_ ≠ (v516 : Value).ownBlock)) k_ ∧ some k_ ≠ (u11 : Value).ownBlock)) (HL518_0.out) (fun k_ hk => ⟨⟨hk.1.1.1, ⟨hk.2, hk.1.2⟩⟩, hk.1.1.2⟩))))); (case aB => exact (by repeat (first | (with_reducible first | exact HB.out | apply below_alloc | apply pw_below_drewN | apply below_drew1) | exact HB.out))); (case aF => exact (fun k_ hk => ⟨(.inr (Nat.le_trans (below_size (by repeat (first | (with_reducible first | exact HB.out | apply below_alloc | apply pw_below_drewN | apply below_drew1) | exact HB.out))) hk)), Kd.fresh' (Kd.N_lt (by (with_reducible repeat (first | apply Kd.N_alloc | apply Kd.N_drewN | apply Kd.N_drew)); exact HO_9.out)) k_ hk, Kd.fresh' (Kd.N_lt (by (with_reducible repeat (first | apply Kd.N_alloc | apply Kd.N_drewN | apply Kd.N_drew)); exact HO517.out)) k_ hk⟩)); (case aO => exact (by (with_reducible repeat (first | apply Kd.N_alloc | apply Kd.N_drewN | apply Kd.N_drew)); exact Kd.N_mono HO_11.out (fun _ hk => ⟨hk.1.1, ⟨hk.1.2, hk.2⟩⟩))); (case aS => exact (below_size (by repeat (first | (with_reducible first | exact HB.out | apply below_alloc | apply pw_below_drewN | apply below_drew1) | exact HB.out)))); (case aL => have := LMc19.out; omega); intro v520 w22 ho hb hg hat; rw [← Ny519.out] at ho; have n0_ := Aside0.mk (Kd.V_afterv (ok := (fun k_ => (P0_ k_ ∨ w.heap.size ≤ k_) ∧ some k_ ≠ (.slice (some ad518) t510.length co21 : Value).ownBlock ∧ some k_ ≠ (v516 : Value).ownBlock)) (by (with_reducible repeat (first | apply Kd.V_alloc | apply Kd.V_drewN | apply Kd.V_drew)); exact Kd.V_mono HO_0.out (fun _ hk => ⟨⟨hk.1.1, ⟨hk.1.2.1, hk.2⟩⟩, hk.1.2.2⟩)) hg hat); have n1_ := Aside0.mk (Kd.N_afterv (ok := (fun k_ => (P0_ k_ ∨ w.heap.size ≤ k_) ∧ some k_ ≠ (v516 : Value).ownBlock)) (by (with_reducible repeat (first | apply Kd.N_alloc | apply Kd.N_drewN | apply Kd.N_drew)); exact Kd.N_mono HO_9.out (fun _ hk => ⟨⟨hk.1.1, hk.2⟩, hk.1.2⟩)) hg hat); have n2_ := Aside0.mk (Kd.V_afterv (ok := (fun k_ => (P0_ k_ ∨ w.heap.size ≤ k_) ∧ some k_ ≠ (.slice (some ad518) t510.length co21 : Value).ownBlock ∧ some k_ ≠ (v516 : Value).ownBlock)) (by (with_reducible repeat (first | apply Kd.V_alloc | apply Kd.V_drewN | apply Kd.V_drew)); exact Kd.V_mono HL514_0.out (fun _ hk => ⟨⟨hk.1.1, ⟨hk.1.2.1, hk.2⟩⟩, hk.1.2.2⟩)) hg hat); have n3_ := Aside0.mk (Kd.N_afterv (ok := (fun k_ => (P0_ k_ ∨ w.heap.size ≤ k_) ∧ some k_ ≠ (.slice (some ad518) t510.length co21 : Value).ownBlock)) (by (with_reducible repeat (first | apply Kd.N_alloc | apply Kd.N_drewN | apply Kd.N_drew)); exact Kd.N_mono HO517.out (fun _ hk => ⟨⟨hk.1, hk.2.1⟩, hk.2.2⟩)) hg hat); have n4_ := Aside0.mk (Kd.V_afterv (ok := (fun k_ => (P0_ k_ ∨ w.heap.size ≤ k_) ∧ some k_ ≠ (.slice (some ad518) t510.length co21 : Value).ownBlock ∧ some k_ ≠ (v516 : Value).ownBlock)) (by (with_reducible repeat (first | apply Kd.V_alloc | apply Kd.V_drewN | apply Kd.V_drew)); exact Kd.V_mono HL518_0.out (fun _ hk => ⟨⟨hk.1.1.1, ⟨hk.2, hk.1.2⟩⟩, hk.1.1.2⟩)) hg hat); have n5_ := Aside0.mk (hb); have n6_ := Aside0.mk (ho); clear HO_0; clear HO_9; clear HL514_0; clear HO517; clear HL518_0; clear HB; clear HO_11; have HO_0 := n0_; have HO_9 := n1_; have HL514_0 := n2_; have HO517 := n3_; have HL518_0 := n4_; have HB := n5_; have HO521 := n6_; clear n0_ n1_ n2_ n3_ n4_ n5_ n6_; clear ho hb hg hat))
                            go_roundg k2
                            case measure => have := HJ3.out; have := HK2.out; omega
                            case rel => exact ⟨(y515), (y519), (wrap64 (x12_2 + 1)), (by first | rfl | (simp; done) | (simp [*]; done)), H', ⟨by have := HJ3.out; have := HK2.out; omega⟩, ⟨by (with_reducible repeat (first | apply Kd.V_alloc | apply Kd.V_drewN | apply Kd.V_drew)); exact Kd.V_mono HO_0.out (fun _ hk => ⟨hk.1.1, ⟨hk.1.2.1, ⟨hk.1.2.2, hk.2⟩⟩⟩)⟩, ⟨by (with_reducible repeat (first | apply Kd.N_alloc | apply Kd.N_drewN | apply Kd.N_drew)); exact Kd.N_mono HO_9.out (fun _ hk => ⟨hk.1.1, ⟨hk.1.2, hk.2⟩⟩)⟩, ⟨by (with_reducible repeat (first | apply Kd.N_alloc | apply Kd.N_drewN | apply Kd.N_drew)); exact Kd.N_mono HO517.out (fun _ hk => ⟨hk.1.1, ⟨hk.1.2, hk.2⟩⟩)⟩, ⟨by (with_reducible repeat (first | apply Kd.N_alloc | apply Kd.N_drewN | apply Kd.N_drew)); exact HO521.out⟩, ⟨by repeat (first | (with_reducible first | exact HB.out | apply below_alloc | apply pw_below_drewN | apply below_drew1) | exact HB.out)⟩⟩
                          · rw [if_neg c19] at H
                            exact absurd H (by simp)
                        · rw [if_neg c18] at H
                          exact absurd H (by simp)
                      · rw [if_neg c17] at H
                        exact absurd H (by simp)
                    · replace c16 := Bool.eq_false_iff.mpr c16
                      subst c16
                      have H1 : (tapearchiveref06_Reconstruct.l0 k2 l0 l1 a2 (wrap64 ((l0.length : Int) - a2)) t510 x10_2 x11_2 (wrap64 (x12_2 + 1))) = some (r1, r2) := by rw [if_neg (show ¬ (false = true) by decide)] at H; exact H
                      clear H
                      have H := H1
                      clear H1
                      have H' := Aside0.mk H
                      clear H
                      have p513 : 0 ≤ (x12_2 : Int) := of_decide_eq_true (by first | (with_reducible assumption) | assumption)
                      have q513 : x12_2 < (l1.length : Int) := of_decide_eq_true (by first | (with_reducible assumption) | assumption)
                      obtain ⟨ad513, e513, hx513_0⟩ := Kd.at_bool HR1.out x12_2 p513 q513
                      (try rw [← Nbq15.out] at hx513_0)
                      cases e513
                      replace hx513_0 := (HB.out.cell (World.block_lt_of_cell? w _ hx513_0)).trans hx513_0
                      replace p513 := eq_true p513
                      replace q513 := eq_true q513
                      go_wp2
                      go_roundg k2
                      case measure => have := HJ3.out; have := HK2.out; omega
                      case rel => exact ⟨(x10_2), (x11_2), (wrap64 (x12_2 + 1)), (by first | rfl | (simp; done) | (simp [*]; done)), H', ⟨by have := HJ3.out; have := HK2.out; omega⟩, ⟨by (with_reducible repeat (first | apply Kd.V_alloc | apply Kd.V_drewN | apply Kd.V_drew)); exact HO_0.out⟩, ⟨by (with_reducible repeat (first | apply Kd.N_alloc | apply Kd.N_drewN | apply Kd.N_drew)); exact HO_9.out⟩, ⟨by (with_reducible repeat (first | apply Kd.N_alloc | apply Kd.N_drewN | apply Kd.N_drew)); exact HO_10.out⟩, ⟨by (with_reducible repeat (first | apply Kd.N_alloc | apply Kd.N_drewN | apply Kd.N_drew)); exact HO_11.out⟩, ⟨by repeat (first | (with_reducible first | exact HB.out | apply below_alloc | apply pw_below_drewN | apply below_drew1) | exact HB.out)⟩⟩
                  · rw [if_neg c14] at H
                    exact absurd H (by simp)
                · rw [if_neg c13] at H
                  exact absurd H (by simp)
              · rw [if_neg c12] at H
                have c12b0 : decide (x12_2 < (l0.length : Int)) = false := decide_eq_false c12
                clear c12
                replace H := Option.bind_eq_some_iff.mp H
                obtain ⟨t522, A230, H⟩ := H
                replace H : (if t522 = true then (if (x10_2.length : Int) < (wrap64 ((l0.length : Int) - a2)) then (some (([] : List (List Int)), 23)) else (if 0 ≤ (wrap64 ((l0.length : Int) - a2)) then (if (wrap64 ((l0.length : Int) - a2)) ≤ (x11_2.length : Int) then ((tapearchiveref05_Invert.f (x11_2.take ((wrap64 ((l0.length : Int) - a2)) : Int).toNat)).bind fun bt528 => (tapearchiveref06_Reconstruct.l1 k2 a2 (wrap64 ((l0.length : Int) - a2)) x10_2 bt528.1 ([] : List (List Int)) 0)) else (none)) else (none))) else (some (([] : List (List Int)), 8))) = some (r1, r2) := H
                have A23 := Aside0.mk A230
                clear A230
                by_cases c24 : t522 = true
                · subst c24
                  have H1 : (if (x10_2.length : Int) < (wrap64 ((l0.length : Int) - a2)) then (some (([] : List (List Int)), 23)) else (if 0 ≤ (wrap64 ((l0.length : Int) - a2)) then (if (wrap64 ((l0.length : Int) - a2)) ≤ (x11_2.length : Int) then ((tapearchiveref05_Invert.f (x11_2.take ((wrap64 ((l0.length : Int) - a2)) : Int).toNat)).bind fun bt528 => (tapearchiveref06_Reconstruct.l1 k2 a2 (wrap64 ((l0.length : Int) - a2)) x10_2 bt528.1 ([] : List (List Int)) 0)) else (none)) else (none))) = some (r1, r2) := by rw [if_pos rfl] at H; exact H
                  clear H
                  have H := H1
                  clear H1
                  by_cases c25 : (x10_2.length : Int) < (wrap64 ((l0.length : Int) - a2))
                  · rw [if_pos c25] at H
                    have c25b0 : decide ((x10_2.length : Int) < (wrap64 ((l0.length : Int) - a2))) = true := decide_eq_true c25
                    clear c25
                    simp only [Option.some.injEq, Prod.mk.injEq] at H
                    obtain ⟨rfl, rfl⟩ := H
                    obtain ⟨Ao26, co26, eo26⟩ := Kd.N_slice HO_10.out
                    subst eo26
                    go_wp2_with (first | ((with_reducible refine gate_callee (f := 46) rfl ?_); refine goesL_ (some 68) rfl rfl Try.func46 (by kernel_rfl) rfl #[.slice Ao26 x10_2.length co26] rfl (by (try simp only [List.map_toArray, List.map_cons, List.map_nil]); first | done | rfl | (simp only [List.length_drop, List.length_take]; rfl)) ?_; (with_reducible refine (tapearchiveref06_equal.calls k2 _ _ x10_2 true _ ?side1 ?side2 A23.out).mono ?_); (case side1 => repeat (first | exact (Kd.N_reads' HO_10.out).2.2 | (with_reducible refine Kd.C_alloc ?_ _) | (with_reducible refine Kd.C_drewN ?_ _) | (with_reducible refine Kd.C_drew ?_))); (case side2 => exact (Kd.N_reads' HO_10.out).2.1); rintro e w' ⟨rfl, ⟨nd, rfl⟩⟩; refine ⟨_, rfl, ?_⟩))
                    go_ret2
                    exact ⟨_, by first | rfl | (simp [errW_none, errW_some] <;> rfl) | (simp [*, errW_none, errW_some] <;> rfl), by first | exact Kd.S_nil _ _ _ _ _ | exact Kd.N_nil _ _ _ _ _ | exact Kd.V_nil _ _ _ _ _ | exact Kd.Q_nil _ _ _ _ _ | exact Kd.R_nil _ _ _ _ _, by repeat (first | (with_reducible first | exact HB.out | apply below_alloc | apply pw_below_drewN | apply below_drew1) | exact HB.out)⟩
                  · rw [if_neg c25] at H
                    have c25b0 : decide ((x10_2.length : Int) < (wrap64 ((l0.length : Int) - a2))) = false := decide_eq_false c25
                    clear c25
                    obtain ⟨ji27, hji27⟩ : ∃ j_ : Int, (wrap64 ((l0.length : Int) - a2)) = j_ := ⟨_, rfl⟩
                    replace H : (if 0 ≤ (ji27) then (if (ji27) ≤ (x11_2.length : Int) then ((tapearchiveref05_Invert.f (x11_2.take ((ji27) : Int).toNat)).bind fun bt528 => (tapearchiveref06_Reconstruct.l1 k2 a2 (ji27) x10_2 bt528.1 ([] : List (List Int)) 0)) else (none)) else (none)) = some (r1, r2) := by first | (rw [hji27] at H; exact H) | (simp only [hji27] at H ⊢; exact H)
                    (try rw [hji27] at c25b0)
                    (try rw [hji27] at A23)
                    have hji27w : (IntKind.i64.wrap ((l0.length : Int) - a2)) = ji27 := (i64_w _).trans hji27
                    by_cases c28 : 0 ≤ (ji27)
                    · rw [if_pos c28] at H
                      have c28b0 := eq_true c28
                      have c28b1 : decide (0 ≤ (ji27)) = true := decide_eq_true c28
                      clear c28
                      by_cases c29 : (ji27) ≤ (x11_2.length : Int)
                      · rw [if_pos c29] at H
                        have c29b0 := eq_true c29
                        have c29b1 : decide ((ji27) ≤ (x11_2.length : Int)) = true := decide_eq_true c29
                        clear c29
                        obtain ⟨y523, hy523⟩ : ∃ y_ : List (List Int), y_ = (x11_2.take ((ji27) : Int).toNat) := ⟨_, rfl⟩
                        replace H : ((tapearchiveref05_Invert.f y523).bind fun bt528 => (tapearchiveref06_Reconstruct.l1 k2 a2 (ji27) x10_2 bt528.1 ([] : List (List Int)) 0)) = some (r1, r2) := by first | (rw [hy523]; with_reducible exact H) | (have H2_ := (Option.bind_some _ _).symm.trans H; rw [hy523]; with_reducible exact H2_) | (have H2_ := (Option.bind_some _ _).symm.trans H; with_reducible exact H2_) | with_reducible exact H | (rw [hy523]; exact H) | exact H
                        have Ny523 := Aside0.mk hy523
                        clear hy523
                        replace H := Option.bind_eq_some_iff.mp H
                        obtain ⟨⟨t528, t529⟩, A300, H⟩ := H
                        replace H : (tapearchiveref06_Reconstruct.l1 k2 a2 (ji27) x10_2 t528 ([] : List (List Int)) 0) = some (r1, r2) := H
                        have A30 := Aside0.mk A300
                        clear A300
                        have H' := Aside0.mk H
                        clear H
                        obtain ⟨Ao31, co31, eo31⟩ := Kd.N_slice HO_10.out
                        subst eo31
                        go_wp2_with (first | ((with_reducible refine gate_callee (f := 46) rfl ?_); refine goesL_ (some 68) rfl rfl Try.func46 (by kernel_rfl) rfl #[.slice Ao31 x10_2.length co31] rfl (by (try simp only [List.map_toArray, List.map_cons, List.map_nil]); first | done | rfl | (simp only [List.length_drop, List.length_take]; rfl)) ?_; (with_reducible refine (tapearchiveref06_equal.calls k2 _ _ x10_2 true _ ?side1 ?side2 A23.out).mono ?_); (case side1 => repeat (first | exact (Kd.N_reads' HO_10.out).2.2 | (with_reducible refine Kd.C_alloc ?_ _) | (with_reducible refine Kd.C_drewN ?_ _) | (with_reducible refine Kd.C_drew ?_))); (case side2 => exact (Kd.N_reads' HO_10.out).2.1); rintro e w' ⟨rfl, ⟨nd, rfl⟩⟩; refine ⟨_, rfl, ?_⟩; obtain ⟨Ao33, co33, eo33⟩ := Kd.N_slice HO_11.out; subst eo33; have q32 : ((ji27) : Int) ≤ ((x11_2.length : Int) : Int) := of_decide_eq_true (by first | (with_reducible assumption) | assumption); obtain ⟨i032, hi032, _, hsz32, _⟩ := info_parts info33; have hroom32 : x11_2.length ≤ co33 := (Kd.N_reads' HO_11.out).2.1; have hC32 : Kd.F (Kd.slice 5 (Kd.int .u8)) _ _ Ao33 x11_2.length x11_2 := (Kd.V_at (base := w.heap.size) (Kd.N_V HO_11.out)).2.2; have hcut32 := cut_to (P := Try.prog) 22 33 .i64 Try.underlying22 hi032 Ao33 x11_2.length co33 (ji27) (of_decide_eq_true (by first | (with_reducible assumption) | assumption)) q32 hroom32; have hr32 := Kd.F_take (m := ((ji27) : Int).toNat) hC32 (by omega); have hy32 : y523.length = ((ji27) : Int).toNat := (by rw [Ny523.out, List.length_take]; omega); rw [← Ny523.out] at hr32; rw [← hy32] at hcut32; have HO527 := Aside0.mk (show Kd.V (Kd.slice 5 (Kd.int .u8)) 33 _ w.heap.size _ (.slice Ao33 y523.length co33) y523 from Kd.V_mk (by omega) hr32); have HC527 := Aside0.mk (show y523.length ≤ co33 from by omega); clear hr32 hC32 hroom32 hi032 hsz32; have KY32 := Aside0.mk hy32; clear hy32; replace q32 := eq_true q32) | ((with_reducible refine gate_callee (f := 50) rfl ?_); refine goesL_ (some 78) rfl rfl Try.func50 (by kernel_rfl) rfl #[.slice Ao33 y523.length co33] rfl (by (try simp only [List.map_toArray, List.map_cons, List.map_nil]); first | done | rfl | (simp only [List.length_drop, List.length_take]; rfl)) ?_; (with_reducible refine (tapearchiveref05_Invert.calls _ _ y523 t528 t529 _ ?side1 ?side2 A30.out).mono ?_); (case side1 => repeat (first | exact (Kd.V_reads' HO527.out).2.2 | (with_reducible refine Kd.C_alloc ?_ _) | (with_reducible refine Kd.C_drewN ?_ _) | (with_reducible refine Kd.C_drew ?_))); (case side2 => exact (Kd.V_reads' HO527.out).2.1); rintro e w34 ⟨v530, rfl, ho0, hb⟩; refine ⟨_, rfl, ?_⟩; have n0_ := Aside0.mk (Kd.V_elder' (by (with_reducible repeat (first | apply Kd.V_alloc | apply Kd.V_drewN | apply Kd.V_drew)); exact HO_0.out) (Kd.N_base (Kd.S_N ho0)) hb); have n1_ := Aside0.mk (Kd.N_elder' (by (with_reducible repeat (first | apply Kd.N_alloc | apply Kd.N_drewN | apply Kd.N_drew)); exact HO_9.out) (Kd.N_base (Kd.S_N ho0)) hb); have n2_ := Aside0.mk (Kd.N_elder' (by (with_reducible repeat (first | apply Kd.N_alloc | apply Kd.N_drewN | apply Kd.N_drew)); exact HO_10.out) (Kd.N_base (Kd.S_N ho0)) hb); have n3_ := Aside0.mk (Kd.N_elder' (by (with_reducible repeat (first | apply Kd.N_alloc | apply Kd.N_drewN | apply Kd.N_drew)); exact HO_11.out) (Kd.N_base (Kd.S_N ho0)) hb); have n4_ := Aside0.mk (Kd.V_elder' (by (with_reducible repeat (first | apply Kd.V_alloc | apply Kd.V_drewN | apply Kd.V_drew)); exact HO527.out) (Kd.N_base (Kd.S_N ho0)) hb); have n5_ := Aside0.mk (Kd.N_lower (Kd.N_mono (ok' := fun k_ => (P0_ k_ ∨ w.heap.size ≤ k_) ∧ some k_ ≠ (v511 : Value).ownBlock ∧ some k_ ≠ (.slice Ao31 x10_2.length co31 : Value).ownBlock ∧ some k_ ≠ (.slice Ao33 x11_2.length co33 : Value).ownBlock) (Kd.S_N (Kd.S_bound ho0)) (fun k_ hk_ => ⟨(.inr (Nat.le_trans (below_size (by repeat (first | (with_reducible first | exact HB.out | apply below_alloc | apply pw_below_drewN | apply below_drew1) | exact HB.out))) hk_.2.1)), (Kd.fresh' (Kd.N_lt (by (with_reducible repeat (first | apply Kd.N_alloc | apply Kd.N_drewN | apply Kd.N_drew)); exact HO_9.out)) k_ hk_.2.1), (Kd.fresh' (Kd.N_lt (by (with_reducible repeat (first | apply Kd.N_alloc | apply Kd.N_drewN | apply Kd.N_drew)); exact HO_10.out)) k_ hk_.2.1), (Kd.fresh' (Kd.N_lt (by (with_reducible repeat (first | apply Kd.N_alloc | apply Kd.N_drewN | apply Kd.N_drew)); exact HO_11.out)) k_ hk_.2.1)⟩)) (below_size (by repeat (first | (with_reducible first | exact HB.out | apply below_alloc | apply pw_below_drewN | apply below_drew1) | exact HB.out)))); have n6_ := Aside0.mk (below_step (by repeat (first | (with_reducible first | exact HB.out | apply below_alloc | apply pw_below_drewN | apply below_drew1) | exact HB.out)) hb); clear HO_0; clear HO_9; clear HO_10; clear HO_11; clear HO527; clear HB; have HO_0 := n0_; have HO_9 := n1_; have HO_10 := n2_; have HO_11 := n3_; have HO527 := n4_; have HO531 := n5_; have HB := n6_; clear n0_ n1_ n2_ n3_ n4_ n5_ n6_; (try clear hb); (try clear hb2); (try clear hk); (try clear hi); (try clear ho0)))
                        go_loopg [15, 16] k2 (fun kq v15 v16 w' => ∃ (x15_3 : List (List Int)) (x16_3 : Int), v16 = .int .i64 x16_3 ∧ Aside0 (tapearchiveref06_Reconstruct.l1 kq a2 (ji27) x10_2 t528 x15_3 x16_3 = some (r1, r2)) ∧ Aside0 (kq ≤ k2) ∧ Aside0 (Kd.N (Kd.slice 5 (Kd.int .u8)) 33 w' w.heap.size (fun k_ => (P0_ k_ ∨ w.heap.size ≤ k_) ∧ some k_ ≠ (v530 : Value).ownBlock ∧ some k_ ≠ (v15 : Value).ownBlock) (.slice Ao31 x10_2.length co31) x10_2) ∧ Aside0 (Kd.N (Kd.slice 5 (Kd.int .u8)) 33 w' w.heap.size (fun k_ => (P0_ k_ ∨ w.heap.size ≤ k_) ∧ some k_ ≠ ((.slice Ao31 x10_2.length co31) : Value).ownBlock ∧ some k_ ≠ (v15 : Value).ownBlock) v530 t528) ∧ Aside0 (Kd.N (Kd.slice 5 (Kd.int .u8)) 33 w' w.heap.size (fun k_ => (P0_ k_ ∨ w.heap.size ≤ k_) ∧ some k_ ≠ ((.slice Ao31 x10_2.length co31) : Value).ownBlock ∧ some k_ ≠ (v530 : Value).ownBlock) v15 x15_3) ∧ Aside0 (Below w.heap.size w w'))
                        case atStart => exact ⟨(([] : List (List Int))), (0), (by first | rfl | (simp; done) | (simp [*]; done)), H', ⟨Nat.le_refl _⟩, ⟨by (with_reducible repeat (first | apply Kd.N_alloc | apply Kd.N_drewN | apply Kd.N_drew)); exact Kd.N_mono HO_10.out (fun _ hk => ⟨hk.1.1, ⟨hk.2, (by simp [Value.ownBlock])⟩⟩)⟩, ⟨by (with_reducible repeat (first | apply Kd.N_alloc | apply Kd.N_drewN | apply Kd.N_drew)); exact Kd.N_mono HO531.out (fun _ hk => ⟨hk.1, ⟨hk.2.2.1, (by simp [Value.ownBlock])⟩⟩)⟩, ⟨by first | exact Kd.S_nil _ _ _ _ _ | exact Kd.N_nil _ _ _ _ _ | exact Kd.V_nil _ _ _ _ _ | exact Kd.Q_nil _ _ _ _ _ | exact Kd.R_nil _ _ _ _ _⟩, ⟨by repeat (first | (with_reducible first | exact HB.out | apply below_alloc | apply pw_below_drewN | apply below_drew1) | exact HB.out)⟩⟩
                        case round =>
                          clear H'
                          try clear c1
                          try clear q1
                          try clear c2
                          try clear p2
                          try clear q3
                          try clear c4
                          try clear c5
                          try clear c5b0
                          try clear p5
                          try clear q5
                          try clear hx5
                          try clear c6
                          try clear c6b0
                          try clear p6
                          try clear c8
                          try clear c9
                          try clear c9b0
                          try clear c9b1
                          try clear c9b2
                          try clear c12
                          try clear c12b0
                          try clear c13
                          try clear c13b0
                          try clear c14
                          try clear c14b0
                          try clear q15
                          try clear c16
                          try clear c17
                          try clear c18
                          try clear c18b0
                          try clear c19
                          try clear c23
                          try clear c24
                          try clear c25
                          try clear c25b0
                          try clear c28
                          try clear c28b0
                          try clear c28b1
                          try clear c29
                          try clear c29b0
                          try clear c29b1
                          try clear q32
                          try clear hx513_0
                          try clear hx514_0
                          try clear hx518_0
                          try clear p2
                          try clear p513
                          try clear p514
                          try clear p518
                          try clear p6
                          try clear q32
                          try clear q513
                          try clear q514
                          try clear q518
                          obtain ⟨x15_3, x16_3, rfl, HA, HK3, HO_10, HO_13, HO_15, HB⟩ := hrel
                          cases gk with
                          | zero => exact absurd HA.out (by simp [tapearchiveref06_Reconstruct.l1])
                          | succ k3 =>
                            have H := HA.out
                            clear HA
                            simp only [tapearchiveref06_Reconstruct.l1] at H
                            by_cases c35 : x16_3 < (ji27)
                            · rw [if_pos c35] at H
                              have c35b0 : decide (x16_3 < (ji27)) = true := decide_eq_true c35
                              clear c35
                              by_cases c36 : 0 ≤ x16_3
                              · rw [if_pos c36] at H
                                have c36b0 : decide (0 ≤ x16_3) = true := decide_eq_true c36
                                clear c36
                                by_cases c37 : x16_3 < (t528.length : Int)
                                · rw [if_pos c37] at H
                                  have c37b0 : decide (x16_3 < (t528.length : Int)) = true := decide_eq_true c37
                                  clear c37
                                  by_cases c38 : 0 ≤ (ji27)
                                  · rw [if_pos c38] at H
                                    have c38b0 := eq_true c38
                                    have c38b1 : decide (0 ≤ (ji27)) = true := decide_eq_true c38
                                    clear c38
                                    by_cases c39 : (ji27) ≤ (x10_2.length : Int)
                                    · rw [if_pos c39] at H
                                      have c39b0 := eq_true c39
                                      have c39b1 : decide ((ji27) ≤ (x10_2.length : Int)) = true := decide_eq_true c39
                                      clear c39
                                      obtain ⟨y533, hy533⟩ : ∃ y_ : List (List Int), y_ = (x10_2.take ((ji27) : Int).toNat) := ⟨_, rfl⟩
                                      replace H : ((tapearchiveref06_times.f k3 (rd_L1 t528 x16_3) y533).bind fun t538 => (if x15_3.length < 5864062014805 then (tapearchiveref06_Reconstruct.l1 k3 a2 (ji27) x10_2 t528 (x15_3 ++ [t538]) (wrap64 (x16_3 + 1))) else (none))) = some (r1, r2) := by first | (rw [hy533]; with_reducible exact H) | (have H2_ := (Option.bind_some _ _).symm.trans H; rw [hy533]; with_reducible exact H2_) | (have H2_ := (Option.bind_some _ _).symm.trans H; with_reducible exact H2_) | with_reducible exact H | (rw [hy533]; exact H) | exact H
                                      have Ny533 := Aside0.mk hy533
                                      clear hy533
                                      replace H := Option.bind_eq_some_iff.mp H
                                      obtain ⟨t538, A400, H⟩ := H
                                      replace H : (if x15_3.length < 5864062014805 then (tapearchiveref06_Reconstruct.l1 k3 a2 (ji27) x10_2 t528 (x15_3 ++ [t538]) (wrap64 (x16_3 + 1))) else (none)) = some (r1, r2) := H
                                      have A40 := Aside0.mk A400
                                      clear A400
                                      by_cases c41 : x15_3.length < 5864062014805
                                      · rw [if_pos c41] at H
                                        have LMc41 := Aside0.mk c41
                                        clear c41
                                        obtain ⟨y541, hy541⟩ : ∃ y_ : List (List Int), y_ = (x15_3 ++ [t538]) := ⟨_, rfl⟩
                                        replace H : (tapearchiveref06_Reconstruct.l1 k3 a2 (ji27) x10_2 t528 y541 (wrap64 (x16_3 + 1))) = some (r1, r2) := by first | (rw [hy541]; with_reducible exact H) | (have H2_ := (Option.bind_some _ _).symm.trans H; rw [hy541]; with_reducible exact H2_) | (have H2_ := (Option.bind_some _ _).symm.trans H; with_reducible exact H2_) | with_reducible exact H | (rw [hy541]; exact H) | exact H
                                        have Ny541 := Aside0.mk hy541
                                        clear hy541
                                        have H' := Aside0.mk H
                                        clear H
                                        try go_wp2
                                        have n0_ := Aside0.mk (Kd.N_drew HO_10.out)
                                        have n1_ := Aside0.mk (Kd.N_drew HO_13.out)
                                        have n2_ := Aside0.mk (Kd.N_drew HO_15.out)
                                        have n3_ := Aside0.mk (below_drew1 HB.out)
                                        clear HO_10
                                        clear HO_13
                                        clear HO_15
                                        clear HB
                                        have HO_10 := n0_
                                        have HO_13 := n1_
                                        have HO_15 := n2_
                                        have HB := n3_
                                        clear n0_ n1_ n2_ n3_
                                        obtain ⟨Ao43, co43, eo43⟩ := Kd.N_slice HO_13.out
                                        (first | subst eo43 | (injection eo43 with f1_ f2_ f3_; have f4_ := f1_.symm; have f5_ := f3_.symm; clear f1_ f2_ f3_; subst f4_; subst f5_))
                                        have p532 : 0 ≤ (x16_3 : Int) := of_decide_eq_true (by first | (with_reducible assumption) | assumption)
                                        have q532 : x16_3 < (t528.length : Int) := of_decide_eq_true (by first | (with_reducible assumption) | assumption)
                                        obtain ⟨ad532, A532_0, c532_0, e532, hx532_0, hl532_0, hi532_0⟩ := at_L1 (Kd.N_reads' HO_13.out).2.2 x16_3 p532 q532
                                        cases e532
                                        obtain ⟨ce532, hce532, hMe532, hcc532⟩ := Kd.N_get HO_13.out [] x16_3 p532 (by first | exact q532 | exact of_decide_eq_true (by first | (with_reducible assumption) | assumption) | (have e_ := (Kd.N_reads' HO_13.out).1; omega))
                                        obtain ⟨ua532_0, uc532_0, rfl, ul532_0, ge532_0⟩ := Kd.FK_slice_open hMe532
                                        have hv532_0 := hcc532 0 _ rfl
                                        rw [Nat.add_zero, show ((Kd.slice 5 (Kd.int .u8))).sz = 1 from rfl, Nat.mul_one] at hv532_0
                                        replace hv532_0 := Option.some.inj (hv532_0.symm.trans hx532_0)
                                        injection hv532_0 with hva_ hvn_ hvc_
                                        rw [hva_] at ge532_0
                                        rw [hvc_] at ul532_0
                                        have HL532_0 := Aside0.mk (show Kd.V (Kd.int .u8) 5 _ w.heap.size _ _ (rd_L1 t528 x16_3) from Kd.V_mk ul532_0 ge532_0)
                                        clear hva_ hvn_ hvc_ ge532_0 ul532_0
                                        clear hcc532 hce532
                                        have HR532_0 := Aside0.mk hi532_0
                                        have HC532_0 := Aside0.mk hl532_0
                                        clear hi532_0 hl532_0
                                        replace p532 := eq_true p532
                                        replace q532 := eq_true q532
                                        have q44 : ((ji27) : Int) ≤ ((x10_2.length : Int) : Int) := of_decide_eq_true (by first | (with_reducible assumption) | assumption)
                                        obtain ⟨i044, hi044, _, hsz44, _⟩ := info_parts info33
                                        have hroom44 : x10_2.length ≤ co31 := (Kd.N_reads' HO_10.out).2.1
                                        have hC44 : Kd.F (Kd.slice 5 (Kd.int .u8)) _ _ Ao31 x10_2.length x10_2 := (Kd.V_at (base := w.heap.size) (Kd.N_V HO_10.out)).2.2
                                        have hcut44 := cut_to (P := Try.prog) 22 33 .i64 Try.underlying22 hi044 Ao31 x10_2.length co31 (ji27) (of_decide_eq_true (by first | (with_reducible assumption) | assumption)) q44 hroom44
                                        have hr44 := Kd.F_take (m := ((ji27) : Int).toNat) hC44 (by omega)
                                        have hy44 : y533.length = ((ji27) : Int).toNat := (by rw [Ny533.out, List.length_take]; omega)
                                        rw [← Ny533.out] at hr44
                                        rw [← hy44] at hcut44
                                        have HO537 := Aside0.mk (show Kd.V (Kd.slice 5 (Kd.int .u8)) 33 _ w.heap.size _ (.slice Ao31 y533.length co31) y533 from Kd.V_mk (by omega) hr44)
                                        have HC537 := Aside0.mk (show y533.length ≤ co31 from by omega)
                                        clear hr44 hC44 hroom44 hi044 hsz44
                                        have KY44 := Aside0.mk hy44
                                        clear hy44
                                        replace q44 := eq_true q44
                                        refine start_ (n := 12) (S := fun w' => w'.cell? (ad532.add (x16_3).toNat) = some (.slice A532_0 (rd_L1 t528 x16_3).length c532_0)) (ds := [9, 10]) #[false, false, false, false, false, false, false, false, false, false, false, false] (by kernel_rfl) rfl rfl (hx532_0) (fun hHeld => ?_); refine with_tabW tapearchiveref06_Reconstruct.tab23 tapearchiveref06_Reconstruct.bits23 (fun HT_ HW_ => ?_)
                                        generalize wr.drew = w42 at HO_10 HO_13 HO_15 HB HL532_0 HO537 HR532_0 hx532_0 hHeld ⊢
                                        refine pure_ (i := 0) (N := some 86) (v := ?_) (a' := ?_) #[true, false, false, false, false, false, false, false, false, false, false, false] rfl rfl (any_of HT_.out (by kernel_rfl)) (fun _ _ _ h => h) (Or.inl ⟨by rfl, ?_⟩) ?_ ?_
                                        rotate_left
                                        · intro w'
                                          go_simp
                                          with_reducible rfl
                                        rotate_left
                                        · simp only [Act.put, List.setIfInBounds_toArray, List.set_cons_zero, List.set_cons_succ, i64_w, i32_w]
                                          rfl
                                        refine pure_ (i := 1) (N := some 87) (v := ?_) (a' := ?_) #[true, true, false, false, false, false, false, false, false, false, false, false] rfl rfl (any_of HT_.out (by kernel_rfl)) (fun _ _ _ h => h) (Or.inl ⟨by rfl, ?_⟩) ?_ ?_
                                        rotate_left
                                        · intro w'
                                          go_simp
                                          with_reducible rfl
                                        rotate_left
                                        · simp only [Act.put, List.setIfInBounds_toArray, List.set_cons_zero, List.set_cons_succ, i64_w, i32_w]
                                          rfl
                                        refine pure_ (i := 2) (N := some 88) (v := ?_) (a' := ?_) #[true, true, true, false, false, false, false, false, false, false, false, false] rfl rfl (any_of HT_.out (by kernel_rfl)) (fun _ _ _ h => h) (Or.inl ⟨by rfl, ?_⟩) ?_ ?_
                                        rotate_left
                                        · intro w'
                                          go_simp
                                          with_reducible rfl
                                        rotate_left
                                        · simp only [Act.put, List.setIfInBounds_toArray, List.set_cons_zero, List.set_cons_succ, i64_w, i32_w]
                                          rfl
                                        refine pure_ (i := 3) (N := some 89) (v := ?_) (a' := ?_) #[true, true, true, true, false, false, false, false, false, false, false, false] rfl rfl (any_of HT_.out (by kernel_rfl)) (fun _ _ _ h => h) (Or.inl ⟨by rfl, ?_⟩) ?_ ?_
                                        rotate_left
                                        · intro w'
                                          go_simp
                                          with_reducible rfl
                                        rotate_left
                                        · simp only [Act.put, List.setIfInBounds_toArray, List.set_cons_zero, List.set_cons_succ, i64_w, i32_w]
                                          rfl
                                        refine pure_ (i := 5) (N := some 91) (v := ?_) (a' := ?_) #[true, true, true, true, false, true, false, false, false, false, false, false] rfl rfl (any_of HT_.out (by kernel_rfl)) (fun _ _ _ h => h) (Or.inl ⟨by rfl, ?_⟩) ?_ ?_
                                        rotate_left
                                        · intro w'
                                          go_simp
                                          with_reducible rfl
                                        rotate_left
                                        · simp only [Act.put, List.setIfInBounds_toArray, List.set_cons_zero, List.set_cons_succ, i64_w, i32_w]
                                          rfl
                                        refine pure_ (i := 6) (N := some 92) (v := ?_) (a' := ?_) #[true, true, true, true, false, true, true, false, false, false, false, false] rfl rfl (any_of HT_.out (by kernel_rfl)) (fun _ _ _ h => h) (Or.inl ⟨by rfl, ?_⟩) ?_ ?_
                                        rotate_left
                                        · intro w'
                                          go_simp
                                          with_reducible rfl
                                        rotate_left
                                        · simp only [Act.put, List.setIfInBounds_toArray, List.set_cons_zero, List.set_cons_succ, i64_w, i32_w]
                                          rfl
                                        refine pure_ (i := 7) (N := some 93) (v := ?_) (a' := ?_) #[true, true, true, true, false, true, true, true, false, false, false, false] rfl rfl (any_of HT_.out (by kernel_rfl)) (fun _ _ _ h => h) (Or.inl ⟨by rfl, ?_⟩) ?_ ?_
                                        rotate_left
                                        · intro w'
                                          go_simp
                                          with_reducible rfl
                                        rotate_left
                                        · simp only [Act.put, List.setIfInBounds_toArray, List.set_cons_zero, List.set_cons_succ, i64_w, i32_w]
                                          rfl
                                        refine take_ (i := 4) (N := some 90) (v := ?_) (a' := ?_) #[true, true, true, true, true, true, true, true, false, false, false, false] rfl rfl (take_ofW HT_.out HW_.out (by kernel_rfl)) (fun _ _ _ h => h) (Or.inl ⟨by rfl, ?_⟩) hHeld ?_ ?_
                                        rotate_left
                                        · intro w' s0
                                          go_simp
                                          with_reducible rfl
                                        rotate_left
                                        · simp only [Act.put, List.setIfInBounds_toArray, List.set_cons_zero, List.set_cons_succ, i64_w, i32_w]
                                          rfl
                                        refine one_ (i := 8) (N := some 94) #[true, true, true, true, true, true, true, true, true, false, false, false] rfl rfl (one_of HT_.out (by kernel_rfl)) (by decide) (fun K hK => ?_)
                                        refine goes_ Try.func48 (by kernel_rfl) rfl #[.slice A532_0 (rd_L1 t528 x16_3).length c532_0, .slice Ao31 y533.length co31] (by rfl) rfl rfl (by (try simp only [List.map_toArray, List.map_cons, List.map_nil]); first | done | rfl | (simp only [List.length_drop, List.length_take]; rfl)) ?_
                                        with_reducible refine (tapearchiveref06_times.calls k3 _ _ (rd_L1 t528 x16_3) _ _ y533 t538 _ ?side1 ?side2 ?side3 ?side4 A40.out).mono ?_
                                        (case side1 => repeat (first | exact (by repeat (first | (with_reducible exact HR532_0.out) | (with_reducible refine Kd.C_alloc ?_ _) | (with_reducible refine Kd.C_drewN ?_ _) | (with_reducible refine Kd.C_drew ?_) | exact HR532_0.out)) | (with_reducible refine Kd.C_alloc ?_ _) | (with_reducible refine Kd.C_drewN ?_ _) | (with_reducible refine Kd.C_drew ?_)))
                                        (case side2 => exact HC532_0.out)
                                        (case side3 => repeat (first | exact (Kd.V_reads' HO537.out).2.2 | (with_reducible refine Kd.C_alloc ?_ _) | (with_reducible refine Kd.C_drewN ?_ _) | (with_reducible refine Kd.C_drew ?_)))
                                        (case side4 => exact (Kd.V_reads' HO537.out).2.1)
                                        rintro e w45 ⟨v539, rfl, ho0, hb⟩
                                        have HS0_ := (hb.cell (World.block_lt_of_cell? _ _ (hHeld))).trans (hHeld)
                                        refine ⟨_, rfl, ?_⟩
                                        have n0_ := Aside0.mk (Kd.N_elder' (by (with_reducible repeat (first | apply Kd.N_alloc | apply Kd.N_drewN | apply Kd.N_drew)); exact HO_10.out) (Kd.R_base ho0) hb)
                                        have n1_ := Aside0.mk (Kd.N_elder' (by (with_reducible repeat (first | apply Kd.N_alloc | apply Kd.N_drewN | apply Kd.N_drew)); exact HO_13.out) (Kd.R_base ho0) hb)
                                        have n2_ := Aside0.mk (Kd.N_elder' (by (with_reducible repeat (first | apply Kd.N_alloc | apply Kd.N_drewN | apply Kd.N_drew)); exact HO_15.out) (Kd.R_base ho0) hb)
                                        have n3_ := Aside0.mk (Kd.V_elder' (by (with_reducible repeat (first | apply Kd.V_alloc | apply Kd.V_drewN | apply Kd.V_drew)); exact HL532_0.out) (Kd.R_base ho0) hb)
                                        have n4_ := Aside0.mk (Kd.V_elder' (by (with_reducible repeat (first | apply Kd.V_alloc | apply Kd.V_drewN | apply Kd.V_drew)); exact HO537.out) (Kd.R_base ho0) hb)
                                        have n5_ := Aside0.mk (Kd.R_lower (Kd.R_newM (M := fun k_ => (w.heap.size ≤ k_)) ho0 (below_size (by repeat (first | (with_reducible first | exact HB.out | apply below_alloc | apply pw_below_drewN | apply below_drew1) | exact HB.out))) (fun k_ h_ => h_)) (below_size (by repeat (first | (with_reducible first | exact HB.out | apply below_alloc | apply pw_below_drewN | apply below_drew1) | exact HB.out))))
                                        have n6_ := Aside0.mk (Kd.C_below (by repeat (first | (with_reducible exact HR532_0.out) | (with_reducible refine Kd.C_alloc ?_ _) | (with_reducible refine Kd.C_drewN ?_ _) | (with_reducible refine Kd.C_drew ?_) | exact HR532_0.out)) hb)
                                        have n7_ := Aside0.mk (below_step (by repeat (first | (with_reducible first | exact HB.out | apply below_alloc | apply pw_below_drewN | apply below_drew1) | exact HB.out)) hb)
                                        clear HO_10
                                        clear HO_13
                                        clear HO_15
                                        clear HL532_0
                                        clear HO537
                                        clear HR532_0
                                        clear HB
                                        have HO_10 := n0_
                                        have HO_13 := n1_
                                        have HO_15 := n2_
                                        have HL532_0 := n3_
                                        have HO537 := n4_
                                        have HO540 := n5_
                                        have HR532_0 := n6_
                                        have HB := n7_
                                        clear n0_ n1_ n2_ n3_ n4_ n5_ n6_ n7_
                                        (try clear hb)
                                        (try clear hb2)
                                        (try clear hk)
                                        (try clear hi)
                                        (try clear ho0)
                                        obtain ⟨Ao47, co47, eo47⟩ := Kd.R_slice HO540.out
                                        (first | subst eo47 | (injection eo47 with f1_ f2_ f3_; have f4_ := f1_.symm; have f5_ := f3_.symm; clear f1_ f2_ f3_; subst f4_; subst f5_))
                                        refine hK.out _ _ (HS0_) (fun hHeld => ?_)
                                        clear hK K
                                        refine norm_ (a' := ?_) ?_ ?_
                                        rotate_left
                                        · show Act.put _ (some 94) _ = _
                                          simp only [Act.put, List.setIfInBounds_toArray, List.set_cons_zero, List.set_cons_succ, i64_w, i32_w]
                                          rfl
                                        refine last_ (i := 9) (N := some 95) #[true, true, true, true, true, true, true, true, true, true, false, false] rfl rfl (one_of HT_.out (by kernel_rfl)) (by decide) (fun K hK => ?_)
                                        refine value_ (w1 := ?_) (v := ?_) (by rfl) rfl ?_ ?_
                                        rotate_left 2
                                        · go_simp
                                          constructor
                                          · rfl
                                          · rfl
                                        refine hK.out _ _ ?_
                                        clear hK K
                                        refine norm_ (a' := ?_) ?_ ?_
                                        rotate_left
                                        · show Act.put _ (some 95) _ = _
                                          simp only [Act.put, List.setIfInBounds_toArray, List.set_cons_zero, List.set_cons_succ, i64_w, i32_w]
                                          rfl
                                        refine last_ (i := 10) (N := some 96) #[true, true, true, true, true, true, true, true, true, true, true, false] rfl rfl (one_of HT_.out (by kernel_rfl)) (by decide) (fun K hK => ?_)
                                        refine Kd.N_append_step (Kd.slice 5 (Kd.int .u8)) (w0 := w) w.heap.size (by rfl) (.tmp 86) (.tmp 95) 22 33 (.slice none 0 0) 24 rfl Try.underlying22 info33 rfl (by decide) (by omega) u15 x15_3 t538 [.slice Ao47 t538.length co47] (fun k_ => (P0_ k_ ∨ w.heap.size ≤ k_) ∧ some k_ ≠ (.slice Ao31 x10_2.length co31 : Value).ownBlock ∧ some k_ ≠ (.slice (some ad532) t528.length co43 : Value).ownBlock) (fun k_ => ((fun k_ => (P0_ k_ ∨ w.heap.size ≤ k_) ∧ some k_ ≠ (.slice Ao31 x10_2.length co31 : Value).ownBlock ∧ some k_ ≠ (.slice (some ad532) t528.length co43 : Value).ownBlock)) k_ ∧ some k_ ≠ (u15 : Value).ownBlock) rfl rfl ?aP (fun _ hk => hk) ?aF ?aO ?aB ?aS ?aL ?_
                                        (case aP => exact (Kd.FK_slice_mk (Kd.R_reads' (Kd.R_mono (ok' := (fun k_ => ((fun k_ => (P0_ k_ ∨ w.heap.size ≤ k_) ∧ some k_ ≠ (.slice Ao31 x10_2.length co31 : Value).ownBlock ∧ some k_ ≠ (.slice (some ad532) t528.length co43 : Value).ownBlock)) k_ ∧ some k_ ≠ (u15 : Value).ownBlock)) (Kd.R_apart' (Kd.R_apart' (Kd.R_apart' (HO540.out) (Kd.N_typed HO_10.out) (by decide)) (Kd.N_typed HO_13.out) (by decide)) (Kd.N_typed HO_15.out) (by decide)) (fun k_ hk => ⟨⟨(.inr (hk.1.1.1.1)), ⟨hk.1.1.2, hk.1.2⟩⟩, hk.2⟩))).2.1 (Kd.R_F (Kd.R_mono (ok' := (fun k_ => ((fun k_ => (P0_ k_ ∨ w.heap.size ≤ k_) ∧ some k_ ≠ (.slice Ao31 x10_2.length co31 : Value).ownBlock ∧ some k_ ≠ (.slice (some ad532) t528.length co43 : Value).ownBlock)) k_ ∧ some k_ ≠ (u15 : Value).ownBlock)) (Kd.R_apart' (Kd.R_apart' (Kd.R_apart' (HO540.out) (Kd.N_typed HO_10.out) (by decide)) (Kd.N_typed HO_13.out) (by decide)) (Kd.N_typed HO_15.out) (by decide)) (fun k_ hk => ⟨⟨(.inr (hk.1.1.1.1)), ⟨hk.1.1.2, hk.1.2⟩⟩, hk.2⟩)))))
                                        (case aB => exact (by repeat (first | (with_reducible first | exact HB.out | apply below_alloc | apply pw_below_drewN | apply below_drew1) | exact HB.out)))
                                        (case aF => exact (fun k_ hk => ⟨(.inr (Nat.le_trans (below_size (by repeat (first | (with_reducible first | exact HB.out | apply below_alloc | apply pw_below_drewN | apply below_drew1) | exact HB.out))) hk)), Kd.fresh' (Kd.N_lt (by (with_reducible repeat (first | apply Kd.N_alloc | apply Kd.N_drewN | apply Kd.N_drew)); exact HO_10.out)) k_ hk, Kd.fresh' (Kd.N_lt (by (with_reducible repeat (first | apply Kd.N_alloc | apply Kd.N_drewN | apply Kd.N_drew)); exact HO_13.out)) k_ hk⟩))
                                        (case aO => exact (by (with_reducible repeat (first | apply Kd.N_alloc | apply Kd.N_drewN | apply Kd.N_drew)); exact Kd.N_mono HO_15.out (fun _ hk => ⟨hk.1.1, ⟨hk.1.2.1, hk.1.2.2⟩⟩)))
                                        (case aS => exact (below_size (by repeat (first | (with_reducible first | exact HB.out | apply below_alloc | apply pw_below_drewN | apply below_drew1) | exact HB.out))))
                                        (case aL => have := LMc41.out; omega)
                                        intro v542 w46 ho hb hg hat
                                        rw [← Ny541.out] at ho
                                        have n0_ := Aside0.mk (Kd.N_afterv (ok := (fun k_ => (P0_ k_ ∨ w.heap.size ≤ k_) ∧ some k_ ≠ (.slice (some ad532) t528.length co43 : Value).ownBlock ∧ some k_ ≠ (.slice Ao47 t538.length co47 : Value).ownBlock)) (by (with_reducible repeat (first | apply Kd.N_alloc | apply Kd.N_drewN | apply Kd.N_drew)); exact Kd.N_mono HO_10.out (fun _ hk => ⟨⟨hk.1.1, ⟨hk.1.2.1, hk.2⟩⟩, hk.1.2.2⟩)) hg hat)
                                        have n1_ := Aside0.mk (Kd.N_afterv (ok := (fun k_ => (P0_ k_ ∨ w.heap.size ≤ k_) ∧ some k_ ≠ (.slice Ao31 x10_2.length co31 : Value).ownBlock ∧ some k_ ≠ (.slice Ao47 t538.length co47 : Value).ownBlock)) (by (with_reducible repeat (first | apply Kd.N_alloc | apply Kd.N_drewN | apply Kd.N_drew)); exact Kd.N_mono HO_13.out (fun _ hk => ⟨⟨hk.1.1, ⟨hk.1.2.1, hk.2⟩⟩, hk.1.2.2⟩)) hg hat)
                                        have n2_ := Aside0.mk (Kd.V_afterv (ok := (fun k_ => (P0_ k_ ∨ w.heap.size ≤ k_) ∧ some k_ ≠ (.slice Ao31 x10_2.length co31 : Value).ownBlock ∧ some k_ ≠ (.slice (some ad532) t528.length co43 : Value).ownBlock ∧ some k_ ≠ (.slice Ao47 t538.length co47 : Value).ownBlock)) (by (with_reducible repeat (first | apply Kd.V_alloc | apply Kd.V_drewN | apply Kd.V_drew)); exact Kd.V_mono HL532_0.out (fun _ hk => ⟨⟨hk.1.1.1, ⟨hk.1.1.2.1, ⟨hk.1.2, hk.2⟩⟩⟩, hk.1.1.2.2⟩)) hg hat)
                                        have n3_ := Aside0.mk (Kd.V_afterv (ok := (fun k_ => (P0_ k_ ∨ w.heap.size ≤ k_) ∧ some k_ ≠ (.slice (some ad532) t528.length co43 : Value).ownBlock ∧ some k_ ≠ (.slice Ao47 t538.length co47 : Value).ownBlock)) (by (with_reducible repeat (first | apply Kd.V_alloc | apply Kd.V_drewN | apply Kd.V_drew)); exact Kd.V_mono HO537.out (fun _ hk => ⟨⟨hk.1.1, ⟨hk.1.2.1, hk.2⟩⟩, hk.1.2.2⟩)) hg hat)
                                        have n4_ := Aside0.mk (hb)
                                        have n5_ := Aside0.mk (ho)
                                        clear HO_10
                                        clear HO_13
                                        clear HL532_0
                                        clear HO537
                                        clear HB
                                        clear HO_15
                                        clear HO540
                                        have HO_10 := n0_
                                        have HO_13 := n1_
                                        have HL532_0 := n2_
                                        have HO537 := n3_
                                        have HB := n4_
                                        have HO543 := n5_
                                        clear n0_ n1_ n2_ n3_ n4_ n5_
                                        clear ho hb hg hat
                                        refine hK.out _ _ ?_
                                        clear hK K
                                        refine norm_ (a' := ?_) ?_ ?_
                                        rotate_left
                                        · show Act.put _ (some 96) _ = _
                                          simp only [Act.put, List.setIfInBounds_toArray, List.set_cons_zero, List.set_cons_succ, i64_w, i32_w]
                                          rfl
                                        refine pure_ (i := 11) (N := some 15) (v := ?_) (a' := ?_) #[true, true, true, true, true, true, true, true, true, true, true, true] rfl rfl (any_of HT_.out (by kernel_rfl)) (fun _ _ _ h => h) (Or.inl ⟨by rfl, ?_⟩) ?_ ?_
                                        rotate_left
                                        · intro w'
                                          go_simp
                                          with_reducible rfl
                                        rotate_left
                                        · simp only [Act.put, List.setIfInBounds_toArray, List.set_cons_zero, List.set_cons_succ, i64_w, i32_w]
                                          rfl
                                        refine done_ (done_of HT_.out (by kernel_rfl)) ?_
                                        try go_wp2
                                        go_roundg k3
                                        case measure => have := HJ3.out; have := HK2.out; have := HK3.out; omega
                                        case rel => exact ⟨(y541), (wrap64 (x16_3 + 1)), (by first | rfl | (simp; done) | (simp [*]; done)), H', ⟨by have := HJ3.out; have := HK2.out; have := HK3.out; omega⟩, ⟨by (with_reducible repeat (first | apply Kd.N_alloc | apply Kd.N_drewN | apply Kd.N_drew)); exact Kd.N_mono HO_10.out (fun _ hk => ⟨hk.1.1, ⟨hk.1.2.1, hk.2⟩⟩)⟩, ⟨by (with_reducible repeat (first | apply Kd.N_alloc | apply Kd.N_drewN | apply Kd.N_drew)); exact Kd.N_mono HO_13.out (fun _ hk => ⟨hk.1.1, ⟨hk.1.2.1, hk.2⟩⟩)⟩, ⟨by (with_reducible repeat (first | apply Kd.N_alloc | apply Kd.N_drewN | apply Kd.N_drew)); exact HO543.out⟩, ⟨by repeat (first | (with_reducible first | exact HB.out | apply below_alloc | apply pw_below_drewN | apply below_drew1) | exact HB.out)⟩⟩
                                      · rw [if_neg c41] at H
                                        exact absurd H (by simp)
                                    · rw [if_neg c39] at H
                                      exact absurd H (by simp)
                                  · rw [if_neg c38] at H
                                    exact absurd H (by simp)
                                · rw [if_neg c37] at H
                                  exact absurd H (by simp)
                              · rw [if_neg c36] at H
                                exact absurd H (by simp)
                            · rw [if_neg c35] at H
                              have c35b0 : decide (x16_3 < (ji27)) = false := decide_eq_false c35
                              clear c35
                              replace H := Option.bind_eq_some_iff.mp H
                              obtain ⟨⟨t544, t547⟩, A480, H⟩ := H
                              replace H : (if x15_3.length + t544.length < 5864062014805 then (some ((x15_3 ++ t544), 0)) else (none)) = some (r1, r2) := H
                              have A48 := Aside0.mk A480
                              clear A480
                              by_cases c49 : x15_3.length + t544.length < 5864062014805
                              · rw [if_pos c49] at H
                                have LMc49 := Aside0.mk c49
                                clear c49
                                obtain ⟨y548, hy548⟩ : ∃ y_ : List (List Int), y_ = (x15_3 ++ t544) := ⟨_, rfl⟩
                                replace H : (some (y548, 0)) = some (r1, r2) := by first | (rw [hy548]; with_reducible exact H) | (have H2_ := (Option.bind_some _ _).symm.trans H; rw [hy548]; with_reducible exact H2_) | (have H2_ := (Option.bind_some _ _).symm.trans H; with_reducible exact H2_) | with_reducible exact H | (rw [hy548]; exact H) | exact H
                                have Ny548 := Aside0.mk hy548
                                clear hy548
                                simp only [Option.some.injEq, Prod.mk.injEq] at H
                                obtain ⟨rfl, rfl⟩ := H
                                obtain ⟨Ao50, co50, eo50⟩ := Kd.N_slice HO_15.out
                                subst eo50
                                go_wp2_with (first | ((with_reducible refine gate_callee (f := 18) rfl ?_); refine goesL_ (some 100) rfl rfl Try.func18 (by kernel_rfl) rfl #[.slice Ao50 x15_3.length co50, .int .i64 a2] rfl (by (try simp only [List.map_toArray, List.map_cons, List.map_nil]); first | done | rfl | (simp only [List.length_drop, List.length_take]; rfl)) ?_; (with_reducible refine (tapearchiveref06_Parity.calls k3 _ _ x15_3 a2 t544 t547 _ ?side1 ?side2 A48.out).mono ?_); (case side1 => repeat (first | exact (Kd.N_reads' HO_15.out).2.2 | (with_reducible refine Kd.C_alloc ?_ _) | (with_reducible refine Kd.C_drewN ?_ _) | (with_reducible refine Kd.C_drew ?_))); (case side2 => exact (Kd.N_reads' HO_15.out).2.1); rintro e w51 ⟨v545, rfl, ho0, hb⟩; refine ⟨_, rfl, ?_⟩; have n0_ := Aside0.mk (Kd.N_elder' (by (with_reducible repeat (first | apply Kd.N_alloc | apply Kd.N_drewN | apply Kd.N_drew)); exact HO_10.out) (Kd.N_base ho0) hb); have n1_ := Aside0.mk (Kd.N_elder' (by (with_reducible repeat (first | apply Kd.N_alloc | apply Kd.N_drewN | apply Kd.N_drew)); exact HO_13.out) (Kd.N_base ho0) hb); have n2_ := Aside0.mk (Kd.N_elder' (by (with_reducible repeat (first | apply Kd.N_alloc | apply Kd.N_drewN | apply Kd.N_drew)); exact HO_15.out) (Kd.N_base ho0) hb); have n3_ := Aside0.mk (Kd.N_lower (Kd.N_mono (ok' := fun k_ => (P0_ k_ ∨ w.heap.size ≤ k_) ∧ some k_ ≠ (.slice Ao31 x10_2.length co31 : Value).ownBlock ∧ some k_ ≠ (v530 : Value).ownBlock ∧ some k_ ≠ (.slice Ao50 x15_3.length co50 : Value).ownBlock) ho0 (fun k_ hk_ => ⟨(.inr (Nat.le_trans (below_size (by repeat (first | (with_reducible first | exact HB.out | apply below_alloc | apply pw_below_drewN | apply below_drew1) | exact HB.out))) hk_)), (Kd.fresh' (Kd.N_lt (by (with_reducible repeat (first | apply Kd.N_alloc | apply Kd.N_drewN | apply Kd.N_drew)); exact HO_10.out)) k_ hk_), (Kd.fresh' (Kd.N_lt (by (with_reducible repeat (first | apply Kd.N_alloc | apply Kd.N_drewN | apply Kd.N_drew)); exact HO_13.out)) k_ hk_), (Kd.fresh' (Kd.N_lt (by (with_reducible repeat (first | apply Kd.N_alloc | apply Kd.N_drewN | apply Kd.N_drew)); exact HO_15.out)) k_ hk_)⟩)) (below_size (by repeat (first | (with_reducible first | exact HB.out | apply below_alloc | apply pw_below_drewN | apply below_drew1) | exact HB.out)))); have n4_ := Aside0.mk (below_step (by repeat (first | (with_reducible first | exact HB.out | apply below_alloc | apply pw_below_drewN | apply below_drew1) | exact HB.out)) hb); clear HO_10; clear HO_13; clear HO_15; clear HB; have HO_10 := n0_; have HO_13 := n1_; have HO_15 := n2_; have HO546 := n3_; have HB := n4_; clear n0_ n1_ n2_ n3_ n4_; (try clear hb); (try clear hb2); (try clear hk); (try clear hi); (try clear ho0); obtain ⟨Ao53, co53, eo53⟩ := Kd.N_slice HO546.out; subst eo53) | ((with_reducible refine gate_builtin (b := .append) (xs := #[.tmp 103, .tmp 104]) rfl ?_); at_builtin; refine Kd.N_append_rows (Kd.slice 5 (Kd.int .u8)) (w0 := w) w.heap.size rfl (.tmp 103) (.tmp 104) 22 33 (.slice none 0 0) 24 rfl Try.underlying22 info33 rfl (by decide) (by omega) (.slice Ao50 x15_3.length co50) x15_3 t544 _ _ _ (fun k_ => (P0_ k_ ∨ w.heap.size ≤ k_) ∧ some k_ ≠ (.slice Ao31 x10_2.length co31 : Value).ownBlock ∧ some k_ ≠ (v530 : Value).ownBlock) (fun k_ => ((fun k_ => (P0_ k_ ∨ w.heap.size ≤ k_) ∧ some k_ ≠ (.slice Ao31 x10_2.length co31 : Value).ownBlock ∧ some k_ ≠ (v530 : Value).ownBlock)) k_ ∧ some k_ ≠ (.slice Ao50 x15_3.length co50 : Value).ownBlock) rfl rfl ?aO ?aR (fun _ hk => hk) ?aF ?aB ?aS ?aL ?_; (case aR => exact (by skip; exact Kd.N_F (Kd.N_mono (ok' := (fun k_ => ((fun k_ => (P0_ k_ ∨ w.heap.size ≤ k_) ∧ some k_ ≠ (.slice Ao31 x10_2.length co31 : Value).ownBlock ∧ some k_ ≠ (v530 : Value).ownBlock)) k_ ∧ some k_ ≠ (.slice Ao50 x15_3.length co50 : Value).ownBlock)) (HO546.out) (fun k_ hk => ⟨⟨hk.1, ⟨hk.2.1, hk.2.2.1⟩⟩, hk.2.2.2⟩)))); (case aB => exact (by repeat (first | (with_reducible first | exact HB.out | apply below_alloc | apply pw_below_drewN | apply below_drew1) | exact HB.out))); (case aF => exact (fun k_ hk => ⟨(.inr (Nat.le_trans (below_size (by repeat (first | (with_reducible first | exact HB.out | apply below_alloc | apply pw_below_drewN | apply below_drew1) | exact HB.out))) hk)), Kd.fresh' (Kd.N_lt (by (with_reducible repeat (first | apply Kd.N_alloc | apply Kd.N_drewN | apply Kd.N_drew)); exact HO_10.out)) k_ hk, Kd.fresh' (Kd.N_lt (by (with_reducible repeat (first | apply Kd.N_alloc | apply Kd.N_drewN | apply Kd.N_drew)); exact HO_13.out)) k_ hk⟩)); (case aO => exact (by (with_reducible repeat (first | apply Kd.N_alloc | apply Kd.N_drewN | apply Kd.N_drew)); exact Kd.N_mono HO_15.out (fun _ hk => ⟨hk.1.1, ⟨hk.1.2.1, hk.1.2.2⟩⟩))); (case aS => exact (below_size (by repeat (first | (with_reducible first | exact HB.out | apply below_alloc | apply pw_below_drewN | apply below_drew1) | exact HB.out)))); (case aL => have := LMc49.out; omega); intro v549 w52 ho hb hg hat; rw [← Ny548.out] at ho; have n0_ := Aside0.mk (Kd.N_afterv (ok := (fun k_ => (P0_ k_ ∨ w.heap.size ≤ k_) ∧ some k_ ≠ (v530 : Value).ownBlock ∧ some k_ ≠ (.slice Ao53 t544.length co53 : Value).ownBlock)) (by (with_reducible repeat (first | apply Kd.N_alloc | apply Kd.N_drewN | apply Kd.N_drew)); exact Kd.N_mono HO_10.out (fun _ hk => ⟨⟨hk.1.1, ⟨hk.1.2.1, hk.2⟩⟩, hk.1.2.2⟩)) hg hat); have n1_ := Aside0.mk (Kd.N_afterv (ok := (fun k_ => (P0_ k_ ∨ w.heap.size ≤ k_) ∧ some k_ ≠ (.slice Ao31 x10_2.length co31 : Value).ownBlock ∧ some k_ ≠ (.slice Ao53 t544.length co53 : Value).ownBlock)) (by (with_reducible repeat (first | apply Kd.N_alloc | apply Kd.N_drewN | apply Kd.N_drew)); exact Kd.N_mono HO_13.out (fun _ hk => ⟨⟨hk.1.1, ⟨hk.1.2.1, hk.2⟩⟩, hk.1.2.2⟩)) hg hat); have n2_ := Aside0.mk (Kd.N_afterv (ok := (fun k_ => (P0_ k_ ∨ w.heap.size ≤ k_) ∧ some k_ ≠ (.slice Ao31 x10_2.length co31 : Value).ownBlock ∧ some k_ ≠ (v530 : Value).ownBlock)) (by (with_reducible repeat (first | apply Kd.N_alloc | apply Kd.N_drewN | apply Kd.N_drew)); exact Kd.N_mono HO546.out (fun _ hk => ⟨⟨hk.1, ⟨hk.2.1, hk.2.2.1⟩⟩, hk.2.2.2⟩)) hg hat); have n3_ := Aside0.mk (hb); have n4_ := Aside0.mk (ho); clear HO_10; clear HO_13; clear HO546; clear HB; clear HO_15; have HO_10 := n0_; have HO_13 := n1_; have HO546 := n2_; have HB := n3_; have HO550 := n4_; clear n0_ n1_ n2_ n3_ n4_; clear ho hb hg hat))
                                go_ret2
                                exact ⟨_, by first | rfl | (simp [errW_none, errW_some] <;> rfl) | (simp only [← hji27]; first | rfl | (simp [errW_none, errW_some] <;> rfl)) | (simp [*, errW_none, errW_some] <;> rfl), by (with_reducible repeat (first | apply Kd.N_alloc | apply Kd.N_drewN | apply Kd.N_drew)); exact Kd.N_mono HO550.out (fun _ hk => hk.1), by repeat (first | (with_reducible first | exact HB.out | apply below_alloc | apply pw_below_drewN | apply below_drew1) | exact HB.out)⟩
                              · rw [if_neg c49] at H
                                exact absurd H (by simp)
                      · rw [if_neg c29] at H
                        exact absurd H (by simp)
                    · rw [if_neg c28] at H
                      exact absurd H (by simp)
                · replace c24 := Bool.eq_false_iff.mpr c24
                  subst c24
                  have H1 : (some (([] : List (List Int)), 8)) = some (r1, r2) := by rw [if_neg (show ¬ (false = true) by decide)] at H; exact H
                  clear H
                  have H := H1
                  clear H1
                  simp only [Option.some.injEq, Prod.mk.injEq] at H
                  obtain ⟨rfl, rfl⟩ := H
                  obtain ⟨Ao54, co54, eo54⟩ := Kd.N_slice HO_10.out
                  subst eo54
                  go_wp2_with (first | ((with_reducible refine gate_callee (f := 46) rfl ?_); refine goesL_ (some 68) rfl rfl Try.func46 (by kernel_rfl) rfl #[.slice Ao54 x10_2.length co54] rfl (by (try simp only [List.map_toArray, List.map_cons, List.map_nil]); first | done | rfl | (simp only [List.length_drop, List.length_take]; rfl)) ?_; (with_reducible refine (tapearchiveref06_equal.calls k2 _ _ x10_2 false _ ?side1 ?side2 A23.out).mono ?_); (case side1 => repeat (first | exact (Kd.N_reads' HO_10.out).2.2 | (with_reducible refine Kd.C_alloc ?_ _) | (with_reducible refine Kd.C_drewN ?_ _) | (with_reducible refine Kd.C_drew ?_))); (case side2 => exact (Kd.N_reads' HO_10.out).2.1); rintro e w' ⟨rfl, ⟨nd, rfl⟩⟩; refine ⟨_, rfl, ?_⟩))
                  go_ret2
                  exact ⟨_, by first | rfl | (simp [errW_none, errW_some] <;> rfl) | (simp [*, errW_none, errW_some] <;> rfl), by first | exact Kd.S_nil _ _ _ _ _ | exact Kd.N_nil _ _ _ _ _ | exact Kd.V_nil _ _ _ _ _ | exact Kd.Q_nil _ _ _ _ _ | exact Kd.R_nil _ _ _ _ _, by repeat (first | (with_reducible first | exact HB.out | apply below_alloc | apply pw_below_drewN | apply below_drew1) | exact HB.out)⟩
        · rw [if_neg c9] at H
          have c9b0 : ((l1.length : Int) == (l0.length : Int)) = false := beq_eq_false_iff_ne.mpr c9
          have c9b1 : ((l1.length : Int) != (l0.length : Int)) = true := bne_iff_ne.mpr c9
          have c9b2 : (l1.length == l0.length) = false := by first | simpa using c9 | (simp at c9 ⊢; omega)
          simp only [Option.some.injEq, Prod.mk.injEq] at H
          obtain ⟨rfl, rfl⟩ := H
          go_wp2
          go_ret2
          exact ⟨_, by first | rfl | (simp [errW_none, errW_some] <;> rfl) | (simp [*, errW_none, errW_some] <;> rfl), by first | exact Kd.S_nil _ _ _ _ _ | exact Kd.N_nil _ _ _ _ _ | exact Kd.V_nil _ _ _ _ _ | exact Kd.Q_nil _ _ _ _ _ | exact Kd.R_nil _ _ _ _ _, by repeat (first | (with_reducible first | exact HB.out | apply below_alloc | apply pw_below_drewN | apply below_drew1) | exact HB.out)⟩

-- NOT PRINTED: function 5 (tapearchivelaw06_ErasureReconstructs)

end Go.Proofs.Ytmlfpcnemganbaa.Q
