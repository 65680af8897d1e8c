-- Written for this claim by a program (see NOTES.md): functions of the translation as plain Lean functions, with proofs. Lean checks it.
import Derived.Test.YtmlfpcnemganbaaQ0
import Derived.Test.YtmlfpcnemganbaaQ4
import Derived.Test.YtmlfpcnemganbaaQ8
import Derived.Test.YtmlfpcnemganbaaQ10
namespace Go.Proofs.Ytmlfpcnemganbaa.Q
open Go.RowKit Go.Proofs.YtmlfpcnemganbaaW.PrintWords Go.Proofs.YtmlfpcnemganbaaW.PrintLast Go.Proofs.YtmlfpcnemganbaaW.PrintMore
attribute [local go_sem] max2_int min2_int max_two min_two max_three min_three max_four min_four   -- for this text's walks alone
set_option linter.unusedVariables false
set_option linter.unusedSimpArgs false

/-! ### tapearchiveref06_Check: function 21 -/
def tapearchiveref06_Check.j0 : Nat → List (List Int) → Int → Int → Bool → Option (Bool)
  | 0, _, _, _, _ => none
  | k + 1, x0, x1, x5, x28 => if x28 = true then (some false) else (if 0 ≤ x5 then (if x5 ≤ (x0.length : Int) then ((tapearchiveref06_Parity.f k (x0.take (x5 : Int).toNat) x1).bind fun bt409 => ((tapearchiveref06_Same.f k bt409.1 (x0.drop (x5 : Int).toNat)).bind fun t417 => (some t417))) else (none)) else (none))
def tapearchiveref06_Check.f (k : Nat) (l0 : List (List Int)) (a1 : Int) : Option (Bool) := if a1 < 0 then (tapearchiveref06_Check.j0 k l0 a1 (wrap64 ((l0.length : Int) - a1)) true) else (if a1 > 16 then (tapearchiveref06_Check.j0 k l0 a1 (wrap64 ((l0.length : Int) - a1)) true) else ((tapearchiveref06_valid.f (wrap64 ((l0.length : Int) - a1)) a1).bind fun t403 => (if t403 = true then ((tapearchiveref06_equal.f k l0).bind fun t404 => (tapearchiveref06_Check.j0 k l0 a1 (wrap64 ((l0.length : Int) - a1)) (!t404))) else (tapearchiveref06_Check.j0 k l0 a1 (wrap64 ((l0.length : Int) - a1)) true))))
theorem tapearchiveref06_Check.mono_l : ∀ k, (∀ y0 y1 y2 y3, LeO (tapearchiveref06_Check.j0 k y0 y1 y2 y3) (tapearchiveref06_Check.j0 (k + 1) y0 y1 y2 y3))
  | 0 => fun _ _ _ _ r h => by simp [tapearchiveref06_Check.j0] at h
  | k + 1 => by
    have ih0 := tapearchiveref06_Check.mono_l k
    · intro y0 y1 y2 y3
      unfold tapearchiveref06_Check.j0
      repeat' first
      | (with_reducible exact ih0 _ _ _ _)
      | (with_reducible exact tapearchiveref06_Parity.mono _ _ _)
      | (with_reducible exact tapearchiveref06_Same.mono _ _ _)
      | (with_reducible exact tapearchiveref06_equal.mono _ _)
      | (with_reducible exact LeO.refl _)
      | (with_reducible exact LeO.none _)
      | (with_reducible refine LeO.ite ?_ ?_)
      | (with_reducible refine LeO.bind ?_ (fun _ => ?_))
      | exact ih0 _ _ _ _
      | exact tapearchiveref06_Parity.mono _ _ _
      | exact tapearchiveref06_Same.mono _ _ _
      | exact tapearchiveref06_equal.mono _ _
      | exact LeO.none _
      | refine LeO.ite ?_ ?_
      | refine LeO.bind ?_ (fun _ => ?_)
theorem tapearchiveref06_Check.mono : ∀ a0 a1 k, LeO (tapearchiveref06_Check.f k a0 a1) (tapearchiveref06_Check.f (k + 1) a0 a1) := by
  intro a0 a1 k
  have ih0 := tapearchiveref06_Check.mono_l k
  unfold tapearchiveref06_Check.f
  repeat' first
      | (with_reducible exact ih0 _ _ _ _)
      | (with_reducible exact tapearchiveref06_Parity.mono _ _ _)
      | (with_reducible exact tapearchiveref06_Same.mono _ _ _)
      | (with_reducible exact tapearchiveref06_equal.mono _ _)
      | (with_reducible exact LeO.refl _)
      | (with_reducible exact LeO.none _)
      | (with_reducible refine LeO.ite ?_ ?_)
      | (with_reducible refine LeO.bind ?_ (fun _ => ?_))
      | exact ih0 _ _ _ _
      | exact tapearchiveref06_Parity.mono _ _ _
      | exact tapearchiveref06_Same.mono _ _ _
      | exact tapearchiveref06_equal.mono _ _
      | exact LeO.none _
      | refine LeO.ite ?_ ?_
      | refine LeO.bind ?_ (fun _ => ?_)
set_option maxHeartbeats 8000000 in
set_option maxRecDepth 100000 in
theorem tapearchiveref06_Check.calls (k : Nat) (A0 : Option Addr) (c0 : Nat) (l0 : List (List Int)) (a1 : Int) (r : Bool) (w : World) (hr0 : Kd.C (Kd.slice 5 (Kd.int .u8)) w A0 l0.length l0) (hc0 : l0.length ≤ c0) (h : tapearchiveref06_Check.f k l0 a1 = some r) :
    Calls Try.prog 21 #[.slice A0 l0.length c0, .int .i64 a1] w fun e w' => e = .returned (.bool r) ∧ Below w.heap.size w w' := by
  have HR0 := Aside0.mk hr0
  have HC0 := Aside0.mk hc0
  clear hr0 hc0
  have HB := Aside0.mk (Below.refl w.heap.size w)
  have H : (if a1 < 0 then (tapearchiveref06_Check.j0 k l0 a1 (wrap64 ((l0.length : Int) - a1)) true) else (if a1 > 16 then (tapearchiveref06_Check.j0 k l0 a1 (wrap64 ((l0.length : Int) - a1)) true) else ((tapearchiveref06_valid.f (wrap64 ((l0.length : Int) - a1)) a1).bind fun t403 => (if t403 = true then ((tapearchiveref06_equal.f k l0).bind fun t404 => (tapearchiveref06_Check.j0 k l0 a1 (wrap64 ((l0.length : Int) - a1)) (!t404))) else (tapearchiveref06_Check.j0 k l0 a1 (wrap64 ((l0.length : Int) - a1)) true))))) = some r := h
  clear h
  have HC3 := Aside0.mk H
  clear H
  go_enter Try.func21, Try.ntmps21
  go_upto_region 2 with (fail)
  go_cut [28] (fun v28 wc => ∃ (kq : Nat) (x28_2 : Bool), v28 = .bool x28_2 ∧ Aside0 (tapearchiveref06_Check.j0 kq l0 a1 (wrap64 ((l0.length : Int) - a1)) x28_2 = some r) ∧ Aside0 (kq ≤ k) ∧ Aside0 (Below w.heap.size w wc))
  case first =>
    have H := HC3.out
    clear HC3
    by_cases c4 : a1 < 0
    · rw [if_pos c4] at H
      have c4b0 : decide (a1 < 0) = true := decide_eq_true c4
      clear c4
      (first | rw [c4b0] | (simp only [i64_w, i32_w]; rw [c4b0]) | skip)
      have H' := Aside0.mk H
      clear H
      go_wp2
      go_meet
      case rel => exact ⟨_, (true), (by first | rfl | (simp; done) | (simp [*]; done)), H', ⟨by first | omega | exact Nat.le_refl _⟩, ⟨by repeat (first | (with_reducible first | exact HB.out | apply below_alloc | apply pw_below_drewN | apply below_drew1) | exact HB.out)⟩⟩
    · rw [if_neg c4] at H
      have c4b0 : decide (a1 < 0) = false := decide_eq_false c4
      clear c4
      (first | rw [c4b0] | (simp only [i64_w, i32_w]; rw [c4b0]) | skip)
      by_cases c5 : a1 > 16
      · rw [if_pos c5] at H
        have c5b0 : decide (16 < a1) = true := decide_eq_true c5
        clear c5
        have H' := Aside0.mk H
        clear H
        go_wp2
        go_meet
        case rel => exact ⟨_, (true), (by first | rfl | (simp; done) | (simp [*]; done)), H', ⟨by first | omega | exact Nat.le_refl _⟩, ⟨by repeat (first | (with_reducible first | exact HB.out | apply below_alloc | apply pw_below_drewN | apply below_drew1) | exact HB.out)⟩⟩
      · rw [if_neg c5] at H
        have c5b0 : decide (16 < a1) = false := decide_eq_false c5
        clear c5
        replace H := Option.bind_eq_some_iff.mp H
        obtain ⟨t403, A60, H⟩ := H
        replace H : (if t403 = true then ((tapearchiveref06_equal.f k l0).bind fun t404 => (tapearchiveref06_Check.j0 k l0 a1 (wrap64 ((l0.length : Int) - a1)) (!t404))) else (tapearchiveref06_Check.j0 k l0 a1 (wrap64 ((l0.length : Int) - a1)) true)) = some r := H
        have A6 := Aside0.mk A60
        clear A60
        by_cases c7 : t403 = true
        · subst c7
          have H1 : ((tapearchiveref06_equal.f k l0).bind fun t404 => (tapearchiveref06_Check.j0 k l0 a1 (wrap64 ((l0.length : Int) - a1)) (!t404))) = some r := by rw [if_pos rfl] at H; exact H
          clear H
          have H := H1
          clear H1
          replace H := Option.bind_eq_some_iff.mp H
          obtain ⟨t404, A80, H⟩ := H
          replace H : (tapearchiveref06_Check.j0 k l0 a1 (wrap64 ((l0.length : Int) - a1)) (!t404)) = some r := H
          have A8 := Aside0.mk A80
          clear A80
          have H' := Aside0.mk H
          clear H
          go_wp2_with (first | (go_at_call 45; (with_reducible refine (tapearchiveref06_valid.calls (wrap64 ((l0.length : Int) - a1)) a1 true _ A6.out).mono ?_); rintro e w' ⟨rfl, ⟨nd, rfl⟩⟩) | (go_at_call 46; (with_reducible refine (tapearchiveref06_equal.calls k _ _ l0 t404 _ ?side1 ?side2 A8.out).mono ?_); (case side1 => repeat (first | exact (Kd.C_below HR0.out (by repeat (first | (with_reducible first | exact HB.out | apply below_alloc | apply pw_below_drewN | apply below_drew1) | exact HB.out))) | (with_reducible refine Kd.C_alloc ?_ _) | (with_reducible refine Kd.C_drewN ?_ _) | (with_reducible refine Kd.C_drew ?_))); (case side2 => exact HC0.out); rintro e w' ⟨rfl, ⟨nd, rfl⟩⟩))
          go_meet
          case rel => exact ⟨_, (!t404), (by first | rfl | (simp; done) | (simp [*]; done)), H', ⟨by first | omega | exact Nat.le_refl _⟩, ⟨by repeat (first | (with_reducible first | exact HB.out | apply below_alloc | apply pw_below_drewN | apply below_drew1) | exact HB.out)⟩⟩
        · replace c7 := Bool.eq_false_iff.mpr c7
          subst c7
          have H1 : (tapearchiveref06_Check.j0 k l0 a1 (wrap64 ((l0.length : Int) - a1)) true) = some r := by rw [if_neg (show ¬ (false = true) by decide)] at H; exact H
          clear H
          have H := H1
          clear H1
          have H' := Aside0.mk H
          clear H
          go_wp2_with (first | (go_at_call 45; (with_reducible refine (tapearchiveref06_valid.calls (wrap64 ((l0.length : Int) - a1)) a1 false _ A6.out).mono ?_); rintro e w' ⟨rfl, ⟨nd, rfl⟩⟩))
          go_meet
          case rel => exact ⟨_, (true), (by first | rfl | (simp; done) | (simp [*]; done)), H', ⟨by first | omega | exact Nat.le_refl _⟩, ⟨by repeat (first | (with_reducible first | exact HB.out | apply below_alloc | apply pw_below_drewN | apply below_drew1) | exact HB.out)⟩⟩
  case rest =>
    clear HC3
    try clear c2
    try clear p2
    try clear c4
    try clear c4b0
    try clear c5
    try clear c5b0
    try clear p6
    try clear c7
    obtain ⟨kq, x28_2, rfl, HA, HJ2, HB⟩ := hcut
    cases kq with
    | zero => exact absurd HA.out (by simp [tapearchiveref06_Check.j0])
    | succ kj2 =>
      have H := HA.out
      clear HA
      simp only [tapearchiveref06_Check.j0] at H
      by_cases c9 : x28_2 = true
      · subst c9
        have H1 : (some false) = some r := by rw [if_pos rfl] at H; exact H
        clear H
        have H := H1
        clear H1
        obtain rfl := Option.some.inj H
        go_wp2
        go_ret
        exact ⟨by first | rfl | (simp [errW_none, errW_some] <;> rfl) | (simp [*, errW_none, errW_some] <;> rfl), by repeat (first | (with_reducible first | exact HB.out | apply below_alloc | apply pw_below_drewN | apply below_drew1) | exact HB.out)⟩
      · replace c9 := Bool.eq_false_iff.mpr c9
        subst c9
        have H1 : (if 0 ≤ (wrap64 ((l0.length : Int) - a1)) then (if (wrap64 ((l0.length : Int) - a1)) ≤ (l0.length : Int) then ((tapearchiveref06_Parity.f kj2 (l0.take ((wrap64 ((l0.length : Int) - a1)) : Int).toNat) a1).bind fun bt409 => ((tapearchiveref06_Same.f kj2 bt409.1 (l0.drop ((wrap64 ((l0.length : Int) - a1)) : Int).toNat)).bind fun t417 => (some t417))) else (none)) else (none)) = some r := by rw [if_neg (show ¬ (false = true) by decide)] at H; exact H
        clear H
        have H := H1
        clear H1
        obtain ⟨ji10, hji10⟩ : ∃ j_ : Int, (wrap64 ((l0.length : Int) - a1)) = j_ := ⟨_, rfl⟩
        replace H : (if 0 ≤ (ji10) then (if (ji10) ≤ (l0.length : Int) then ((tapearchiveref06_Parity.f kj2 (l0.take ((ji10) : Int).toNat) a1).bind fun bt409 => ((tapearchiveref06_Same.f kj2 bt409.1 (l0.drop ((ji10) : Int).toNat)).bind fun t417 => (some t417))) else (none)) else (none)) = some r := by first | (rw [hji10] at H; exact H) | (simp only [hji10] at H ⊢; exact H)
        have hji10w : (IntKind.i64.wrap ((l0.length : Int) - a1)) = ji10 := (i64_w _).trans hji10
        by_cases c11 : 0 ≤ (ji10)
        · rw [if_pos c11] at H
          have c11b0 := eq_true c11
          have c11b1 : decide (0 ≤ (ji10)) = true := decide_eq_true c11
          clear c11
          by_cases c12 : (ji10) ≤ (l0.length : Int)
          · rw [if_pos c12] at H
            have c12b0 := eq_true c12
            have c12b1 : decide ((ji10) ≤ (l0.length : Int)) = true := decide_eq_true c12
            clear c12
            obtain ⟨y405, hy405⟩ : ∃ y_ : List (List Int), y_ = (l0.take ((ji10) : Int).toNat) := ⟨_, rfl⟩
            replace H : ((tapearchiveref06_Parity.f kj2 y405 a1).bind fun bt409 => ((tapearchiveref06_Same.f kj2 bt409.1 (l0.drop ((ji10) : Int).toNat)).bind fun t417 => (some t417))) = some r := by first | (rw [hy405]; with_reducible exact H) | (have H2_ := (Option.bind_some _ _).symm.trans H; rw [hy405]; with_reducible exact H2_) | (have H2_ := (Option.bind_some _ _).symm.trans H; with_reducible exact H2_) | with_reducible exact H | (rw [hy405]; exact H) | exact H
            have Ny405 := Aside0.mk hy405
            clear hy405
            replace H := Option.bind_eq_some_iff.mp H
            obtain ⟨⟨t409, t412⟩, A130, H⟩ := H
            replace H : ((tapearchiveref06_Same.f kj2 t409 (l0.drop ((ji10) : Int).toNat)).bind fun t417 => (some t417)) = some r := H
            have A13 := Aside0.mk A130
            clear A130
            have c14b0 := eq_true (of_decide_eq_true (by first | (with_reducible assumption) | assumption) : 0 ≤ (ji10))
            have c15b0 := eq_true (of_decide_eq_true (by first | (with_reducible assumption) | assumption) : (ji10) ≤ (l0.length : Int))
            obtain ⟨y413, hy413⟩ : ∃ y_ : List (List Int), y_ = (l0.drop ((ji10) : Int).toNat) := ⟨_, rfl⟩
            replace H : ((tapearchiveref06_Same.f kj2 t409 y413).bind fun t417 => (some t417)) = some r := by first | (rw [hy413]; with_reducible exact H) | (have H2_ := (Option.bind_some _ _).symm.trans H; rw [hy413]; with_reducible exact H2_) | (have H2_ := (Option.bind_some _ _).symm.trans H; with_reducible exact H2_) | with_reducible exact H | (rw [hy413]; exact H) | exact H
            have Ny413 := Aside0.mk hy413
            clear hy413
            replace H := Option.bind_eq_some_iff.mp H
            obtain ⟨t417, A160, H⟩ := H
            replace H : (some t417) = some r := H
            have A16 := Aside0.mk A160
            clear A160
            obtain rfl := Option.some.inj H
            have q17 : ((ji10) : Int) ≤ ((l0.length : Int) : Int) := of_decide_eq_true (by first | (with_reducible assumption) | assumption)
            obtain ⟨i017, hi017, _, hsz17, _⟩ := info_parts info33
            have hroom17 : l0.length ≤ c0 := HC0.out
            have hC17 : Kd.C (Kd.slice 5 (Kd.int .u8)) _ A0 l0.length l0 := HR0.out
            have hcut17 := cut_to (P := Try.prog) 22 33 .i64 Try.underlying22 hi017 A0 l0.length c0 (ji10) (of_decide_eq_true (by first | (with_reducible assumption) | assumption)) q17 hroom17
            have hr17 := Kd.C_take (m := ((ji10) : Int).toNat) hC17 (by omega)
            have hy17 : y405.length = ((ji10) : Int).toNat := (by rw [Ny405.out, List.length_take]; omega)
            rw [← Ny405.out] at hr17
            rw [← hy17] at hcut17
            have HR408 := Aside0.mk hr17
            have HC408 := Aside0.mk (show y405.length ≤ c0 from by omega)
            clear hr17 hC17 hroom17 hi017 hsz17
            have KY17 := Aside0.mk hy17
            clear hy17
            replace q17 := eq_true q17
            go_wp2_with (first | ((with_reducible refine gate_callee (f := 18) rfl ?_); refine goesL_ (some 34) rfl rfl Try.func18 (by kernel_rfl) rfl #[.slice A0 y405.length c0, .int .i64 a1] rfl (by (try simp only [List.map_toArray, List.map_cons, List.map_nil]); first | done | rfl | (simp only [List.length_drop, List.length_take]; rfl)) ?_; (with_reducible refine (tapearchiveref06_Parity.calls kj2 _ _ y405 a1 t409 t412 _ ?side1 ?side2 A13.out).mono ?_); (case side1 => repeat (first | exact (Kd.C_below HR408.out HB.out) | (with_reducible refine Kd.C_alloc ?_ _) | (with_reducible refine Kd.C_drewN ?_ _) | (with_reducible refine Kd.C_drew ?_))); (case side2 => exact HC408.out); rintro e w18 ⟨v410, rfl, ho0, hb⟩; refine ⟨_, rfl, ?_⟩; have n0_ := Aside0.mk (Kd.N_lower (Kd.N_mono (ok' := fun k_ => True) ho0 (fun k_ hk_ => trivial)) (below_size (by repeat (first | (with_reducible first | exact HB.out | apply below_alloc | apply pw_below_drewN | apply below_drew1) | exact HB.out)))); have n1_ := Aside0.mk (below_step (by repeat (first | (with_reducible first | exact HB.out | apply below_alloc | apply pw_below_drewN | apply below_drew1) | exact HB.out)) hb); clear HB; have HO411 := n0_; have HB := n1_; clear n0_ n1_; (try clear hb); (try clear hb2); (try clear hk); (try clear hi); (try clear ho0); have q19 : ((ji10) : Int) ≤ ((l0.length : Int) : Int) := of_decide_eq_true (by first | (with_reducible assumption) | assumption); obtain ⟨i019, hi019, _, hsz19, _⟩ := info_parts info33; have hroom19 : l0.length ≤ c0 := HC0.out; have hC19 : Kd.C (Kd.slice 5 (Kd.int .u8)) _ A0 l0.length l0 := HR0.out; have q019 : (0 : Int) ≤ ((ji10) : Int) := of_decide_eq_true (by first | (with_reducible assumption) | assumption); have hcut19 := cut_from (P := Try.prog) 22 33 .i64 Try.underlying22 hi019 1 hsz19 A0 l0.length c0 (ji10) q019 q19; have hr19 := Kd.C_drop (m := ((ji10) : Int).toNat) (c := c0) hC19 (by omega) hroom19; obtain ⟨A19, hA19⟩ : ∃ A1, A1 = (if c0 = ((ji10) : Int).toNat then A0 else (A0 : Option Addr).map (·.add (((ji10) : Int).toNat * 1))) := ⟨_, rfl⟩; obtain ⟨c19, hc19⟩ : ∃ c1, c1 = c0 - ((ji10) : Int).toNat := ⟨_, rfl⟩; have hy19 : y413.length = l0.length - ((ji10) : Int).toNat := (by rw [Ny413.out, List.length_drop] <;> omega); rw [show (l0).drop ((ji10) : Int).toNat = y413 from Ny413.out.symm] at hr19; replace hr19 : Kd.C (Kd.slice 5 (Kd.int .u8)) _ A19 y413.length y413 := (by rw [hA19]; exact hr19); rw [← hy19, ← hA19, ← hc19] at hcut19; have HR416 := Aside0.mk hr19; have HC416 := Aside0.mk (show y413.length ≤ c19 from by rw [hy19, hc19]; exact Nat.sub_le_sub_right hroom19 _); clear hr19 hC19 hroom19 hi019 hsz19 hc19; have KY19 := Aside0.mk hy19; have KA19 := Aside0.mk hA19; clear hy19 hA19; replace q19 := eq_true q19; obtain ⟨Ao20, co20, eo20⟩ := Kd.N_slice HO411.out; subst eo20) | ((with_reducible refine gate_callee (f := 19) rfl ?_); refine goesL_ (some 41) rfl rfl Try.func19 (by kernel_rfl) rfl #[.slice Ao20 t409.length co20, .slice A19 y413.length c19] rfl (by (try simp only [List.map_toArray, List.map_cons, List.map_nil]); first | done | rfl | (simp only [List.length_drop, List.length_take]; rfl)) ?_; (with_reducible refine (tapearchiveref06_Same.calls kj2 _ _ t409 _ _ y413 t417 _ ?side1 ?side2 ?side3 ?side4 A16.out).mono ?_); (case side1 => repeat (first | exact (Kd.N_reads' HO411.out).2.2 | (with_reducible refine Kd.C_alloc ?_ _) | (with_reducible refine Kd.C_drewN ?_ _) | (with_reducible refine Kd.C_drew ?_))); (case side2 => exact (Kd.N_reads' HO411.out).2.1); (case side3 => repeat (first | exact (Kd.C_below HR416.out HB.out) | (with_reducible refine Kd.C_alloc ?_ _) | (with_reducible refine Kd.C_drewN ?_ _) | (with_reducible refine Kd.C_drew ?_))); (case side4 => exact HC416.out); rintro e w' ⟨rfl, ⟨nd, rfl⟩⟩; refine ⟨_, rfl, ?_⟩))
            go_ret
            exact ⟨by first | rfl | (simp [errW_none, errW_some] <;> rfl) | (simp only [← hji10]; first | rfl | (simp [errW_none, errW_some] <;> rfl)) | (simp [*, errW_none, errW_some] <;> rfl), by repeat (first | (with_reducible first | exact HB.out | apply below_alloc | apply pw_below_drewN | apply below_drew1) | exact HB.out)⟩
          · rw [if_neg c12] at H
            exact absurd H (by simp)
        · rw [if_neg c11] at H
          exact absurd H (by simp)

end Go.Proofs.Ytmlfpcnemganbaa.Q
