/- field.Inv and field.Pow: what they answer. -/
import Derived.Test.YtgabffpjddccjaaTab
namespace Go.Proofs.Ytgabffpjddccjaa.Q
open Go.RowKit Go.Proofs.YtgabffpjddccjaaW.PrintWords Go.Proofs.YtgabffpjddccjaaW.PrintLast Go.Proofs.YtgabffpjddccjaaW.PrintMore
open Go.Proofs.Ytgabffpjddccjaa.Gf
set_option linter.unusedVariables false

theorem tabA_pow : ∀ k j, k ≤ 255 → j < k → (tabA k)[j]? = some (.int .u8 (pw j : Nat))
  | 0, j, _, h => absurd h (by omega)
  | k + 1, j, hk, h => by
    have hs := tabA_size k
    unfold tabA
    rw [Array.getElem?_setIfInBounds_ne (by omega)]
    by_cases e : j = k
    · subst e
      rw [Array.getElem?_setIfInBounds_self_of_lt (by omega)]
    · rw [Array.getElem?_setIfInBounds_ne (by omega), tabA_pow k j (by omega) (by omega)]
theorem tabA_log : ∀ k x, k ≤ 255 → x < 256 → (tabA k)[255 + x]? = some (.int .i64 (lgr x k : Nat))
  | 0, x, _, hx => by
    show tabZ[255 + x]? = _
    unfold tabZ
    rw [Array.getElem?_append_right (by simp)]
    simp [lgr, hx]
  | k + 1, x, hk, hx => by
    have hs := tabA_size k
    have hp := pw_lt k
    unfold tabA
    by_cases e : pw k = x
    · subst e
      rw [Array.getElem?_setIfInBounds_self_of_lt (by simp; omega)]
      simp [lgr]
    · rw [Array.getElem?_setIfInBounds_ne (by omega), Array.getElem?_setIfInBounds_ne (by omega), tabA_log k x (by omega) hx]
      simp [lgr, e]

/-- field.Inv -/
def field_Inv.f (a0 : Int) : Option (Int × Bool) := if 0 ≤ a0 ∧ a0 < 256 then some (if a0 = 0 then (0, false) else ((ginv a0.toNat : Nat), true)) else none

set_option maxRecDepth 100000 in
set_option maxHeartbeats 4000000 in
theorem inv_zero (w : World) : Calls Try.prog 19 #[.int .u8 0] w fun e w' => e = .returned (.tuple #[.int .u8 0, .bool false]) ∧ Below w.heap.size w w' := by
  go_enter Try.func19, Try.ntmps19
  go_wp2_with fail
  go_ret2
  exact ⟨rfl, Below.refl _ _⟩
set_option maxRecDepth 100000 in
set_option maxHeartbeats 4000000 in
theorem inv_some (a : Nat) (ha : a < 256) (h0 : a ≠ 0) (w : World) : Calls Try.prog 19 #[.int .u8 a] w fun e w' => e = .returned (.tuple #[.int .u8 (ginv a : Nat), .bool true]) ∧ Below w.heap.size w w' := by
  have c1 : ((a : Int) == 0) = false := by simp; omega
  have hl : lg a < 255 := (pw_lg ha h0).2
  go_enter Try.func19, Try.ntmps19
  go_wp2_with (go_at_call 26; refine (tables_calls _).mono ?_; rintro e w' ⟨rfl, HT0, HB0⟩; have HT := Aside0.mk HT0; have HB := Aside0.mk HB0; clear HT0 HB0)
  have d1 := blk_cell HT.out (255 + a)
  rw [tabA_log 255 a (by omega) ha, show lgr a 255 = lg a from rfl] at d1
  have d2 := blk_cell HT.out ((255 - lg a) % 255)
  rw [tabA_pow 255 _ (by omega) (by omega)] at d2
  generalize hg : (255 - lg a) % 255 = g at d2
  have b1 : (a : Int) < 256 := by omega
  have b2 : IntKind.i64.wrap (255 - ((lg a : Nat) : Int)) = 255 - ((lg a : Nat) : Int) := IntWalk.i64_in _ (by omega)
  have b3 : (255 - ((lg a : Nat) : Int)).tmod 255 = (g : Int) := by
    rw [Int.tmod_eq_emod_of_nonneg (by omega)]
    omega
  have b4 : (g : Int) < 255 := by omega
  have Hg := Lib.hid hg
  clear hg hl
  go_quiet (fail)
  clear b2 b3
  go_wp2
  go_ret2
  refine ⟨?_, ?_⟩
  · rw [← Hg.out]
    rfl
  · exact pw_below_drewN HB.out _
theorem field_Inv.calls (a0 : Int) (r1 : Int) (r2 : Bool) (w : World) (h : field_Inv.f a0 = some (r1, r2)) :
    Calls Try.prog 19 #[.int .u8 a0] w fun e w' => e = .returned (.tuple #[.int .u8 r1, .bool r2]) ∧ Below w.heap.size w w' := by
  unfold field_Inv.f at h
  by_cases hr : 0 ≤ a0 ∧ a0 < 256
  · rw [if_pos hr] at h
    obtain ⟨a, rfl⟩ := Int.eq_ofNat_of_zero_le hr.1
    by_cases h0 : a = 0
    · subst h0
      rw [if_pos (by rfl)] at h
      simp only [Option.some.injEq, Prod.mk.injEq] at h
      obtain ⟨rfl, rfl⟩ := h
      exact inv_zero w
    · rw [if_neg (by omega)] at h
      simp only [Option.some.injEq, Prod.mk.injEq] at h
      obtain ⟨rfl, rfl⟩ := h
      exact inv_some a (by omega) h0 w
  · rw [if_neg hr] at h
    cases h

/-- field.Pow -/
def field_Pow.f (a0 a1 : Int) : Option Int := if 0 ≤ a0 ∧ a0 < 256 ∧ a1 < 9223372036854775808 then some (if a1 < 0 then 0 else (gpow a0.toNat a1.toNat : Nat)) else none

set_option maxRecDepth 100000 in
set_option maxHeartbeats 4000000 in
theorem pow_neg (a n : Int) (hn : n < 0) (w : World) : Calls Try.prog 14 #[.int .u8 a, .int .i64 n] w fun e w' => e = .returned (.int .u8 0) ∧ Below w.heap.size w w' := by
  go_enter Try.func14, Try.ntmps14
  go_wp2_with fail
  go_ret
  exact ⟨rfl, Below.refl _ _⟩
set_option maxRecDepth 100000 in
set_option maxHeartbeats 4000000 in
theorem pow_zero (a : Int) (w : World) : Calls Try.prog 14 #[.int .u8 a, .int .i64 0] w fun e w' => e = .returned (.int .u8 1) ∧ Below w.heap.size w w' := by
  go_enter Try.func14, Try.ntmps14
  go_wp2_with fail
  go_ret
  exact ⟨rfl, Below.refl _ _⟩
set_option maxRecDepth 100000 in
set_option maxHeartbeats 4000000 in
theorem pow_of_zero (n : Int) (hn : 0 < n) (w : World) : Calls Try.prog 14 #[.int .u8 0, .int .i64 n] w fun e w' => e = .returned (.int .u8 0) ∧ Below w.heap.size w w' := by
  have c1 : (n == 0) = false := by simp; omega
  go_enter Try.func14, Try.ntmps14
  go_wp2_with fail
  go_ret
  exact ⟨rfl, Below.refl _ _⟩
set_option maxRecDepth 100000 in
set_option maxHeartbeats 4000000 in
theorem pow_some (a : Nat) (ha : a < 256) (h0 : a ≠ 0) (n : Nat) (hn0 : 0 < n) (hn : n < 9223372036854775808) (w : World) :
    Calls Try.prog 14 #[.int .u8 a, .int .i64 n] w fun e w' => e = .returned (.int .u8 (gpow a n : Nat)) ∧ Below w.heap.size w w' := by
  have hgp := Lib.hid (gpow_lg ha h0 n)
  have c0 : ((a : Int) == 0) = false := by simp; omega
  have c1 : ((n : Int) == 0) = false := by simp; omega
  have hl : lg a < 255 := (pw_lg ha h0).2
  go_enter Try.func14, Try.ntmps14
  go_wp2_with (go_at_call 26; refine (tables_calls _).mono ?_; rintro e w' ⟨rfl, HT0, HB0⟩; have HT := Aside0.mk HT0; have HB := Aside0.mk HB0; clear HT0 HB0)
  have d1 := blk_cell HT.out (255 + a)
  rw [tabA_log 255 a (by omega) ha, show lgr a 255 = lg a from rfl] at d1
  have d2 := blk_cell HT.out (lg a * (n % 255) % 255)
  rw [tabA_pow 255 _ (by omega) (by omega)] at d2
  have hm : lg a * (n % 255) ≤ 255 * 255 := Nat.mul_le_mul (by omega) (by omega)
  have hg2 := Lib.hid hgp.out
  generalize hg : lg a * (n % 255) % 255 = g at d2 hg2
  generalize hx : lg a * (n % 255) = x at hg hm
  generalize hy : n % 255 = y at hx
  have b1 : (a : Int) < 256 := by omega
  have b2 : (n : Int).tmod 255 = (y : Int) := by rw [Int.tmod_eq_emod_of_nonneg (by omega)]; omega
  have b3 : ((lg a : Nat) : Int) * (y : Int) = (x : Int) := by rw [← hx]; exact (Int.natCast_mul _ _).symm
  have b4 : IntKind.i64.wrap (x : Int) = (x : Int) := IntWalk.i64_in _ (by omega)
  have b5 : (x : Int).tmod 255 = (g : Int) := by rw [Int.tmod_eq_emod_of_nonneg (by omega)]; omega
  have b6 : (g : Int) < 255 := by omega
  clear hg hx hy hl hgp hm
  go_quiet (fail)
  clear b2 b3 b4 b5
  go_wp2
  go_ret
  refine ⟨?_, ?_⟩
  · rw [hg2.out]
    rfl
  · exact pw_below_drewN HB.out _
theorem field_Pow.calls (a0 : Int) (a1 : Int) (r : Int) (w : World) (h : field_Pow.f a0 a1 = some r) :
    Calls Try.prog 14 #[.int .u8 a0, .int .i64 a1] w fun e w' => e = .returned (.int .u8 r) ∧ Below w.heap.size w w' := by
  unfold field_Pow.f at h
  by_cases hr : 0 ≤ a0 ∧ a0 < 256 ∧ a1 < 9223372036854775808
  · rw [if_pos hr] at h
    obtain ⟨a, rfl⟩ := Int.eq_ofNat_of_zero_le hr.1
    obtain rfl := Option.some.inj h
    by_cases hn : a1 < 0
    · rw [if_pos hn]
      exact pow_neg _ _ hn w
    · rw [if_neg hn]
      obtain ⟨n, rfl⟩ := Int.eq_ofNat_of_zero_le (show 0 ≤ a1 by omega)
      rw [Int.toNat_natCast, Int.toNat_natCast]
      by_cases n0 : n = 0
      · subst n0
        exact pow_zero _ w
      · by_cases h0 : a = 0
        · subst h0
          rw [zero_gpow n0]
          exact pow_of_zero _ (by omega) w
        · exact pow_some a (by omega) h0 n (by omega) (by omega) w
  · rw [if_neg hr] at h
    cases h
end Go.Proofs.Ytgabffpjddccjaa.Q
