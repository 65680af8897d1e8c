/- field.Inv and field.Pow: what they answer. -/
import Derived.Test.YtdeamnmadgemoaaTab
namespace Go.Proofs.Ytdeamnmadgemoaa.Q
open Go.RowKit Go.Proofs.YtdeamnmadgemoaaW.PrintWords Go.Proofs.YtdeamnmadgemoaaW.PrintLast Go.Proofs.YtdeamnmadgemoaaW.PrintMore
open Go.Proofs.Ytdeamnmadgemoaa.Gf
set_option linter.unusedVariables false

theorem tabA_pow : ∀ k j, k ≤ 255 → j < k → (tabA k)[j]? = some (.int .u8 (pw j : Nat))
  | 0, j, _, h => absurd h (by omega)
  | k + 1, j, hk, h => by
    have hs := tabA_size k
    unfold tabA
    rw [Array.getElem?_setIfInBounds_ne (by omega)]
    by_cases e : j = k
    · subst e
      rw [Array.getElem?_setIfInBounds_self_of_lt (by omega)]
    · rw [Array.getElem?_setIfInBounds_ne (by omega), tabA_pow k j (by omega) (by omega)]
theorem tabA_log : ∀ k x, k ≤ 255 → x < 256 → (tabA k)[255 + x]? = some (.int .i64 (lgr x k : Nat))
  | 0, x, _, hx => by
    show tabZ[255 + x]? = _
    unfold tabZ
    rw [Array.getElem?_append_right (by simp)]
    simp [lgr, hx]
  | k + 1, x, hk, hx => by
    have hs := tabA_size k
    have hp := pw_lt k
    unfold tabA
    by_cases e : pw k = x
    · subst e
      rw [Array.getElem?_setIfInBounds_self_of_lt (by simp; omega)]
      simp [lgr]
    · rw [Array.getElem?_setIfInBounds_ne (by omega), Array.getElem?_setIfInBounds_ne (by omega), tabA_log k x (by omega) hx]
      simp [lgr, e]

/-- field.Inv -/
def field_Inv.f (a0 : Int) : Option (Int × Bool) := if 0 ≤ a0 ∧ a0 < 256 then some (if a0 = 0 then (0, false) else ((ginv a0.toNat : Nat), true)) else none

set_option maxRecDepth 100000 in
set_option maxHeartbeats 4000000 in
theorem inv_zero (w : World) : Calls Try.prog 33 #[.int .u8 0] w fun e w' => e = .returned (.tuple #[.int .u8 0, .bool false]) ∧ Below w.heap.size w w' := by
  go_enter Try.func33, Try.ntmps33
  go_wp2_with fail
  go_ret2
  exact ⟨rfl, Below.refl _ _⟩
set_option maxRecDepth 100000 in
set_option maxHeartbeats 4000000 in
theorem inv_some (a : Nat) (ha : a < 256) (h0 : a ≠ 0) (w : World) : Calls Try.prog 33 #[.int .u8 a] w fun e w' => e = .returned (.tuple #[.int .u8 (ginv a : Nat), .bool true]) ∧ Below w.heap.size w w' := by
  have c1 : ((a : Int) == 0) = false := by simp; omega
  have hl : lg a < 255 := (pw_lg ha h0).2
  go_enter Try.func33, Try.ntmps33
  go_wp2_with (go_at_call 41; refine (tables_calls _).mono ?_; rintro e w' ⟨rfl, HT0, HB0⟩; have HT := Aside0.mk HT0; have HB := Aside0.mk HB0; clear HT0 HB0)
  have d1 := blk_cell HT.out (255 + a)
  rw [tabA_log 255 a (by omega) ha, show lgr a 255 = lg a from rfl] at d1
  have d2 := blk_cell HT.out ((255 - lg a) % 255)
  rw [tabA_pow 255 _ (by omega) (by omega)] at d2
  generalize hg : (255 - lg a) % 255 = g at d2
  have b1 : (a : Int) < 256 := by omega
  have b2 : IntKind.i64.wrap (255 - ((lg a : Nat) : Int)) = 255 - ((lg a : Nat) : Int) := IntWalk.i64_in _ (by omega)
  have b3 : (255 - ((lg a : Nat) : Int)).tmod 255 = (g : Int) := by
    rw [Int.tmod_eq_emod_of_nonneg (by omega)]
    omega
  have b4 : (g : Int) < 255 := by omega
  have Hg := Lib.hid hg
  clear hg hl
  go_quiet (fail)
  clear b2 b3
  go_wp2
  go_ret2
  refine ⟨?_, ?_⟩
  · rw [← Hg.out]
    rfl
  · exact pw_below_drewN HB.out _
theorem field_Inv.calls (a0 : Int) (r1 : Int) (r2 : Bool) (w : World) (h : field_Inv.f a0 = some (r1, r2)) :
    Calls Try.prog 33 #[.int .u8 a0] w fun e w' => e = .returned (.tuple #[.int .u8 r1, .bool r2]) ∧ Below w.heap.size w w' := by
  unfold field_Inv.f at h
  by_cases hr : 0 ≤ a0 ∧ a0 < 256
  · rw [if_pos hr] at h
    obtain ⟨a, rfl⟩ := Int.eq_ofNat_of_zero_le hr.1
    by_cases h0 : a = 0
    · subst h0
      rw [if_pos (by rfl)] at h
      simp only [Option.some.injEq, Prod.mk.injEq] at h
      obtain ⟨rfl, rfl⟩ := h
      exact inv_zero w
    · rw [if_neg (by omega)] at h
      simp only [Option.some.injEq, Prod.mk.injEq] at h
      obtain ⟨rfl, rfl⟩ := h
      exact inv_some a (by omega) h0 w
  · rw [if_neg hr] at h
    cases h

end Go.Proofs.Ytdeamnmadgemoaa.Q
