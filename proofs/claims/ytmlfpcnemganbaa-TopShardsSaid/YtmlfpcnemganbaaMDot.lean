/- matrix.dot, for any second list that a closure tells. -/
import Derived.Test.YtmlfpcnemganbaaGM
import Derived.Test.YtmlfpcnemganbaaQ3
import Derived.Test.YtmlfpcnemganbaaQ7
namespace Go.Proofs.Ytmlfpcnemganbaa.Q
open Go.RowKit Go.Proofs.YtmlfpcnemganbaaW.PrintWords Go.Proofs.YtmlfpcnemganbaaW.PrintLast Go.Proofs.YtmlfpcnemganbaaW.PrintMore
open Go.Proofs.Ytmlfpcnemganbaa.Gf Go.Proofs.Ytmlfpcnemganbaa.Lin Go.Proofs.Ytmlfpcnemganbaa.Evs
set_option linter.unusedVariables false
set_option linter.unnecessarySimpa false
theorem add_calls (x y : GF) (w : World) : Calls Try.prog 60 #[.int .u8 (x.v : Int), .int .u8 (y.v : Int)] w fun e w' => e = .returned (.int .u8 ((x + y).v : Int)) ∧ ∃ n, w' = w.drewN n :=
  (field_Add.calls _ _ _ w (by unfold field_Add.f; rw [xor_u8 x.h y.h]; rfl)).mono fun e w' ⟨he, hd⟩ => ⟨he, hd.out⟩
theorem sum_succ_ (n : Nat) (f : Nat → GF) : sum (n + 1) f = sum n f + f n := rfl
set_option maxRecDepth 100000 in
set_option maxHeartbeats 4000000 in
theorem dot_walk {C : Nat} (hC : C ≤ 1000) (a b : Nat → GF) (f : Nat) (caps : Array Value) (args : Nat → Array Value) (haa : ∀ k : Nat, #[.int .i64 (k : Nat)] ++ caps = args k) (A0 : Option Addr) (c0 : Nat) (w : World) (xs : List Int) (hx : ∀ k : Nat, k < C → rd xs (k : Int) = ((a k).v : Int))
    (hr : Kd.C (Kd.int .u8) w A0 C xs) (he : ∀ args w, (callFunc f args).run Try.prog w = .ok (.enter f args) w)
    (hb : ∀ (k : Nat) (n : Nat), k < C → Calls Try.prog f (args k) (w.drewN n) fun e W' => e = .returned (.int .u8 ((b k).v : Int)) ∧ ∃ n, W' = w.drewN n) :
    Calls Try.prog 41 #[.slice A0 C c0, .func (.func f) #[] caps] w fun e w' => e = .returned (.int .u8 ((sum C fun k => a k * b k).v : Int)) ∧ ∃ n, w' = w.drewN n := by
  have HR := Aside0.mk hr
  have HX := Aside0.mk hx
  have HB := Aside0.mk hb
  clear hr hx hb
  go_enter Try.func41, Try.ntmps41
  go_wp2
  go_loopg [5, 10] (C + 1) (fun kq v5 v10 W => ∃ (k n : Nat), Hid (kq + k = C + 1) ∧ k ≤ C ∧ v5 = .int .u8 ((sum k fun k => a k * b k).v : Int) ∧ v10 = .int .i64 (k : Nat) ∧ W = w.drewN n)
  case atStart => exact ⟨0, 0, Lib.hid (by omega), by omega, rfl, rfl, rfl⟩
  case round =>
    obtain ⟨k, n, HK, hk, rfl, rfl, rfl⟩ := hrel
    by_cases hkC : k < C
    · have hk1 : decide ((k : Int) < (C : Int)) = true := decide_eq_true (by omega)
      have hk2 : decide (k < C) = true := decide_eq_true hkC
      obtain ⟨ad, rfl, hx⟩ := Kd.at_int (Kd.C_below HR.out (pw_below_drewN (Below.refl _ _) n)) (k : Int) (by omega) (by omega)
      rw [HX.out k hkC, Int.toNat_natCast] at hx
      go_wp2
      refine (HB.out k n hkC).mono ?_
      rintro e_ w_ ⟨rfl, n2, rfl⟩
      go_wp2_with (first | (go_at_call 32; refine (mul_calls (a k) (b k) _).mono ?_; rintro e_ w_ ⟨rfl, n3, rfl⟩) | (go_at_call 60; refine (add_calls (sum k fun k => a k * b k) (a k * b k) _).mono ?_; rintro e_ w_ ⟨rfl, n4, rfl⟩))
      go_roundg (C + 1 - (k + 1))
      case measure => have := HK.out; omega
      case rel => exact ⟨k + 1, _, Lib.hid (by have := HK.out; omega), by omega, by rw [sum_succ_], by go_num, rfl⟩
    · have hk1 : decide ((k : Int) < (C : Int)) = false := decide_eq_false (by omega)
      have hk2 : decide (k < C) = false := decide_eq_false hkC
      have e : k = C := by omega
      subst e
      go_wp2
      go_ret
      exact ⟨rfl, n, rfl⟩
end Go.Proofs.Ytmlfpcnemganbaa.Q
