/- What the printed functions of the field compute, in plain numbers. -/
import Derived.Test.YtdeamnmadgemoaaQ2
import Derived.Test.YtdeamnmadgemoaaGf
import Derived.Laws.BitsAllLaws
namespace Go.Proofs.Ytdeamnmadgemoaa.Q
open Go.RowKit Go.Proofs.YtdeamnmadgemoaaW.PrintWords Go.Proofs.YtdeamnmadgemoaaW.PrintLast Go.Proofs.YtdeamnmadgemoaaW.PrintMore
open Go.Proofs.Ytdeamnmadgemoaa.Gf

theorem i64_xor_nat {a b : Nat} (ha : a < 9223372036854775808) (hb : b < 9223372036854775808) : Go.bits .xor .i64 (a : Int) (b : Int) = ((a ^^^ b : Nat) : Int) := by
  have hx : a ^^^ b < 2 ^ 63 := Nat.xor_lt_two_pow (by omega) (by omega)
  show IntKind.i64.wrap ((BitVec.ofInt 64 (a : Int) ^^^ BitVec.ofInt 64 (b : Int)).toNat : Int) = _
  rw [BitVec.toNat_xor, ofInt_u64 a (by omega), ofInt_u64 b (by omega), IntKind.wrap_i64]
  omega
theorem double_ev {a : Nat} (ha : a < 256) : field_double.f (a : Int) = some ((dbl a : Nat) : Int) := by
  have e1 : wrap64 (a : Int) = a := by unfold wrap64; omega
  have e2 : wrap64 ((a : Int) * 2) = ((a * 2 : Nat) : Int) := by unfold wrap64; omega
  unfold field_double.f dbl
  rw [e1, e2]
  by_cases h : a < 128
  · rw [if_neg (by omega), if_pos h]
    congr 1
    omega
  · rw [if_pos (by omega), if_neg h]
    rw [show (285 : Int) = ((285 : Nat) : Int) from rfl, i64_xor_nat (by omega) (by omega)]
    have := dbl_lt ha
    unfold dbl at this
    rw [if_neg h] at this
    congr 1
    omega
theorem xor_u8 {a b : Nat} (ha : a < 256) (hb : b < 256) : Go.bits .xor .u8 (a : Int) (b : Int) = ((a ^^^ b : Nat) : Int) := u8_xor_nat a b ha hb
theorem and1_u8 {a : Nat} (ha : a < 256) : Go.bits .and .u8 (a : Int) 1 = ((a % 2 : Nat) : Int) := by
  rw [show (1 : Int) = ((1 : Nat) : Int) from rfl, u8_and_nat a 1 ha (by omega), nat_mask1]
theorem mul_loop : ∀ (n a b p : Nat), a < 256 → p < 256 → b < 2 ^ n → b < 256 → Ev (fun k => field_Mul.l0 k (a : Int) (b : Int) (p : Int)) ((mulr n a b p : Nat) : Int)
  | 0, a, b, p, _, _, hb, _ => by
    have : b = 0 := by omega
    subst this
    refine Ev.step (f := fun _ => some (p : Int)) (fun k => by simp only [field_Mul.l0]; rw [if_pos (by rfl)]) (Ev.now _)
  | n + 1, a, b, p, ha, hp, hb, hb2 => by
    by_cases h0 : b = 0
    · subst h0
      have : ∀ n a p, mulr n a 0 p = p := by
        intro n
        induction n with
        | zero => intro a p; rfl
        | succ n ih => intro a p; unfold mulr; simpa using ih (dbl a) p
      rw [this]
      exact Ev.step (f := fun _ => some (p : Int)) (fun k => by simp only [field_Mul.l0]; rw [if_pos (by rfl)]) (Ev.now _)
    · have hb' : b / 2 < 2 ^ n := by rw [Nat.pow_succ] at hb; omega
      unfold mulr
      by_cases h1 : b % 2 = 1
      · rw [if_pos h1]
        refine Ev.step (f := fun k => field_Mul.l0 k ((dbl a : Nat) : Int) ((b / 2 : Nat) : Int) ((p ^^^ a : Nat) : Int)) (fun k => ?_) (mul_loop n _ _ _ (dbl_lt ha) (xor_lt hp ha) hb' (by omega))
        simp only [field_Mul.l0]
        rw [if_neg (by omega), and1_u8 hb2, h1, if_pos (by rfl), double_ev ha, Option.bind_some, xor_u8 hp ha]
        rfl
      · rw [if_neg h1]
        refine Ev.step (f := fun k => field_Mul.l0 k ((dbl a : Nat) : Int) ((b / 2 : Nat) : Int) (p : Int)) (fun k => ?_) (mul_loop n _ _ _ (dbl_lt ha) hp hb' (by omega))
        simp only [field_Mul.l0]
        rw [if_neg (by omega), and1_u8 hb2, if_neg (by omega), double_ev ha, Option.bind_some]
        rfl
theorem mul_ev {a b : Nat} (ha : a < 256) (hb : b < 256) : Ev (fun k => field_Mul.f k (a : Int) (b : Int)) ((gmul a b : Nat) : Int) :=
  mul_loop 8 a b 0 ha (by omega) (by simpa using hb) hb
end Go.Proofs.Ytdeamnmadgemoaa.Q
