/- What the reference's plain functions answer (layer 5): product, inverse, sameness, identity, Cauchy. -/
import Derived.Test.YtdeamnmadgemoaaQ5
import Derived.Test.YtdeamnmadgemoaaQ6
import Derived.Test.YtdeamnmadgemoaaRm
import Derived.Test.YtdeamnmadgemoaaMEv
namespace Go.Proofs.Ytdeamnmadgemoaa.Q
open Go.RowKit Go.Proofs.YtdeamnmadgemoaaW.PrintWords Go.Proofs.YtdeamnmadgemoaaW.PrintLast Go.Proofs.YtdeamnmadgemoaaW.PrintMore
open Go.Proofs.Ytdeamnmadgemoaa.Gf Go.Proofs.Ytdeamnmadgemoaa.Lin Go.Proofs.Ytdeamnmadgemoaa.Evs
set_option linter.unusedVariables false
set_option linter.unnecessarySimpa false
theorem and1_i64 {a : Nat} (ha : a < 9223372036854775808) : Go.bits .and .i64 (a : Int) 1 = ((a % 2 : Nat) : Int) := by
  show IntKind.i64.wrap ((BitVec.ofInt 64 (a : Int) &&& BitVec.ofInt 64 ((1 : Nat) : Int)).toNat : Int) = _
  rw [BitVec.toNat_and, ofInt_u64 a (by omega), ofInt_u64 1 (by omega), IntKind.wrap_i64, Nat.and_one_is_mod]
  omega
theorem shr_nat {a n : Nat} (hn : n ≤ 64) : shr .i64 (a : Int) (n : Int) = ((a / 2 ^ n : Nat) : Int) := by
  unfold shr
  rw [Int.toNat_natCast, Nat.min_eq_left (by show n ≤ 64; exact hn)]
  push_cast
  rfl
theorem shl_nat {a n : Nat} (hn : n ≤ 64) (h : a * 2 ^ n < 9223372036854775808) : shl .i64 (a : Int) (n : Int) = ((a * 2 ^ n : Nat) : Int) := by
  unfold shl
  rw [Int.toNat_natCast, Nat.min_eq_left (by show n ≤ 64; exact hn), show ((a : Int) * 2 ^ n) = ((a * 2 ^ n : Nat) : Int) by push_cast; rfl, IntKind.wrap_i64]
  generalize a * 2 ^ n = m at h ⊢
  omega
theorem bit_test {a n : Nat} (ha : a < 9223372036854775808) (hn : n ≤ 64) : (Go.bits .and .i64 (shr .i64 (a : Int) (n : Int)) 1 = 1) = (a.testBit n = true) := by
  have h2 : a / 2 ^ n ≤ a := Nat.div_le_self _ _
  rw [shr_nat hn, and1_i64 (by omega), Nat.testBit_eq_decide_div_mod_eq, decide_eq_true_eq]
  generalize a / 2 ^ n % 2 = m
  exact propext ⟨fun h => by omega, fun h => by omega⟩
theorem cl_lt {a b : Nat} (ha : a < 256) : ∀ {n : Nat}, n ≤ 8 → cl a b n < 65536
  | 0, _ => by unfold cl; omega
  | n + 1, h => by
    have ih := cl_lt (b := b) ha (n := n) (by omega)
    have h2 : a * 2 ^ n < 65536 := by
      have : 2 ^ n ≤ 2 ^ 7 := Nat.pow_le_pow_right (by omega) (by omega)
      calc a * 2 ^ n ≤ a * 2 ^ 7 := Nat.mul_le_mul_left _ this
        _ < 65536 := by omega
    unfold cl
    split
    · exact Nat.xor_lt_two_pow (n := 16) ih h2
    · exact ih
theorem rmul1_ev : ∀ (n p : Nat), n ≤ 8 → p < 65536 → Ev (fun k => tapearchiveref05_mul.l1 k (p : Int) ((n + 7 : Nat) : Int)) ((red n p % 256 : Nat) : Int)
  | 0, p, _, hp => by
    refine Ev.step (fun k => by simp only [tapearchiveref05_mul.l1]; rfl) (Ev.neg (by omega) (Ev.val ?_))
    unfold red
    congr 1
  | n + 1, p, hn, hp => by
    refine Ev.step (fun k => by simp only [tapearchiveref05_mul.l1]; rfl) (Ev.pos (by omega) (Ev.pos (by omega) ?_))
    have e : ((n + 1 + 7 : Nat) : Int) = ((n + 8 : Nat) : Int) := by omega
    have e2 : wrap64 (((n + 1 + 7 : Nat) : Int) - 1) = ((n + 7 : Nat) : Int) := by unfold wrap64; omega
    have e3 : wrap64 (((n + 1 + 7 : Nat) : Int) - 8) = (n : Int) := by unfold wrap64; omega
    have h2 : 285 * 2 ^ n < 65536 := by
      have : 2 ^ n ≤ 2 ^ 7 := Nat.pow_le_pow_right (by omega) (by omega)
      calc 285 * 2 ^ n ≤ 285 * 2 ^ 7 := Nat.mul_le_mul_left _ this
        _ < 65536 := by omega
    rw [e2, e3, e]
    clear e e2 e3
    unfold red
    by_cases hb : p.testBit (n + 8) = true
    · rw [if_pos hb]
      refine Ev.pos (by rw [bit_test (by omega) (by omega)]; exact hb) (Ev.pos (by omega) ?_)
      rw [show (285 : Int) = ((285 : Nat) : Int) from rfl, shl_nat (by omega) (by omega), i64_xor_nat (by omega) (by omega)]
      exact rmul1_ev n _ (by omega) (Nat.xor_lt_two_pow (n := 16) hp h2)
    · rw [if_neg hb]
      exact Ev.neg (by rw [bit_test (by omega) (by omega)]; exact hb) (rmul1_ev n p (by omega) hp)
theorem rmul0_ev {a b : Nat} (ha : a < 256) (hb : b < 256) : ∀ (d i : Nat), i + d = 8 → Ev (fun k => tapearchiveref05_mul.l0 k (a : Int) (b : Int) ((cl a b i : Nat) : Int) (i : Int)) ((rm a b : Nat) : Int)
  | 0, i, hi => by
    have e : i = 8 := by omega
    subst e
    exact Ev.step (fun k => by simp only [tapearchiveref05_mul.l0]; rfl) (Ev.neg (by omega) (rmul1_ev 8 _ (by omega) (cl_lt ha (by omega))))
  | d + 1, i, hi => by
    refine Ev.step (fun k => by simp only [tapearchiveref05_mul.l0]; rfl) (Ev.pos (by omega) (Ev.pos (by omega) ?_))
    have e2 : wrap64 ((i : Int) + 1) = ((i + 1 : Nat) : Int) := by unfold wrap64; omega
    have h1 := cl_lt (b := b) ha (n := i) (by omega)
    have h2 : a * 2 ^ i < 65536 := by
      have : 2 ^ i ≤ 2 ^ 7 := Nat.pow_le_pow_right (by omega) (by omega)
      calc a * 2 ^ i ≤ a * 2 ^ 7 := Nat.mul_le_mul_left _ this
        _ < 65536 := by omega
    have ih := rmul0_ev ha hb d (i + 1) (by omega)
    rw [e2]
    clear e2
    by_cases hbi : b.testBit i = true
    · refine Ev.pos (by rw [bit_test (by omega) (by omega)]; exact hbi) ?_
      rw [shl_nat (by omega) (by omega), i64_xor_nat (by omega) (by omega)]
      have e : cl a b (i + 1) = cl a b i ^^^ a * 2 ^ i := by show (if b.testBit i then _ else _) = _; rw [if_pos hbi]
      rwa [e] at ih
    · refine Ev.neg (by rw [bit_test (by omega) (by omega)]; exact hbi) ?_
      have e : cl a b (i + 1) = cl a b i := by show (if b.testBit i then _ else _) = _; rw [if_neg hbi]
      rwa [e] at ih
theorem rmul_ev (x y : GF) : Ev (fun k => tapearchiveref05_mul.f k (x.v : Int) (y.v : Int)) ((x * y).v : Int) := by
  have hx := x.h
  have hy := y.h
  unfold tapearchiveref05_mul.f
  have e1 : wrap64 (x.v : Int) = (x.v : Int) := by unfold wrap64; omega
  have e2 : wrap64 (y.v : Int) = (y.v : Int) := by unfold wrap64; omega
  rw [e1, e2]
  clear e1 e2
  have h := rmul0_ev hx hy 8 0 (by omega)
  rw [rm_eq hx hy] at h
  exact h
def powG (x : GF) (n : Nat) : GF := ⟨gpow x.v n, gpow_lt x.h n⟩
theorem rinv_loop (x : GF) : ∀ (d i : Nat), i + d = 254 → Ev (fun k => tapearchiveref05_inverse.l0 k (x.v : Int) ((powG x i).v : Int) (i : Int)) ((powG x 254).v : Int)
  | 0, i, hi => by
    have e : i = 254 := by omega
    subst e
    exact Ev.step (fun k => by simp only [tapearchiveref05_inverse.l0]; rfl) (Ev.neg (by omega) (Ev.now _))
  | d + 1, i, hi => by
    have e2 : wrap64 ((i : Int) + 1) = ((i + 1 : Nat) : Int) := by unfold wrap64; omega
    refine Ev.step (fun k => by simp only [tapearchiveref05_inverse.l0]; rfl) (Ev.pos (by omega) (Ev.bind (rmul_ev (powG x i) x) ?_))
    rw [e2]
    exact rinv_loop x d (i + 1) (by omega)
theorem pow254 {x : GF} (h : x ≠ 0) : powG x 254 = inv x := by
  apply GF.ext_
  rw [inv_v]
  have h0 := ne_v h
  refine ginv_unique x.h (gpow_lt x.h _) h0 ?_
  have h1 : gpow x.v 255 = gmul (gpow x.v 1) (gpow x.v 254) := gpow_add x.h 1 254
  have h2 : gpow x.v 1 = x.v := by
    show gmul 1 x.v = x.v
    exact one_gmul x.h
  rw [h2] at h1
  show gmul x.v (gpow x.v 254) = 1
  rw [← h1, gpow_lg x.h h0, Nat.mod_self, Nat.mul_zero, Nat.zero_mod]
  rfl
theorem rinv_ev {x : GF} (h : x ≠ 0) : Ev (fun k => tapearchiveref05_inverse.f k (x.v : Int)) ((inv x).v : Int) := by
  rw [← pow254 h]
  exact rinv_loop x 254 0 (by omega)
/-- Sameness of a list and itself. -/
theorem same_loop {l : List (List Int)} (hl : l.length < 1000) : ∀ (d i : Nat), i + d = l.length → Ev (fun k => tapearchiveref05_Same.l0 k l l (i : Int)) true
  | 0, i, hi => Ev.step (fun k => by simp only [tapearchiveref05_Same.l0]; rfl) (Ev.neg (by omega) (Ev.now _))
  | d + 1, i, hi => by
    have e2 : wrap64 ((i : Int) + 1) = ((i + 1 : Nat) : Int) := by unfold wrap64; omega
    refine Ev.step (fun k => by simp only [tapearchiveref05_Same.l0]; rfl) (Ev.pos (by omega) (Ev.pos (by omega) (Ev.pos (by omega) (Ev.pos (by trivial) ?_))))
    rw [e2]
    exact same_loop hl d (i + 1) (by omega)
theorem same_ev {l : List (List Int)} (hl : l.length < 1000) : Ev (fun k => tapearchiveref05_Same.f k l l) true := by
  unfold tapearchiveref05_Same.f
  exact Ev.pos (by trivial) (same_loop hl l.length 0 (by omega))
end Go.Proofs.Ytdeamnmadgemoaa.Q
