/- What the functions of layer 4 and its reference answer, and the layer's examples. -/
import Derived.Test.YtgabffpjddccjaaEv
import Derived.Test.YtgabffpjddccjaaQ3
import Derived.Test.YtgabffpjddccjaaGfE
namespace Go.Proofs.Ytgabffpjddccjaa.Q
open Go.RowKit Go.Proofs.YtgabffpjddccjaaW.PrintWords Go.Proofs.YtgabffpjddccjaaW.PrintLast Go.Proofs.YtgabffpjddccjaaW.PrintMore
open Go.Proofs.Ytgabffpjddccjaa.Gf Go.Proofs.Ytgabffpjddccjaa.Evs
set_option linter.unusedVariables false

theorem inv_ev {a : Nat} (ha : a < 256) (h0 : a ≠ 0) : field_Inv.f (a : Int) = some (((ginv a : Nat) : Int), true) := by
  unfold field_Inv.f
  rw [if_pos (by omega), if_neg (by omega)]
  rfl
theorem inv_ev0 : field_Inv.f 0 = some (0, false) := rfl
theorem pow_ev {a : Nat} (ha : a < 256) {n : Nat} (hn : n < 9223372036854775808) : field_Pow.f (a : Int) (n : Int) = some ((gpow a n : Nat) : Int) := by
  unfold field_Pow.f
  rw [if_pos (by omega), if_neg (by omega)]
  rfl
/-- A polynomial's value: the coefficients below i still to come. -/
def evalr (p : List Nat) (x : Nat) : Nat → Nat → Nat
  | 0, y => y
  | i + 1, y => evalr p x i (gmul y x ^^^ p.getD i 0)
def geval (p : List Nat) (x : Nat) : Nat := evalr p x p.length 0
theorem evalr_lt {p : List Nat} (hp : ∀ x ∈ p, x < 256) {x : Nat} : ∀ (i y : Nat), y < 256 → evalr p x i y < 256
  | 0, _, hy => hy
  | i + 1, _, hy => evalr_lt hp i _ (xor_lt (gmul_lt hy) (getD_lt hp i))
theorem eval_loop {p : List Nat} (hp : ∀ x ∈ p, x < 256) (hl : p.length < 9223372036854775808) {x : Nat} (hx : x < 256) : ∀ (i y : Nat), i ≤ p.length → y < 256 →
    Ev (fun k => field_Eval.l0 k (ints p) (x : Int) (y : Int) ((i : Int) - 1)) ((evalr p x i y : Nat) : Int)
  | 0, y, _, hy => by
    refine Ev.step (f := fun _ => some (y : Int)) (fun k => ?_) (Ev.now _)
    simp only [field_Eval.l0]
    rw [if_neg (by omega)]
  | i + 1, y, hi, hy => by
    have e : ((i + 1 : Nat) : Int) - 1 = (i : Int) := by omega
    rw [e]
    refine Ev.step (f := fun k => (field_Mul.f k (y : Int) (x : Int)).bind fun t => field_Eval.l0 k (ints p) (x : Int) (Go.bits .xor .u8 t ((p.getD i 0 : Nat) : Int)) ((i : Int) - 1)) (fun k => ?_) ?_
    · simp only [field_Eval.l0]
      rw [if_pos (by omega)]
      congr 1
      funext t
      rw [if_pos (by omega), if_pos (by rw [ints_length]; omega), ints_rd]
      congr 1
      unfold wrap64
      omega
    · refine Ev.bind (mul_ev hy hx) ?_
      rw [xor_u8 (gmul_lt hy) (getD_lt hp i)]
      exact eval_loop hp hl hx i _ (by omega) (xor_lt (gmul_lt hy) (getD_lt hp i))
theorem eval_ev {p : List Nat} (hp : ∀ x ∈ p, x < 256) (hl : p.length < 9223372036854775808) {x : Nat} (hx : x < 256) :
    Ev (fun k => field_Eval.f k (ints p) (x : Int)) ((geval p x : Nat) : Int) := by
  unfold field_Eval.f
  have e : wrap64 (((ints p).length : Int) - 1) = (p.length : Int) - 1 := by rw [ints_length]; unfold wrap64; omega
  rw [e]
  exact eval_loop hp hl hx p.length 0 (Nat.le_refl _) (by omega)

theorem awake_ev : Ev (fun k => tapearchivelaw04_awake.f k) true := by
  unfold tapearchivelaw04_awake.f
  refine Ev.call (inv_ev (a := 2) (by omega) (by omega)) ?_
  refine Ev.bind (mul_ev (a := 2) (b := 128) (by omega) (by omega)) ?_
  refine Ev.pos (by decide +kernel) ?_
  refine Ev.bind (mul_ev (a := 3) (b := 7) (by omega) (by omega)) ?_
  refine Ev.pos (by decide +kernel) ?_
  refine Ev.pos (by rfl) ?_
  refine Ev.pos (by decide +kernel) ?_
  refine Ev.call (add_ev (a := 3) (b := 1) (by omega) (by omega)) ?_
  refine Ev.pos (by decide +kernel) ?_
  refine Ev.bind (eval_ev (p := [14, 5, 1]) (x := 7) (by decide) (by decide) (by omega)) ?_
  refine Ev.pos (by decide +kernel) ?_
  refine Ev.bind (eval_ev (p := [3, 1]) (x := 2) (by decide) (by decide) (by omega)) ?_
  refine Ev.pos (by decide +kernel) ?_
  refine Ev.call (pow_ev (a := 2) (n := 8) (by omega) (by omega)) ?_
  exact Ev.val (by decide +kernel)

/-! ### the reference's product, and its powers -/
theorem mulr_zero : ∀ n a p, mulr n a 0 p = p := by
  intro n
  induction n with
  | zero => intro a p; rfl
  | succ n ih => intro a p; unfold mulr; simpa using ih (dbl a) p
theorem refmul_loop : ∀ (n a b p : Nat), a < 256 → p < 256 → b < 2 ^ n → b < 256 → Ev (fun k => tapearchiveref04_Mul.l0 k (a : Int) (b : Int) (p : Int)) ((mulr n a b p : Nat) : Int)
  | n, a, 0, p, _, hp, _, _ => by
    rw [mulr_zero]
    refine Ev.step (f := fun _ => some (p : Int)) (fun k => ?_) (Ev.now _)
    simp only [tapearchiveref04_Mul.l0]
    rw [if_neg (by omega)]
    congr 1
    omega
  | 0, a, b + 1, p, _, _, hb, _ => by omega
  | n + 1, a, b + 1, p, ha, hp, hb, hb2 => by
    have hb' : (b + 1) / 2 < 2 ^ n := by rw [Nat.pow_succ] at hb; omega
    have e1 : Int.tmod ((b + 1 : Nat) : Int) 2 = (((b + 1) % 2 : Nat) : Int) := by rw [Int.tmod_eq_emod_of_nonneg (by omega)]; omega
    have e2 : wrap64 (Int.tdiv ((b + 1 : Nat) : Int) 2) = (((b + 1) / 2 : Nat) : Int) := by rw [Int.tdiv_eq_ediv_of_nonneg (by omega)]; unfold wrap64; omega
    have e3 : wrap64 ((a : Int) * 2) = ((a * 2 : Nat) : Int) := by unfold wrap64; omega
    have hd : Go.bits .xor .i64 ((a * 2 : Nat) : Int) 285 = (((a * 2) ^^^ 285 : Nat) : Int) := by
      rw [show (285 : Int) = ((285 : Nat) : Int) from rfl, i64_xor_nat (by omega) (by omega)]
    have hx : Go.bits .xor .i64 (p : Int) (a : Int) = ((p ^^^ a : Nat) : Int) := i64_xor_nat (by omega) (by omega)
    unfold mulr
    refine Ev.step (f := fun k => tapearchiveref04_Mul.l0 k ((dbl a : Nat) : Int) (((b + 1) / 2 : Nat) : Int) ((if (b + 1) % 2 = 1 then p ^^^ a else p : Nat) : Int)) (fun k => ?_) (refmul_loop n _ _ _ (dbl_lt ha) (by split; exact xor_lt hp ha; exact hp) hb' (by omega))
    simp only [tapearchiveref04_Mul.l0]
    rw [if_pos (by omega), e1, e2, e3, hd, hx]
    unfold dbl
    by_cases h1 : (b + 1) % 2 = 1
    · rw [if_pos (by omega), if_pos h1]
      by_cases h2 : a < 128
      · rw [if_neg (by omega), if_pos h2]
      · rw [if_pos (by omega), if_neg h2]
    · rw [if_neg (by omega), if_neg h1]
      by_cases h2 : a < 128
      · rw [if_neg (by omega), if_pos h2]
      · rw [if_pos (by omega), if_neg h2]
theorem wrap_byte {a : Nat} (ha : a < 256) : wrap64 (a : Int) = (a : Int) := by unfold wrap64; omega
theorem refmul_ev {a b : Nat} (ha : a < 256) (hb : b < 256) : Ev (fun k => tapearchiveref04_Mul.f k (a : Int) (b : Int)) ((gmul a b : Nat) : Int) := by
  unfold tapearchiveref04_Mul.f
  rw [wrap_byte ha, wrap_byte hb]
  exact refmul_loop 8 a b 0 ha (by omega) (by simpa using hb) hb
theorem refpow_loop (n : Nat) : ∀ (a p : Nat), a < 256 → p < 256 → n < 9223372036854775808 → Ev (fun k => tapearchiveref04_Pow.l0 k (a : Int) (n : Int) (p : Int)) ((gmul p (gpow a n) : Nat) : Int) := by
  induction n using Nat.strongRecOn with
  | _ n ih =>
  intro a p ha hp hn
  by_cases h0 : n = 0
  · subst h0
    refine Ev.eq (Ev.step (f := fun _ => some (p : Int)) (fun k => ?_) (Ev.now _)) ?_
    · simp only [tapearchiveref04_Pow.l0]
      rw [if_neg (by omega)]
    · rw [show gpow a 0 = 1 from rfl, gmul_one]
  · have e1 : Int.tmod (n : Int) 2 = ((n % 2 : Nat) : Int) := by rw [Int.tmod_eq_emod_of_nonneg (by omega)]; omega
    have e2 : wrap64 (Int.tdiv (n : Int) 2) = ((n / 2 : Nat) : Int) := by rw [Int.tdiv_eq_ediv_of_nonneg (by omega)]; unfold wrap64; omega
    have hsq : gpow a n = gmul (if n % 2 = 1 then a else 1) (gpow (gmul a a) (n / 2)) := by
      have h2 : ∀ m, gpow (gmul a a) m = gpow a (m + m) := by
        intro m
        induction m with
        | zero => rfl
        | succ m ihm =>
          show gmul (gpow (gmul a a) m) (gmul a a) = _
          rw [ihm, show m + 1 + (m + 1) = (m + m) + 1 + 1 by omega]
          show _ = gmul (gmul (gpow a (m + m)) a) a
          rw [gmul_assoc (gpow_lt ha _) ha ha]
      rw [h2]
      have h3 : gpow a n = gpow a (n % 2 + (n / 2 + n / 2)) := by congr 1; omega
      rw [h3, gpow_add ha]
      rcases Nat.mod_two_eq_zero_or_one n with h | h <;> rw [h]
      · rfl
      · rw [if_pos rfl]
        show gmul (gmul 1 a) _ = _
        rw [one_gmul ha]
    by_cases h1 : n % 2 = 1
    · rw [if_pos h1] at hsq
      refine Ev.eq (Ev.step (f := fun k => (tapearchiveref04_Mul.f k (p : Int) (a : Int)).bind fun t1 => (tapearchiveref04_Mul.f k (a : Int) (a : Int)).bind fun t2 => tapearchiveref04_Pow.l0 k t2 ((n / 2 : Nat) : Int) t1) (fun k => ?_) (Ev.bind (refmul_ev hp ha) (Ev.bind (refmul_ev ha ha) (ih (n / 2) (by omega) _ _ (gmul_lt ha) (gmul_lt hp) (by omega))))) ?_
      · simp only [tapearchiveref04_Pow.l0]
        rw [if_pos (by omega), e1, e2, if_pos (by omega)]
      · rw [hsq, gmul_assoc hp ha (gpow_lt (gmul_lt ha) _)]
    · rw [if_neg h1, one_gmul (gpow_lt (gmul_lt ha) _)] at hsq
      refine Ev.eq (Ev.step (f := fun k => (tapearchiveref04_Mul.f k (a : Int) (a : Int)).bind fun t2 => tapearchiveref04_Pow.l0 k t2 ((n / 2 : Nat) : Int) (p : Int)) (fun k => ?_) (Ev.bind (refmul_ev ha ha) (ih (n / 2) (by omega) _ _ (gmul_lt ha) hp (by omega)))) ?_
      · simp only [tapearchiveref04_Pow.l0]
        rw [if_pos (by omega), e1, e2, if_neg (by omega)]
      · rw [hsq]
theorem refpow_ev {a : Nat} (ha : a < 256) {n : Nat} (hn : n < 9223372036854775808) : Ev (fun k => tapearchiveref04_Pow.f k (a : Int) (n : Int)) ((gpow a n : Nat) : Int) := by
  unfold tapearchiveref04_Pow.f
  exact Ev.neg (by omega) (Ev.eq (refpow_loop n a 1 ha (by omega) hn) (by rw [one_gmul (gpow_lt ha _)]))
end Go.Proofs.Ytgabffpjddccjaa.Q
