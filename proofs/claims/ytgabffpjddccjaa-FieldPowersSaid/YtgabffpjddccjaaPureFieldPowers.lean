/- FieldPowers: the pure statement. -/
import Derived.Test.YtgabffpjddccjaaLawA
import Derived.Test.YtgabffpjddccjaaQ4
namespace Go.Proofs.Ytgabffpjddccjaa.Pure
open Go.RowKit Go.Proofs.Ytgabffpjddccjaa.Q Go.Proofs.YtgabffpjddccjaaW.PrintWords Go.Proofs.YtgabffpjddccjaaW.PrintLast
open Go.Proofs.Ytgabffpjddccjaa.Gf Go.Proofs.Ytgabffpjddccjaa.Evs
set_option linter.unusedVariables false
theorem pow_any {a : Nat} (ha : a < 256) {n : Int} (h1 : -9223372036854775808 ≤ n) (h2 : n ≤ 9223372036854775807) :
    ∃ p : Nat, p < 256 ∧ field_Pow.f (a : Int) n = some (p : Int) ∧ Ev (fun k => tapearchiveref04_Pow.f k (a : Int) n) (p : Int) := by
  by_cases hn : n < 0
  · refine ⟨0, by omega, ?_, ?_⟩
    · unfold field_Pow.f
      rw [if_pos (by omega), if_pos hn]
      rfl
    · unfold tapearchiveref04_Pow.f
      exact Ev.pos hn (Ev.now 0)
  · obtain ⟨m, rfl⟩ := Int.eq_ofNat_of_zero_le (show 0 ≤ n by omega)
    exact ⟨_, gpow_lt ha m, pow_ev ha (by omega), refpow_ev ha (by omega)⟩
theorem FieldPowers : tapearchivelaw04_FieldPowers.Pure := by
  intro a0 a1 a2 w0 w1 w2
  obtain ⟨a, rfl, ha⟩ := byte_of w0
  obtain ⟨n1, n2⟩ := int_of w1
  obtain ⟨m1, m2⟩ := int_of w2
  refine Ev.rounds ?_
  unfold tapearchivelaw04_FieldPowers.f
  obtain ⟨p, hp, e1, e2⟩ := pow_any ha n1 n2
  refine Ev.call e1 (Ev.bind e2 (Ev.pos rfl ?_))
  have rest : ∀ x, x = false → Ev (fun k => tapearchivelaw04_FieldPowers.j0 k (a : Int) a1 a2 x) true := by
    rintro _ rfl
    have short : Ev (fun k => tapearchivelaw04_FieldPowers.j1 k (a : Int) a1 a2 true) true := by
      refine Ev.step (fun k => by simp only [tapearchivelaw04_FieldPowers.j1]; rfl) ?_
      exact Ev.pos (by simp) (Ev.bind awake_ev (Ev.now true))
    refine Ev.step (fun k => by simp only [tapearchivelaw04_FieldPowers.j0]; rfl) ?_
    refine Ev.neg (by simp) ?_
    refine Ev.pick (fun _ => short) fun c1 => Ev.pick (fun _ => short) fun c2 => Ev.pick (fun _ => short) fun c3 => ?_
    by_cases c4 : a2 > 1099511627776
    · rw [decide_eq_true c4]
      exact short
    · rw [decide_eq_false c4]
      refine Ev.step (fun k => by simp only [tapearchivelaw04_FieldPowers.j1]; rfl) ?_
      refine Ev.neg (by simp) ?_
      obtain ⟨n, rfl⟩ := Int.eq_ofNat_of_zero_le (show 0 ≤ a1 by omega)
      obtain ⟨m, rfl⟩ := Int.eq_ofNat_of_zero_le (show 0 ≤ a2 by omega)
      have es : wrap64 ((n : Int) + (m : Int)) = ((n + m : Nat) : Int) := by unfold wrap64; omega
      rw [es]
      refine Ev.call (pow_ev ha (by omega)) (Ev.call (pow_ev ha (by omega)) (Ev.call (pow_ev ha (by omega)) (Ev.bind (mul_ev (gpow_lt ha _) (gpow_lt ha _)) (Ev.pos (by rw [gpow_add ha]) ?_))))
      exact Ev.bind awake_ev (Ev.now true)
  refine Ev.pick (fun _ => rest _ rfl) fun h0 => ?_
  refine Ev.call (pow_ev ha (n := 255) (by omega)) (rest _ ?_)
  have h1 : gpow a 255 = 1 := by
    rw [gpow_lg ha (by omega), show 255 % 255 = 0 from rfl, Nat.mul_zero]
    rfl
  rw [h1]
  rfl
end Go.Proofs.Ytgabffpjddccjaa.Pure
