/- FieldInverses: the pure statement. -/
import Derived.Test.YtgabffpjddccjaaLawA
import Derived.Test.YtgabffpjddccjaaQ6
namespace Go.Proofs.Ytgabffpjddccjaa.Pure
open Go.RowKit Go.Proofs.Ytgabffpjddccjaa.Q Go.Proofs.YtgabffpjddccjaaW.PrintWords Go.Proofs.YtgabffpjddccjaaW.PrintLast
open Go.Proofs.Ytgabffpjddccjaa.Gf Go.Proofs.Ytgabffpjddccjaa.Evs
set_option linter.unusedVariables false
theorem inv_loop {a g : Nat} (ha : a < 256) (hg : g < 256) (h1 : gmul a g = 1) (hu : ∀ x, x < 256 → gmul a x = 1 → x = g) : ∀ (d i : Nat), i + d = g → 1 ≤ i → Ev (fun k => tapearchiveref04_Inv.l0 k (a : Int) (i : Int)) ((g : Int), true)
  | 0, i, hd, hi => by
    have e : i = g := by omega
    subst e
    refine Ev.step (f := fun k => (tapearchiveref04_Mul.f k (a : Int) (i : Int)).bind fun t => if t = 1 then some ((i : Int), true) else (tapearchiveref04_Inv.l0 k (a : Int) (wrap64 ((i : Int) + 1)))) (fun k => ?_) (Ev.bind (refmul_ev ha hg) (Ev.pos (by rw [h1]; rfl) (Ev.now _)))
    simp only [tapearchiveref04_Inv.l0]
    rw [if_pos (by omega), show (i : Int) % 256 = (i : Int) by omega]
  | d + 1, i, hd, hi => by
    refine Ev.step (f := fun k => (tapearchiveref04_Mul.f k (a : Int) (i : Int)).bind fun t => if t = 1 then some ((i : Int), true) else (tapearchiveref04_Inv.l0 k (a : Int) ((i + 1 : Nat) : Int))) (fun k => ?_) (Ev.bind (refmul_ev ha (show i < 256 by omega)) (Ev.neg ?_ (inv_loop ha hg h1 hu d (i + 1) (by omega) (by omega))))
    · simp only [tapearchiveref04_Inv.l0]
      rw [if_pos (by omega), show (i : Int) % 256 = (i : Int) by omega, show wrap64 ((i : Int) + 1) = ((i + 1 : Nat) : Int) by unfold wrap64; omega]
    · intro h
      have := hu i (by omega) (by omega)
      omega
theorem inv_none : ∀ (d i : Nat), i + d = 256 → Ev (fun k => tapearchiveref04_Inv.l0 k 0 (i : Int)) (0, false)
  | 0, i, hd => by
    refine Ev.step (f := fun _ => some (0, false)) (fun k => ?_) (Ev.now _)
    simp only [tapearchiveref04_Inv.l0]
    rw [if_neg (by omega)]
  | d + 1, i, hd => by
    refine Ev.step (f := fun k => (tapearchiveref04_Mul.f k ((0 : Nat) : Int) (i : Int)).bind fun t => if t = 1 then some ((i : Int), true) else (tapearchiveref04_Inv.l0 k 0 ((i + 1 : Nat) : Int))) (fun k => ?_) (Ev.bind (refmul_ev (by omega) (show i < 256 by omega)) (Ev.neg (by rw [zero_gmul]; decide) (inv_none d (i + 1) (by omega))))
    simp only [tapearchiveref04_Inv.l0]
    rw [if_pos (by omega), show (i : Int) % 256 = (i : Int) by omega, show wrap64 ((i : Int) + 1) = ((i + 1 : Nat) : Int) by unfold wrap64; omega]
    rfl
theorem FieldInverses : tapearchivelaw04_FieldInverses.Pure := by
  intro a0 a1 w0 w1
  obtain ⟨a, rfl, ha⟩ := byte_of w0
  obtain ⟨b, rfl, hb⟩ := byte_of w1
  refine Ev.rounds ?_
  unfold tapearchivelaw04_FieldInverses.f
  by_cases h0 : a = 0
  · subst h0
    refine Ev.call (a := (0, false)) rfl ?_
    refine Ev.bind (a := (0, false)) (inv_none 255 1 rfl) ?_
    have hd : Ev (fun k => field_Div.f k (b : Int) ((0 : Nat) : Int)) (0, false) := by
      unfold field_Div.f
      refine Ev.call (a := (0, false)) rfl ?_
      exact Ev.neg (by simp) (Ev.now _)
    refine Ev.bind hd ?_
    refine Ev.pos rfl (Ev.neg (by simp) (Ev.neg (by simp) ?_))
    refine Ev.step (fun k => by simp only [tapearchivelaw04_FieldInverses.j0]; rfl) ?_
    refine Ev.neg (by simp) (Ev.neg (by simp) (Ev.pos (by simp) ?_))
    exact Ev.bind awake_ev (Ev.now true)
  · have hg := ginv_lt a
    refine Ev.call (inv_ev ha h0) ?_
    refine Ev.bind (a := (((ginv a : Nat) : Int), true)) (inv_loop ha hg (gmul_ginv ha h0) (fun x hx hx1 => ginv_unique ha hx h0 hx1) (ginv a - 1) 1 (by
      have : ginv a ≠ 0 := pw_ne _
      omega) (by omega)) ?_
    have hd : Ev (fun k => field_Div.f k (b : Int) (a : Int)) (((gmul b (ginv a) : Nat) : Int), true) := by
      unfold field_Div.f
      refine Ev.call (inv_ev ha h0) ?_
      refine Ev.pos rfl (Ev.bind (mul_ev hb hg) (Ev.now _))
    refine Ev.bind hd ?_
    refine Ev.pos rfl (Ev.neg (by simp) (Ev.neg (by simp; omega) ?_))
    refine Ev.step (fun k => by simp only [tapearchivelaw04_FieldInverses.j0]; rfl) ?_
    refine Ev.neg (by simp) (Ev.pos (by simp) ?_)
    refine Ev.bind (mul_ev ha hg) (Ev.pos (by rw [gmul_ginv ha h0]; rfl) ?_)
    refine Ev.bind (mul_ev (gmul_lt hb) ha) (Ev.pos (by rw [gmul_assoc hb hg ha, gmul_comm hg ha, gmul_ginv ha h0, gmul_one]) ?_)
    refine Ev.bind (mul_ev hb hg) (Ev.pos rfl ?_)
    exact Ev.bind awake_ev (Ev.now true)
end Go.Proofs.Ytgabffpjddccjaa.Pure
