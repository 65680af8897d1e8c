/- FieldRoots: the pure statement. -/
import Derived.Test.YtgabffpjddccjaaTimes
import Derived.Test.YtgabffpjddccjaaQ6
namespace Go.Proofs.Ytgabffpjddccjaa.Pure
open Go.RowKit Go.Proofs.Ytgabffpjddccjaa.Q Go.Proofs.YtgabffpjddccjaaW.PrintWords Go.Proofs.YtgabffpjddccjaaW.PrintLast
open Go.Proofs.Ytgabffpjddccjaa.Gf Go.Proofs.Ytgabffpjddccjaa.Evs
set_option linter.unusedVariables false
theorem xor_zero_iff {a b : Nat} : a ^^^ b = 0 ↔ a = b := by
  constructor
  · intro h
    have : (a ^^^ b) ^^^ b = 0 ^^^ b := by rw [h]
    rwa [Nat.xor_assoc, Nat.xor_self, Nat.xor_zero, Nat.zero_xor] at this
  · rintro rfl
    exact Nat.xor_self a
theorem roots_loop {l : List Nat} (hl : ∀ y ∈ l, y < 256) (h40 : l.length ≤ 40) {x : Nat} (hx : x < 256) : ∀ (d i : Nat) (p : List Nat) (b : Bool), i + d = l.length → (∀ y ∈ p, y < 256) → p.length ≤ i + 1 → ((val p x = 0) ↔ b = true) →
    Ev (fun k => tapearchivelaw04_FieldRoots.l0 k (ints l) (x : Int) (ints p) b (i : Int)) true
  | 0, i, p, b, hd, hp, hlen, hb => by
    have hk : i = l.length := by omega
    subst hk
    refine Ev.step (f := fun k => (field_Eval.f k (ints p) (x : Int)).bind fun t => (if ((t == 0) == b) = true then ((tapearchivelaw04_awake.f k).bind fun t197 => (some t197)) else (some false))) (fun k => ?_) ?_
    · simp only [tapearchivelaw04_FieldRoots.l0]
      rw [if_neg (by rw [ints_length]; omega)]
    · refine Ev.bind (eval_ev hp (by omega) hx) (Ev.pos ?_ (Ev.bind awake_ev (Ev.now true)))
      rw [geval_val hp hx]
      by_cases h : val p x = 0
      · rw [hb.1 h, h]
        rfl
      · have : b = false := by
          cases b with
          | false => rfl
          | true => exact absurd (hb.2 rfl) h
        rw [this, beq_eq_false_iff_ne.2 (show ((val p x : Nat) : Int) ≠ 0 by omega)]
        rfl
  | d + 1, i, p, b, hd, hp, hlen, hb => by
    have hi : i < l.length := by omega
    have hr := getD_lt hl i
    have hq : ∀ y ∈ [l.getD i 0, 1], y < 256 := by
      intro y hy
      simp at hy
      rcases hy with rfl | rfl
      · simpa using hr
      · omega
    obtain ⟨r, r1, r2, r3, r4⟩ := times_ev hp hq (by omega) (by simp)
    have e2 : wrap64 ((i : Int) + 1) = ((i + 1 : Nat) : Int) := by unfold wrap64; omega
    have hv : val [l.getD i 0, 1] x = l.getD i 0 ^^^ x := by
      show l.getD i 0 ^^^ gmul (1 ^^^ gmul 0 x) x = _
      rw [zero_gmul, Nat.xor_zero, one_gmul hx]
    have hz : (val r x = 0) ↔ (val p x = 0 ∨ l.getD i 0 = x) := by
      rw [r3 x hx, hv]
      constructor
      · intro h
        rcases gmul_eq_zero (val_lt hp) (xor_lt hr hx) h with h | h
        · exact .inl h
        · exact .inr (xor_zero_iff.1 h)
      · rintro (h | h)
        · rw [h, zero_gmul]
        · rw [xor_zero_iff.2 h, gmul_zero]
    refine Ev.step (f := fun k => (tapearchiveref04_Times.f k (ints p) (ints [l.getD i 0, 1])).bind fun t => (if b = true then (tapearchivelaw04_FieldRoots.l0 k (ints l) (x : Int) t true ((i + 1 : Nat) : Int)) else (tapearchivelaw04_FieldRoots.l0 k (ints l) (x : Int) t (((l.getD i 0 : Nat) : Int) == (x : Int)) ((i + 1 : Nat) : Int)))) (fun k => ?_) (Ev.bind r4 ?_)
    · simp only [tapearchivelaw04_FieldRoots.l0]
      rw [if_pos (by rw [ints_length]; omega), if_pos (by omega), ints_rd, e2]
      rfl
    · have hlen' : r.length ≤ i + 1 + 1 := by simp at r2; omega
      refine Ev.pick (fun c => ?_) (fun c => ?_)
      · exact roots_loop hl h40 hx d (i + 1) r true (by omega) r1 hlen' (by rw [hz]; simp; exact .inl (hb.2 c))
      · refine roots_loop hl h40 hx d (i + 1) r _ (by omega) r1 hlen' ?_
        rw [hz, beq_iff_eq]
        constructor
        · rintro (h | h)
          · exact absurd (hb.1 h) c
          · rw [h]
        · intro h
          exact .inr (by omega)
theorem FieldRoots : tapearchivelaw04_FieldRoots.Pure := by
  intro l0 a1 _ _ b0 w1
  obtain ⟨l, rfl, hl⟩ := bytes_of b0
  obtain ⟨x, rfl, hx⟩ := byte_of w1
  refine Ev.rounds ?_
  unfold tapearchivelaw04_FieldRoots.f
  refine Ev.pick (fun _ => Ev.bind awake_ev (Ev.now true)) fun c => ?_
  rw [ints_length] at c
  refine roots_loop hl (by omega) hx l.length 0 [1] false (by omega) (by simp) (by simp) ?_
  show (1 ^^^ gmul 0 x = 0) ↔ _
  rw [zero_gmul]
  simp
end Go.Proofs.Ytgabffpjddccjaa.Pure
