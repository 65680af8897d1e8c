/- ChecksumCombines: the pure statement. -/
import Derived.Test.YtlcopdlljeechaaPureChecksumSums
namespace Go.Proofs.Ytlcopdlljeechaa.Pure
open Go.RowKit Go.Proofs.Ytlcopdlljeechaa.Q Go.Proofs.YtlcopdlljeechaaW.PrintWords Go.Proofs.YtlcopdlljeechaaW.PrintLast
open Go.Proofs.Ytlcopdlljeechaa.Cr Go.Proofs.Ytlcopdlljeechaa.Evs
set_option linter.unusedVariables false
theorem comb_ev {a b n : Nat} (ha : a < 4294967296) (hb : b < 4294967296) (hn : n ≤ 1125899906842624) : checksum_Combine.f (a : Int) (b : Int) (n : Int) = some ((comb a b n : Nat) : Int) := by
  unfold checksum_Combine.f
  rw [if_pos (by omega), if_neg (by omega)]
  rfl
theorem mem_append_lt {a b : List Nat} (ha : ∀ x ∈ a, x < 256) (hb : ∀ x ∈ b, x < 256) : ∀ x ∈ a ++ b, x < 256 := by
  intro x hx
  rcases List.mem_append.1 hx with h | h
  · exact ha x h
  · exact hb x h
theorem ChecksumCombines : tapearchivelaw01_ChecksumCombines.Pure := by
  intro l0 l1 _ _ b0 _ _ b1
  obtain ⟨p, rfl, hp⟩ := bytes_of b0
  obtain ⟨q, rfl, hq⟩ := bytes_of b1
  refine Ev.rounds ?_
  unfold tapearchivelaw01_ChecksumCombines.f
  have long : Ev (fun k => tapearchivelaw01_ChecksumCombines.j0 k (ints p) (ints q) true) true := by
    refine Ev.step (f := fun _ => some true) (fun k => by simp only [tapearchivelaw01_ChecksumCombines.j0]; rfl) (Ev.now _)
  refine Ev.pick (fun _ => long) fun c1 => ?_
  by_cases c2 : ((ints q).length : Int) > 4096
  · rw [decide_eq_true c2]
    exact long
  · rw [decide_eq_false c2]
    rw [ints_length] at c1 c2
    refine Ev.step (fun k => by simp only [tapearchivelaw01_ChecksumCombines.j0]; rfl) ?_
    refine Ev.neg (by simp) ?_
    refine Ev.call rfl (Ev.pos (by rw [ints_length]; show 0 + _ < _; omega) (Ev.call (a := ints p) rfl (Ev.pos (by rw [ints_length, ints_length]; omega) ?_)))
    rw [← ints_append]
    have hs := csum_append hp hq
    have hc := cup_append (b := q) hp
    refine Ev.call (sum_ev (mem_append_lt hp hq) (by rw [List.length_append]; omega)) (Ev.call (sum_ev hp (by omega)) (Ev.call (sum_ev hq (by omega)) ?_))
    rw [ints_length]
    refine Ev.call (comb_ev (cup_lt _ _) (cup_lt _ _) (by omega)) (Ev.pos (by rw [hs]) ?_)
    refine Ev.call (upd_ev (cup_lt _ _) hq (by omega)) (Ev.pos (by rw [hc]; rfl) ?_)
    exact Ev.val rfl
end Go.Proofs.Ytlcopdlljeechaa.Pure
