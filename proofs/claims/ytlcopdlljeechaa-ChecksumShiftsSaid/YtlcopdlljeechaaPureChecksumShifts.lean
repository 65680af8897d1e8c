/- ChecksumShifts and ChecksumAssociates: the pure statements. -/
import Derived.Test.YtlcopdlljeechaaPureChecksumCombines
import Derived.Test.YtlcopdlljeechaaQ6
import Derived.Test.YtlcopdlljeechaaQ7
namespace Go.Proofs.Ytlcopdlljeechaa.Pure
open Go.RowKit Go.Proofs.Ytlcopdlljeechaa.Q Go.Proofs.YtlcopdlljeechaaW.PrintWords Go.Proofs.YtlcopdlljeechaaW.PrintLast
open Go.Proofs.Ytlcopdlljeechaa.Cr Go.Proofs.Ytlcopdlljeechaa.Evs
set_option linter.unusedVariables false
theorem shifts_ev {a b : Nat} {n : Int} (ha : a < 4294967296) (hb : b < 4294967296) : tapearchivelaw01_ChecksumShifts.f (a : Int) (b : Int) n = some true := by
  unfold tapearchivelaw01_ChecksumShifts.f
  by_cases c1 : n < 0
  · unfold checksum_Combine.f tapearchiveref01_Combine.f
    rw [if_pos (by omega), if_pos (by omega), if_pos c1]
    rfl
  · by_cases c2 : n > 1125899906842624
    · unfold checksum_Combine.f tapearchiveref01_Combine.f
      rw [if_pos (by omega), if_pos (by omega), if_neg c1, if_pos c2]
      rfl
    · obtain ⟨m, rfl⟩ := Int.eq_ofNat_of_zero_le (show 0 ≤ n by omega)
      have hr : tapearchiveref01_Combine.f (a : Int) (b : Int) (m : Int) = some ((comb a b m : Nat) : Int) := by
        unfold tapearchiveref01_Combine.f tapearchiveref01_Shift.f
        rw [if_neg c1, if_neg c2, if_pos (by omega), Int.toNat_natCast, Int.toNat_natCast, Option.bind_some, show shf a m = stps (8 * m) a from rfl, u32_xor_nat _ _ hb (stps_lt _ ha)]
        rfl
      rw [comb_ev ha hb (by omega), hr, Option.bind_some, Option.bind_some, if_pos rfl]
      rfl
theorem assoc_ev {a b c d : Nat} {n m : Int} (ha : a < 4294967296) (hb : b < 4294967296) (hc : c < 4294967296) (hd : d < 4294967296) : ∃ k, tapearchivelaw01_ChecksumAssociates.f k (a : Int) (b : Int) n (c : Int) (d : Int) m = some true := by
  refine Ev.rounds ?_
  unfold tapearchivelaw01_ChecksumAssociates.f
  have long : Ev (fun k => tapearchivelaw01_ChecksumAssociates.j0 k true (a : Int) (b : Int) n (c : Int) (d : Int) m) true := by
    refine Ev.step (f := fun _ => some true) (fun k => by simp only [tapearchivelaw01_ChecksumAssociates.j0]; rfl) (Ev.now _)
  refine Ev.pick (fun _ => long) fun c1 => Ev.pick (fun _ => long) fun c2 => Ev.pick (fun _ => long) fun c3 => ?_
  by_cases c4 : m > 1099511627776
  · rw [decide_eq_true c4]
    exact long
  · rw [decide_eq_false c4]
    obtain ⟨x, rfl⟩ := Int.eq_ofNat_of_zero_le (show 0 ≤ n by omega)
    obtain ⟨y, rfl⟩ := Int.eq_ofNat_of_zero_le (show 0 ≤ m by omega)
    refine Ev.step (fun k => by simp only [tapearchivelaw01_ChecksumAssociates.j0]; rfl) ?_
    refine Ev.neg (by simp) ?_
    have w : wrap64 ((x : Int) + (y : Int)) = ((x + y : Nat) : Int) := by unfold wrap64; omega
    rw [w]
    clear w
    refine Ev.call (comb_ev ha hb (by omega)) (Ev.call (comb_ev (comb_lt ha hb) hc (by omega)) (Ev.call (comb_ev hb hc (by omega)) (Ev.call (comb_ev ha (comb_lt hb hc) (by omega)) ?_)))
    exact Ev.pos (by rw [comb_assoc]) (Ev.call awake_ev (Ev.now _))
end Go.Proofs.Ytlcopdlljeechaa.Pure
