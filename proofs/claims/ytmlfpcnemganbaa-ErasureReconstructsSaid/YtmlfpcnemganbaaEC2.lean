/- The reference of Reconstruct as a contract. -/
import Derived.Test.YtmlfpcnemganbaaEC
import Derived.Test.YtmlfpcnemganbaaEB2
namespace Go.Proofs.Ytmlfpcnemganbaa.Q
open Go.RowKit Go.Proofs.YtmlfpcnemganbaaW.PrintWords Go.Proofs.YtmlfpcnemganbaaW.PrintLast Go.Proofs.YtmlfpcnemganbaaW.PrintMore
open Go.Proofs.Ytmlfpcnemganbaa.Gf Go.Proofs.Ytmlfpcnemganbaa.Lin Go.Proofs.Ytmlfpcnemganbaa.Evs
set_option linter.unusedVariables false
set_option linter.unnecessarySimpa false
theorem rrec_c {w : World} {A A1 : Option Addr} {n c n1 c1 : Nat} {l : List (List Int)} {b : List Bool} (h : RC w A n c l) (h1 : Kd.C Kd.bool w A1 n1 b) (hc1 : n1 ≤ c1) (hb : AllB l) (hw : ∀ r ∈ l, r.length ≤ 1000) (hl : l.length ≤ 1000) (p : Int) :
    Calls Try.prog 23 #[.slice A n c, .slice A1 n1 c1, .int .i64 p] w fun e w' => ∃ A' c', e = .returned (.tuple #[.slice A' (recR l b p).1.length c', .int .i64 (recR l b p).2]) ∧ RC w' A' (recR l b p).1.length c' (recR l b p).1 ∧ Below w.heap.size w w' := by
  obtain ⟨hC, hc⟩ := h
  obtain rfl := hC.1
  obtain rfl := h1.1
  obtain ⟨k, hk⟩ := Ev.rounds (rrec_ev (h := b) hb hw hl p)
  refine (tapearchiveref06_Reconstruct.calls k (fun k_ => k_ < w.heap.size) A c l A1 c1 b p _ _ w (Kd.V_mk hc (Kd.C_F (Kd.heap_slice 5 (Kd.heap_int .u8)) hC)) h1 hc1 hk).mono fun e w' ⟨v, he, hS, hbel⟩ => ?_
  obtain ⟨A', c', rfl, hrc⟩ := N_rc hS
  exact ⟨A', c', he, hrc, hbel⟩
end Go.Proofs.Ytmlfpcnemganbaa.Q
