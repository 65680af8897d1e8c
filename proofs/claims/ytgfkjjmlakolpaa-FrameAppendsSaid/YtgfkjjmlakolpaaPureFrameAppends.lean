/- FrameAppends: the pure statement. -/
import Derived.Test.YtgfkjjmlakolpaaFEv
import Derived.Test.YtgfkjjmlakolpaaQ6
namespace Go.Proofs.Ytgfkjjmlakolpaa.Pure
open Go.RowKit Go.Proofs.Ytgfkjjmlakolpaa.Q Go.Proofs.YtgfkjjmlakolpaaW.PrintWords Go.Proofs.YtgfkjjmlakolpaaW.PrintLast
open Go.Proofs.Ytgfkjjmlakolpaa.Cr Go.Proofs.Ytgfkjjmlakolpaa.Evs
set_option linter.unusedVariables false
theorem take_lt {p : List Nat} (hp : ∀ x ∈ p, x < 256) (n : Nat) : ∀ x ∈ p.take n, x < 256 := fun x hx => hp x (List.mem_of_mem_take hx)
theorem FrameAppends : tapearchivelaw03_FrameAppends.Pure := by
  intro l0 l1 a2 _ _ b0 _ _ b1 _
  obtain ⟨p, rfl, hp⟩ := bytes_of b0
  obtain ⟨q, rfl, hq⟩ := bytes_of b1
  obtain ⟨m, hm⟩ := flen_some a2
  have k1 : (p.take 300).length ≤ 300 := by rw [List.length_take]; omega
  have k2 : (q.take 300).length ≤ 300 := by rw [List.length_take]; omega
  unfold tapearchivelaw03_FrameAppends.f
  rw [short_ev, Option.bind_some, short_ev, Option.bind_some, app_ev (take_lt hq 300) (by rw [ints_length]; omega) (by omega), Option.bind_some, rapp_ev (take_lt hq 300) (by omega) (by omega), Option.bind_some, if_pos rfl, if_pos rfl, if_pos rfl, len_ev, hm, Option.bind_some, Option.bind_some, if_pos rfl]
  rfl
end Go.Proofs.Ytgfkjjmlakolpaa.Pure
