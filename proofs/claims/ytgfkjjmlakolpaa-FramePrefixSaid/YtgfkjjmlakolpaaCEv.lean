/- checksum.Update and checksum.Sum over plain numbers. -/
import Derived.Test.YtgfkjjmlakolpaaQ2
import Derived.Test.YtgfkjjmlakolpaaCUpd
import Derived.Test.YtgfkjjmlakolpaaEv
namespace Go.Proofs.Ytgfkjjmlakolpaa.Pure
open Go.RowKit Go.Proofs.Ytgfkjjmlakolpaa.Q Go.Proofs.YtgfkjjmlakolpaaW.PrintWords Go.Proofs.YtgfkjjmlakolpaaW.PrintLast
open Go.Proofs.Ytgfkjjmlakolpaa.Cr Go.Proofs.Ytgfkjjmlakolpaa.Evs
set_option linter.unusedVariables false
theorem bytes_ints {p : List Nat} (hp : ∀ x ∈ p, x < 256) : Bytes (ints p) := by
  intro x hx
  simp only [ints, List.mem_map] at hx
  obtain ⟨a, ha, rfl⟩ := hx
  have := hp a ha
  omega
theorem nats_ints (p : List Nat) : nats (ints p) = p := by
  unfold nats ints
  rw [List.map_map]
  conv => rhs; rw [← List.map_id p]
  apply List.map_congr_left
  intro x _
  rfl
theorem upd_ev {s : Nat} (hs : s < 4294967296) {p : List Nat} (hp : ∀ x ∈ p, x < 256) (hl : p.length ≤ 10000) : checksum_Update.f (s : Int) (ints p) = some ((cup s p : Nat) : Int) := by
  unfold checksum_Update.f
  rw [if_pos ⟨by omega, by omega, bytes_ints hp, by rw [ints_length]; omega⟩, nats_ints]
  rfl
theorem sum_ev {p : List Nat} (hp : ∀ x ∈ p, x < 256) (hl : p.length ≤ 10000) : checksum_Sum.f (ints p) = some ((csum p : Nat) : Int) := by
  unfold checksum_Sum.f
  rw [show (0 : Int) = ((0 : Nat) : Int) from rfl, upd_ev (by omega) hp hl]
  rfl
end Go.Proofs.Ytgfkjjmlakolpaa.Pure
