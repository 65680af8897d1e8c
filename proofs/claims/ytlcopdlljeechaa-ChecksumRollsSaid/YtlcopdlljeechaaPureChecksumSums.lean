/- ChecksumSums: the pure statement. -/
import Derived.Test.YtlcopdlljeechaaQ5
import Derived.Test.YtlcopdlljeechaaEv
namespace Go.Proofs.Ytlcopdlljeechaa.Pure
open Go.RowKit Go.Proofs.Ytlcopdlljeechaa.Q Go.Proofs.YtlcopdlljeechaaW.PrintWords Go.Proofs.YtlcopdlljeechaaW.PrintLast
open Go.Proofs.Ytlcopdlljeechaa.Cr Go.Proofs.Ytlcopdlljeechaa.Evs
set_option linter.unusedVariables false
theorem bytes_ints {p : List Nat} (hp : ∀ x ∈ p, x < 256) : Bytes (ints p) := by
  intro x hx
  simp only [ints, List.mem_map] at hx
  obtain ⟨a, ha, rfl⟩ := hx
  have := hp a ha
  omega
theorem nats_ints (p : List Nat) : nats (ints p) = p := by
  unfold nats ints
  rw [List.map_map]
  conv => rhs; rw [← List.map_id p]
  apply List.map_congr_left
  intro x _
  rfl
theorem upd_ev {s : Nat} (hs : s < 4294967296) {p : List Nat} (hp : ∀ x ∈ p, x < 256) (hl : p.length ≤ 10000) : checksum_Update.f (s : Int) (ints p) = some ((cup s p : Nat) : Int) := by
  unfold checksum_Update.f
  rw [if_pos ⟨by omega, by omega, bytes_ints hp, by rw [ints_length]; omega⟩, nats_ints]
  rfl
theorem sum_ev {p : List Nat} (hp : ∀ x ∈ p, x < 256) (hl : p.length ≤ 10000) : checksum_Sum.f (ints p) = some ((csum p : Nat) : Int) := by
  unfold checksum_Sum.f
  rw [show (0 : Int) = ((0 : Nat) : Int) from rfl, upd_ev (by omega) hp hl]
  rfl
theorem awake_ev : tapearchivelaw01_awake.f = some true := rfl
theorem ChecksumSums : tapearchivelaw01_ChecksumSums.Pure := by
  intro a0 l1 w0 _ _ b1
  obtain ⟨s, rfl, hs⟩ := u32_of w0
  obtain ⟨p, rfl, hp⟩ := bytes_of b1
  unfold tapearchivelaw01_ChecksumSums.f
  by_cases c : ((ints p).length : Int) > 4096
  · rw [if_pos c]
    rfl
  · rw [if_neg c]
    rw [ints_length] at c
    have hr : tapearchiveref01_Sum.f (ints p) = some ((csum p : Nat) : Int) := sum_ev hp (by omega)
    have hu : tapearchiveref01_Update.f (s : Int) (ints p) = some ((cup s p : Nat) : Int) := upd_ev hs hp (by omega)
    rw [sum_ev hp (by omega), hr, upd_ev hs hp (by omega), hu]
    simp only [Option.bind_some, if_true]
    rfl
end Go.Proofs.Ytlcopdlljeechaa.Pure
