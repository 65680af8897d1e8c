/- The functions of layer 3 over plain numbers. -/
import Derived.Test.YtgfkjjmlakolpaaFApp
import Derived.Test.YtgfkjjmlakolpaaQ1
import Derived.Test.YtgfkjjmlakolpaaQ4
import Derived.Test.YtgfkjjmlakolpaaFAwk
namespace Go.Proofs.Ytgfkjjmlakolpaa.Pure
open Go.RowKit Go.Proofs.Ytgfkjjmlakolpaa.Q Go.Proofs.YtgfkjjmlakolpaaW.PrintWords Go.Proofs.YtgfkjjmlakolpaaW.PrintLast
open Go.Proofs.Ytgfkjjmlakolpaa.Cr Go.Proofs.Ytgfkjjmlakolpaa.Evs
set_option linter.unusedVariables false
theorem awake_ev : tapearchivelaw03_awake.f = some true := rfl
theorem ints_take (p : List Nat) (n : Nat) : (ints p).take n = ints (p.take n) := by unfold ints; rw [List.map_take]
theorem ints_drop (p : List Nat) (n : Nat) : (ints p).drop n = ints (p.drop n) := by unfold ints; rw [List.map_drop]
theorem short_ev (p : List Nat) : tapearchivelaw03_short.f (ints p) = some (ints (p.take 300)) := by
  unfold tapearchivelaw03_short.f
  have hl := ints_length p
  by_cases h : ((ints p).length : Int) > 300
  · rw [if_pos h, if_pos (by omega), ints_take]
  · rw [if_neg h, List.take_of_length_le (by omega)]
theorem app_ev {l : List Int} {p : List Nat} (hp : ∀ x ∈ p, x < 256) (hl : l.length ≤ 100000000000000) (h : p.length ≤ 65536) : frame_Append.f l (ints p) = some (l ++ ints (frm p), 0) := by
  unfold frame_Append.f
  rw [if_pos ⟨bytes_ints hp, hl⟩, if_neg (by rw [ints_length]; omega), nats_ints]
theorem four_ev {n : Nat} (hn : n < 4294967296) : tapearchiveref03_four.f (n : Int) = some (ints (four n)) := by
  unfold tapearchiveref03_four.f four
  have e1 : (wrap64 (Int.tdiv (n : Int) 16777216)) % 256 = ((n / 16777216 % 256 : Nat) : Int) := by
    rw [Int.tdiv_eq_ediv_of_nonneg (by omega)]; unfold wrap64; omega
  have e2 : (Int.tmod (wrap64 (Int.tdiv (n : Int) 65536)) 256) % 256 = ((n / 65536 % 256 : Nat) : Int) := by
    clear e1
    have w : wrap64 (Int.tdiv (n : Int) 65536) = ((n / 65536 : Nat) : Int) := by rw [Int.tdiv_eq_ediv_of_nonneg (by omega)]; unfold wrap64; omega
    rw [w, Int.tmod_eq_emod_of_nonneg (by omega)]; clear w; omega
  have e3 : (Int.tmod (wrap64 (Int.tdiv (n : Int) 256)) 256) % 256 = ((n / 256 % 256 : Nat) : Int) := by
    clear e1 e2
    have w : wrap64 (Int.tdiv (n : Int) 256) = ((n / 256 : Nat) : Int) := by rw [Int.tdiv_eq_ediv_of_nonneg (by omega)]; unfold wrap64; omega
    rw [w, Int.tmod_eq_emod_of_nonneg (by omega)]; clear w; omega
  have e4 : (Int.tmod (n : Int) 256) % 256 = ((n % 256 : Nat) : Int) := by
    clear e1 e2 e3
    rw [Int.tmod_eq_emod_of_nonneg (by omega)]; omega
  rw [e1, e2, e3, e4]
  rfl
theorem four_len (n : Nat) : (ints (four n)).length = 4 := rfl
theorem rsum_ev {p : List Nat} (hp : ∀ x ∈ p, x < 256) (h : p.length ≤ 9000) : tapearchiveref03_sum.f (ints p) = some (ints (four (fck p))) := by
  unfold tapearchiveref03_sum.f
  have hs : tapearchiveref01_Sum.f (ints (four p.length ++ p)) = some ((csum (four p.length ++ p) : Nat) : Int) := sum_ev (by
    intro x hx
    rcases List.mem_append.1 hx with h | h
    · exact four_lt _ x h
    · exact hp x h) (by rw [List.length_append]; have : (four p.length).length = 4 := rfl; omega)
  have hc : csum (four p.length ++ p) = fck p := cup_append (b := p) (four_lt _)
  have hlt := fck_lt p
  rw [ints_length, four_ev (by omega), Option.bind_some, four_len, if_pos (by omega), ← ints_append, hs, Option.bind_some, hc]
  clear hs hc
  generalize fck p = c at hlt ⊢
  have w : wrap64 (c : Int) = (c : Int) := by unfold wrap64; omega
  rw [w, four_ev hlt]
  rfl
theorem rapp_ev {q p : List Nat} (hp : ∀ x ∈ p, x < 256) (hl : q.length ≤ 100000) (h : p.length ≤ 9000) : tapearchiveref03_Append.f (ints q) (ints p) = some (ints q ++ ints (frm p), 0) := by
  unfold tapearchiveref03_Append.f
  have h1 := ints_length p
  have h2 := ints_length q
  rw [if_neg (by omega), if_pos (by show 0 + _ < _; omega), Option.bind_some, Option.bind_some, if_pos (by simp; omega), Option.bind_some, h1, four_ev (by omega), Option.bind_some, if_pos (by simp [four_len]; omega), Option.bind_some, rsum_ev hp h, Option.bind_some, if_pos (by simp [four_len]; omega), Option.bind_some, if_pos (by simp [four_len]; omega)]
  unfold frm
  rw [ints_append, ints_append, ints_append]
  simp [ints]
theorem len_ev (n : Int) : tapearchiveref03_Len.f n = frame_Len.f n := rfl
theorem flen_some (n : Int) : ∃ m, frame_Len.f n = some m := by
  unfold frame_Len.f
  by_cases h : n < 0
  · exact ⟨_, if_pos h⟩
  · by_cases h2 : n > 65536
    · exact ⟨_, by rw [if_neg h, if_pos h2]⟩
    · exact ⟨_, by rw [if_neg h, if_neg h2]⟩
end Go.Proofs.Ytgfkjjmlakolpaa.Pure
