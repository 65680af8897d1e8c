/- An argument that is a slice of slices of bytes: what it reads as. -/
import Derived.Test.YtmlfpcnemganbaaWWords
import Derived.Deep.Matrix
import Derived.OpenShut
import Derived.ChangeOld
namespace Go.Proofs.Ytmlfpcnemganbaa.Evs
open Go.RowKit Go.Deep Go.Proofs.YtmlfpcnemganbaaW.PrintWords
set_option linter.unusedVariables false
theorem rows_in {H : Type} {enc : TypeId × Value → H} {P : Program} {w : World} {held : Bool} {t e q : TypeId} {v : Value} {d : DataW H} {p : List MemPlace} (ht : P.underlying t = some (.slice e)) (he : P.underlying e = some (.slice q)) (hq : P.underlying q = some (.int .u8))
    (ce : P.cellsOf e = 1) (cq : P.cellsOf q = 1) (h : DataW.Trod enc P w 0 (fun _ => true) held t v d p) (hm : ∃ a n c, v = .slice a n c) :
    ∃ (A : Option Addr) (c : Nat) (l : List (List Int)), v = .slice A l.length c ∧ l.length ≤ c ∧ Kd.C (Kd.slice q (Kd.int .u8)) w A l.length l ∧ (∀ r ∈ l, r.length ≤ maxLen ∧ ∀ x ∈ r, (Lit.int .u8 x).wf = true) ∧ l.length ≤ maxLen := by
  obtain ⟨a0, n0, c0, rfl⟩ := hm
  obtain ⟨fuel, hf⟩ := h
  rcases open_int_rows ht he hq ce cq hf with ⟨hcs, _⟩ | ⟨a, len, cap, A, L, C, Z, hcs, _, hl, hmx, _, hr⟩
  · simp [Value.cells] at hcs
    obtain ⟨rfl, rfl, rfl⟩ := hcs
    exact ⟨none, 0, [], rfl, Nat.le_refl _, ⟨rfl, Nat.zero_le _, fun h => absurd h (Nat.lt_irrefl _)⟩, fun r hr => absurd hr (by simp), Nat.zero_le _⟩
  · simp [Value.cells] at hcs
    obtain ⟨rfl, rfl, rfl⟩ := hcs
    have hlen : ((List.range n0).map fun r => (Z r).take (L r)).length = n0 := by simp
    refine ⟨some a, c0, (List.range n0).map fun r => (Z r).take (L r), by rw [hlen], by rw [hlen]; exact hl, ⟨rfl, by rw [hlen]; unfold maxLen at hmx; omega, fun _ => ⟨a, rfl, fun j p hj => ?_⟩⟩, ?_, by rw [hlen]; omega⟩
    · have hjn : j < n0 := by have := (List.getElem?_eq_some_iff.1 hj).1; rwa [hlen] at this
      rw [List.getElem?_map, List.getElem?_range hjn] at hj
      obtain rfl : (Z j).take (L j) = p := by simpa using hj
      obtain ⟨r1, r2, r3, r4, r5, r6, r7⟩ := hr j (by omega)
      have hll : ((Z j).take (L j)).length = L j := by rw [List.length_take]; omega
      refine ⟨[.slice (A j) (L j) (C j)], rfl, ⟨A j, C j, by rw [hll], by rw [hll]; exact r2, ⟨rfl, by rw [hll]; unfold maxLen at r3; omega, fun h0 => ?_⟩⟩, fun i u hu => ?_⟩
      · rw [hll] at h0
        cases hA : A j with
        | none => have := r6 hA; omega
        | some a' =>
          refine ⟨a', rfl, fun i x hi => ⟨[.int .u8 x], rfl, rfl, fun k u hu => ?_⟩⟩
          have hi2 : i < L j := by have := (List.getElem?_eq_some_iff.1 hi).1; rw [hll] at this; exact this
          have hc := (r7 a' hA).2 i (by omega)
          rw [List.getElem?_take, if_pos hi2] at hi
          rw [List.getD_eq_getElem?_getD, hi] at hc
          cases k with
          | zero =>
            obtain rfl : Value.int .u8 x = u := by simpa using hu
            simpa [Kd.int, Kd.scalar] using hc
          | succ k => simp at hu
      · cases i with
        | zero =>
          obtain rfl : Value.slice (A j) (L j) (C j) = u := by simpa using hu
          simpa [Kd.slice] using r1
        | succ i => simp at hu
    · intro r hr'
      obtain ⟨j, hj, rfl⟩ := List.mem_map.1 hr'
      have hjn := List.mem_range.1 hj
      obtain ⟨r1, r2, r3, r4, r5, r6, r7⟩ := hr j (by omega)
      exact ⟨by rw [List.length_take]; omega, fun x hx => r5 x (List.mem_of_mem_take hx)⟩
end Go.Proofs.Ytmlfpcnemganbaa.Evs
