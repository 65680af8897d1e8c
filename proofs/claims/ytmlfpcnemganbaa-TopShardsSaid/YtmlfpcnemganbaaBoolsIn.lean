/- An argument that is a slice of truth values: what it reads as. -/
import Derived.Test.YtmlfpcnemganbaaWWords
import Derived.Deep.Slices
import Derived.OpenShut
import Derived.ChangeOld
namespace Go.Proofs.Ytmlfpcnemganbaa.Evs
open Go.RowKit Go.Deep Go.Proofs.YtmlfpcnemganbaaW.PrintWords
set_option linter.unusedVariables false
set_option linter.unnecessarySimpa false
def boolOf : Value → Bool
  | .bool b => b
  | _ => false
theorem bools_in {H : Type} {enc : TypeId × Value → H} {P : Program} {w : World} {held : Bool} {t e : TypeId} {v : Value} {d : DataW H} {p : List MemPlace} (ht : P.underlying t = some (.slice e)) (he : P.underlying e = some .bool)
    (ce : P.cellsOf e = 1) (h : DataW.Trod enc P w 0 (fun _ => true) held t v d p) (hm : ∃ a n c, v = .slice a n c) :
    ∃ (A : Option Addr) (c : Nat) (l : List Bool), v = .slice A l.length c ∧ l.length ≤ c ∧ Kd.C Kd.bool w A l.length l ∧ l.length ≤ maxLen := by
  obtain ⟨a0, n0, c0, rfl⟩ := hm
  obtain ⟨fuel, hf⟩ := h
  rcases open_slice1 ht ce hf with ⟨hcs, _⟩ | ⟨a, len, cap, m, n, V, D, Pl, hcs, _, hl, hmx, hmm, _, hr⟩
  · simp [Value.cells] at hcs
    obtain ⟨rfl, rfl, rfl⟩ := hcs
    exact ⟨none, 0, [], rfl, Nat.le_refl _, ⟨rfl, Nat.zero_le _, fun h => absurd h (Nat.lt_irrefl _)⟩, Nat.zero_le _⟩
  · simp [Value.cells] at hcs
    obtain ⟨rfl, rfl, rfl⟩ := hcs
    have hlen : ((List.range n0).map fun i => boolOf (V i)).length = n0 := by simp
    refine ⟨some a, c0, (List.range n0).map fun i => boolOf (V i), by rw [hlen], by rw [hlen]; exact hl, ⟨rfl, by rw [hlen]; unfold maxLen at hmx; omega, fun _ => ⟨a, rfl, fun j x hj => ?_⟩⟩, by rw [hlen]; omega⟩
    have hjn : j < n0 := by have := (List.getElem?_eq_some_iff.1 hj).1; rwa [hlen] at this
    rw [List.getElem?_map, List.getElem?_range hjn] at hj
    obtain rfl : boolOf (V j) = x := by simpa using hj
    obtain ⟨hc, hd⟩ := hr j (by rw [hmm]; simp; omega)
    obtain ⟨b, hb, _⟩ := DataW.trod_bool he hd
    have hV : V j = .bool b := by simpa using hb
    refine ⟨[.bool b], rfl, ?_, fun k u hu => ?_⟩
    · rw [hV]
      rfl
    · cases k with
      | zero =>
        obtain rfl : Value.bool b = u := by simpa using hu
        rw [hV] at hc
        simpa [Kd.bool, Kd.scalar] using hc
      | succ k => simp at hu
end Go.Proofs.Ytmlfpcnemganbaa.Evs
