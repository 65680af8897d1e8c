/- What checksum.step computes; a table of values, round by round. -/
import Derived.Test.YtgfkjjmlakolpaaQ1
import Derived.Test.YtgfkjjmlakolpaaCr
import Derived.Laws.BitsAllLaws
namespace Go.Proofs.Ytgfkjjmlakolpaa.Q
open Go.RowKit Go.Proofs.YtgfkjjmlakolpaaW.PrintWords Go.Proofs.YtgfkjjmlakolpaaW.PrintLast Go.Proofs.YtgfkjjmlakolpaaW.PrintMore
open Go.Proofs.Ytgfkjjmlakolpaa.Cr

theorem xor_u32 {a b : Nat} (ha : a < 4294967296) (hb : b < 4294967296) : Go.bits .xor .u32 (a : Int) (b : Int) = ((a ^^^ b : Nat) : Int) := u32_xor_nat a b ha hb
theorem xor_u8 {a b : Nat} (ha : a < 256) (hb : b < 256) : Go.bits .xor .u8 (a : Int) (b : Int) = ((a ^^^ b : Nat) : Int) := u8_xor_nat a b ha hb
theorem and1_u32 {a : Nat} (ha : a < 4294967296) : Go.bits .and .u32 (a : Int) 1 = ((a % 2 : Nat) : Int) := by
  rw [show (1 : Int) = ((1 : Nat) : Int) from rfl, u32_and_nat a 1 ha (by omega), nat_mask1]
theorem step_ev {r : Nat} (h : r < 4294967296) : checksum_step.f (r : Int) = some ((stp r : Nat) : Int) := by
  unfold checksum_step.f stp
  rw [and1_u32 h]
  by_cases c : r % 2 = 1
  · rw [if_pos (by omega), if_pos c]
    have : ((r : Int) / 2) = ((r / 2 : Nat) : Int) := by omega
    rw [this, show (2197175160 : Int) = ((2197175160 : Nat) : Int) from rfl, xor_u32 (by omega) (by omega)]
  · rw [if_neg (by omega), if_neg c]
    rfl
/-- The cells of an array of k numbers of which the first n are told by g, the others are 0. -/
def fillA (k : Nat) (g : Nat → Nat) (n : Nat) : Array Value := ((List.range k).map fun x => if x < n then Value.int .u32 (g x : Nat) else .int .u32 0).toArray
theorem fillA_size (k : Nat) (g : Nat → Nat) (n : Nat) : (fillA k g n).size = k := by simp [fillA]
theorem fillA_get {k : Nat} {g : Nat → Nat} {n x : Nat} (hx : x < k) : (fillA k g n)[x]? = some (if x < n then Value.int .u32 (g x : Nat) else .int .u32 0) := by
  simp [fillA, List.getElem?_map, List.getElem?_range hx]
theorem fillA_cell (k : Nat) (g : Nat → Nat) (n : Nat) : ∀ v ∈ fillA k g n, v.oneCell' = true := by
  intro v hv
  simp only [fillA, List.mem_toArray, List.mem_map] at hv
  obtain ⟨x, _, rfl⟩ := hv
  split <;> rfl
theorem fillA_all (k : Nat) (g : Nat → Nat) (n : Nat) : (fillA k g n).all (·.oneCell') = true := Array.all_eq_true_iff_forall_mem.2 (fillA_cell k g n)
theorem fillA_set {k : Nat} {g : Nat → Nat} {n : Nat} : (fillA k g n).setIfInBounds n (.int .u32 (g n : Nat)) = fillA k g (n + 1) := by
  apply Array.ext_getElem?
  intro x
  by_cases hx : x < k
  · rw [fillA_get hx]
    by_cases e : n = x
    · subst e
      rw [Array.getElem?_setIfInBounds_self_of_lt (by rw [fillA_size]; omega), if_pos (by omega)]
    · rw [Array.getElem?_setIfInBounds_ne e, fillA_get hx]
      congr 1
      by_cases h : x < n
      · rw [if_pos h, if_pos (by omega)]
      · rw [if_neg h, if_neg (by omega)]
  · rw [Array.getElem?_eq_none (by simp [fillA_size]; omega), Array.getElem?_eq_none (by rw [fillA_size]; omega)]
theorem below_setRow {B : Nat} {w w1 : World} (h : Below B w w1) {g : Nat} (hg : B ≤ g) (cs : Array Value) : Below B w (w1.setRow g cs) :=
  ⟨h.os, h.tape, h.output, by simpa using h.size, fun i hi => (setRow_other w1 g i cs (by omega)).trans (h.block i hi)⟩
end Go.Proofs.Ytgfkjjmlakolpaa.Q
