/- The statement TopShards, for every input. -/
import Derived.Test.YtmlfpcnemganbaaTTop2
namespace Go.Proofs.Ytmlfpcnemganbaa.Q
open Go.RowKit Go.Proofs.YtmlfpcnemganbaaW.PrintWords Go.Proofs.Ytmlfpcnemganbaa.Evs
def topG (l0 : List (List Int)) (a1 : Int) (l2 : List Bool) : Prop := AllB l0 ∧ l0.length ≤ maxLen ∧ l2.length ≤ maxLen ∧ -9223372036854775808 ≤ a1 ∧ a1 ≤ 9223372036854775807
instance (l0 : List (List Int)) (a1 : Int) (l2 : List Bool) : Decidable (topG l0 a1 l2) := inferInstanceAs (Decidable (_ ∧ _ ∧ _ ∧ _ ∧ _))
def tapearchivetop_TopShards.f (_ : Nat) (l0 : List (List Int)) (a1 : Int) (l2 : List Bool) : Option Bool := if topG l0 a1 l2 then some true else none
theorem tapearchivetop_TopShards.calls (k : Nat) (A0 : Option Addr) (c0 : Nat) (l0 : List (List Int)) (a1 : Int) (A2 : Option Addr) (c2 : Nat) (l2 : List Bool) (r : Bool) (w : World) (hr0 : Kd.C (Kd.slice 5 (Kd.int .u8)) w A0 l0.length l0) (hc0 : l0.length ≤ c0) (hr2 : Kd.C Kd.bool w A2 l2.length l2) (hc2 : l2.length ≤ c2) (h : tapearchivetop_TopShards.f k l0 a1 l2 = some r) :
    Calls Try.prog 3 #[.slice A0 l0.length c0, .int .i64 a1, .slice A2 l2.length c2] w fun e w' => e = .returned (.bool r) ∧ Below w.heap.size w w' := by
  unfold tapearchivetop_TopShards.f at h
  by_cases hg : topG l0 a1 l2
  · rw [if_pos hg] at h
    obtain rfl := Option.some.inj h
    obtain ⟨hb, hm0, hm2, ha⟩ := hg
    by_cases hgood : shrB l0 0 = true ∧ 1 ≤ a1 ∧ a1 ≤ 8 ∧ (l2.length : Int) = (l0.length : Int) + a1
    · obtain ⟨hsh, hp1, hp8, hq⟩ := hgood
      have hf := par_e hsh
      obtain ⟨p, rfl⟩ : ∃ p : Nat, a1 = (p : Int) := ⟨a1.toNat, by omega⟩
      have hs : Shards l0 p := ⟨hf.1, by omega, hb, hf.2.2.2, by omega⟩
      by_cases hlt : (ixs l2).length < l0.length
      · exact top_few w ⟨hr0, hc0⟩ hsh hs (by omega) (by omega) (by omega) hr2 hc2 hlt
      · exact top_good w ⟨hr0, hc0⟩ hsh hs (by omega) (by omega) (by omega) hr2 hc2 hlt
    · exact top_bad w ⟨hr0, hc0⟩ hm0 ha hm2 hgood
  · rw [if_neg hg] at h
    exact absurd h (by simp)
end Go.Proofs.Ytmlfpcnemganbaa.Q
namespace Go.Proofs.Ytmlfpcnemganbaa.Pure
open Go.Proofs.Ytmlfpcnemganbaa.Q
theorem TopShards (l : List (List Int)) (hl : l.length ≤ maxLen) (hw : ∀ r ∈ l, r.length ≤ maxLen ∧ ∀ x ∈ r, (Lit.int .u8 x).wf = true) (p : Int) (hp : (Lit.int .i64 p).wf = true) (h : List Bool) (hh : h.length ≤ maxLen) :
    ∃ k, tapearchivetop_TopShards.f k l p h = some true := ⟨0, by
  unfold tapearchivetop_TopShards.f
  rw [if_pos ⟨allB_wf hw, hl, hh, Evs.int_of hp⟩]⟩
end Go.Proofs.Ytmlfpcnemganbaa.Pure
