/- The tables of powers and logarithms: what field.tables makes. -/
import Derived.Test.YtdeamnmadgemoaaGfE
import Derived.Lib.Hide
import Derived.Outline
namespace Go.Proofs.Ytdeamnmadgemoaa.Q
open Go.RowKit Go.Proofs.YtdeamnmadgemoaaW.PrintWords Go.Proofs.YtdeamnmadgemoaaW.PrintLast Go.Proofs.YtdeamnmadgemoaaW.PrintMore
open Go.Proofs.Ytdeamnmadgemoaa.Gf
set_option linter.unusedVariables false

/-- The cells of a new table. -/
def tabZ : Array Value := Array.replicate 255 (.int .u8 0) ++ Array.replicate 256 (.int .i64 0)
theorem zeroTab (w : World) : (zeroValue 57).run Try.prog w = .ok (.agg tabZ) w := by kernel_rfl
/-- The cells after k rounds. -/
def tabA : Nat → Array Value
  | 0 => tabZ
  | k + 1 => ((tabA k).setIfInBounds k (.int .u8 (pw k : Nat))).setIfInBounds (255 + pw k) (.int .i64 (k : Nat))
theorem tabA_size : ∀ k, (tabA k).size = 511
  | 0 => by simp [tabA, tabZ]
  | k + 1 => by simp [tabA, tabA_size k]

set_option maxRecDepth 100000 in
set_option maxHeartbeats 4000000 in
theorem tables_calls (w : World) :
    Calls Try.prog 41 #[] w fun e w' => e = .returned (.pointer (some ⟨w.heap.size, 0, none⟩)) ∧ w'.heap[w.heap.size]? = some (.cells (tabA 255) 57 (0, 0)) ∧ Below w.heap.size w w' := by
  have hz := zeroTab
  go_enter Try.func41, Try.ntmps41
  go_wp2_with fail
  clear hz
  go_loopg [2, 5] 255 (fun kq v2 v5 w' => ∃ k : Nat, kq + k = 255 ∧ v2 = .int .u8 (pw k : Nat) ∧ v5 = .int .i64 (k : Nat) ∧ Aside0 (w'.heap[w.heap.size]? = some (.cells (tabA k) 57 (0, 0))) ∧ Aside0 (Below w.heap.size w w'))
  case atStart => exact ⟨0, rfl, rfl, rfl, ⟨blk_new _ _⟩, ⟨below_alloc (Below.refl _ _) _⟩⟩
  case round =>
    obtain ⟨k, hk, rfl, rfl, HT, HB⟩ := hrel
    have HK := Lib.hid hk
    have hk2 : k ≤ 255 := by omega
    have hp := pw_lt k
    have hp1 := pw_ne k
    clear hk
    by_cases hlt : k < 255
    · have hsz := tabA_size k
      have c1 := blk_cell HT.out k
      have f1 := blk_frozen HT.out k
      rw [Array.getElem?_eq_getElem (by omega)] at c1
      generalize (tabA k)[k] = u1 at c1
      have c2 := blk_cell HT.out (255 + pw k)
      have f2 := blk_frozen HT.out (255 + pw k)
      rw [Array.getElem?_eq_getElem (by omega)] at c2
      generalize (tabA k)[255 + pw k] = u2 at c2
      clear hsz
      go_wp2_with (first | (go_at_call 43; (with_reducible refine (field_double.calls (pw k : Nat) (dbl (pw k) : Nat) _ (double_ev hp)).mono ?_); rintro e w' ⟨rfl, ⟨nd, rfl⟩⟩))
      go_roundg (255 - (k + 1))
      case measure => have := HK.out; omega
      case rel =>
        refine ⟨k + 1, by have := HK.out; omega, rfl, by go_num, ⟨?_⟩, ⟨?_⟩⟩
        · exact blk_drewN (blk_set (blk_set HT.out _ _) _ _) _
        · exact pw_below_drewN ((HB.out.setCell (Nat.le_refl _) _).setCell (Nat.le_refl _) _) _
    · have hk3 : k = 255 := by omega
      clear HK
      go_wp2_with fail
      go_ret
      subst hk3
      exact ⟨rfl, HT.out, HB.out⟩
end Go.Proofs.Ytdeamnmadgemoaa.Q
