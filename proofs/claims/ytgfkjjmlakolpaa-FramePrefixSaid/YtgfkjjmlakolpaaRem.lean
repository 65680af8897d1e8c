/- checksum.remainders: the registers after eight steps of every byte. -/
import Derived.Test.YtgfkjjmlakolpaaCrE
import Derived.Lib.Hide
import Derived.Outline
namespace Go.Proofs.Ytgfkjjmlakolpaa.Q
open Go.RowKit Go.Proofs.YtgfkjjmlakolpaaW.PrintWords Go.Proofs.YtgfkjjmlakolpaaW.PrintLast Go.Proofs.YtgfkjjmlakolpaaW.PrintMore
open Go.Proofs.Ytgfkjjmlakolpaa.Cr
set_option linter.unusedVariables false

def remZ : Array Value := Array.replicate 256 (.int .u32 0)
theorem zeroRem (w : World) : (zeroValue 57).run Try.prog w = .ok (.agg remZ) w := by kernel_rfl
def remA (n : Nat) : Array Value := fillA 256 (stps 8) n
theorem remA_zero : remA 0 = remZ := by
  apply Array.ext_getElem?
  intro x
  by_cases hx : x < 256
  · unfold remA
    rw [fillA_get hx]
    simp [remZ, hx]
  · rw [Array.getElem?_eq_none (by unfold remA; rw [fillA_size]; omega), Array.getElem?_eq_none (by simp [remZ]; omega)]
theorem remA_size (n : Nat) : (remA n).size = 256 := fillA_size _ _ _
theorem remA_info : ∀ n, (Try.prog.info? 57).map (·.size) = some (remA n).size := fun n => by rw [remA_size]; kernel_rfl
theorem stps_succ (n r : Nat) : stps (n + 1) r = stp (stps n r) := by
  rw [stps_add 1 n r]
  rfl

set_option maxRecDepth 100000 in
set_option maxHeartbeats 4000000 in
theorem remainders_calls (w : World) :
    Calls Try.prog 39 #[] w fun e w' => e = .returned (.agg (remA 256)) ∧ Below w.heap.size w w' := by
  have hz := zeroRem
  have hHI := Lib.hid remA_info
  go_enter Try.func39, Try.ntmps39
  go_wp2_with fail
  clear hz
  go_loopg [4] 257 (fun kq v4 w' => ∃ j : Nat, kq + j = 257 ∧ j ≤ 256 ∧ v4 = .int .i64 (j : Nat) ∧ Aside0 (w'.heap[w.heap.size + 1]? = some (.cells (remA j) 57 (0, 0))) ∧ Aside0 (w'.heap[w.heap.size]? = some (.cells remZ 57 (0, 0))) ∧ Aside0 (Below w.heap.size w w'))
  case atStart => exact ⟨0, rfl, by omega, rfl, ⟨by rw [remA_zero]; exact heap_alloc2_new _ _ _⟩, ⟨heap_alloc2_old _ _ _⟩, ⟨below_alloc (below_alloc (Below.refl _ _) _) _⟩⟩
  case round =>
    obtain ⟨j, hj, hj8, rfl, HT, HZ, HB⟩ := hrel
    obtain ⟨wo, rfl⟩ : ∃ wo : World, wo = wr := ⟨_, rfl⟩
    have HJ := Lib.hid hj
    clear hj
    by_cases hlt : j < 256
    · have ew : IntKind.u32.wrap (j : Int) = (j : Int) := by rw [IntKind.wrap_u32]; omega
      have hdc : decide ((j : Int) < 256) = true := decide_eq_true (by omega)
      go_wp2_with fail
      clear ew
      have hT0 : Aside0 (wo.heap[w.heap.size + 1]? = some (.cells (remA j) 57 (0, 0))) := HT
      have hZ0 : Aside0 (wo.heap[w.heap.size]? = some (.cells remZ 57 (0, 0))) := HZ
      have hB0 : Aside0 (Below w.heap.size w wo) := HB
      go_loopg [3, 9] 9 (fun kq v3 v9 w' => ∃ k : Nat, kq + k = 9 ∧ k ≤ 8 ∧ v3 = .int .u32 (stps k j : Nat) ∧ v9 = .int .i64 (k : Nat) ∧ Aside0 (w'.heap[w.heap.size + 1]? = some (.cells (remA j) 57 (0, 0))) ∧ Aside0 (w'.heap[w.heap.size]? = some (.cells remZ 57 (0, 0))) ∧ Aside0 (Below w.heap.size w w'))
      case atStart => exact ⟨0, by omega, by omega, rfl, rfl, hT0, hZ0, hB0⟩
      case round =>
        clear hT0 hZ0 hB0 HT HZ HB
        obtain ⟨k, hk, hki, rfl, rfl, HT, HZ, HB⟩ := hrel
        have HK := Lib.hid hk
        clear hk
        have hr : stps k j < 4294967296 := stps_lt k (by omega)
        by_cases hlk : k < 8
        · have HS := Lib.hid (step_ev hr)
          have hs1 := stps_succ k j
          have HS1 := Lib.hid hs1
          clear hs1
          go_wp2_with (first | (go_at_call 41; (with_reducible refine (checksum_step.calls _ _ _ HS.out).mono ?_); rintro e w' ⟨rfl, ⟨nd, rfl⟩⟩))
          go_roundg (9 - (k + 1))
          case measure => have := HK.out; omega
          case rel =>
            refine ⟨k + 1, by have := HK.out; omega, by omega, by rw [HS1.out], by go_num, HT, HZ, ⟨pw_below_drewN HB.out _⟩⟩
        · have hk3 : k = 8 := by omega
          subst hk3
          have c2 := blk_cell HT.out j
          unfold remA at c2
          rw [fillA_get (by omega), if_neg (by omega)] at c2
          have f2 := blk_frozen HT.out j
          go_wp2_with fail
          go_roundg (257 - (j + 1))
          case measure => have := HJ.out; omega
          case rel =>
            refine ⟨j + 1, by have := HJ.out; omega, by omega, by go_num, ⟨?_⟩, ⟨?_⟩, ⟨?_⟩⟩
            · unfold remA
              rw [← fillA_set]
              exact blk_set HT.out _ _
            · exact blk_far HZ.out (show w.heap.size ≠ w.heap.size + 1 by omega) _
            · exact HB.out.setCell (by simp) _
    · have hj3 : j = 256 := by omega
      subst hj3
      clear HJ
      have hHS : Hid (remZ.size = (remA 256).size) := Lib.hid (by rw [remA_size]; simp [remZ])
      have hHA : Hid ((remA 256).all (·.oneCell') = true) := Lib.hid (fillA_all _ _ _)
      go_wp2_with (first | (refine wpList_load_row rfl 57 _ rfl (w.heap.size + 1) rfl 57 _ (0, 0) _ HT.out Try.underlying57 rfl (hHI.out _) ?_) | (refine wpList_store_row rfl 57 _ _ rfl w.heap.size (remA 256) rfl rfl 57 _ HZ.out (hHI.out _) hHS.out hHA.out ?_))
      refine bodyPost_ret (results_cell_row rfl _ _ w.heap.size 57 (remA 256) (0, 0) _ rfl (setRow_heap wo w.heap.size remZ _ 57 _ HZ.out) Try.underlying57 rfl (hHI.out _)) rfl ⟨rfl, below_setRow HB.out (Nat.le_refl _) _⟩
end Go.Proofs.Ytgfkjjmlakolpaa.Q
