/- frame.magic, frame.four, frame.sum: what they answer. -/
import Derived.Test.YtgfkjjmlakolpaaCEv
import Derived.Lib.Hide
import Derived.Outline
namespace Go.Proofs.Ytgfkjjmlakolpaa.Q
open Go.RowKit Go.Proofs.YtgfkjjmlakolpaaW.PrintWords Go.Proofs.YtgfkjjmlakolpaaW.PrintLast Go.Proofs.YtgfkjjmlakolpaaW.PrintMore
open Go.Proofs.Ytgfkjjmlakolpaa.Cr Go.Proofs.Ytgfkjjmlakolpaa.Evs Go.Proofs.Ytgfkjjmlakolpaa.Pure
set_option linter.unusedVariables false
/-- Bytes in cells of a block are a list that can be read. -/
theorem C_cells {w : World} {b t : Nat} {cs : Array Value} {l : List Int} (h : w.heap[b]? = some (.cells cs t (0, 0))) (hc : ∀ j, j < l.length → cs[j]? = some (.int .u8 (l.getD j 0))) (hl : l.length ≤ 9223372036854775807) :
    Kd.C (Kd.int .u8) w (some ⟨b, 0, none⟩) l.length l := by
  refine Kd.C_of_reads (d := (0 : Int)) (h1 := fun _ => rfl) ⟨rfl, hl, fun _ => ⟨_, rfl, fun j hj => ?_⟩⟩
  have := blk_cell h j
  rw [hc j hj] at this
  rw [show (⟨b, 0, none⟩ : Addr).add j = ⟨b, j, none⟩ by unfold Addr.add; simp <;> omega]
  exact this

set_option maxRecDepth 100000 in
set_option maxHeartbeats 4000000 in
theorem magic_calls (w : World) :
    Calls Try.prog 25 #[] w fun e w' => e = .returned (.agg #[.int .u8 167, .int .u8 60]) ∧ Below w.heap.size w w' := by
  go_enter Try.func25, Try.ntmps25
  go_wp2
  refine bodyPost_ret (results_cell_row rfl _ _ w.heap.size 43 #[.int .u8 167, .int .u8 60] (0, 0) _ rfl (heap_alloc_new _ _) Try.underlying43 rfl (by kernel_rfl)) rfl ⟨rfl, below_alloc (Below.refl _ _) _⟩
set_option maxRecDepth 100000 in
set_option maxHeartbeats 4000000 in
theorem four_calls (n : Nat) (hn : n < 4294967296) (w : World) :
    Calls Try.prog 26 #[.int .u32 n] w fun e w' => e = .returned (.agg #[.int .u8 (n / 16777216 % 256 : Nat), .int .u8 (n / 65536 % 256 : Nat), .int .u8 (n / 256 % 256 : Nat), .int .u8 (n % 256 : Nat)]) ∧ Below w.heap.size w w' := by
  go_enter Try.func26, Try.ntmps26
  go_wp2
  have e : (n : Int) / 16777216 = ((n / 16777216 % 256 : Nat) : Int) := by omega
  rw [← e]
  refine bodyPost_ret (results_cell_row rfl _ _ w.heap.size 45 #[.int .u8 ((n : Int) / 16777216), .int .u8 ((n : Int) / 65536 % 256), .int .u8 ((n : Int) / 256 % 256), .int .u8 ((n : Int) % 256)] (0, 0) _ rfl (heap_alloc_new _ _) Try.underlying45 rfl (by kernel_rfl)) rfl ⟨by simp, below_alloc (Below.refl _ _) _⟩
set_option maxRecDepth 100000 in
set_option maxHeartbeats 4000000 in
theorem fsum_calls (a b c d : Nat) (A1 : Option Addr) (c1 : Nat) (l1 : List Int) (w : World) (hr1 : Kd.C (Kd.int .u8) w A1 l1.length l1) (hc1 : l1.length ≤ c1) (h1 : Bytes l1) (hl : l1.length ≤ 4611686018427387904) (ha : a < 256) (hb : b < 256) (hc : c < 256) (hd : d < 256) :
    Calls Try.prog 27 #[.agg #[.int .u8 a, .int .u8 b, .int .u8 c, .int .u8 d], .slice A1 l1.length c1] w fun e w' => e = .returned (.int .u32 (cup (csum [a, b, c, d]) (nats l1) : Nat)) ∧ Below w.heap.size w w' := by
  have hp : ∀ x ∈ [a, b, c, d], x < 256 := by simp [ha, hb, hc, hd]
  have HS := Lib.hid (sum_ev hp (by simp))
  have HR1 := Aside0.mk hr1
  have HU : Hid (checksum_Update.f ((csum [a, b, c, d] : Nat) : Int) l1 = some ((cup (csum [a, b, c, d]) (nats l1) : Nat) : Int)) := Lib.hid (by
    have hx : csum [a, b, c, d] < 4294967296 := cup_lt _ _
    unfold checksum_Update.f
    rw [if_pos ⟨by omega, by omega, h1, hl⟩]
    rfl)
  clear hr1
  go_enter Try.func27, Try.ntmps27
  go_wp2_with (first | (go_at_call 35; (refine (checksum_Sum.calls (some ⟨w.heap.size, 0, none⟩) 4 (ints [a, b, c, d]) _ _ ?side1 ?side2 HS.out).mono ?_); (case side1 => exact C_cells (heap_alloc_new _ _) (by intro j hj; rcases (show j = 0 ∨ j = 1 ∨ j = 2 ∨ j = 3 by simp [ints] at hj; omega) with rfl | rfl | rfl | rfl <;> rfl) (by simp [ints])); (case side2 => simp [ints]); rintro e w' ⟨rfl, HB0⟩; have HB := Aside0.mk (below_step (below_alloc (Below.refl w.heap.size w) _) HB0); clear HB0) | (go_at_call 34; (refine (checksum_Update.calls _ _ _ _ _ _ (Kd.C_below HR1.out HB.out) hc1 HU.out).mono ?_); rintro e w2 ⟨rfl, HB0⟩; have HB2 := Aside0.mk (below_step HB.out HB0); clear HB0))
  go_ret
  exact ⟨rfl, HB2.out⟩
end Go.Proofs.Ytgfkjjmlakolpaa.Q
