/- The layer's examples hold. -/
import Derived.Test.YtlcopdlljeechaaQ2
import Derived.Test.YtlcopdlljeechaaQ3
import Derived.Test.YtlcopdlljeechaaCComb
import Derived.Lib.SlBytesConst
namespace Go.Proofs.Ytlcopdlljeechaa.Q
open Go.RowKit Go.Proofs.YtlcopdlljeechaaW.PrintWords Go.Proofs.YtlcopdlljeechaaW.PrintLast Go.Proofs.YtlcopdlljeechaaW.PrintMore
open Go.Proofs.Ytlcopdlljeechaa.Cr
set_option linter.unusedVariables false

/-- A row written out. -/
theorem lit_C (W : World) (e : TypeId) (k : IntKind) (xs : List Int) (fr : Nat × Nat) (hm : xs.length ≤ 9223372036854775807) : Kd.C (Kd.int k) (W.alloc (.cells (nums k xs).toArray e fr)) (some ⟨W.heap.size, 0, none⟩) xs.length xs := by
  refine Kd.C_of_reads (d := (0 : Int)) (h1 := fun _ => rfl) ⟨rfl, hm, fun _ => ⟨_, rfl, fun i hi => ?_⟩⟩
  rw [add_plain, cell_of_row _ _ i _ e fr (heap_alloc_new W _)]
  simp [nums, List.getElem?_eq_getElem hi]
theorem sum_a : checksum_Sum.f [49, 50, 51, 52, 53] = some 416359221 := by decide +kernel
theorem sum_b : checksum_Sum.f [54, 55, 56, 57] = some 3263061426 := by decide +kernel
theorem sum_c : checksum_Sum.f [49, 50, 51, 52, 53, 54, 55, 56, 57] = some 3808858755 := by decide +kernel
theorem comb_c : checksum_Combine.f 416359221 3263061426 4 = some 3808858755 := by decide +kernel
theorem upd_c : checksum_Update.f 416359221 [54, 55, 56, 57] = some 3808858755 := by decide +kernel
theorem weak_c : checksum_Weak.f 4 [1, 2, 3] = some 655366 := by decide +kernel
theorem roll_c : checksum_Roll.f 655366 3 1 4 = some 1048585 := by decide +kernel
def tapearchivelaw01_awake.f : Option Bool := some true

set_option maxRecDepth 100000 in
set_option maxHeartbeats 8000000 in
theorem awake_walk (w : World) : Calls Try.prog 11 #[] w fun e w' => e = .returned (.bool true) ∧ Below w.heap.size w w' := by
  have kc := fun (w : World) (C : Array Value) (n c : Nat) => Lib.run_convert_bytes_const (P := Try.prog) w 23 5 C n c Try.underlying23 Try.underlying5
  go_enter Try.func11, Try.ntmps11
  go_wp2_with fail
  (refine (checksum_Sum.calls _ _ [49, 50, 51, 52, 53] _ _ (by exact lit_C _ 5 .u8 [49, 50, 51, 52, 53] _ (by decide)) (by decide) sum_a).mono ?_); rintro e1 w1 ⟨rfl, HB0⟩
  have HB1 := Aside0.mk (below_step (below_alloc (Below.refl w.heap.size w) _) HB0)
  clear HB0
  go_wp2_with fail
  (refine (checksum_Sum.calls _ _ [54, 55, 56, 57] _ _ (by exact lit_C _ 5 .u8 [54, 55, 56, 57] _ (by decide)) (by decide) sum_b).mono ?_); rintro e2 w2 ⟨rfl, HB0⟩
  have HB2 := Aside0.mk (below_step (below_alloc HB1.out _) HB0)
  clear HB0 HB1
  go_wp2_with fail
  (refine (checksum_Sum.calls _ _ [49, 50, 51, 52, 53, 54, 55, 56, 57] _ _ (by exact lit_C _ 5 .u8 [49, 50, 51, 52, 53, 54, 55, 56, 57] _ (by decide)) (by decide) sum_c).mono ?_); rintro e3 w3 ⟨rfl, HB0⟩
  have HB3 := Aside0.mk (below_step (below_alloc HB2.out _) HB0)
  clear HB0 HB2
  go_wp2_with fail
  (refine (checksum_Combine.calls _ _ _ _ _ comb_c).mono ?_); rintro e4 w4 ⟨rfl, HB0⟩
  have HB4 := Aside0.mk (below_step HB3.out HB0)
  clear HB0 HB3
  go_wp2_with fail
  (refine (checksum_Update.calls _ _ _ [54, 55, 56, 57] _ _ (by exact lit_C _ 5 .u8 [54, 55, 56, 57] _ (by decide)) (by decide) upd_c).mono ?_); rintro e5 w5 ⟨rfl, HB0⟩
  have HB5 := Aside0.mk (below_step (below_alloc HB4.out _) HB0)
  clear HB0 HB4
  go_wp2_with fail
  (refine (checksum_Weak.calls 4 _ _ [1, 2, 3] _ _ (by exact lit_C _ 5 .u8 [1, 2, 3] _ (by decide)) (by decide) weak_c).mono ?_); rintro e6 w6 ⟨rfl, ⟨nd, rfl⟩⟩
  go_wp2_with fail
  (refine (checksum_Roll.calls _ _ _ _ _ _ roll_c).mono ?_); rintro e7 w7 ⟨rfl, ⟨nd2, rfl⟩⟩
  go_wp2_with fail
  go_ret
  exact ⟨rfl, pw_below_drewN (below_alloc HB5.out _) _⟩
theorem tapearchivelaw01_awake.calls (r : Bool) (w : World) (h : tapearchivelaw01_awake.f = some r) :
    Calls Try.prog 11 #[] w fun e w' => e = .returned (.bool r) ∧ Below w.heap.size w w' := by
  obtain rfl := Option.some.inj h
  exact awake_walk w
end Go.Proofs.Ytlcopdlljeechaa.Q
