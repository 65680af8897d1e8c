/- awake of layer 3: true. -/
import Derived.Test.YtgfkjjmlakolpaaQ5
import Derived.Test.YtgfkjjmlakolpaaQ4
import Derived.Test.YtgfkjjmlakolpaaFApp
import Derived.Lib.SlBytesConst
namespace Go.Proofs.Ytgfkjjmlakolpaa.Q
open Go.RowKit Go.Proofs.YtgfkjjmlakolpaaW.PrintWords Go.Proofs.YtgfkjjmlakolpaaW.PrintLast Go.Proofs.YtgfkjjmlakolpaaW.PrintMore
open Go.Proofs.Ytgfkjjmlakolpaa.Cr Go.Proofs.Ytgfkjjmlakolpaa.Evs Go.Proofs.Ytgfkjjmlakolpaa.Pure
set_option linter.unusedVariables false
theorem lit_C (W : World) (e : TypeId) (k : IntKind) (xs : List Int) (fr : Nat × Nat) (hm : xs.length ≤ 9223372036854775807) : Kd.C (Kd.int k) (W.alloc (.cells (nums k xs).toArray e fr)) (some ⟨W.heap.size, 0, none⟩) xs.length xs := by
  refine Kd.C_of_reads (d := (0 : Int)) (h1 := fun _ => rfl) ⟨rfl, hm, fun _ => ⟨_, rfl, fun i hi => ?_⟩⟩
  rw [add_plain, cell_of_row _ _ i _ e fr (heap_alloc_new W _)]
  simp [nums, List.getElem?_eq_getElem hi]
def awkB : List Int := [167, 60, 0, 0, 0, 1, 197, 125, 254, 35, 97]
theorem app_c : frame_Append.f [] [97] = some (awkB, 0) := by decide +kernel
theorem next_c : frame_Next.f awkB 0 = some ([97], 11, 0) := by decide +kernel
theorem len_c : frame_Len.f 1 = some 11 := by decide +kernel
def tapearchivelaw03_awake.f : Option Bool := some true
set_option maxRecDepth 100000 in
set_option maxHeartbeats 1000000 in
theorem awake_walk (w : World) : Calls Try.prog 14 #[] w fun e w' => e = .returned (.bool true) ∧ Below w.heap.size w w' := by
  have kc := fun (w : World) (C : Array Value) (n c : Nat) => Lib.run_convert_bytes_const (P := Try.prog) w 22 5 C n c Try.underlying22 Try.underlying5
  go_enter Try.func14, Try.ntmps14
  go_wp2_with fail
  (refine (frame_Append.calls none 0 [] _ _ [97] awkB 0 _ (Kd.C_nil _ _) (Nat.le_refl _) (by exact lit_C _ 5 .u8 [97] _ (by decide)) (by decide) app_c).mono ?_); rintro e1 w1 ⟨v0, rfl, ho1, HB0⟩
  have HB1 := Aside0.mk (below_step (below_alloc (Below.refl w.heap.size w) _) HB0)
  clear HB0
  obtain ⟨g, cap, hv, _, _, _⟩ := Kd.R_form ho1 (by decide)
  subst hv
  obtain ⟨_, hcap, hC1⟩ := Kd.R_reads' ho1
  have HC1 := Aside0.mk hC1
  clear ho1 hC1
  rw [show awkB.length = 11 from rfl]
  go_wp2_with fail
  (refine (frame_Next.calls (some ⟨g, 0, none⟩) cap awkB 0 [97] 11 0 _ HC1.out hcap next_c).mono ?_); rintro e2 w2 ⟨v2, rfl, ho2, HB0⟩
  have HB2 := Aside0.mk (below_step HB1.out HB0)
  have HC2 := Kd.C_below HC1.out HB0
  clear HB0 HB1 HC1
  obtain ⟨g2, cap2, hv, _, _, _⟩ := Kd.R_form ho2 (by decide)
  subst hv
  have hstr := own_string (P := Try.prog) Try.underlying22 Try.underlying5 Try.underlying9 (Kd.own_of_R ho2)
  obtain ⟨_, h, k0⟩ := Kd.at_int HC2 0 (by decide) (by decide)
  obtain rfl := Option.some.inj h
  obtain ⟨_, h, k1⟩ := Kd.at_int HC2 1 (by decide) (by decide)
  obtain rfl := Option.some.inj h
  obtain ⟨_, h, k5⟩ := Kd.at_int HC2 5 (by decide) (by decide)
  obtain rfl := Option.some.inj h
  obtain ⟨_, h, k10⟩ := Kd.at_int HC2 10 (by decide) (by decide)
  obtain rfl := Option.some.inj h
  replace k0 : w2.cell? ⟨g, 0, none⟩ = some (.int .u8 167) := k0
  replace k1 : w2.cell? ⟨g, 1, none⟩ = some (.int .u8 60) := k1
  replace k5 : w2.cell? ⟨g, 5, none⟩ = some (.int .u8 1) := k5
  replace k10 : w2.cell? ⟨g, 10, none⟩ = some (.int .u8 97) := k10
  replace hstr : (convert 22 9 (.slice (some ⟨g2, 0, none⟩) 1 cap2)).run Try.prog w2 = .ok (.string (strOfNums [97])) w2 := hstr
  have hsn : strOfNums [97] = ⟨#[97]⟩ := by decide +kernel
  rw [hsn] at hstr
  clear HC2 ho2 h
  go_wp2_with fail
  (refine (frame_Len.calls 1 11 _ len_c).mono ?_); rintro e3 w3 ⟨rfl, ⟨nd, rfl⟩⟩
  go_wp2_with fail
  go_ret
  exact ⟨rfl, pw_below_drewN HB2.out _⟩
theorem tapearchivelaw03_awake.calls (r : Bool) (w : World) (h : tapearchivelaw03_awake.f = some r) :
    Calls Try.prog 14 #[] w fun e w' => e = .returned (.bool r) ∧ Below w.heap.size w w' := by
  obtain rfl := Option.some.inj h
  exact awake_walk w
end Go.Proofs.Ytgfkjjmlakolpaa.Q
