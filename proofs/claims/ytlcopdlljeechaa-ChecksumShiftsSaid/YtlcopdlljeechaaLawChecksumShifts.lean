/- ChecksumShifts is true for every input. -/
import Derived.Test.YtlcopdlljeechaaRows
import Derived.Test.YtlcopdlljeechaaPureChecksumShifts
import Derived.Test.YtlcopdlljeechaaQ6
import Derived.WalkKit
import Derived.ProofKit
import Derived.OpenShut
import Derived.ChangeOld
import Derived.Below
import Derived.Lib.SmallJoins
namespace Go.Proofs.Ytlcopdlljeechaa.checksumShifts
open Go.ChangeShapes Go.WideShapes Go.ChangeAt Go.RowKit Go.Joins Go.Proofs.YtlcopdlljeechaaW.PrintWords Go.Proofs.Ytlcopdlljeechaa.Evs
set_option linter.unusedVariables false
theorem own : ownKnob Try.prog.godebug = none := by kernel_rfl
theorem laidOut : laidOutB Try.prog = true := by kernel_rfl
theorem cells0 : Try.prog.cellsOf 31 = 3 := by kernel_rfl
set_option maxRecDepth 100000 in
theorem lifted (os : Os) (started : os.Started) (H : Type) (enc : TypeId × Value → H) :
    ReturnsInHanded {} Try.checked os 5 .any (Rows.checksumShiftsSpec.pre6 enc Try.prog Try.f5 Rows.checksumShiftsRow.domain false) (Rows.checksumShiftsSpec.post enc Try.prog Try.f5 false true false false) := by
  refine returnsInHanded_of_change_sized (C := Try.checked) own started (by kernel_rfl) Try.func5
    (ChangeSpec.witness6 (enc := enc) (C := Try.checked) false ⟨#[], #[.agg #[.int .u32 0, .int .u32 0, .int .i64 0]], []⟩ 8 (by kernel_rfl) (by kernel_rfl) (by kernel_rfl) (by kernel_rfl)) ?_
  intro W base args ds gs before hval0 hW hcnd hsz0 _
  have hval : ∀ (j : Nat) t v, Try.f5.params[j]? = some t → args[j]? = some v → Value.okWide Try.prog W .any base t v := hval0
  have hW' := hW
  obtain ⟨p, q, hA0, hV, rfl, hfz, hnd⟩ := hW
  have hA : DataW.TrodAll enc Try.prog W 0 (fun _ => true) true Try.f5.params.toList args.toList ds p := hA0
  rw [Try.params5] at hA hval
  obtain ⟨v0, vs0, d0, ds0, p0, q0, hargs, rfl, rfl, h0, r0⟩ := trodAll_cons hA
  obtain ⟨rfl, rfl, rfl⟩ := trodAll_nil r0
  obtain rfl : args = #[v0] := by cases args; simp_all
  obtain ⟨rfl, rfl⟩ := trodVars_none hV
  have k0 := h0
  have lt0 : ∀ x ∈ p0, x.block < W.heap.size := by obtain ⟨m, hm⟩ := k0; exact DataW.trod_lt m _ _ _ hm
  obtain ⟨x00, x01, x02, y00, y01, y02, m0, hv0, _, _, t00, t01, t02⟩ := open_agg3 Try.underlying31 (by kernel_rfl) cells0 (hval 0 31 v0 rfl rfl) h0
  subst hv0
  obtain ⟨a00, e00, _, w00⟩ := DataW.trod_int Try.underlying22 t00
  simp at e00
  subst e00
  obtain ⟨a00, rfl, b00⟩ := u32_of w00
  obtain ⟨a01, e01, _, w01⟩ := DataW.trod_int Try.underlying22 t01
  simp at e01
  subst e01
  obtain ⟨a01, rfl, b01⟩ := u32_of w01
  obtain ⟨a02, e02, _, w02⟩ := DataW.trod_int Try.underlying3 t02
  simp at e02
  subst e02
  refine (Q.tapearchivelaw01_ChecksumShifts.calls _ _ _ true W (Pure.shifts_ev b00 b01)).mono fun e W' ⟨he, bel⟩ => ?_
  subst he
  exact ⟨_, rfl, _, _, _, [], _, [], hW', trodAll_mk1 (shut_bool Try.underlying4 _), (trodAll_cons_mk (Below.trod laidOut (by kernel_rfl) (of_decide_eq_true (by kernel_rfl)) k0 bel lt0) trodAll_mk0), rfl, bel.frame _, fun h => by cases h⟩
theorem over : Rows.checksumShiftsRow.holds Try.pinned (OpenSpec.ofChange Rows.checksumShiftsSpec) :=
  OpenClaim.holds_of_wide 5 Try.f5 rfl rfl rfl rfl rfl rfl rfl ⟨rfl, rfl, rfl, rfl, rfl⟩ rfl rfl rfl rfl rfl (by kernel_rfl) Try.func5 (by kernel_rfl)
    (of_decide_eq_true (by kernel_rfl)) (by unfold Func.isWrapper; first | (rw [if_pos (by decide +kernel)]; kernel_rfl) | (rw [if_neg (by decide +kernel)]; exact ⟨rfl, rfl⟩))
    (fun os started H enc _ => lifted os started H enc)
theorem proved : Rows.ChecksumShiftsSaid := over
#print axioms proved
end Go.Proofs.Ytlcopdlljeechaa.checksumShifts
namespace Go.Proofs.Ytlcopdlljeechaa
theorem checksumShifts_holds : Rows.ChecksumShiftsSaid := checksumShifts.proved
end Go.Proofs.Ytlcopdlljeechaa
