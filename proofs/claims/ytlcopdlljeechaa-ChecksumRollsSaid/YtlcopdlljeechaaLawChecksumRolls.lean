/- ChecksumRolls is true for every input. -/
import Derived.Test.YtlcopdlljeechaaRows
import Derived.Test.YtlcopdlljeechaaPureChecksumWeak
import Derived.Test.YtlcopdlljeechaaQ9
import Derived.WalkKit
import Derived.ProofKit
import Derived.OpenShut
import Derived.ChangeOld
import Derived.Below
import Derived.Lib.SmallJoins
namespace Go.Proofs.Ytlcopdlljeechaa.checksumRolls
open Go.ChangeShapes Go.WideShapes Go.ChangeAt Go.RowKit Go.Joins Go.Proofs.YtlcopdlljeechaaW.PrintWords Go.Proofs.Ytlcopdlljeechaa.Evs
set_option linter.unusedVariables false
theorem own : ownKnob Try.prog.godebug = none := by kernel_rfl
theorem laidOut : laidOutB Try.prog = true := by kernel_rfl
theorem cells0 : Try.prog.cellsOf 40 = 4 := by kernel_rfl
set_option maxRecDepth 100000 in
theorem lifted (os : Os) (started : os.Started) (H : Type) (enc : TypeId × Value → H) :
    ReturnsInHanded {} Try.checked os 10 .any (Rows.checksumRollsSpec.pre6 enc Try.prog Try.f10 Rows.checksumRollsRow.domain false) (Rows.checksumRollsSpec.post enc Try.prog Try.f10 false true false false) := by
  refine returnsInHanded_of_change_sized (C := Try.checked) own started (by kernel_rfl) Try.func10
    (ChangeSpec.witness6 (enc := enc) (C := Try.checked) false ⟨#[], #[.agg #[.int .u32 0, .int .i64 0, .int .u8 0, .int .u8 0]], []⟩ 8 (by kernel_rfl) (by kernel_rfl) (by kernel_rfl) (by kernel_rfl)) ?_
  intro W base args ds gs before hval0 hW hcnd hsz0 _
  have hval : ∀ (j : Nat) t v, Try.f10.params[j]? = some t → args[j]? = some v → Value.okWide Try.prog W .any base t v := hval0
  have hW' := hW
  obtain ⟨p, q, hA0, hV, rfl, hfz, hnd⟩ := hW
  have hA : DataW.TrodAll enc Try.prog W 0 (fun _ => true) true Try.f10.params.toList args.toList ds p := hA0
  rw [Try.params10] at hA hval
  obtain ⟨v0, vs0, d0, ds0, p0, q0, hargs, rfl, rfl, h0, r0⟩ := trodAll_cons hA
  obtain ⟨rfl, rfl, rfl⟩ := trodAll_nil r0
  obtain rfl : args = #[v0] := by cases args; simp_all
  obtain ⟨rfl, rfl⟩ := trodVars_none hV
  have k0 := h0
  have lt0 : ∀ x ∈ p0, x.block < W.heap.size := by obtain ⟨m, hm⟩ := k0; exact DataW.trod_lt m _ _ _ hm
  obtain ⟨x00, x01, x02, x03, y00, y01, y02, y03, m0, hv0, _, _, t00, t01, t02, t03⟩ := open_agg4 Try.underlying40 (by kernel_rfl) cells0 (hval 0 40 v0 rfl rfl) h0
  subst hv0
  obtain ⟨a00, e00, _, w00⟩ := DataW.trod_int Try.underlying22 t00
  simp at e00
  subst e00
  obtain ⟨a00, rfl, b00⟩ := u32_of w00
  obtain ⟨a01, e01, _, w01⟩ := DataW.trod_int Try.underlying3 t01
  simp at e01
  subst e01
  obtain ⟨a02, e02, _, w02⟩ := DataW.trod_int Try.underlying5 t02
  simp at e02
  subst e02
  obtain ⟨a02, rfl, b02⟩ := byte_of w02
  obtain ⟨a03, e03, _, w03⟩ := DataW.trod_int Try.underlying5 t03
  simp at e03
  subst e03
  obtain ⟨a03, rfl, b03⟩ := byte_of w03
  refine (Q.tapearchivelaw01_ChecksumRolls.calls _ _ _ _ true W (Pure.rolls_ev b00 b02 b03)).mono fun e W' ⟨he, bel⟩ => ?_
  subst he
  exact ⟨_, rfl, _, _, _, [], _, [], hW', trodAll_mk1 (shut_bool Try.underlying4 _), (trodAll_cons_mk (Below.trod laidOut (by kernel_rfl) (of_decide_eq_true (by kernel_rfl)) k0 bel lt0) trodAll_mk0), rfl, bel.frame _, fun h => by cases h⟩
theorem over : Rows.checksumRollsRow.holds Try.pinned (OpenSpec.ofChange Rows.checksumRollsSpec) :=
  OpenClaim.holds_of_wide 10 Try.f10 rfl rfl rfl rfl rfl rfl rfl ⟨rfl, rfl, rfl, rfl, rfl⟩ rfl rfl rfl rfl rfl (by kernel_rfl) Try.func10 (by kernel_rfl)
    (of_decide_eq_true (by kernel_rfl)) (by unfold Func.isWrapper; first | (rw [if_pos (by decide +kernel)]; kernel_rfl) | (rw [if_neg (by decide +kernel)]; exact ⟨rfl, rfl⟩))
    (fun os started H enc _ => lifted os started H enc)
theorem proved : Rows.ChecksumRollsSaid := over
#print axioms proved
end Go.Proofs.Ytlcopdlljeechaa.checksumRolls
namespace Go.Proofs.Ytlcopdlljeechaa
theorem checksumRolls_holds : Rows.ChecksumRollsSaid := checksumRolls.proved
end Go.Proofs.Ytlcopdlljeechaa
