/- ChecksumAssociates is true for every input. -/
import Derived.Test.YtlcopdlljeechaaRows
import Derived.Test.YtlcopdlljeechaaPureChecksumShifts
import Derived.Test.YtlcopdlljeechaaQ7
import Derived.WalkKit
import Derived.ProofKit
import Derived.OpenShut
import Derived.ChangeOld
import Derived.Below
import Derived.Lib.SmallJoins
namespace Go.Proofs.Ytlcopdlljeechaa.checksumAssociates
open Go.ChangeShapes Go.WideShapes Go.ChangeAt Go.RowKit Go.Joins Go.Proofs.YtlcopdlljeechaaW.PrintWords Go.Proofs.Ytlcopdlljeechaa.Evs
set_option linter.unusedVariables false
theorem own : ownKnob Try.prog.godebug = none := by kernel_rfl
theorem laidOut : laidOutB Try.prog = true := by kernel_rfl
theorem cells0 : Try.prog.cellsOf 31 = 3 := by kernel_rfl
set_option maxRecDepth 100000 in
theorem lifted (os : Os) (started : os.Started) (H : Type) (enc : TypeId × Value → H) :
    ReturnsInHanded {} Try.checked os 6 .any (Rows.checksumAssociatesSpec.pre6 enc Try.prog Try.f6 Rows.checksumAssociatesRow.domain false) (Rows.checksumAssociatesSpec.post enc Try.prog Try.f6 false true false false) := by
  refine returnsInHanded_of_change_sized (C := Try.checked) own started (by kernel_rfl) Try.func6
    (ChangeSpec.witness6 (enc := enc) (C := Try.checked) false ⟨#[], #[.agg #[.int .u32 0, .int .u32 0, .int .i64 0], .agg #[.int .u32 0, .int .u32 0, .int .i64 0]], []⟩ 8 (by kernel_rfl) (by kernel_rfl) (by kernel_rfl) (by kernel_rfl)) ?_
  intro W base args ds gs before hval0 hW hcnd hsz0 _
  have hval : ∀ (j : Nat) t v, Try.f6.params[j]? = some t → args[j]? = some v → Value.okWide Try.prog W .any base t v := hval0
  have hW' := hW
  obtain ⟨p, q, hA0, hV, rfl, hfz, hnd⟩ := hW
  have hA : DataW.TrodAll enc Try.prog W 0 (fun _ => true) true Try.f6.params.toList args.toList ds p := hA0
  rw [Try.params6] at hA hval
  obtain ⟨v0, vs0, d0, ds0, p0, q0, hargs, rfl, rfl, h0, r0⟩ := trodAll_cons hA
  obtain ⟨v1, vs1, d1, ds1, p1, q1, rfl, rfl, rfl, h1, r1⟩ := trodAll_cons r0
  obtain ⟨rfl, rfl, rfl⟩ := trodAll_nil r1
  obtain rfl : args = #[v0, v1] := by cases args; simp_all
  obtain ⟨rfl, rfl⟩ := trodVars_none hV
  have k0 := h0
  have lt0 : ∀ x ∈ p0, x.block < W.heap.size := by obtain ⟨m, hm⟩ := k0; exact DataW.trod_lt m _ _ _ hm
  have k1 := h1
  have lt1 : ∀ x ∈ p1, x.block < W.heap.size := by obtain ⟨m, hm⟩ := k1; exact DataW.trod_lt m _ _ _ hm
  obtain ⟨x00, x01, x02, y00, y01, y02, m0, hv0, _, _, t00, t01, t02⟩ := open_agg3 Try.underlying31 (by kernel_rfl) cells0 (hval 0 31 v0 rfl rfl) h0
  subst hv0
  obtain ⟨a00, e00, _, w00⟩ := DataW.trod_int Try.underlying22 t00
  simp at e00
  subst e00
  obtain ⟨a00, rfl, b00⟩ := u32_of w00
  obtain ⟨a01, e01, _, w01⟩ := DataW.trod_int Try.underlying22 t01
  simp at e01
  subst e01
  obtain ⟨a01, rfl, b01⟩ := u32_of w01
  obtain ⟨a02, e02, _, w02⟩ := DataW.trod_int Try.underlying3 t02
  simp at e02
  subst e02
  obtain ⟨x10, x11, x12, y10, y11, y12, m1, hv1, _, _, t10, t11, t12⟩ := open_agg3 Try.underlying31 (by kernel_rfl) cells0 (hval 1 31 v1 rfl rfl) h1
  subst hv1
  obtain ⟨a10, e10, _, w10⟩ := DataW.trod_int Try.underlying22 t10
  simp at e10
  subst e10
  obtain ⟨a10, rfl, b10⟩ := u32_of w10
  obtain ⟨a11, e11, _, w11⟩ := DataW.trod_int Try.underlying22 t11
  simp at e11
  subst e11
  obtain ⟨a11, rfl, b11⟩ := u32_of w11
  obtain ⟨a12, e12, _, w12⟩ := DataW.trod_int Try.underlying3 t12
  simp at e12
  subst e12
  obtain ⟨k, hk⟩ := Pure.assoc_ev (n := a02) (m := a12) b00 b01 b10 b11
  refine (Q.tapearchivelaw01_ChecksumAssociates.calls k _ _ _ _ _ _ true W hk).mono fun e W' ⟨he, bel⟩ => ?_
  subst he
  exact ⟨_, rfl, _, _, _, [], _, [], hW', trodAll_mk1 (shut_bool Try.underlying4 _), (trodAll_cons_mk (Below.trod laidOut (by kernel_rfl) (of_decide_eq_true (by kernel_rfl)) k0 bel lt0) (trodAll_cons_mk (Below.trod laidOut (by kernel_rfl) (of_decide_eq_true (by kernel_rfl)) k1 bel lt1) trodAll_mk0)), rfl, bel.frame _, fun h => by cases h⟩
theorem over : Rows.checksumAssociatesRow.holds Try.pinned (OpenSpec.ofChange Rows.checksumAssociatesSpec) :=
  OpenClaim.holds_of_wide 6 Try.f6 rfl rfl rfl rfl rfl rfl rfl ⟨rfl, rfl, rfl, rfl, rfl⟩ rfl rfl rfl rfl rfl (by kernel_rfl) Try.func6 (by kernel_rfl)
    (of_decide_eq_true (by kernel_rfl)) (by unfold Func.isWrapper; first | (rw [if_pos (by decide +kernel)]; kernel_rfl) | (rw [if_neg (by decide +kernel)]; exact ⟨rfl, rfl⟩))
    (fun os started H enc _ => lifted os started H enc)
theorem proved : Rows.ChecksumAssociatesSaid := over
#print axioms proved
end Go.Proofs.Ytlcopdlljeechaa.checksumAssociates
namespace Go.Proofs.Ytlcopdlljeechaa
theorem checksumAssociates_holds : Rows.ChecksumAssociatesSaid := checksumAssociates.proved
end Go.Proofs.Ytlcopdlljeechaa
