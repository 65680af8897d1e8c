/- FieldScales is true for every input: Scale adds a multiple of a list, and two multiples add up. -/
import Derived.Test.YtgabffpjddccjaaRows
import Derived.Test.YtgabffpjddccjaaPureFieldScales
import Derived.WalkKit
import Derived.ProofKit
import Derived.OpenShut
import Derived.ChangeOld
import Derived.Below
import Derived.Lib.SmallJoins
namespace Go.Proofs.Ytgabffpjddccjaa.fieldScales
open Go.ChangeShapes Go.WideShapes Go.ChangeAt Go.RowKit Go.Joins Go.Proofs.YtgabffpjddccjaaW.PrintWords Go.Proofs.Ytgabffpjddccjaa.Evs
set_option linter.unusedVariables false
theorem own : ownKnob Try.prog.godebug = none := by kernel_rfl
theorem laidOut : laidOutB Try.prog = true := by kernel_rfl
theorem cellsR : Try.prog.cellsOf 37 = 4 := by kernel_rfl
/-- A slice of bytes among the cells of what came in. -/
theorem bytes_in {H : Type} {enc : TypeId × Value → H} {w : World} {base : Nat} {held : Bool} {n : Nat} {v : Value} {y : DataW H × List MemPlace}
    (h : DataW.trod enc Try.prog w base (fun _ => true) held n 28 [v] = some y) : ∃ A c l, v = .slice A (List.length l) c ∧ l.length ≤ c ∧ Kd.C (Kd.int .u8) w A l.length l ∧ ∀ x ∈ l, (Lit.int .u8 x).wf = true := by
  obtain ⟨a, len, cap, hv⟩ := slice_form Try.underlying28 h
  simp only [List.cons.injEq, and_true] at hv
  subst hv
  have hrow : (a = none ∧ len = 0 ∧ cap = 0 ∧ ([] : List Int) = []) ∨ ∃ zs : List Int, ∃ x, a = some x ∧ len ≤ cap ∧ cap ≤ maxLen ∧ zs.length = cap ∧ (∀ i, i < zs.length → w.cell? (x.add i) = some (.int .u8 (zs.getD i 0))) ∧ ∀ n ∈ zs, (Lit.int .u8 n).wf = true := by
    rcases open_ints Try.underlying28 Try.underlying5 (by kernel_rfl) h with ⟨hcs, _⟩ | ⟨x, l, c, zs, hcs, _, hl, hm, hz, _, hcell, hwz⟩
    · simp at hcs
      obtain ⟨rfl, rfl, rfl⟩ := hcs
      exact .inl ⟨rfl, rfl, rfl, rfl⟩
    · simp at hcs
      obtain ⟨rfl, rfl, rfl⟩ := hcs
      exact .inr ⟨zs, _, rfl, hl, hm, by simpa using hz, hcell, hwz⟩
  rcases hrow with ⟨rfl, rfl, rfl, _⟩ | ⟨zs, x, rfl, h1, h2, h3, h4, h5⟩
  · obtain ⟨l, hl, hr, hm, hw, hc⟩ := ReadsInt.ofRowC (w := w) (k := .u8) (a := none) (len := 0) (cap := 0) (zs := []) (.inl ⟨rfl, rfl, rfl, rfl⟩)
    obtain rfl : l = [] := List.eq_nil_of_length_eq_zero hl.symm
    exact ⟨none, 0, [], rfl, hc, Kd.C_of_reads (d := (0 : Int)) (h1 := fun _ => rfl) hr, hw⟩
  · obtain ⟨l, hl, hr, hm, hw, hc⟩ := ReadsInt.ofRowC (w := w) (k := .u8) (a := some x) (len := len) (cap := cap) (zs := zs) (.inr ⟨x, rfl, h1, h2, h3, h4, h5⟩)
    subst hl
    exact ⟨some x, cap, l, rfl, hc, Kd.C_of_reads (d := (0 : Int)) (h1 := fun _ => rfl) hr, hw⟩

set_option maxRecDepth 100000 in
theorem lifted (os : Os) (started : os.Started) (H : Type) (enc : TypeId × Value → H) :
    ReturnsInHanded {} Try.checked os 9 .any (Rows.fieldScalesSpec.pre6 enc Try.prog Try.f9 Rows.fieldScalesRow.domain false) (Rows.fieldScalesSpec.post enc Try.prog Try.f9 false true false false) := by
  refine returnsInHanded_of_change_sized (C := Try.checked) own started (by kernel_rfl) Try.func9
    (ChangeSpec.witness6 (enc := enc) (C := Try.checked) false ⟨#[], #[.agg #[.slice none 0 0, .slice none 0 0, .int .u8 0, .int .u8 0]], []⟩ 8 (by kernel_rfl) (by kernel_rfl) (by kernel_rfl) (by kernel_rfl)) ?_
  intro W base args ds gs before hval0 hW hcnd hsz0 _
  have hval : ∀ (j : Nat) t v, Try.f9.params[j]? = some t → args[j]? = some v → Value.okWide Try.prog W .any base t v := hval0
  have hW' := hW
  obtain ⟨p, q, hA0, hV, rfl, hfz, hnd⟩ := hW
  have hA : DataW.TrodAll enc Try.prog W 0 (fun _ => true) true Try.f9.params.toList args.toList ds p := hA0
  rw [Try.params9] at hA hval
  obtain ⟨v0, vs0, d0, ds0, p0, q0, hargs, rfl, rfl, h0, r0⟩ := trodAll_cons hA
  obtain ⟨rfl, rfl, rfl⟩ := trodAll_nil r0
  obtain rfl : args = #[v0] := by cases args; simp_all
  obtain ⟨rfl, rfl⟩ := trodVars_none hV
  have k0 := h0
  have lt0 : ∀ x ∈ p0, x.block < W.heap.size := by obtain ⟨m, hm⟩ := k0; exact DataW.trod_lt m _ _ _ hm
  obtain ⟨v1, v2, v3, v4, y1, y2, y3, y4, m, hv0, _, _, t1, t2, t3, t4⟩ := open_agg4 Try.underlying37 (by kernel_rfl) cellsR (hval 0 37 v0 rfl rfl) h0
  subst hv0
  obtain ⟨A1, c1, l1, rfl, hc1, hr1, hw1⟩ := bytes_in t1
  obtain ⟨A2, c2, l2, rfl, hc2, hr2, hw2⟩ := bytes_in t2
  obtain ⟨a3, e3, _, w3⟩ := DataW.trod_int Try.underlying5 t3
  obtain ⟨a4, e4, _, w4⟩ := DataW.trod_int Try.underlying5 t4
  simp at e3 e4
  subst e3 e4
  obtain ⟨b1, rfl, hb1⟩ := bytes_of hw1
  obtain ⟨b2, rfl, hb2⟩ := bytes_of hw2
  obtain ⟨x3, rfl, hx3⟩ := byte_of w3
  obtain ⟨x4, rfl, hx4⟩ := byte_of w4
  obtain ⟨k, hk⟩ := Pure.scales hb1 hb2 hx3 hx4
  refine (Q.tapearchivelaw04_FieldScales.calls k A1 c1 (ints b1) A2 c2 (ints b2) _ _ true W hr1 hc1 hr2 hc2 hk).mono fun e W' ⟨he, bel⟩ => ?_
  subst he
  exact ⟨_, rfl, _, _, _, [], _, [], hW', trodAll_mk1 (shut_bool Try.underlying4 _), (trodAll_cons_mk (Below.trod laidOut (by kernel_rfl) (of_decide_eq_true (by kernel_rfl)) k0 bel lt0) trodAll_mk0), rfl, bel.frame _, fun h => by cases h⟩
theorem over : Rows.fieldScalesRow.holds Try.pinned (OpenSpec.ofChange Rows.fieldScalesSpec) :=
  OpenClaim.holds_of_wide 9 Try.f9 rfl rfl rfl rfl rfl rfl rfl ⟨rfl, rfl, rfl, rfl, rfl⟩ rfl rfl rfl rfl rfl (by kernel_rfl) Try.func9 (by kernel_rfl)
    (of_decide_eq_true (by kernel_rfl)) (by unfold Func.isWrapper; first | (rw [if_pos (by decide +kernel)]; kernel_rfl) | (rw [if_neg (by decide +kernel)]; exact ⟨rfl, rfl⟩))
    (fun os started H enc _ => lifted os started H enc)
theorem proved : Rows.FieldScalesSaid := over
#print axioms proved
end Go.Proofs.Ytgabffpjddccjaa.fieldScales
namespace Go.Proofs.Ytgabffpjddccjaa
theorem fieldScales_holds : Rows.FieldScalesSaid := fieldScales.proved
end Go.Proofs.Ytgabffpjddccjaa
