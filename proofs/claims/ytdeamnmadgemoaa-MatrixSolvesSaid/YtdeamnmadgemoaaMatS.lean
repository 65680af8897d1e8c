/- Rows that the print tells as Kd.S, as a matrix (MatO), and back; lists of lists as matrices. -/
import Derived.Test.YtdeamnmadgemoaaMat
import Derived.Deep.Slices
namespace Go.Proofs.Ytdeamnmadgemoaa.Q
open Go.RowKit Go.Proofs.YtdeamnmadgemoaaW.PrintWords Go.Proofs.YtdeamnmadgemoaaW.PrintLast Go.Proofs.YtdeamnmadgemoaaW.PrintMore
open Go.Proofs.Ytdeamnmadgemoaa.Gf Go.Proofs.Ytdeamnmadgemoaa.Lin
set_option linter.unusedVariables false
set_option linter.unnecessarySimpa false
def rowsL (M : Mat) (N C : Nat) : List (List Int) := (List.range N).map fun i => rowV M i C
theorem rowsL_length (M : Mat) (N C : Nat) : (rowsL M N C).length = N := by simp [rowsL]
theorem rowsL_get {M : Mat} {N C i : Nat} (hi : i < N) : (rowsL M N C)[i]? = some (rowV M i C) := by simp [rowsL, List.getElem?_range hi]
theorem rowsL_congr {M M' : Mat} {N C : Nat} (h : ∀ i, i < N → ∀ c, c < C → M i c = M' i c) : rowsL M N C = rowsL M' N C :=
  List.map_congr_left fun i hi => rowV_congr (h i (List.mem_range.1 hi))
theorem MatO.of_S {W : World} {B N C : Nat} {M : Mat} {v : Value} (h : Kd.S (Kd.slice 5 (Kd.int .u8)) 32 W B (fun _ => True) v (rowsL M N C)) (hN : 0 < N) (hC : 0 < C) :
    ∃ (G cap : Nat) (g cp : Nat → Nat), v = .slice (some ⟨G, 0, none⟩) N cap ∧ MatO W B G cap g cp N C M := by
  obtain ⟨f, _, inner, ho, hr⟩ := h
  have hl : (rowsL M N C).zipIdx.length = N := by rw [List.length_zipIdx, rowsL_length]
  rw [hl] at ho
  obtain ⟨G, cap, rfl, _, _⟩ := ho.form hN
  have hin : ∀ i, i < N → ∃ gc : Nat × Nat, inner[i]? = some (.slice (some ⟨gc.1, 0, none⟩) C gc.2) ∧ W.ownsRow B 5 1 (.slice (some ⟨gc.1, 0, none⟩) C gc.2) C (nums .u8 (rowV M i C)) ∧ f gc.1 = i := fun i hi => by
    have h1 := hr.2 i (rowV M i C, i) (Kd.zip_at (rowsL_get hi))
    obtain ⟨u, hu, hR⟩ := h1
    have hlen : inner.length = N := by have : inner.length = N * 1 := ho.1; omega
    have hui : inner[i]? = some u := by
      have h2 : ((inner.drop (i * 1)).take 1) = [u] := hu
      rw [Nat.mul_one, List.drop_eq_getElem_cons (by omega)] at h2
      have h3 := congrArg List.head? h2
      rw [List.take_succ_cons] at h3
      rw [List.getElem?_eq_getElem (by omega)]
      exact h3
    have hown := Kd.own_of_R hR
    rw [show ((rowV M i C, i) : List Int × Nat).1.length = C from rowV_length _ _ _] at hown
    obtain ⟨p, q, rfl, _, _⟩ := hown.form hC
    exact ⟨(p, q), hui, hown, (hR.1 p rfl).2⟩
  obtain ⟨gc, hgc⟩ := Go.Deep.choose_lt hin
  refine ⟨G, cap, fun i => (gc i).1, fun i => (gc i).2, rfl, ?_, fun i hi => (hgc i hi).2.1, fun i k hi hk e => ?_⟩
  · have e : inner = outV (fun i => (gc i).1) (fun i => (gc i).2) N C := by
      apply List.ext_getElem?
      intro i
      by_cases hi : i < N
      · rw [outV_get hi]; exact (hgc i hi).1
      · rw [List.getElem?_eq_none (by have : inner.length = N * 1 := ho.1; omega), List.getElem?_eq_none (by simp [outV]; omega)]
    rw [← e]
    exact ho
  · rw [← (hgc i hi).2.2, ← (hgc k hk).2.2]
    exact congrArg f e
theorem MatO.to_S {W : World} {B G cap N C : Nat} {g cp : Nat → Nat} {M : Mat} (h : MatO W B G cap g cp N C M) :
    Kd.S (Kd.slice 5 (Kd.int .u8)) 32 W B (fun _ => True) (.slice (some ⟨G, 0, none⟩) N cap) (rowsL M N C) := by
  obtain ⟨f, hf⟩ := Kd.reps_tag (d := Kd.slice 5 (Kd.int .u8)) (w := W) (base := B) (ok := fun k => True ∧ some k ≠ (Value.slice (some ⟨G, 0, none⟩) N cap).ownBlock) (xs := rowsL M N C) (inner := outV g cp N C) (fun j k => j < N ∧ g j = k)
    (fun i j k hi hj => h.inj i j hi.1 hj.1 (hi.2.trans hj.2.symm)) (fun j k hj => ⟨trivial, fun e => h.ne hj.1 (by rw [hj.2]; simpa [Value.ownBlock] using e.symm)⟩) (by simp [outV, rowsL, Kd.slice]) (fun j x hx => by
    have hj : j < N := by have := (List.getElem?_eq_some_iff.1 hx).1; rwa [rowsL_length] at this
    rw [rowsL_get hj] at hx
    obtain rfl := Option.some.inj hx
    have hc : ((outV g cp N C).drop (j * 1)).take 1 = [.slice (some ⟨g j, 0, none⟩) C (cp j)] := by
      have hg := outV_get (g := g) (cp := cp) (C := C) hj
      obtain ⟨hl, he⟩ := List.getElem?_eq_some_iff.1 hg
      rw [Nat.mul_one, List.drop_eq_getElem_cons hl, he]
      rfl
    show ∃ u, ((outV g cp N C).drop (j * 1)).take 1 = [u] ∧ _
    rw [hc]
    refine ⟨_, rfl, Kd.R_of_own (enc := Value.int .u8) (h1 := fun _ => rfl) ?_ (fun k hk => ⟨hj, by simpa [Value.ownBlock] using hk⟩)⟩
    rw [rowV_length]
    exact h.inner j hj)
  refine ⟨f, fun _ _ => trivial, outV g cp N C, ?_, hf⟩
  rw [List.length_zipIdx, rowsL_length]
  exact h.outer
/-! Lists of lists of bytes. -/
def AllB (l : List (List Int)) : Prop := ∀ r ∈ l, Bytes r
instance (l : List (List Int)) : Decidable (AllB l) := inferInstanceAs (Decidable (∀ r ∈ l, Bytes r))
def toM (l : List (List Int)) : Mat := fun i c => ⟨((l.getD i []).getD c 0).toNat % 256, Nat.mod_lt _ (by omega)⟩
def wid (l : List (List Int)) : Nat := (l.getD 0 []).length
theorem toM_rows {l : List (List Int)} {C : Nat} (hb : AllB l) (hC : ∀ r ∈ l, r.length = C) : l = rowsL (toM l) l.length C := by
  apply List.ext_getElem?
  intro i
  by_cases hi : i < l.length
  · rw [rowsL_get hi, List.getElem?_eq_getElem hi]
    congr 1
    have hm := List.getElem_mem hi
    apply List.ext_getElem?
    intro c
    by_cases hc : c < C
    · have hlc : c < l[i].length := by rw [hC _ hm]; exact hc
      have hbb := hb _ hm _ (List.getElem_mem hlc)
      unfold rowV
      rw [List.getElem?_map, List.getElem?_range hc, List.getElem?_eq_getElem hlc]
      unfold toM
      simp only [Option.map_some]
      rw [List.getD_eq_getElem?_getD (l := l), List.getElem?_eq_getElem hi, Option.getD_some, List.getD_eq_getElem?_getD, List.getElem?_eq_getElem hlc, Option.getD_some]
      congr 1
      omega
    · rw [List.getElem?_eq_none (by rw [hC _ hm]; omega), List.getElem?_eq_none (by rw [rowV_length]; omega)]
  · rw [List.getElem?_eq_none (by omega), List.getElem?_eq_none (by rw [rowsL_length]; omega)]
theorem toM_rowsL {M : Mat} {N C i c : Nat} (hi : i < N) (hc : c < C) : toM (rowsL M N C) i c = M i c := by
  apply GF.ext_
  unfold toM
  simp only []
  rw [List.getD_eq_getElem?_getD (l := rowsL M N C), rowsL_get hi, Option.getD_some, List.getD_eq_getElem?_getD]
  unfold rowV
  rw [List.getElem?_map, List.getElem?_range hc]
  simp only [Option.map_some, Option.getD_some, Int.toNat_natCast]
  exact Nat.mod_eq_of_lt (M i c).h
theorem rowsL_allB (M : Mat) (N C : Nat) : AllB (rowsL M N C) := fun r hr => by
  obtain ⟨i, _, rfl⟩ := List.mem_map.1 hr
  exact rowV_bytes _ _ _
theorem rowsL_wid {M : Mat} {N C : Nat} (hN : 0 < N) : wid (rowsL M N C) = C := by
  unfold wid
  rw [List.getD_eq_getElem?_getD, rowsL_get hN]
  exact rowV_length _ _ _
theorem rowsL_rect {M : Mat} {N C : Nat} : ∀ r ∈ rowsL M N C, r.length = C := fun r hr => by
  obtain ⟨i, _, rfl⟩ := List.mem_map.1 hr
  exact rowV_length _ _ _
/-- A valid matrix. -/
def isV (l : List (List Int)) : Prop := (1 ≤ l.length ∧ l.length ≤ 64) ∧ (1 ≤ wid l ∧ wid l ≤ 64) ∧ ∀ r ∈ l, r.length = wid l
instance (l : List (List Int)) : Decidable (isV l) := inferInstanceAs (Decidable (_ ∧ _ ∧ ∀ r ∈ l, r.length = wid l))
theorem isV_rowsL {M : Mat} {N C : Nat} (h1 : 1 ≤ N) (h2 : N ≤ 64) (h3 : 1 ≤ C) (h4 : C ≤ 64) : isV (rowsL M N C) := by
  refine ⟨by rw [rowsL_length]; omega, by rw [rowsL_wid (by omega)]; omega, fun r hr => ?_⟩
  rw [rowsL_wid (by omega)]; exact rowsL_rect r hr
end Go.Proofs.Ytdeamnmadgemoaa.Q
