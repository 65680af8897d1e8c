/- Whatever shards are there: all shards come back. -/
import Derived.Test.YtmlfpcnemganbaaEB
namespace Go.Proofs.Ytmlfpcnemganbaa.Q
open Go.RowKit Go.Proofs.YtmlfpcnemganbaaW.PrintWords Go.Proofs.YtmlfpcnemganbaaW.PrintLast Go.Proofs.YtmlfpcnemganbaaW.PrintMore
open Go.Proofs.Ytmlfpcnemganbaa.Gf Go.Proofs.Ytmlfpcnemganbaa.Lin Go.Proofs.Ytmlfpcnemganbaa.Evs
set_option linter.unusedVariables false
set_option linter.unnecessarySimpa false
theorem all_rows (M : Mat) (n p C : Nat) : rowsL M n C ++ rowsL (mulF n (cauM n) M) p C = rowsL (mulF n (gen n) M) (n + p) C := by
  apply List.ext_getElem?
  intro j
  by_cases hj : j < n
  · rw [List.getElem?_append_left (by rw [rowsL_length]; exact hj), rowsL_get hj, rowsL_get (by omega)]
    exact congrArg some (rowV_congr fun c _ => (gen_low M c hj).symm)
  · by_cases hj2 : j < n + p
    · rw [List.getElem?_append_right (by rw [rowsL_length]; omega), rowsL_length, rowsL_get (by omega), rowsL_get hj2]
      refine congrArg some (rowV_congr fun c _ => ?_)
      have := gen_high n (j - n) M c
      rw [show n + (j - n) = j by omega] at this
      exact this.symm
    · rw [List.getElem?_eq_none (by rw [List.length_append, rowsL_length, rowsL_length]; omega), List.getElem?_eq_none (by rw [rowsL_length]; omega)]
/-- Data shards and their parity shards. -/
structure Shards (D : List (List Int)) (p : Nat) : Prop where
  one : 1 ≤ D.length
  few : D.length + p ≤ 16
  allB : AllB D
  even : evenP D
  wid_ : wid D ≤ 1000
def allS (D : List (List Int)) (p : Nat) : List (List Int) := D ++ parD D p
theorem Shards.all {D : List (List Int)} {p : Nat} (h : Shards D p) : allS D p = rowsL (mulF D.length (gen D.length) (toM D)) (D.length + p) (wid D) := by
  rw [← all_rows]
  unfold allS parD
  rw [← toM_rows h.allB h.even]
theorem Shards.all_len {D : List (List Int)} {p : Nat} (h : Shards D p) : (allS D p).length = D.length + p := by
  unfold allS
  rw [List.length_append, parD_length]
theorem Shards.all_allB {D : List (List Int)} {p : Nat} (h : Shards D p) : AllB (allS D p) := by rw [h.all]; exact rowsL_allB _ _ _
theorem Shards.all_wid {D : List (List Int)} {p : Nat} (h : Shards D p) : wid (allS D p) = wid D := by rw [h.all]; exact rowsL_wid (by have := h.one; omega)
theorem Shards.all_even {D : List (List Int)} {p : Nat} (h : Shards D p) : evenP (allS D p) := fun r hr => by
  rw [h.all_wid]
  rw [h.all] at hr
  exact rowsL_rect r hr
theorem Shards.all_row {D : List (List Int)} {p : Nat} (h : Shards D p) : ∀ r ∈ allS D p, r.length ≤ 1000 := fun r hr => by
  rw [h.all_even r hr, h.all_wid]
  exact h.wid_
theorem Shards.cok {D : List (List Int)} {p : Nat} (h : Shards D p) : cOk (((D.length + p : Nat) : Int) - (p : Int)) (p : Int) := by
  have := h.one
  have := h.few
  unfold cOk
  omega
theorem Shards.chk {D : List (List Int)} {p : Nat} (h : Shards D p) : chkR (allS D p) (p : Int) = true := by
  unfold chkR
  rw [h.all_len, Int.toNat_natCast, Nat.add_sub_cancel]
  have h1 : (allS D p).take D.length = D := List.take_left' rfl
  have h2 : (allS D p).drop D.length = parD D p := List.drop_left' rfl
  rw [h1, h2]
  exact decide_eq_true ⟨h.cok, h.all_even, rfl⟩
/-- What is handed to Reconstruct. -/
def givenL (D : List (List Int)) (p : Nat) (lost : List Int) (b : List Bool) (j : Nat) : List (List Int) := (List.range j).map fun i => if b.getD i false then (allS D p).getD i [] else lost
theorem givenL_length (D : List (List Int)) (p : Nat) (lost : List Int) (b : List Bool) (j : Nat) : (givenL D p lost b j).length = j := by unfold givenL; rw [List.length_map, List.length_range]
theorem givenL_snoc (D : List (List Int)) (p : Nat) (lost : List Int) (b : List Bool) (j : Nat) : givenL D p lost b (j + 1) = givenL D p lost b j ++ [if b.getD j false then (allS D p).getD j [] else lost] := by
  unfold givenL
  rw [List.range_succ, List.map_append]
  rfl
theorem givenL_get {D : List (List Int)} {p : Nat} {lost : List Int} {b : List Bool} {j i : Nat} (hi : i < j) : (givenL D p lost b j).getD i [] = if b.getD i false then (allS D p).getD i [] else lost := by
  unfold givenL
  rw [List.getD_eq_getElem?_getD, List.getElem?_map, List.getElem?_range hi]
  rfl
theorem Shards.row {D : List (List Int)} {p : Nat} (h : Shards D p) {i : Nat} (hi : i < D.length + p) : (allS D p).getD i [] = rowV (mulF D.length (gen D.length) (toM D)) i (wid D) := by
  rw [h.all, List.getD_eq_getElem?_getD, rowsL_get hi]
  rfl
theorem Shards.given_allB {D : List (List Int)} {p : Nat} (h : Shards D p) {lost : List Int} (hl : Bytes lost) (b : List Bool) (j : Nat) (hj : j ≤ D.length + p) : AllB (givenL D p lost b j) := fun r hr => by
  unfold givenL at hr
  obtain ⟨i, hi, rfl⟩ := List.mem_map.1 hr
  have hi := List.mem_range.1 hi
  split
  · rw [h.row (by omega)]
    exact rowV_bytes _ _ _
  · exact hl
theorem Shards.given_row {D : List (List Int)} {p : Nat} (h : Shards D p) {lost : List Int} (hl : lost.length ≤ 1000) (b : List Bool) (j : Nat) (hj : j ≤ D.length + p) : ∀ r ∈ givenL D p lost b j, r.length ≤ 1000 := fun r hr => by
  unfold givenL at hr
  obtain ⟨i, hi, rfl⟩ := List.mem_map.1 hr
  have hi := List.mem_range.1 hi
  split
  · rw [h.row (by omega), rowV_length]
    exact h.wid_
  · exact hl
/-- The chosen shards, as a product. -/
theorem Shards.pick {D : List (List Int)} {p : Nat} (h : Shards D p) {lost : List Int} {b : List Bool} {ix : List Nat} (hix : ∀ x ∈ ix, x < D.length + p ∧ b.getD x false = true) :
    pickL (givenL D p lost b (D.length + p)) (ints ix) = rowsL (mulF D.length (selM D.length (ints ix)) (toM D)) ix.length (wid D) := by
  unfold pickL
  apply List.ext_getElem?
  intro j
  by_cases hj : j < ix.length
  · have hj2 : j < (ints ix).length := by rw [ints_length]; exact hj
    obtain ⟨h1, h2⟩ := hix ix[j] (List.getElem_mem hj)
    have e : (ints ix)[j] = ((ix[j] : Nat) : Int) := by simp [ints]
    rw [List.getElem?_map, List.getElem?_eq_getElem hj2, Option.map_some, rowsL_get hj, e]
    unfold rd_L1
    rw [Int.toNat_natCast, givenL_get h1, h2, if_pos rfl, h.row h1]
    refine congrArg some (rowV_congr fun c _ => ?_)
    refine sum_congr fun k _ => ?_
    unfold selM
    rw [ints_getD, List.getD_eq_getElem?_getD, List.getElem?_eq_getElem hj]
    rfl
  · rw [List.getElem?_eq_none (by rw [List.length_map, ints_length]; omega), List.getElem?_eq_none (by rw [rowsL_length]; omega)]
theorem ixK_true {b : List Bool} {i x : Nat} (h : x ∈ ixK b i) : b.getD x false = true := (List.mem_filter.1 h).2
theorem Shards.solV_ {D : List (List Int)} {p : Nat} (h : Shards D p) {lost : List Int} {b : List Bool} {ix : List Nat} (hn : ix.Nodup) (hl : ix.length = D.length) (hix : ∀ x ∈ ix, x < D.length + p ∧ b.getD x false = true) :
    solV (givenL D p lost b (D.length + p)) (ints ix) = D := by
  have hp := h.pick (lost := lost) hix
  have hrank : rankF D.length D.length (selM D.length (ints ix)) = D.length := sel_full (p := p) (by have := h.few; omega) hn hl (fun x hx => (hix x hx).1)
  unfold solV
  rw [ints_length, hl, hp, hl, rowsL_wid (by have := h.one; omega)]
  conv => rhs; rw [toM_rows h.allB h.even]
  refine rowsL_congr fun j hj c hc => ?_
  exact solve_back hrank (S := toM (rowsL (mulF D.length (selM D.length (ints ix)) (toM D)) D.length (wid D))) (D := toM D) (C := wid D) (fun i hi c hc => toM_rowsL hi hc) j hj c hc
theorem Shards.rec_few {D : List (List Int)} {p : Nat} (h : Shards D p) {lost : List Int} {b : List Bool} (hb : b.length = D.length + p) (hc : (ixs b).length < D.length) : recR (givenL D p lost b (D.length + p)) b (p : Int) = ([], 23) := by
  have hix : ∀ x ∈ ixs b, x < D.length + p ∧ b.getD x false = true := fun x hx => ⟨by have := ixK_lt b b.length x hx; omega, ixK_true hx⟩
  unfold recR
  rw [givenL_length, if_pos h.cok, if_pos hb, Int.toNat_natCast, Nat.add_sub_cancel, if_pos hc, if_pos]
  rw [h.pick hix]
  intro r hr
  by_cases h0 : 0 < (ixs b).length
  · rw [rowsL_wid h0]
    exact rowsL_rect r hr
  · rw [show (ixs b).length = 0 by omega] at hr
    exact absurd hr (by simp [rowsL])
theorem Shards.rec_all {D : List (List Int)} {p : Nat} (h : Shards D p) {lost : List Int} {b : List Bool} (hb : b.length = D.length + p) (hc : ¬ (ixs b).length < D.length) : recR (givenL D p lost b (D.length + p)) b (p : Int) = (allS D p, 0) := by
  have hix : ∀ x ∈ ixs b, x < D.length + p ∧ b.getD x false = true := fun x hx => ⟨by have := ixK_lt b b.length x hx; omega, ixK_true hx⟩
  have hone := h.one
  have hl : ((ixs b).take D.length).length = D.length := by rw [List.length_take]; omega
  unfold recR
  rw [givenL_length, if_pos h.cok, if_pos hb, Int.toNat_natCast, Nat.add_sub_cancel, if_neg hc, if_pos]
  · unfold fullV
    rw [h.solV_ (ix := (ixs b).take D.length) ((ixK_nodup b _).sublist (List.take_sublist _ _)) hl (fun x hx => hix x (List.mem_of_mem_take hx))]
    rfl
  · rw [h.pick hix]
    intro r hr
    rw [rowsL_wid (by omega)]
    exact rowsL_rect r hr
theorem shards_of {D : List (List Int)} {p : Int} (hb : AllB D) (hw : wid D ≤ 1000) (he : (parR D p).2 = 0) : Shards D p.toNat ∧ p = ((p.toNat : Nat) : Int) ∧ parR D p = (parD D p.toNat, 0) := by
  unfold parR at he ⊢
  by_cases hc : cOk D.length p
  · rw [if_pos hc] at he ⊢
    by_cases hv : evenP D
    · rw [if_pos hv]
      obtain ⟨c1, c2, c3, c4⟩ := hc
      exact ⟨⟨by omega, by omega, hb, hv, hw⟩, by omega, rfl⟩
    · rw [if_neg hv] at he
      exact absurd he (by decide)
  · rw [if_neg hc] at he
    exact absurd he (by decide)
end Go.Proofs.Ytmlfpcnemganbaa.Q
