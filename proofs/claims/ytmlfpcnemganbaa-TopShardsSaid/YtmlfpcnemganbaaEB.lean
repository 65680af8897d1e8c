/- What Reconstruct answers; the lists that the statements take. -/
import Derived.Test.YtmlfpcnemganbaaEE
import Derived.Test.YtmlfpcnemganbaaQ6
namespace Go.Proofs.Ytmlfpcnemganbaa.Q
open Go.RowKit Go.Proofs.YtmlfpcnemganbaaW.PrintWords Go.Proofs.YtmlfpcnemganbaaW.PrintLast Go.Proofs.YtmlfpcnemganbaaW.PrintMore
open Go.Proofs.Ytmlfpcnemganbaa.Gf Go.Proofs.Ytmlfpcnemganbaa.Lin Go.Proofs.Ytmlfpcnemganbaa.Evs
set_option linter.unusedVariables false
set_option linter.unnecessarySimpa false
/-- The indices of the shards that are there. -/
def ixK (h : List Bool) (i : Nat) : List Nat := (List.range i).filter fun j => h.getD j false
def ixs (h : List Bool) : List Nat := ixK h h.length
theorem ixK_lt (h : List Bool) (i : Nat) : ∀ x ∈ ixK h i, x < i := fun x hx => List.mem_range.1 (List.mem_filter.1 hx).1
theorem ixK_nodup (h : List Bool) (i : Nat) : (ixK h i).Nodup := List.nodup_range.sublist List.filter_sublist
theorem ixK_length (h : List Bool) (i : Nat) : (ixK h i).length ≤ i := by
  have := List.length_filter_le (fun j => h.getD j false) (List.range i)
  rw [List.length_range] at this
  exact this
theorem ixK_yes {h : List Bool} {i : Nat} (hh : h.getD i false = true) : ixK h (i + 1) = ixK h i ++ [i] := by
  unfold ixK
  rw [List.range_succ, List.filter_append, List.filter_cons, if_pos hh]
  rfl
theorem ixK_no {h : List Bool} {i : Nat} (hh : ¬ h.getD i false = true) : ixK h (i + 1) = ixK h i := by
  unfold ixK
  rw [List.range_succ, List.filter_append, List.filter_cons, if_neg hh]
  simp
theorem pickL_length (l : List (List Int)) (ix : List Nat) : (pickL l (ints ix)).length = ix.length := by unfold pickL; rw [List.length_map, ints_length]
theorem pickL_snoc (l : List (List Int)) (ix : List Nat) (i : Nat) : pickL l (ints ix) ++ [rd_L1 l (i : Int)] = pickL l (ints (ix ++ [i])) := by
  unfold pickL
  rw [ints_append, List.map_append]
  rfl
theorem pickL_take (l : List (List Int)) (ix : List Nat) (n : Nat) : (pickL l (ints ix)).take n = pickL l (ints (ix.take n)) := by
  unfold pickL ints
  rw [← List.map_take, ← List.map_take]
theorem ints_take (ix : List Nat) (n : Nat) : (ints ix).take n = ints (ix.take n) := by unfold ints; rw [← List.map_take]
theorem pickL_allB {l : List (List Int)} (hb : AllB l) (ix : List Nat) : AllB (pickL l (ints ix)) := fun r hr => by
  unfold pickL at hr
  obtain ⟨i, _, rfl⟩ := List.mem_map.1 hr
  unfold rd_L1
  rw [List.getD_eq_getElem?_getD]
  by_cases h : i.toNat < l.length
  · rw [List.getElem?_eq_getElem h]
    exact hb _ (List.getElem_mem h)
  · rw [List.getElem?_eq_none (by omega)]
    exact fun x hx => absurd hx (by simp)
theorem ints_mem {ix : List Nat} {x : Int} (h : x ∈ ints ix) : ∃ i : Nat, i ∈ ix ∧ x = (i : Int) := by
  unfold ints at h
  obtain ⟨i, hi, rfl⟩ := List.mem_map.1 h
  exact ⟨i, hi, rfl⟩
theorem rdOf_bool (h : List Bool) (i : Nat) : rdOf false h (i : Int) = h.getD i false := by unfold rdOf; rw [Int.toNat_natCast]
theorem present_loop {l : List (List Int)} {h : List Bool} (hl : h.length ≤ l.length) (hs : l.length ≤ 1000) : ∀ (d i : Nat), i + d = h.length → Ev (fun k => erasure_present.l0 k l (ints (ixK h i)) (pickL l (ints (ixK h i))) h (h.length : Int) (i : Int)) (ints (ixs h), decide (evenP (pickL l (ints (ixs h)))))
  | 0, i, hi => by
    have e : ixK h i = ixs h := by unfold ixs; rw [show i = h.length by omega]
    refine Ev.step (fun k => by simp only [erasure_present.l0]; rfl) (Ev.neg (by omega) ?_)
    rw [e]
    have := ixK_length h h.length
    exact Ev.bind (even_ev (by rw [pickL_length]; unfold ixs; omega)) (Ev.now _)
  | d + 1, i, hi => by
    have h1 := ixK_length h i
    have h2 := pickL_length l (ixK h i)
    have h3 := ints_length (ixK h i)
    refine Ev.step (fun k => by simp only [erasure_present.l0]; rfl) (Ev.pos (by omega) (Ev.pos (by omega) (Ev.pos (by omega) ?_)))
    rw [rdOf_bool, w_succ (by omega)]
    refine Ev.pick (fun c => ?_) (fun c => ?_)
    · refine Ev.pos (by omega) (Ev.pos (by omega) (Ev.pos (by omega) ?_))
      rw [pickL_snoc, show ints (ixK h i) ++ [(i : Int)] = ints (ixK h i ++ [i]) by rw [ints_append]; rfl, ← ixK_yes c]
      exact present_loop hl hs d (i + 1) (by omega)
    · rw [← ixK_no c]
      exact present_loop hl hs d (i + 1) (by omega)
theorem present_ev {l : List (List Int)} {h : List Bool} (hl : h.length ≤ l.length) (hs : l.length ≤ 1000) : Ev (fun k => erasure_present.f k l h) (ints (ixs h), decide (evenP (pickL l (ints (ixs h))))) :=
  present_loop hl hs h.length 0 (by omega)
/-- All shards, by those with these indices. -/
def fullV (l : List (List Int)) (ix : List Nat) (p : Nat) : List (List Int) := solV l (ints ix) ++ parD (solV l (ints ix)) p
def recR (l : List (List Int)) (h : List Bool) (p : Int) : List (List Int) × Int :=
  if cOk ((l.length : Int) - p) p then (if h.length = l.length then (if evenP (pickL l (ints (ixs h))) then (if (ixs h).length < l.length - p.toNat then ([], 23) else (fullV l ((ixs h).take (l.length - p.toNat)) p.toNat, 0)) else ([], 8)) else ([], 8)) else ([], 7)
theorem solV_length (l : List (List Int)) (ix : List Nat) : (solV l (ints ix)).length = ix.length := by unfold solV; rw [rowsL_length, ints_length]
theorem solV_allB (l : List (List Int)) (ix : List Nat) : AllB (solV l (ints ix)) := rowsL_allB _ _ _
theorem solV_wid {l : List (List Int)} {ix : List Nat} (h : 1 ≤ ix.length) : wid (solV l (ints ix)) = wid (pickL l (ints ix)) := by
  unfold solV
  exact rowsL_wid (by rw [ints_length]; omega)
theorem solV_even {l : List (List Int)} {ix : List Nat} (h : 1 ≤ ix.length) : evenP (solV l (ints ix)) := fun r hr => by
  rw [solV_wid h]
  unfold solV at hr
  exact rowsL_rect r hr
theorem wid_le {l : List (List Int)} (h : ∀ r ∈ l, r.length ≤ 1000) : wid l ≤ 1000 := by
  unfold wid
  rw [List.getD_eq_getElem?_getD]
  by_cases hl : 0 < l.length
  · rw [List.getElem?_eq_getElem hl]
    exact h _ (List.getElem_mem hl)
  · rw [List.getElem?_eq_none (by omega)]
    exact Nat.zero_le _
theorem pickL_len {l : List (List Int)} (h : ∀ r ∈ l, r.length ≤ 1000) (ix : List Int) : ∀ r ∈ pickL l ix, r.length ≤ 1000 := fun r hr => by
  unfold pickL at hr
  obtain ⟨i, _, rfl⟩ := List.mem_map.1 hr
  unfold rd_L1
  rw [List.getD_eq_getElem?_getD]
  by_cases hl : i.toNat < l.length
  · rw [List.getElem?_eq_getElem hl]
    exact h _ (List.getElem_mem hl)
  · rw [List.getElem?_eq_none (by omega)]
    exact Nat.zero_le _
/-- Enough indices of shards of one length. -/
structure Good (l : List (List Int)) (ix : List Nat) (p : Nat) : Prop where
  one : 1 ≤ ix.length
  few : ix.length + p ≤ 16
  len : ix.length + p = l.length
  nod : ix.Nodup
  lt : ∀ x ∈ ix, x < ix.length + p
  allB : AllB l
  even : evenP (pickL l (ints ix))
  wid_ : wid (pickL l (ints ix)) ≤ 1000
theorem Good.rank {l : List (List Int)} {ix : List Nat} {p : Nat} (h : Good l ix p) : rankF ix.length ix.length (selM ix.length (ints ix)) = ix.length := sel_full (by have := h.few; omega) h.nod rfl h.lt
theorem Good.ok {l : List (List Int)} {ix : List Nat} {p : Nat} (h : Good l ix p) : solOk l (ints ix) (p : Int) := by
  have h1 := h.one
  have h2 := h.few
  refine ⟨by rw [ints_length]; omega, fun x hx => ?_, pickL_allB h.allB _, h.even, h.wid_, ?_⟩
  · obtain ⟨i, hi, rfl⟩ := ints_mem hx
    have := h.lt i hi
    have := h.len
    rw [ints_length]
    omega
  · rw [ints_length]
    exact h.rank
theorem Good.solve {l : List (List Int)} {ix : List Nat} {p : Nat} (h : Good l ix p) : erasure_solve.f l (ints ix) (p : Int) = some (solV l (ints ix)) := by
  unfold erasure_solve.f
  rw [if_pos h.ok]
theorem good_of {l : List (List Int)} {h : List Bool} {p : Nat} (hb : AllB l) (hw : ∀ r ∈ l, r.length ≤ 1000) (hc : cOk ((l.length : Int) - (p : Int)) (p : Int)) (hh : h.length = l.length) (he : evenP (pickL l (ints (ixs h)))) (hn : ¬ (ixs h).length < l.length - p) : Good l ((ixs h).take (l.length - p)) p := by
  obtain ⟨c1, c2, c3, c4⟩ := hc
  have hlen : ((ixs h).take (l.length - p)).length = l.length - p := by rw [List.length_take]; omega
  refine ⟨by omega, by omega, by omega, (ixK_nodup h _).sublist (List.take_sublist _ _), fun x hx => ?_, hb, ?_, ?_⟩
  · have := ixK_lt h h.length x (List.mem_of_mem_take hx)
    omega
  · rw [← pickL_take]
    exact even_take (by omega) he
  · rw [← pickL_take, wid_take (by omega)]
    exact wid_le (pickL_len hw _)
theorem rec_ev {l : List (List Int)} {h : List Bool} (hb : AllB l) (hw : ∀ r ∈ l, r.length ≤ 1000) (hl : l.length ≤ 1000) (p : Int) : Ev (fun k => erasure_Reconstruct.f k l h p) (recR l h p) := by
  unfold erasure_Reconstruct.f
  have out : ∀ (z : Int) (b : Bool), b = true → ¬ cOk ((l.length : Int) - p) p → Ev (fun k => erasure_Reconstruct.j0 k l h p z b) (recR l h p) := fun z b hb hn => by
    subst hb
    unfold recR
    rw [if_neg hn]
    exact Ev.step (fun k => by simp only [erasure_Reconstruct.j0]; rfl) (Ev.pos (by trivial) (Ev.now _))
  by_cases h0 : p < 0
  · exact Ev.pos h0 (out _ _ rfl (fun h => by have := h.2.1; omega))
  refine Ev.neg h0 ?_
  by_cases h1 : (l.length : Int) ≤ p
  · exact Ev.pos h1 (out _ _ rfl (fun h => by have := h.1; omega))
  refine Ev.neg (by omega) ?_
  have e : wrap64 ((l.length : Int) - p) = (l.length : Int) - p := by unfold wrap64; omega
  rw [e]
  clear e
  refine Ev.call (counts_ev _ _) ?_
  by_cases hc : cOk ((l.length : Int) - p) p
  · rw [decide_eq_true hc]
    obtain ⟨q, rfl⟩ := Int.eq_ofNat_of_zero_le hc.2.1
    have hq : ((l.length : Int) - (q : Int)) = ((l.length - q : Nat) : Int) := by omega
    have hq1 : 1 ≤ l.length - q := by have := hc.1; omega
    unfold recR
    rw [if_pos hc, Int.toNat_natCast, hq]
    refine Ev.step (fun k => by simp only [erasure_Reconstruct.j0]; rfl) (Ev.neg (by decide) ?_)
    by_cases hh : h.length = l.length
    · rw [if_pos hh]
      refine Ev.pos (by omega) (Ev.bind (present_ev (by omega) hl) ?_)
      by_cases he : evenP (pickL l (ints (ixs h)))
      · rw [decide_eq_true he, if_pos he]
        have h3 := ints_length (ixs h)
        refine Ev.pos (by trivial) ?_
        dsimp only
        by_cases hn : (ixs h).length < l.length - q
        · rw [if_pos hn]
          exact Ev.pos (by omega) (Ev.now _)
        · rw [if_neg hn]
          have hg := good_of hb hw hc hh he hn
          have hs := solV_length l ((ixs h).take (l.length - q))
          have hone := hg.one
          have hfew := hg.few
          refine Ev.neg (by omega) (Ev.pos (by omega) (Ev.pos (by omega) ?_))
          rw [Int.toNat_natCast, ints_take]
          refine Ev.call hg.solve (Ev.bind (parD_ev (solV_allB _ _) (by rw [solV_wid hone]; exact hg.wid_) (solV_even hone) (by omega) (p := q) (by omega)) ?_)
          have hp := parD_length (solV l (ints ((ixs h).take (l.length - q)))) q
          exact Ev.pos (by omega) (Ev.now _)
      · rw [decide_eq_false he, if_neg he]
        exact Ev.neg (by simp) (Ev.now _)
    · rw [if_neg hh]
      exact Ev.neg (by omega) (Ev.now _)
  · rw [decide_eq_false hc]
    exact out _ _ rfl hc
theorem awk_par : parR [[1], [1]] 1 = ([[122]], 0) := by decide +kernel
theorem awk_rec : recR [[], [1], [122]] [false, true, true] 1 = ([[1], [1], [122]], 0) := by decide +kernel
theorem awk_chk : chkR [[1], [1], [122]] 1 = true := by decide +kernel
theorem small_allB {l : List (List Int)} (h : (l.all fun r => r.all fun x => decide (0 ≤ x ∧ x < 256)) = true) : AllB l := fun r hr x hx => by
  have h1 := List.all_eq_true.1 h r hr
  have h2 := List.all_eq_true.1 h1 x hx
  exact of_decide_eq_true h2
/-- The lists that the statements take. -/
def fewV (l : List (List Int)) : List (List Int) := (l.take 17).map fun r => r.take 40
theorem short_ev (r : List Int) : tapearchivelaw06_short.f r = some (r.take 40) := by
  unfold tapearchivelaw06_short.f
  by_cases h : (r.length : Int) > 40
  · rw [if_pos h, if_pos (by omega)]
  · rw [if_neg h, List.take_of_length_le (by omega)]
theorem few_loop {l : List (List Int)} : ∀ (d i : Nat), i + d = min l.length 17 → Ev (fun k => tapearchivelaw06_few.l0 k l ((l.take i).map fun r => r.take 40) (i : Int)) (fewV l)
  | 0, i, h => by
    have e : (l.take i).map (fun r => r.take 40) = fewV l := by
      unfold fewV
      by_cases h2 : l.length ≤ 17
      · rw [List.take_of_length_le (by omega), List.take_of_length_le h2]
      · rw [show i = 17 by omega]
    rw [e]
    by_cases h2 : i < l.length
    · exact Ev.step (fun k => by simp only [tapearchivelaw06_few.l0]; rfl) (Ev.pos (by omega) (Ev.neg (by omega) (Ev.now _)))
    · exact Ev.step (fun k => by simp only [tapearchivelaw06_few.l0]; rfl) (Ev.neg (by omega) (Ev.now _))
  | d + 1, i, h => by
    have hi : i < l.length := by omega
    have hl : ((l.take i).map fun r => r.take 40).length = i := by rw [List.length_map, List.length_take]; omega
    refine Ev.step (fun k => by simp only [tapearchivelaw06_few.l0]; rfl) (Ev.pos (by omega) (Ev.pos (by omega) (Ev.pos (by omega) (Ev.call (short_ev _) ?_))))
    refine Ev.pos (by omega) ?_
    rw [rdL_get hi, w_succ (by omega), show (l.take i).map (fun r => r.take 40) ++ [l[i].take 40] = (l.take (i + 1)).map fun r => r.take 40 by rw [List.take_succ_eq_append_getElem hi, List.map_append]; rfl]
    exact few_loop d (i + 1) (by omega)
theorem few6_ev (l : List (List Int)) : Ev (fun k => tapearchivelaw06_few.f k l) (fewV l) := few_loop (min l.length 17) 0 (by omega)
theorem fewV_length (l : List (List Int)) : (fewV l).length ≤ 17 := by unfold fewV; rw [List.length_map, List.length_take]; omega
theorem fewV_mem {l : List (List Int)} {r : List Int} (h : r ∈ fewV l) : ∃ s, s ∈ l ∧ r = s.take 40 := by
  unfold fewV at h
  obtain ⟨s, hs, rfl⟩ := List.mem_map.1 h
  exact ⟨s, List.mem_of_mem_take hs, rfl⟩
theorem fewV_len {l : List (List Int)} : ∀ r ∈ fewV l, r.length ≤ 1000 := fun r hr => by
  obtain ⟨s, _, rfl⟩ := fewV_mem hr
  rw [List.length_take]
  omega
theorem fewV_allB {l : List (List Int)} (hb : AllB l) : AllB (fewV l) := fun r hr => by
  obtain ⟨s, hs, rfl⟩ := fewV_mem hr
  exact fun x hx => hb s hs x (List.mem_of_mem_take hx)
theorem parR_allB (l : List (List Int)) (p : Int) : AllB (parR l p).1 := by
  unfold parR
  split
  · split
    · exact parD_allB _ _
    · exact fun r hr => absurd hr (by simp)
  · exact fun r hr => absurd hr (by simp)
theorem parR_len (l : List (List Int)) (p : Int) : (parR l p).1.length ≤ 1000 := by
  unfold parR
  split
  · rename_i h
    split
    · show (parD l p.toNat).length ≤ 1000
      rw [parD_length]
      have := h.2.2.1
      omega
    · exact Nat.zero_le _
  · exact Nat.zero_le _
end Go.Proofs.Ytmlfpcnemganbaa.Q
