/- What the reference of Reconstruct answers. -/
import Derived.Test.YtmlfpcnemganbaaEB
import Derived.Test.YtmlfpcnemganbaaQ13
namespace Go.Proofs.Ytmlfpcnemganbaa.Q
open Go.RowKit Go.Proofs.YtmlfpcnemganbaaW.PrintWords Go.Proofs.YtmlfpcnemganbaaW.PrintLast Go.Proofs.YtmlfpcnemganbaaW.PrintMore
open Go.Proofs.Ytmlfpcnemganbaa.Gf Go.Proofs.Ytmlfpcnemganbaa.Lin Go.Proofs.Ytmlfpcnemganbaa.Evs
set_option linter.unusedVariables false
set_option linter.unnecessarySimpa false
/-! The reference. -/
theorem sel_rows {n p : Nat} {ix : List Nat} (hlt : ∀ x ∈ ix, x < n + p) : pickL (rowsL (gen n) (n + p) n) (ints ix) = rowsL (selM n (ints ix)) ix.length n := by
  unfold pickL rowsL
  apply List.ext_getElem?
  intro j
  by_cases hj : j < ix.length
  · have hj2 : j < (ints ix).length := by rw [ints_length]; exact hj
    rw [List.getElem?_map, List.getElem?_map, List.getElem?_eq_getElem hj2, List.getElem?_range hj, Option.map_some, Option.map_some]
    have e : (ints ix)[j] = ((ix[j] : Nat) : Int) := by simp [ints]
    have h := rd_rows (M := gen n) (N := n + p) (C := n) (hlt ix[j] (List.getElem_mem hj))
    unfold rowsL at h
    rw [e, h]
    refine congrArg some (rowV_congr fun c _ => ?_)
    unfold selM
    rw [ints_getD, List.getD_eq_getElem?_getD, List.getElem?_eq_getElem hj]
    rfl
  · rw [List.getElem?_eq_none (by rw [List.length_map, ints_length]; omega), List.getElem?_eq_none (by rw [List.length_map, List.length_range]; omega)]
theorem rrec_out {l : List (List Int)} {ix' ix : List Nat} {p : Nat} (hg : Good l ix p) (ht : ix'.take ix.length = ix) (hle : ix.length ≤ ix'.length) : ∀ (d j : Nat), j + d = ix.length →
    Ev (fun k => tapearchiveref06_Reconstruct.l1 k (p : Int) (ix.length : Int) (pickL l (ints ix')) (rowsL (invF ix.length (selM ix.length (ints ix))) ix.length ix.length) (rowsL (mulF ix.length (invF ix.length (selM ix.length (ints ix))) (toM (pickL l (ints ix)))) j (wid (pickL l (ints ix)))) (j : Int)) (fullV l ix p, 0)
  | 0, j, h => by
    have hone := hg.one
    have hfew := hg.few
    have hs := solV_length l ix
    have e : rowsL (mulF ix.length (invF ix.length (selM ix.length (ints ix))) (toM (pickL l (ints ix)))) j (wid (pickL l (ints ix))) = solV l (ints ix) := by
      unfold solV
      rw [ints_length, show j = ix.length by omega]
    rw [e]
    refine Ev.step (fun k => by simp only [tapearchiveref06_Reconstruct.l1]; rfl) (Ev.neg (by omega) (Ev.bind (rparity_ev (solV_allB _ _) (by rw [solV_wid hone]; exact hg.wid_) (by omega) _) ?_))
    have e2 : parR (solV l (ints ix)) (p : Int) = (parD (solV l (ints ix)) p, 0) := by
      unfold parR
      rw [if_pos (by unfold cOk; omega), if_pos (solV_even hone), Int.toNat_natCast]
    rw [e2]
    dsimp only
    have hp := parD_length (solV l (ints ix)) p
    exact Ev.pos (by omega) (Ev.now _)
  | d + 1, j, h => by
    have hone := hg.one
    have hfew := hg.few
    have h1 := rowsL_length (invF ix.length (selM ix.length (ints ix))) ix.length ix.length
    have h2 := pickL_length l ix'
    have h3 := rowsL_length (mulF ix.length (invF ix.length (selM ix.length (ints ix))) (toM (pickL l (ints ix)))) j (wid (pickL l (ints ix)))
    refine Ev.step (fun k => by simp only [tapearchiveref06_Reconstruct.l1]; rfl) (Ev.pos (by omega) (Ev.pos (by omega) (Ev.pos (by omega) (Ev.pos (by omega) (Ev.pos (by omega) ?_)))))
    rw [Int.toNat_natCast, pickL_take, ht, rd_rows (by omega), w_succ (by omega)]
    have hr := toM_rows (pickL_allB hg.allB ix) hg.even
    rw [pickL_length] at hr
    have ht2 := times_ev (invF ix.length (selM ix.length (ints ix))) (toM (pickL l (ints ix))) j hone (by omega) hg.wid_
    rw [← hr] at ht2
    refine Ev.bind ht2 (Ev.pos (by omega) ?_)
    rw [rowsL_snoc]
    exact rrec_out hg ht hle d (j + 1) (by omega)
theorem invR_sel {n : Nat} {M : Mat} (h1 : 1 ≤ n) (h2 : n ≤ 64) (hr : rankF n n M = n) : invR (rowsL M n n) = (rowsL (invF n M) n n, true) := by
  have hl := rowsL_length M n n
  unfold invR
  rw [hl, rowsL_wid (by omega)]
  have hag : ∀ i, i < n → ∀ c, c < n → toM (rowsL M n n) i c = M i c := fun i hi c hc => toM_rowsL hi hc
  have hrk : rankF n n (toM (rowsL M n n)) = n := by
    exact (red_agree n n n _ _ 0 0 (by omega) (by omega) hag).1.trans hr
  rw [if_pos ⟨isV_rowsL h1 h2 h1 h2, rfl, hrk⟩]
  refine Prod.ext ?_ rfl
  refine rowsL_congr fun i hi c hc => ?_
  unfold invF
  refine (red_agree n (n + n) n _ _ 0 0 (by omega) (by omega) (fun a ha b hb => ?_)).2 i hi (n + c) (by omega)
  unfold augF
  by_cases hbn : b < n
  · rw [if_pos hbn, if_pos hbn]; exact hag a ha b hbn
  · rw [if_neg hbn, if_neg hbn]
theorem rrec_loop {l : List (List Int)} {h : List Bool} {p : Nat} (hb : AllB l) (hw : ∀ r ∈ l, r.length ≤ 1000) (hc : cOk ((l.length : Int) - (p : Int)) (p : Int)) (hh : h.length = l.length) : ∀ (d i : Nat), i + d = l.length →
    Ev (fun k => tapearchiveref06_Reconstruct.l0 k l h (p : Int) ((l.length - p : Nat) : Int) (rowsL (gen (l.length - p)) (l.length - p + p) (l.length - p)) (pickL l (ints (ixK h i))) (pickL (rowsL (gen (l.length - p)) (l.length - p + p) (l.length - p)) (ints (ixK h i))) (i : Int)) (recR l h (p : Int))
  | 0, i, hi => by
    obtain ⟨c1, c2, c3, c4⟩ := hc
    have e : ixK h i = ixs h := by unfold ixs; rw [show i = h.length by omega]
    rw [e]
    have h1 : (ixs h).length ≤ h.length := ixK_length h h.length
    have h2 := pickL_length l (ixs h)
    have h3 := pickL_length (rowsL (gen (l.length - p)) (l.length - p + p) (l.length - p)) (ixs h)
    unfold recR
    rw [if_pos ⟨c1, c2, c3, c4⟩, if_pos hh, Int.toNat_natCast]
    refine Ev.step (fun k => by simp only [tapearchiveref06_Reconstruct.l0]; rfl) (Ev.neg (by omega) (Ev.bind (equal_ev (by omega)) ?_))
    by_cases he : evenP (pickL l (ints (ixs h)))
    · rw [decide_eq_true he, if_pos he]
      refine Ev.pos (by trivial) ?_
      by_cases hn : (ixs h).length < l.length - p
      · rw [if_pos hn]
        exact Ev.pos (by omega) (Ev.now _)
      · rw [if_neg hn]
        have hg := good_of hb hw ⟨c1, c2, c3, c4⟩ hh he hn
        have hlen : ((ixs h).take (l.length - p)).length = l.length - p := by rw [List.length_take]; omega
        refine Ev.neg (by omega) (Ev.pos (by omega) (Ev.pos (by omega) ?_))
        rw [Int.toNat_natCast, pickL_take, sel_rows (fun x hx => by
          have := ixK_lt h h.length x (List.mem_of_mem_take hx)
          omega), hlen]
        have hone := hg.one
        have hfew := hg.few
        have hrank := hg.rank
        rw [hlen] at hrank hone hfew
        have hinv : tapearchiveref05_Invert.f (rowsL (selM (l.length - p) (ints ((ixs h).take (l.length - p)))) (l.length - p) (l.length - p)) = some (rowsL (invF (l.length - p) (selM (l.length - p) (ints ((ixs h).take (l.length - p))))) (l.length - p) (l.length - p), true) := by
          unfold tapearchiveref05_Invert.f
          rw [if_pos (rowsL_allB _ _ _), invR_sel hone (by omega) hrank]
        refine Ev.call hinv ?_
        dsimp only
        have hout := rrec_out hg (ix' := ixs h) (by rw [hlen]) (by rw [hlen]; omega) ((ixs h).take (l.length - p)).length 0 (by omega)
        rw [hlen] at hout
        exact hout
    · rw [decide_eq_false he, if_neg he]
      exact Ev.neg (by decide) (Ev.now _)
  | d + 1, i, hi => by
    obtain ⟨c1, c2, c3, c4⟩ := hc
    have h1 := ixK_length h i
    have h2 := pickL_length l (ixK h i)
    have h3 := pickL_length (rowsL (gen (l.length - p)) (l.length - p + p) (l.length - p)) (ixK h i)
    have h4 := rowsL_length (gen (l.length - p)) (l.length - p + p) (l.length - p)
    refine Ev.step (fun k => by simp only [tapearchiveref06_Reconstruct.l0]; rfl) (Ev.pos (by omega) (Ev.pos (by omega) (Ev.pos (by omega) ?_)))
    rw [rdOf_bool, w_succ (by omega)]
    refine Ev.pick (fun c => ?_) (fun c => ?_)
    · refine Ev.pos (by omega) (Ev.pos (by omega) (Ev.pos (by omega) ?_))
      rw [pickL_snoc, pickL_snoc, ← ixK_yes c]
      exact rrec_loop hb hw ⟨c1, c2, c3, c4⟩ hh d (i + 1) (by omega)
    · rw [← ixK_no c]
      exact rrec_loop hb hw ⟨c1, c2, c3, c4⟩ hh d (i + 1) (by omega)
theorem rrec_ev {l : List (List Int)} {h : List Bool} (hb : AllB l) (hw : ∀ r ∈ l, r.length ≤ 1000) (hl : l.length ≤ 1000) (p : Int) : Ev (fun k => tapearchiveref06_Reconstruct.f k l h p) (recR l h p) := by
  unfold tapearchiveref06_Reconstruct.f
  have out : ∀ (z : Int) (b : Bool), b = true → ¬ cOk ((l.length : Int) - p) p → Ev (fun k => tapearchiveref06_Reconstruct.j0 k l h p z b) (recR l h p) := fun z b hb hn => by
    subst hb
    unfold recR
    rw [if_neg hn]
    exact Ev.step (fun k => by simp only [tapearchiveref06_Reconstruct.j0]; rfl) (Ev.pos (by trivial) (Ev.now _))
  by_cases h0 : p < 0
  · exact Ev.pos h0 (out _ _ rfl (fun h => by have := h.2.1; omega))
  refine Ev.neg h0 ?_
  by_cases h1 : p > 16
  · exact Ev.pos h1 (out _ _ rfl (fun h => by have := h.2.2.1; omega))
  refine Ev.neg (by omega) ?_
  have e : wrap64 ((l.length : Int) - p) = (l.length : Int) - p := by unfold wrap64; omega
  rw [e]
  clear e
  refine Ev.call (rvalid6_ev _ _) ?_
  by_cases hc : cOk ((l.length : Int) - p) p
  · rw [decide_eq_true hc]
    obtain ⟨q, rfl⟩ := Int.eq_ofNat_of_zero_le hc.2.1
    have hq : ((l.length : Int) - (q : Int)) = ((l.length - q : Nat) : Int) := by have := hc.1; omega
    have hq1 : 1 ≤ l.length - q := by have := hc.1; omega
    refine Ev.step (fun k => by simp only [tapearchiveref06_Reconstruct.j0]; rfl) (Ev.neg (by decide) ?_)
    by_cases hh : h.length = l.length
    · have hq2 : l.length - q + q ≤ 64 := by have := hc.2.2.2; omega
      rw [hq]
      refine Ev.pos (by omega) (Ev.bind (rrows_ev hq1 hq2) ?_)
      exact rrec_loop hb hw hc hh l.length 0 (by omega)
    · unfold recR
      rw [if_pos hc, if_neg hh]
      exact Ev.neg (by omega) (Ev.now _)
  · rw [decide_eq_false hc]
    exact out _ _ rfl hc
end Go.Proofs.Ytmlfpcnemganbaa.Q
