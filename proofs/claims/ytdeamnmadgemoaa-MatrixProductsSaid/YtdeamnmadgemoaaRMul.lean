/- The reference's Valid, Mul, Apply answer as the program's. -/
import Derived.Test.YtdeamnmadgemoaaQ10
import Derived.Test.YtdeamnmadgemoaaQ11
import Derived.Test.YtdeamnmadgemoaaPMat
namespace Go.Proofs.Ytdeamnmadgemoaa.Q
open Go.RowKit Go.Proofs.YtdeamnmadgemoaaW.PrintWords Go.Proofs.YtdeamnmadgemoaaW.PrintLast Go.Proofs.YtdeamnmadgemoaaW.PrintMore
open Go.Proofs.Ytdeamnmadgemoaa.Gf Go.Proofs.Ytdeamnmadgemoaa.Lin Go.Proofs.Ytdeamnmadgemoaa.Evs
set_option linter.unusedVariables false
/-- A row under way. -/
def rowK (F : Row) (j : Nat) (s : GF) : Mat := fun _ c => if c < j then F c else if c = j then s else 0
theorem rowK_at (F : Row) (j : Nat) (s : GF) : rowK F j s 0 j = s := by
  unfold rowK
  rw [if_neg (by omega), if_pos rfl]
theorem rowK_upd (F : Row) (j C : Nat) (s t : GF) : rowV (updM (rowK F j s) 0 j t) 0 C = rowV (rowK F j t) 0 C := rowV_congr fun c _ => by
  unfold updM rowK
  rw [if_pos rfl]
  by_cases h : c = j
  · rw [if_pos h, if_neg (by omega), if_pos h]
  · rw [if_neg h, if_neg h, if_neg h]
theorem rowK_next (F : Row) (j C : Nat) : rowV (rowK F j (F j)) 0 C = rowV (rowK F (j + 1) 0) 0 C := rowV_congr fun c _ => by
  unfold rowK
  by_cases h : c < j
  · rw [if_pos h, if_pos (by omega)]
  · rw [if_neg h]
    by_cases h2 : c = j
    · rw [if_pos h2, if_pos (by omega), h2]
    · rw [if_neg h2, if_neg (by omega)]
      by_cases h3 : c = j + 1
      · rw [if_pos h3]
      · rw [if_neg h3]
theorem zrow_ (F : Row) (m : Nat) : List.replicate m (0 : Int) = rowV (rowK F 0 0) 0 m := by
  apply List.ext_getElem?
  intro c
  unfold rowV rowK
  by_cases hc : c < m
  · rw [List.getElem?_replicate, if_pos hc, List.getElem?_map, List.getElem?_range hc, Option.map_some, if_neg (by omega)]
    by_cases h : c = 0
    · rw [if_pos h, zero_v]; rfl
    · rw [if_neg h, zero_v]; rfl
  · rw [List.getElem?_eq_none (by simp; omega), List.getElem?_eq_none (by simp; omega)]
theorem xor_row {x y : GF} : Go.bits .xor .u8 ((x.v : Nat) : Int) ((y.v : Nat) : Int) = ((x + y).v : Int) := by rw [xor_u8 x.h y.h]; rfl
section
variable {N K C : Nat} {A B : Mat}
theorem rMul_l2 (hN : N ≤ 64) (hK : K ≤ 64) (hC : C ≤ 64) {i j : Nat} (hi : i < N) (hj : j < C) {r : List (List Int) × Bool} (x6 : List (List Int))
    (hnext : Ev (fun k => tapearchiveref05_Mul.l1 k (rowsL A N K) (rowsL B K C) x6 (i : Int) (rowV (rowK (mulF K A B i) (j + 1) 0) 0 C) ((j + 1 : Nat) : Int)) r) :
    ∀ (d m : Nat), m + d = K → Ev (fun k => tapearchiveref05_Mul.l2 k (rowsL A N K) (rowsL B K C) x6 (i : Int) (rowV (rowK (mulF K A B i) j (sum m fun k => A i k * B k j)) 0 C) (j : Int) (m : Int)) r
  | 0, m, hm => by
    have hb := rowsL_length B K C
    refine Ev.step (fun k => by simp only [tapearchiveref05_Mul.l2]; rfl) (Ev.neg (by omega) ?_)
    rw [w_succ (by omega), show (sum m fun k => A i k * B k j) = mulF K A B i j by rw [show m = K by omega]; rfl, rowK_next]
    exact hnext
  | d + 1, m, hm => by
    have ha := rowsL_length A N K
    have hb := rowsL_length B K C
    have hrl := rowV_length (rowK (mulF K A B i) j (sum m fun k => A i k * B k j)) 0 C
    have h1 := rowV_length A i K
    have h2 := rowV_length B m C
    have e1 : rd_L1 (rowsL A N K) (i : Int) = rowV A i K := rd_rows hi
    have e2 : rd_L1 (rowsL B K C) (m : Int) = rowV B m C := rd_rows (by omega)
    refine Ev.step (fun k => by simp only [tapearchiveref05_Mul.l2]; rfl) ?_
    rw [e1, e2]
    refine Ev.pos (by omega) (Ev.pos (by omega) (Ev.pos (by omega) (Ev.pos (by omega) (Ev.pos (by omega) (Ev.pos (by omega) (Ev.pos (by omega) (Ev.pos (by omega) ?_)))))))
    rw [rowV_rd (show m < K by omega), rowV_rd hj]
    refine Ev.bind (rmul_ev (A i m) (B m j)) ?_
    rw [rowV_rd hj, rowK_at, xor_row, Int.toNat_natCast, rowV_set, rowK_upd, w_succ (by omega)]
    exact rMul_l2 hN hK hC hi hj x6 hnext d (m + 1) (by omega)
theorem rMul_l1 (hN : N ≤ 64) (hK : K ≤ 64) (hC : C ≤ 64) {i : Nat} (hi : i < N) {r : List (List Int) × Bool}
    (hnext : Ev (fun k => tapearchiveref05_Mul.l0 k (rowsL A N K) (rowsL B K C) (rowsL (mulF K A B) (i + 1) C) ((i + 1 : Nat) : Int)) r) :
    ∀ (d j : Nat), j + d = C → Ev (fun k => tapearchiveref05_Mul.l1 k (rowsL A N K) (rowsL B K C) (rowsL (mulF K A B) i C) (i : Int) (rowV (rowK (mulF K A B i) j 0) 0 C) (j : Int)) r
  | 0, j, hj => by
    have hrl := rowV_length (rowK (mulF K A B i) j 0) 0 C
    have hb := rowsL_length (mulF K A B) i C
    refine Ev.step (fun k => by simp only [tapearchiveref05_Mul.l1]; rfl) (Ev.neg (by omega) (Ev.pos (by omega) ?_))
    rw [w_succ (by omega), show rowV (rowK (mulF K A B i) j 0) 0 C = rowV (mulF K A B) i C from rowV_congr fun c hc => by unfold rowK; rw [if_pos (by omega)], snoc_]
    exact hnext
  | d + 1, j, hj => by
    have hrl := rowV_length (rowK (mulF K A B i) j 0) 0 C
    refine Ev.step (fun k => by simp only [tapearchiveref05_Mul.l1]; rfl) (Ev.pos (by omega) ?_)
    exact rMul_l2 hN hK hC hi (by omega) _ (rMul_l1 hN hK hC hi hnext d (j + 1) (by omega)) K 0 (by omega)
theorem rMul_l0 (hN : N ≤ 64) (hK1 : 1 ≤ K) (hK : K ≤ 64) (hC : C ≤ 64) : ∀ (d i : Nat), i + d = N → Ev (fun k => tapearchiveref05_Mul.l0 k (rowsL A N K) (rowsL B K C) (rowsL (mulF K A B) i C) (i : Int)) (rowsL (mulF K A B) N C, true)
  | 0, i, hi => by
    have ha := rowsL_length A N K
    have e : i = N := by omega
    subst e
    exact Ev.step (fun k => by simp only [tapearchiveref05_Mul.l0]; rfl) (Ev.neg (by omega) (Ev.now _))
  | d + 1, i, hi => by
    have ha := rowsL_length A N K
    have hb := rowsL_length B K C
    have e2 : rd_L1 (rowsL B K C) 0 = rowV B 0 C := rd_rows (i := 0) (by omega)
    refine Ev.step (fun k => by simp only [tapearchiveref05_Mul.l0]; rfl) ?_
    rw [e2, rowV_length]
    refine Ev.pos (by omega) (Ev.pos (by omega) (Ev.pos (by omega) (Ev.pos (by omega) ?_)))
    rw [Int.toNat_natCast, zrow_ (mulF K A B i)]
    exact rMul_l1 hN hK hC (by omega) (rMul_l0 hN hK1 hK hC d (i + 1) (by omega)) C 0 (by omega)
end
theorem rMul_ev {l m : List (List Int)} (hl : AllB l) (hm : AllB m) : Ev (fun k => tapearchiveref05_Mul.f k l m) (mulR l m) := by
  have out : ∀ c : Bool, c = true → ¬ (isV l ∧ isV m ∧ wid l = m.length) → Ev (fun k => tapearchiveref05_Mul.j0 k l m c) (mulR l m) := fun c hc hn => by
    have e : mulR l m = ([], false) := by unfold mulR; rw [if_neg hn]
    rw [hc, e]
    exact Ev.step (fun k => by simp only [tapearchiveref05_Mul.j0]; rfl) (Ev.pos (by trivial) (Ev.now _))
  unfold tapearchiveref05_Mul.f
  refine Ev.bind (rvalid_ev l) ?_
  by_cases vl : isV l
  rotate_left
  · rw [decide_eq_false vl]
    exact Ev.neg (by decide) (out true rfl fun h => vl h.1)
  rw [decide_eq_true vl]
  refine Ev.pos (by trivial) (Ev.bind (rvalid_ev m) ?_)
  by_cases vm : isV m
  rotate_left
  · rw [decide_eq_false vm]
    exact Ev.neg (by decide) (out true rfl fun h => vm h.2.1)
  rw [decide_eq_true vm]
  have hw : ((rd_L1 l 0).length : Int) = (wid l : Int) := by rw [wid_rd]; rfl
  refine Ev.pos (by trivial) (Ev.pos (by have := vl.1.1; omega) ?_)
  rw [hw]
  by_cases hk : wid l = m.length
  rotate_left
  · exact out _ (bne_iff_ne.2 (by omega)) fun h => hk h.2.2
  rw [show (((wid l : Nat) : Int) != ((m.length : Nat) : Int)) = false from bne_eq_false_iff_eq.2 (by omega)]
  have e : mulR l m = (rowsL (mulF (wid l) (toM l) (toM m)) l.length (wid m), true) := by unfold mulR; rw [if_pos ⟨vl, vm, hk⟩]
  rw [e]
  refine Ev.step (fun k => by simp only [tapearchiveref05_Mul.j0]; rfl) (Ev.neg (by decide) ?_)
  have h := rMul_l0 (N := l.length) (K := wid l) (C := wid m) (A := toM l) (B := toM m) vl.1.2 vl.2.1.1 vl.2.1.2 vm.2.1.2 l.length 0 (by omega)
  have e1 : rowsL (toM l) l.length (wid l) = l := (toM_rows hl vl.2.2).symm
  have e2 : rowsL (toM m) (wid l) (wid m) = m := by rw [hk]; exact (toM_rows hm vm.2.2).symm
  rw [e1, e2] at h
  exact h
section
variable {N C : Nat} {A : Mat} {x : Row}
theorem rApp_l1 (hN : N ≤ 64) (hC : C ≤ 64) {i : Nat} (hi : i < N) {r : List Int × Bool}
    (hnext : Ev (fun k => tapearchiveref05_Apply.l0 k (rowsL A N C) (vecL x C) (rowV (rowK (appF A C x) (i + 1) 0) 0 N) ((i + 1 : Nat) : Int)) r) :
    ∀ (d m : Nat), m + d = C → Ev (fun k => tapearchiveref05_Apply.l1 k (rowsL A N C) (vecL x C) (rowV (rowK (appF A C x) i (sum m fun k => A i k * x k)) 0 N) (i : Int) (m : Int)) r
  | 0, m, hm => by
    have hv : (vecL x C).length = C := rowV_length _ _ _
    refine Ev.step (fun k => by simp only [tapearchiveref05_Apply.l1]; rfl) (Ev.neg (by omega) ?_)
    rw [w_succ (by omega), show (sum m fun k => A i k * x k) = appF A C x i by rw [show m = C by omega]; rfl, rowK_next]
    exact hnext
  | d + 1, m, hm => by
    have ha := rowsL_length A N C
    have hv : (vecL x C).length = C := rowV_length _ _ _
    have hrl := rowV_length (rowK (appF A C x) i (sum m fun k => A i k * x k)) 0 N
    have h1 := rowV_length A i C
    have e1 : rd_L1 (rowsL A N C) (i : Int) = rowV A i C := rd_rows hi
    refine Ev.step (fun k => by simp only [tapearchiveref05_Apply.l1]; rfl) ?_
    rw [e1]
    refine Ev.pos (by omega) (Ev.pos (by omega) (Ev.pos (by omega) (Ev.pos (by omega) (Ev.pos (by omega) (Ev.pos (by omega) ?_)))))
    rw [rowV_rd (show m < C by omega), rowV_rd (show m < C by omega)]
    refine Ev.bind (rmul_ev (A i m) (x m)) ?_
    rw [rowV_rd hi, rowK_at, xor_row, Int.toNat_natCast, rowV_set, rowK_upd, w_succ (by omega)]
    exact rApp_l1 hN hC hi hnext d (m + 1) (by omega)
theorem rApp_l0 (hN : N ≤ 64) (hC : C ≤ 64) : ∀ (d i : Nat), i + d = N → Ev (fun k => tapearchiveref05_Apply.l0 k (rowsL A N C) (vecL x C) (rowV (rowK (appF A C x) i 0) 0 N) (i : Int)) (vecL (appF A C x) N, true)
  | 0, i, hi => by
    have ha := rowsL_length A N C
    have e : i = N := by omega
    subst e
    rw [show rowV (rowK (appF A C x) i 0) 0 i = vecL (appF A C x) i from rowV_congr fun c hc => by unfold rowK; rw [if_pos hc]]
    exact Ev.step (fun k => by simp only [tapearchiveref05_Apply.l0]; rfl) (Ev.neg (by omega) (Ev.now _))
  | d + 1, i, hi => by
    have ha := rowsL_length A N C
    refine Ev.step (fun k => by simp only [tapearchiveref05_Apply.l0]; rfl) (Ev.pos (by omega) ?_)
    exact rApp_l1 hN hC (by omega) (rApp_l0 hN hC d (i + 1) (by omega)) C 0 (by omega)
end
theorem rApp_ev {l : List (List Int)} {v : List Int} (hl : AllB l) (hv : Bytes v) : Ev (fun k => tapearchiveref05_Apply.f k l v) (appR l v) := by
  have out : ∀ c : Bool, c = true → ¬ (isV l ∧ wid l = v.length) → Ev (fun k => tapearchiveref05_Apply.j0 k l v c) (appR l v) := fun c hc hn => by
    have e : appR l v = ([], false) := by unfold appR; rw [if_neg hn]
    rw [hc, e]
    exact Ev.step (fun k => by simp only [tapearchiveref05_Apply.j0]; rfl) (Ev.pos (by trivial) (Ev.now _))
  unfold tapearchiveref05_Apply.f
  refine Ev.bind (rvalid_ev l) ?_
  by_cases vl : isV l
  rotate_left
  · rw [decide_eq_false vl]
    exact Ev.neg (by decide) (out true rfl fun h => vl h.1)
  rw [decide_eq_true vl]
  have hw : ((rd_L1 l 0).length : Int) = (wid l : Int) := by rw [wid_rd]; rfl
  refine Ev.pos (by trivial) (Ev.pos (by have := vl.1.1; omega) ?_)
  rw [hw]
  by_cases hk : wid l = v.length
  rotate_left
  · exact out _ (bne_iff_ne.2 (by omega)) fun h => hk h.2
  rw [show (((v.length : Nat) : Int) != ((wid l : Nat) : Int)) = false from bne_eq_false_iff_eq.2 (by omega)]
  have e : appR l v = (vecL (appF (toM l) (wid l) (toV v)) l.length, true) := by unfold appR; rw [if_pos ⟨vl, hk⟩]
  rw [e]
  have h64 := vl.1.2
  refine Ev.step (fun k => by simp only [tapearchiveref05_Apply.j0]; rfl) (Ev.neg (by decide) (Ev.pos (by omega) (Ev.pos (by omega) ?_)))
  have h := rApp_l0 (N := l.length) (C := wid l) (A := toM l) (x := toV v) vl.1.2 vl.2.1.2 l.length 0 (by omega)
  have e1 : rowsL (toM l) l.length (wid l) = l := (toM_rows hl vl.2.2).symm
  have e2 : vecL (toV v) (wid l) = v := by rw [hk]; exact (toV_vec hv).symm
  rw [e1, e2] at h
  rw [Int.toNat_natCast, zrow_ (appF (toM l) (wid l) (toV v))]
  exact h
end Go.Proofs.Ytdeamnmadgemoaa.Q
