/- What the printed functions of the matrix package answer, over matrices. -/
import Derived.Test.YtdeamnmadgemoaaMatS
import Derived.Test.YtdeamnmadgemoaaEv
import Derived.Test.YtdeamnmadgemoaaOwnI
import Derived.Test.YtdeamnmadgemoaaQ3
namespace Go.Proofs.Ytdeamnmadgemoaa.Q
open Go.RowKit Go.Proofs.YtdeamnmadgemoaaW.PrintWords Go.Proofs.YtdeamnmadgemoaaW.PrintLast Go.Proofs.YtdeamnmadgemoaaW.PrintMore
open Go.Proofs.Ytdeamnmadgemoaa.Gf Go.Proofs.Ytdeamnmadgemoaa.Lin Go.Proofs.Ytdeamnmadgemoaa.Evs
set_option linter.unusedVariables false
set_option linter.unnecessarySimpa false
theorem w_succ {i : Nat} (h : i ≤ 1000000000000) : wrap64 ((i : Int) + 1) = ((i + 1 : Nat) : Int) := by unfold wrap64; omega
theorem rd_rows {M : Mat} {N C i : Nat} (hi : i < N) : rd_L1 (rowsL M N C) (i : Int) = rowV M i C := by
  unfold rd_L1
  rw [Int.toNat_natCast, List.getD_eq_getElem?_getD, rowsL_get hi]
  rfl
theorem rows_set {M M' : Mat} {N C i : Nat} : (rowsL M N C).set i (rowV M' i C) = rowsL (fun k => if k = i then M' i else M k) N C := by
  apply List.ext_getElem?
  intro k
  by_cases hk : k < N
  · rw [List.getElem?_set, rowsL_get hk, rowsL_get hk, rowsL_length]
    by_cases e : i = k
    · subst e
      rw [if_pos rfl, if_pos hk]
      exact congrArg some (rowV_congr fun c _ => by simp only [if_true])
    · rw [if_neg e]
      exact congrArg some (rowV_congr fun c _ => by simp only [if_neg (Ne.symm e)])
  · rw [List.getElem?_eq_none (by rw [List.length_set, rowsL_length]; omega), List.getElem?_eq_none (by rw [rowsL_length]; omega)]
theorem rows_upd {M : Mat} {N C i c : Nat} (x : GF) : (rowsL M N C).set i ((rowV M i C).set c (x.v : Int)) = rowsL (updM M i c x) N C := by
  rw [rowV_set, rows_set]
  refine rowsL_congr fun k _ d _ => ?_
  by_cases e : k = i
  · rw [if_pos e, e]
  · rw [if_neg e]; unfold updM; rw [if_neg e]
theorem in_ev (n : Int) : matrix_in.f n = some (decide (1 ≤ n ∧ n ≤ 64)) := by
  unfold matrix_in.f
  by_cases h : n ≥ 1
  · rw [if_pos h]; congr 1; simp; omega
  · rw [if_neg h]; congr 1; simp; omega
theorem valid_loop {l : List (List Int)} (hl : l.length ≤ 64) (h0 : 0 < l.length) : ∀ (d i : Nat), i + d = l.length → Ev (fun k => matrix_Valid.l0 k l l (l.length : Int) (i : Int)) (decide (∀ r ∈ l.drop i, r.length = wid l))
  | 0, i, h => by
    refine Ev.step (fun k => by simp only [matrix_Valid.l0]; rfl) (Ev.neg (by omega) ?_)
    rw [List.drop_of_length_le (by omega), decide_eq_true (fun r hr => absurd hr (by simp))]
    exact Ev.now _
  | d + 1, i, h => by
    have hi : i < l.length := by omega
    refine Ev.step (fun k => by simp only [matrix_Valid.l0]; rfl) (Ev.pos (by omega) (Ev.pos (by omega) (Ev.pos (by omega) (Ev.pos (by omega) ?_))))
    have e1 : rd_L1 l (i : Int) = l[i] := by unfold rd_L1; rw [Int.toNat_natCast, List.getD_eq_getElem?_getD, List.getElem?_eq_getElem hi]; rfl
    have e2 : rd_L1 l 0 = l.getD 0 [] := rfl
    rw [e1, e2, w_succ (by omega), List.drop_eq_getElem_cons hi]
    refine Ev.pick (fun c => ?_) (fun c => ?_)
    · refine Ev.eq (valid_loop hl h0 d (i + 1) (by omega)) ?_
      have hc : l[i].length = wid l := by unfold wid; omega
      rw [decide_eq_decide]
      exact ⟨fun h r hr => by rcases List.mem_cons.1 hr with rfl | hr; exact hc; exact h r hr, fun h r hr => h r (List.mem_cons_of_mem _ hr)⟩
    · have hc : ¬ l[i].length = wid l := fun e => c (by unfold wid at e; omega)
      refine Ev.eq (Ev.now _) ?_
      exact (decide_eq_false (fun h => hc (h _ List.mem_cons_self))).symm
theorem valid_ev (l : List (List Int)) : Ev (fun k => matrix_Valid.f k l) (decide (isV l)) := by
  unfold matrix_Valid.f
  refine Ev.call (in_ev _) ?_
  have out : ∀ b : Bool, b = true → ¬ isV l → Ev (fun k => matrix_Valid.j0 k l b) (decide (isV l)) := fun b hb hn => by
    subst hb
    rw [decide_eq_false hn]
    exact Ev.step (fun k => by simp only [matrix_Valid.j0]; rfl) (Ev.pos (by trivial) (Ev.now _))
  by_cases h1 : 1 ≤ l.length ∧ l.length ≤ 64
  · refine Ev.pos (decide_eq_true (by omega)) (Ev.pos (by omega) (Ev.call (in_ev _) ?_))
    have e2 : ((rd_L1 l 0).length : Int) = (wid l : Int) := rfl
    rw [e2]
    by_cases h2 : 1 ≤ wid l ∧ wid l ≤ 64
    · rw [decide_eq_true (show 1 ≤ (wid l : Int) ∧ (wid l : Int) ≤ 64 by omega)]
      refine Ev.step (fun k => by simp only [matrix_Valid.j0]; rfl) (Ev.neg (by decide) ?_)
      refine Ev.eq (valid_loop h1.2 (by omega) l.length 0 (by omega)) ?_
      rw [List.drop_zero]
      simp [isV, h1, h2]
    · refine out _ ?_ (fun h => h2 h.2.1)
      rw [decide_eq_false (by omega)]; rfl
  · exact Ev.neg (by rw [decide_eq_false (by omega)]; decide) (out _ rfl (fun h => h1 h.1))
theorem copied_loop {l : List (List Int)} (hl : l.length ≤ 1000) (hr : ∀ r ∈ l, r.length ≤ 1000) : ∀ (d i : Nat), i + d = l.length → Ev (fun k => matrix_copied_byte.l0 k (l.take i ++ List.replicate d []) l (l.length : Int) (i : Int)) l
  | 0, i, h => by
    refine Ev.step (fun k => by simp only [matrix_copied_byte.l0]; rfl) (Ev.neg (by omega) ?_)
    rw [List.take_of_length_le (by omega), List.replicate_zero, List.append_nil]
    exact Ev.now _
  | d + 1, i, h => by
    have hi : i < l.length := by omega
    have e1 : rd_L1 l (i : Int) = l[i] := by unfold rd_L1; rw [Int.toNat_natCast, List.getD_eq_getElem?_getD, List.getElem?_eq_getElem hi]; rfl
    have hlen : (l.take i ++ List.replicate (d + 1) ([] : List Int)).length = l.length := by rw [List.length_append, List.length_take, List.length_replicate]; omega
    refine Ev.step (fun k => by simp only [matrix_copied_byte.l0]; rfl) (Ev.pos (by omega) (Ev.pos (by omega) (Ev.pos (by omega) (Ev.call rfl (Ev.pos ?_ (Ev.pos (by rw [hlen]; omega) ?_))))))
    · rw [e1]; have := hr _ (List.getElem_mem hi); simp; omega
    · rw [e1, Int.toNat_natCast, w_succ (by omega), List.nil_append]
      have e : (l.take i ++ List.replicate (d + 1) ([] : List Int)).set i l[i] = l.take (i + 1) ++ List.replicate d [] := by
        rw [List.set_append_right _ _ (by rw [List.length_take]; omega), List.length_take, show i - min i l.length = 0 by omega, List.replicate_succ, List.set_cons_zero, List.take_succ_eq_append_getElem hi, List.append_assoc, List.singleton_append]
      rw [e]
      exact copied_loop hl hr d (i + 1) (by omega)
theorem copied_ev {l : List (List Int)} (hl : l.length ≤ 1000) (hr : ∀ r ∈ l, r.length ≤ 1000) : Ev (fun k => matrix_copied_byte.f k l) l := by
  unfold matrix_copied_byte.f
  refine Ev.pos (by omega) (Ev.pos (by omega) ?_)
  rw [Int.toNat_natCast]
  exact copied_loop hl hr l.length 0 (by omega)
theorem row_zero (C : Nat) (i : Nat) : List.replicate C (0 : Int) = rowV (fun _ _ => 0) i C := by
  apply List.ext_getElem?
  intro c
  by_cases hc : c < C
  · unfold rowV
    rw [List.getElem?_replicate, if_pos hc, List.getElem?_map, List.getElem?_range hc]; rfl
  · rw [List.getElem?_eq_none (by simp; omega), List.getElem?_eq_none (by rw [rowV_length]; omega)]
theorem empty_loop {N C : Nat} (hN : N ≤ 1000) (hC : C ≤ 1000) : ∀ (d i : Nat), i + d = N → Ev (fun k => matrix_empty.l0 k (C : Int) (rowsL (fun _ _ => 0) i C ++ List.replicate d []) (N : Int) (i : Int)) (rowsL (fun _ _ => 0) N C)
  | 0, i, h => by
    refine Ev.step (fun k => by simp only [matrix_empty.l0]; rfl) (Ev.neg (by omega) ?_)
    rw [List.replicate_zero, List.append_nil, show i = N by omega]
    exact Ev.now _
  | d + 1, i, h => by
    have hlen : (rowsL (fun _ _ => 0) i C ++ List.replicate (d + 1) ([] : List Int)).length = N := by rw [List.length_append, rowsL_length, List.length_replicate]; omega
    refine Ev.step (fun k => by simp only [matrix_empty.l0]; rfl) (Ev.pos (by omega) (Ev.pos (by omega) (Ev.pos (by omega) (Ev.pos (by omega) (Ev.pos (by rw [hlen]; omega) ?_)))))
    rw [Int.toNat_natCast, Int.toNat_natCast, w_succ (by omega)]
    have e : (rowsL (fun _ _ => 0) i C ++ List.replicate (d + 1) ([] : List Int)).set i (List.replicate C 0) = rowsL (fun _ _ => 0) (i + 1) C ++ List.replicate d [] := by
      rw [List.set_append_right _ _ (by rw [rowsL_length]; omega), rowsL_length, Nat.sub_self, List.replicate_succ, List.set_cons_zero]
      unfold rowsL
      rw [List.range_succ, List.map_append, List.append_assoc, row_zero C i]
      rfl
    rw [e]
    exact empty_loop hN hC d (i + 1) (by omega)
theorem empty_ev {N C : Nat} (hN : N ≤ 1000) (hC : C ≤ 1000) : Ev (fun k => matrix_empty.f k (N : Int) (C : Int)) (rowsL (fun _ _ => 0) N C) := by
  unfold matrix_empty.f
  refine Ev.pos (by omega) (Ev.pos (by omega) (Ev.call rfl ?_))
  rw [Int.toNat_natCast, List.length_replicate]
  exact empty_loop hN hC N 0 (by omega)
/-! Identity. -/
def idK (i : Nat) : Mat := fun r c => if r < i then dlt r c else 0
theorem ident_loop {N : Nat} (hN : N ≤ 64) : ∀ (d i : Nat), i + d = N → Ev (fun k => matrix_Identity.l0 k (rowsL (idK i) N N) (N : Int) (i : Int)) (rowsL dlt N N)
  | 0, i, h => by
    refine Ev.step (fun k => by simp only [matrix_Identity.l0]; rfl) (Ev.neg (by omega) ?_)
    refine Ev.eq (Ev.now _) (rowsL_congr fun r hr c _ => ?_)
    unfold idK; rw [if_pos (by omega)]
  | d + 1, i, h => by
    have hi : i < N := by omega
    have hlen := rowsL_length (idK i) N N
    have hrl := rowV_length (idK i) i N
    refine Ev.step (fun k => by simp only [matrix_Identity.l0]; rfl) (Ev.pos (by omega) (Ev.pos (by omega) (Ev.pos (by omega) ?_)))
    rw [rd_rows hi]
    refine Ev.pos (by omega) ?_
    rw [Int.toNat_natCast, w_succ (by omega), show (1 : Int) = ((1 : GF).v : Int) from rfl, rows_upd]
    have e : rowsL (updM (idK i) i i 1) N N = rowsL (idK (i + 1)) N N := rowsL_congr fun r _ c _ => by
      unfold updM idK dlt
      by_cases h1 : r = i
      · rw [if_pos h1, if_pos (show r < i + 1 by omega)]
        by_cases h2 : c = i
        · rw [if_pos h2, if_pos (show r = c by omega)]
        · rw [if_neg h2, if_neg (show ¬ r < i by omega), if_neg (show ¬ r = c by omega)]
      · rw [if_neg h1]
        by_cases h2 : r < i
        · rw [if_pos h2, if_pos (show r < i + 1 by omega)]
        · rw [if_neg h2, if_neg (show ¬ r < i + 1 by omega)]
    rw [e]
    exact ident_loop hN d (i + 1) (by omega)
theorem ident_ev (n : Int) : Ev (fun k => matrix_Identity.f k n) (if 1 ≤ n ∧ n ≤ 64 then rowsL dlt n.toNat n.toNat else []) := by
  unfold matrix_Identity.f
  refine Ev.call (in_ev n) ?_
  by_cases h : 1 ≤ n ∧ n ≤ 64
  · rw [if_pos h]
    obtain ⟨m, rfl⟩ := Int.eq_ofNat_of_zero_le (show 0 ≤ n by omega)
    refine Ev.pos (decide_eq_true h) (Ev.bind (empty_ev (by omega) (by omega)) ?_)
    rw [rowsL_length, Int.toNat_natCast]
    have e : rowsL (fun _ _ => 0) m m = rowsL (idK 0) m m := rowsL_congr fun r _ c _ => by unfold idK; rw [if_neg (by omega)]
    rw [e]
    exact ident_loop (by omega) m 0 (by omega)
  · rw [if_neg h]
    exact Ev.neg (by rw [decide_eq_false h]; decide) (Ev.now _)
/-! Cauchy matrices. -/
def ofN (n : Nat) : GF := ⟨n % 256, Nat.mod_lt _ (by omega)⟩
theorem ofN_v {n : Nat} (h : n < 256) : (ofN n).v = n := Nat.mod_eq_of_lt h
theorem ofN_inj {a b : Nat} (ha : a < 256) (hb : b < 256) (h : ofN a = ofN b) : a = b := by have := congrArg GF.v h; rwa [ofN_v ha, ofN_v hb] at this
def cauM (C : Nat) : Mat := fun i j => inv (ofN (C + i) + ofN j)
theorem cau_ne {C i j : Nat} (hC : C + i < 256) (hj : j < C) : ofN (C + i) + ofN j ≠ 0 := add_ne_ fun e => by have := ofN_inj hC (by omega) e; omega
def cauK (C i j : Nat) : Mat := fun r c => if r < i ∨ (r = i ∧ c < j) then cauM C r c else 0
theorem finv_ev {x : GF} (h : x ≠ 0) : field_Inv.f (x.v : Int) = some (((inv x).v : Int), true) := by
  have := x.h
  have h0 := ne_v h
  unfold field_Inv.f
  rw [if_pos (by omega), if_neg (by omega), inv_v, Int.toNat_natCast]
theorem cau_arg {C i j : Nat} (h : C + i ≤ 64) (hj : j < C) : Go.bits .xor .u8 ((wrap64 ((C : Int) + (i : Int))) % 256) (((j : Nat) : Int) % 256) = ((ofN (C + i) + ofN j).v : Int) := by
  have e : wrap64 ((C : Int) + (i : Int)) = ((C + i : Nat) : Int) := by unfold wrap64; omega
  rw [e, show (((C + i : Nat) : Int) % 256) = ((C + i : Nat) : Int) by clear e; omega, show ((j : Int) % 256) = (j : Int) by clear e; omega, xor_u8 (by omega) (by omega), add_v, ofN_v (by omega), ofN_v (by omega)]
theorem cau_row {N C : Nat} (hNC : N + C ≤ 64) : ∀ (d j i : Nat), j + d = C → i < N → ∀ {r : List (List Int) × Bool}, Ev (fun k => matrix_Cauchy.l0 k (C : Int) (rowsL (cauK C (i + 1) 0) N C) (N : Int) ((i + 1 : Nat) : Int)) r →
    Ev (fun k => matrix_Cauchy.l1 k (C : Int) (rowsL (cauK C i j) N C) (i : Int) (N : Int) (i : Int) (C : Int) (j : Int)) r
  | 0, j, i, h, hi, r, hr => by
    refine Ev.step (fun k => by simp only [matrix_Cauchy.l1]; rfl) (Ev.neg (by omega) ?_)
    rw [w_succ (by omega)]
    have e : rowsL (cauK C i j) N C = rowsL (cauK C (i + 1) 0) N C := rowsL_congr fun r _ c hc => by
      unfold cauK
      by_cases h1 : r < i + 1
      · rw [if_pos (by omega), if_pos (by omega)]
      · rw [if_neg (by omega), if_neg (by omega)]
    rw [e]
    exact hr
  | d + 1, j, i, h, hi, r, hr => by
    have hlen := rowsL_length (cauK C i j) N C
    have hrl := rowV_length (cauK C i j) i C
    refine Ev.step (fun k => by simp only [matrix_Cauchy.l1]; rfl) (Ev.pos (by omega) (Ev.pos (by omega) (Ev.pos (by omega) ?_)))
    rw [cau_arg (by omega) (show j < C by omega), rd_rows hi]
    refine Ev.call (finv_ev (cau_ne (by omega) (by omega))) (Ev.pos (by omega) (Ev.pos (by omega) ?_))
    rw [Int.toNat_natCast, Int.toNat_natCast, w_succ (by omega)]
    show Ev (fun k => matrix_Cauchy.l1 k (C : Int) ((rowsL (cauK C i j) N C).set i ((rowV (cauK C i j) i C).set j ((inv (ofN (C + i) + ofN j)).v : Int))) (i : Int) (N : Int) (i : Int) (C : Int) ((j + 1 : Nat) : Int)) r
    rw [rows_upd]
    have e : rowsL (updM (cauK C i j) i j (inv (ofN (C + i) + ofN j))) N C = rowsL (cauK C i (j + 1)) N C := rowsL_congr fun r _ c _ => by
      unfold updM cauK
      by_cases h1 : r = i
      · rw [if_pos h1]
        by_cases h2 : c = j
        · rw [if_pos h2, if_pos (by omega), h1, h2]; rfl
        · rw [if_neg h2]
          by_cases h3 : c < j
          · rw [if_pos (by omega), if_pos (by omega)]
          · rw [if_neg (by omega), if_neg (by omega)]
      · rw [if_neg h1]
        by_cases h3 : r < i
        · rw [if_pos (by omega), if_pos (by omega)]
        · rw [if_neg (by omega), if_neg (by omega)]
    rw [e]
    exact cau_row hNC d (j + 1) i (by omega) hi hr
theorem cau_loop {N C : Nat} (hNC : N + C ≤ 64) : ∀ (d i : Nat), i + d = N → Ev (fun k => matrix_Cauchy.l0 k (C : Int) (rowsL (cauK C i 0) N C) (N : Int) (i : Int)) (rowsL (cauM C) N C, true)
  | 0, i, h => by
    refine Ev.step (fun k => by simp only [matrix_Cauchy.l0]; rfl) (Ev.neg (by omega) ?_)
    have e : rowsL (cauK C i 0) N C = rowsL (cauM C) N C := rowsL_congr fun r _ c _ => by unfold cauK; rw [if_pos (by omega)]
    rw [e]
    exact Ev.now _
  | d + 1, i, h => by
    have hlen := rowsL_length (cauK C i 0) N C
    refine Ev.step (fun k => by simp only [matrix_Cauchy.l0]; rfl) (Ev.pos (by omega) (Ev.pos (by omega) (Ev.pos (by omega) ?_)))
    rw [rd_rows (by omega), rowV_length]
    exact cau_row hNC C 0 i (by omega) (by omega) (cau_loop hNC d (i + 1) (by omega))
def cauOk (n m : Int) : Prop := (1 ≤ n ∧ n ≤ 64) ∧ (1 ≤ m ∧ m ≤ 64) ∧ n + m ≤ 64
instance (n m : Int) : Decidable (cauOk n m) := inferInstanceAs (Decidable (_ ∧ _ ∧ _))
theorem cauchy_ev (n m : Int) : Ev (fun k => matrix_Cauchy.f k n m) (if cauOk n m then (rowsL (cauM m.toNat) n.toNat m.toNat, true) else ([], false)) := by
  unfold matrix_Cauchy.f
  have out : ∀ b : Bool, b = true → ¬ cauOk n m → Ev (fun k => matrix_Cauchy.j0 k n m b) (if cauOk n m then (rowsL (cauM m.toNat) n.toNat m.toNat, true) else ([], false)) := fun b hb hn => by
    subst hb
    rw [if_neg hn]
    exact Ev.step (fun k => by simp only [matrix_Cauchy.j0]; rfl) (Ev.pos (by trivial) (Ev.now _))
  refine Ev.call (in_ev n) ?_
  by_cases h1 : 1 ≤ n ∧ n ≤ 64
  · refine Ev.pos (decide_eq_true h1) (Ev.call (in_ev m) ?_)
    by_cases h2 : 1 ≤ m ∧ m ≤ 64
    · refine Ev.pos (decide_eq_true h2) ?_
      have e : wrap64 (n + m) = n + m := by unfold wrap64; omega
      rw [e]
      clear e
      by_cases h3 : n + m ≤ 64
      · rw [decide_eq_false (by omega), if_pos ⟨h1, h2, h3⟩]
        obtain ⟨a, rfl⟩ := Int.eq_ofNat_of_zero_le (show 0 ≤ n by omega)
        obtain ⟨b, rfl⟩ := Int.eq_ofNat_of_zero_le (show 0 ≤ m by omega)
        rw [Int.toNat_natCast, Int.toNat_natCast]
        refine Ev.step (fun k => by simp only [matrix_Cauchy.j0]; rfl) (Ev.neg (by decide) (Ev.bind (empty_ev (by omega) (by omega)) ?_))
        rw [rowsL_length]
        have e : rowsL (fun _ _ => 0) a b = rowsL (cauK b 0 0) a b := rowsL_congr fun r _ c _ => by unfold cauK; rw [if_neg (by omega)]
        rw [e]
        exact cau_loop (by omega) a 0 (by omega)
      · rw [decide_eq_true (by omega)]
        exact out _ rfl (fun h => h3 h.2.2)
    · exact Ev.neg (by rw [decide_eq_false h2]; decide) (out _ rfl (fun h => h2 h.2.1))
  · exact Ev.neg (by rw [decide_eq_false h1]; decide) (out _ rfl (fun h => h1 h.1))
end Go.Proofs.Ytdeamnmadgemoaa.Q
