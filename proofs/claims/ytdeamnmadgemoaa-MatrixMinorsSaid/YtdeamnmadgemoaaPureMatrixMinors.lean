import Derived.Test.YtdeamnmadgemoaaQ9
import Derived.Test.YtdeamnmadgemoaaMEv
namespace Go.Proofs.Ytdeamnmadgemoaa.Pure
open Go.RowKit Go.Proofs.Ytdeamnmadgemoaa.Q Go.Proofs.YtdeamnmadgemoaaW.PrintWords Go.Proofs.YtdeamnmadgemoaaW.PrintLast
open Go.Proofs.Ytdeamnmadgemoaa.Gf Go.Proofs.Ytdeamnmadgemoaa.Lin Go.Proofs.Ytdeamnmadgemoaa.Evs
theorem rank_agree {N C : Nat} {A B : Mat} (h : ∀ i, i < N → ∀ c, c < C → A i c = B i c) : rankF N C A = rankF N C B :=
  (red_agree N C C A B 0 0 (by omega) (by omega) h).1
theorem ints_rd_lt {p : List Nat} {i : Nat} (h : i < p.length) : rd (ints p) (i : Int) = ((p[i] : Nat) : Int) := by
  rw [ints_rd, List.getD_eq_getElem?_getD, List.getElem?_eq_getElem h]; rfl
theorem has_loop {r : List Nat} (x : Nat) (hl : r.length < 1000) : ∀ (d i : Nat), i + d = r.length → (∀ k, k < i → r.getD k 0 ≠ x) → Ev (fun k => tapearchivelaw05_has.l0 k (ints r) (x : Int) (i : Int)) (decide (x ∈ r))
  | 0, i, hi, hn => by
    refine Ev.step (fun k => by simp only [tapearchivelaw05_has.l0]; rfl) (Ev.neg (by rw [ints_length]; omega) (Ev.val ?_))
    rw [decide_eq_false]
    intro hx
    obtain ⟨k, hk, rfl⟩ := List.getElem_of_mem hx
    refine hn k (by omega) ?_
    rw [List.getD_eq_getElem?_getD, List.getElem?_eq_getElem hk]; rfl
  | d + 1, i, hi, hn => by
    refine Ev.step (fun k => by simp only [tapearchivelaw05_has.l0]; rfl) (Ev.pos (by rw [ints_length]; omega) (Ev.pos (by omega) ?_))
    rw [ints_rd_lt (by omega)]
    by_cases h : r[i] = x
    · refine Ev.pos (by rw [h]) (Ev.val ?_)
      rw [decide_eq_true (by rw [← h]; exact List.getElem_mem _)]
    · refine Ev.neg (by omega) ?_
      have e2 : wrap64 ((i : Int) + 1) = ((i + 1 : Nat) : Int) := by unfold wrap64; omega
      rw [e2]
      refine has_loop x hl d (i + 1) (by omega) fun k hk => ?_
      by_cases e : k = i
      · subst e
        rw [List.getD_eq_getElem?_getD, List.getElem?_eq_getElem (by omega)]
        exact h
      · exact hn k (by omega)
theorem has_ev {r : List Nat} (x : Nat) (hl : r.length < 1000) : Ev (fun k => tapearchivelaw05_has.f k (ints r) (x : Int)) (decide (x ∈ r)) :=
  has_loop x hl r.length 0 (by omega) (fun k hk => absurd hk (by omega))
/-- The chosen part of a Cauchy matrix. -/
def minM (C : Nat) (r l : List Nat) : Mat := fun a b => cauM C (r.getD a 0) (l.getD b 0)
theorem map_getD (l : List Nat) : (List.range l.length).map (fun b => l.getD b 0) = l := by
  apply List.ext_getElem?
  intro i
  by_cases h : i < l.length
  · rw [List.getElem?_map, List.getElem?_range h, Option.map_some, List.getD_eq_getElem?_getD, List.getElem?_eq_getElem h]; rfl
  · rw [List.getElem?_eq_none (by simp; omega), List.getElem?_eq_none (by omega)]
theorem nodup_map {l : List Nat} {f : Nat → GF} (hl : l.Nodup) (hf : ∀ a, a ∈ l → ∀ b, b ∈ l → f a = f b → a = b) : (l.map f).Nodup := by
  unfold List.Nodup at hl ⊢
  rw [List.pairwise_map]
  exact hl.imp_of_mem fun ha hb hne e => hne (hf _ ha _ hb e)
theorem minor_full {N C : Nat} (hNC : N + C ≤ 64) {r l : List Nat} (hr : r.Nodup) (hl : l.Nodup) (hrN : ∀ x ∈ r, x < N) (hlC : ∀ y ∈ l, y < C) (hlen : r.length = l.length) : rankF r.length r.length (minM C r l) = r.length := by
  refine rank_ker fun v hv k hk => ?_
  have key := cauchyL ((List.range l.length).map fun b => (ofN (l.getD b 0), v b)) (r.map fun x => ofN (C + x)) (by simp [hlen])
    (nodup_map hr fun a ha b hb e => by
      have h1 := hrN a ha
      have h2 := hrN b hb
      have := ofN_inj (by omega) (by omega) e
      omega)
    (by
      rw [List.map_map]
      have e : ((List.range l.length).map (Prod.fst ∘ fun b => (ofN (l.getD b 0), v b))) = l.map ofN := by
        conv => rhs; rw [← map_getD l, List.map_map]
        rfl
      rw [e]
      exact nodup_map hl fun a ha b hb e => by
        have h1 := hlC a ha
        have h2 := hlC b hb
        exact ofN_inj (by omega) (by omega) e)
    (fun x hx p hp => by
      obtain ⟨a, ha, rfl⟩ := List.mem_map.1 hx
      obtain ⟨b, hb, rfl⟩ := List.mem_map.1 hp
      have hb2 := List.mem_range.1 hb
      have h1 := hrN a ha
      have h2 : l.getD b 0 < C := by
        rw [List.getD_eq_getElem?_getD, List.getElem?_eq_getElem hb2]
        exact hlC _ (List.getElem_mem hb2)
      intro e
      have := ofN_inj (by omega) (by omega) e
      omega)
    (fun x hx => by
      obtain ⟨a, ha, rfl⟩ := List.mem_map.1 hx
      obtain ⟨i, hi, rfl⟩ := List.getElem_of_mem ha
      rw [lsum_map, lsum_range]
      have h := hv i hi
      rw [hlen] at h
      rw [← h]
      refine sum_congr fun b _ => ?_
      have e : r.getD i 0 = r[i] := by rw [List.getD_eq_getElem?_getD, List.getElem?_eq_getElem hi]; rfl
      show v b * inv (ofN (C + r[i]) + ofN (l.getD b 0)) = inv (ofN (C + r.getD i 0) + ofN (l.getD b 0)) * v b
      rw [e, mul_comm_])
  exact key (ofN (l.getD k 0), v k) (List.mem_map.2 ⟨k, List.mem_range.2 (by omega), rfl⟩)
theorem rowV_snoc (M : Mat) (i j : Nat) : rowV M i j ++ [((M i j).v : Int)] = rowV M i (j + 1) := by
  unfold rowV
  rw [List.range_succ, List.map_append]
  rfl
theorem rowsL_snoc' (M : Mat) (i C : Nat) : rowsL M i C ++ [rowV M i C] = rowsL M (i + 1) C := by
  unfold rowsL
  rw [List.range_succ, List.map_append]
  rfl
theorem minor_row {N C : Nat} {r l : List Nat} (hrN : ∀ x ∈ r, x < N) (hlC : ∀ y ∈ l, y < C) (hN : N ≤ 64) (hC : C ≤ 64) (hr64 : r.length ≤ 64) (hl64 : l.length ≤ 64) {i : Nat} (hi : i < r.length) {b : Bool}
    (hnext : Ev (fun k => tapearchivelaw05_MatrixMinors.l1 k (rowsL (cauM C) N C) (ints r) (ints l) (rowsL (minM C r l) (i + 1) l.length) ((i + 1 : Nat) : Int)) b) :
    ∀ (d j : Nat), j + d = l.length → Ev (fun k => tapearchivelaw05_MatrixMinors.l2 k (rowsL (cauM C) N C) (ints r) (ints l) (rowsL (minM C r l) i l.length) (i : Int) (rowV (minM C r l) i j) (j : Int)) b
  | 0, j, hj => by
    have e : j = l.length := by omega
    subst e
    have hlen := rowsL_length (minM C r l) i l.length
    refine Ev.step (fun k => by simp only [tapearchivelaw05_MatrixMinors.l2]; rfl) (Ev.neg (by rw [ints_length]; omega) (Ev.pos (by omega) ?_))
    rw [rowsL_snoc', w_succ (by omega)]
    exact hnext
  | d + 1, j, hj => by
    have hjl : j < l.length := by omega
    have h1 : r[i] < N := hrN _ (List.getElem_mem hi)
    have h2 : l[j] < C := hlC _ (List.getElem_mem hjl)
    have e1 : rd (ints r) (i : Int) = ((r[i] : Nat) : Int) := ints_rd_lt hi
    have e2 : rd (ints l) (j : Int) = ((l[j] : Nat) : Int) := ints_rd_lt hjl
    have e3 : rd_L1 (rowsL (cauM C) N C) ((r[i] : Nat) : Int) = rowV (cauM C) r[i] C := rd_rows h1
    have hrl := rowV_length (cauM C) r[i] C
    have hnl := rowsL_length (cauM C) N C
    have hml := rowV_length (minM C r l) i j
    refine Ev.step (fun k => by simp only [tapearchivelaw05_MatrixMinors.l2]; rfl) (Ev.pos (by rw [ints_length]; omega) (Ev.pos (by omega) (Ev.pos (by rw [ints_length]; omega) ?_)))
    rw [e1, e2, e3]
    refine Ev.pos (by omega) (Ev.pos (by omega) (Ev.pos (by omega) (Ev.pos (by omega) (Ev.pos (by omega) (Ev.pos (by omega) ?_)))))
    rw [rowV_rd h2, w_succ (by omega)]
    have e4 : minM C r l i j = cauM C r[i] l[j] := by
      unfold minM
      rw [List.getD_eq_getElem?_getD, List.getElem?_eq_getElem hi, List.getD_eq_getElem?_getD, List.getElem?_eq_getElem hjl]
      rfl
    rw [← e4, rowV_snoc]
    exact minor_row hrN hlC hN hC hr64 hl64 hi hnext d (j + 1) (by omega)
theorem minor_rows {N C : Nat} {r l : List Nat} (hrN : ∀ x ∈ r, x < N) (hlC : ∀ y ∈ l, y < C) (hN : N ≤ 64) (hC : C ≤ 64) (hr64 : r.length ≤ 64) (hl64 : l.length ≤ 64) (h1 : 1 ≤ r.length) (hlen : r.length = l.length)
    (hrank : rankF r.length r.length (minM C r l) = r.length) :
    ∀ (d i : Nat), i + d = r.length → Ev (fun k => tapearchivelaw05_MatrixMinors.l1 k (rowsL (cauM C) N C) (ints r) (ints l) (rowsL (minM C r l) i l.length) (i : Int)) true
  | 0, i, hi => by
    have e : i = r.length := by omega
    subst e
    have hv : isV (rowsL (minM C r l) r.length l.length) := isV_rowsL h1 hr64 (by omega) hl64
    have hw : wid (rowsL (minM C r l) r.length l.length) = l.length := rowsL_wid (by omega)
    have hll := rowsL_length (minM C r l) r.length l.length
    have hag : rankF r.length r.length (toM (rowsL (minM C r l) r.length l.length)) = r.length := by
      rw [← hlen, rank_agree (B := minM C r l) (fun i hi c hc => toM_rowsL hi hc)]
      exact hrank
    have hi1 : matrix_Invert.f (rowsL (minM C r l) r.length l.length) = some (rowsL (invF r.length (toM (rowsL (minM C r l) r.length l.length))) r.length r.length, true) := by
      unfold matrix_Invert.f invR
      rw [if_pos (rowsL_allB _ _ _), hll, if_pos ⟨hv, by rw [hw]; exact hlen, hag⟩]
    have hr1 : matrix_Rank.f (rowsL (minM C r l) r.length l.length) = some ((r.length : Nat) : Int) := by
      unfold matrix_Rank.f
      rw [if_pos (rowsL_allB _ _ _), if_pos hv, hll, hw, ← hlen]
      rw [← hlen] at hag
      rw [hag]
    refine Ev.step (fun k => by simp only [tapearchivelaw05_MatrixMinors.l1]; rfl) (Ev.neg (by rw [ints_length]; omega) (Ev.call hi1 ?_))
    refine Ev.pos ?_ (Ev.call hr1 (Ev.val ?_))
    · rfl
    rw [hll]
    congr 1
    exact beq_self_eq_true _
  | d + 1, i, hi => by
    refine Ev.step (fun k => by simp only [tapearchivelaw05_MatrixMinors.l1]; rfl) (Ev.pos (by rw [ints_length]; omega) ?_)
    exact minor_row hrN hlC hN hC hr64 hl64 (by omega) (minor_rows hrN hlC hN hC hr64 hl64 h1 hlen hrank d (i + 1) (by omega)) l.length 0 (by omega)
theorem pick_loop {N C : Nat} (hN1 : 1 ≤ N) (hC1 : 1 ≤ C) (hNC : N + C ≤ 64) {p : List Nat} (hp : ∀ x ∈ p, x < 256) (hp128 : p.length ≤ 128) :
    ∀ (d i : Nat) (r l : List Nat), p.length ≤ i + d → i ≤ p.length + 1 → r.Nodup → l.Nodup → (∀ x ∈ r, x < N) → (∀ y ∈ l, y < C) → r.length = l.length → 2 * r.length ≤ i →
      Ev (fun k => tapearchivelaw05_MatrixMinors.l0 k (N : Int) (C : Int) (ints p) (rowsL (cauM C) N C) (ints r) (ints l) (i : Int)) true := by
  intro d
  induction d using Nat.strongRecOn with
  | ind d ih =>
    intro i r l hd hip hr hl hrN hlC hlen h2
    have e2 : wrap64 ((i : Int) + 1) = ((i + 1 : Nat) : Int) := by unfold wrap64; omega
    have e3 : wrap64 ((i : Int) + 2) = ((i + 2 : Nat) : Int) := by unfold wrap64; omega
    by_cases hlt : i + 1 < p.length
    · refine Ev.step (fun k => by simp only [tapearchivelaw05_MatrixMinors.l0]; rfl) ?_
      rw [e2, e3]
      clear e2 e3
      refine Ev.pos (by rw [ints_length]; omega) (Ev.pos (by omega) (Ev.pos (by rw [ints_length]; omega) (Ev.neg (by omega) (Ev.pos (by omega) (Ev.neg (by omega) ?_)))))
      have hb1 : p[i] < 256 := hp _ (List.getElem_mem (by omega))
      have hb2 : p[i + 1] < 256 := hp _ (List.getElem_mem hlt)
      have e4 : Int.tmod (wrap64 (rd (ints p) (i : Int))) (N : Int) = ((p[i] % N : Nat) : Int) := by
        rw [ints_rd_lt (by omega), show wrap64 ((p[i] : Nat) : Int) = ((p[i] : Nat) : Int) by (unfold wrap64; omega)]
        rfl
      have e5 : Int.tmod (wrap64 (rd (ints p) ((i + 1 : Nat) : Int))) (C : Int) = ((p[i + 1] % C : Nat) : Int) := by
        rw [ints_rd_lt hlt, show wrap64 ((p[i + 1] : Nat) : Int) = ((p[i + 1] : Nat) : Int) by (unfold wrap64; omega)]
        rfl
      rw [e4, e5]
      have hx : p[i] % N < N := Nat.mod_lt _ (by omega)
      have hy : p[i + 1] % C < C := Nat.mod_lt _ (by omega)
      generalize p[i] % N = x at hx
      generalize p[i + 1] % C = y at hy
      refine Ev.bind (has_ev x (by omega)) ?_
      by_cases hxr : x ∈ r
      · rw [decide_eq_true hxr]
        exact Ev.pos (by trivial) (ih (d - 1) (by omega) (i + 2) r l (by omega) (by omega) hr hl hrN hlC hlen (by omega))
      rw [decide_eq_false hxr]
      refine Ev.neg (by decide) (Ev.bind (has_ev y (by omega)) ?_)
      by_cases hyl : y ∈ l
      · rw [decide_eq_true hyl]
        exact Ev.pos (by trivial) (ih (d - 1) (by omega) (i + 2) r l (by omega) (by omega) hr hl hrN hlC hlen (by omega))
      rw [decide_eq_false hyl]
      refine Ev.neg (by decide) (Ev.pos (by rw [ints_length]; omega) (Ev.pos (by rw [ints_length]; omega) ?_))
      rw [show ints r ++ [(x : Int)] = ints (r ++ [x]) by rw [ints_append]; rfl, show ints l ++ [(y : Int)] = ints (l ++ [y]) by rw [ints_append]; rfl]
      refine ih (d - 1) (by omega) (i + 2) (r ++ [x]) (l ++ [y]) (by omega) (by omega) ?_ ?_ (fun z hz => ?_) (fun z hz => ?_) (by simp [hlen]) (by simp; omega)
      · rw [List.nodup_append]
        exact ⟨hr, by simp, fun a ha b hb e => by rw [List.mem_singleton.1 hb] at e; exact hxr (e ▸ ha)⟩
      · rw [List.nodup_append]
        exact ⟨hl, by simp, fun a ha b hb e => by rw [List.mem_singleton.1 hb] at e; exact hyl (e ▸ ha)⟩
      · rcases List.mem_append.1 hz with h | h
        · exact hrN z h
        · rw [List.mem_singleton.1 h]; exact hx
      · rcases List.mem_append.1 hz with h | h
        · exact hlC z h
        · rw [List.mem_singleton.1 h]; exact hy
    · refine Ev.step (fun k => by simp only [tapearchivelaw05_MatrixMinors.l0]; rfl) ?_
      rw [e2]
      refine Ev.neg (by rw [ints_length]; omega) ?_
      by_cases h0 : r.length = 0
      · exact Ev.pos (by rw [ints_length]; omega) (Ev.now _)
      · exact Ev.neg (by rw [ints_length]; omega) (minor_rows hrN hlC (by omega) (by omega) (by omega) (by omega) (by omega) hlen (minor_full hNC hr hl hrN hlC hlen) r.length 0 (by omega))
theorem MatrixMinors : tapearchivelaw05_MatrixMinors.Pure := by
  intro n m l hn hm hlen hl2 hw
  refine Ev.rounds ?_
  obtain ⟨p, rfl, hp⟩ := bytes_of hw
  clear hw hlen hl2
  have out : ∀ x7, Ev (fun k => tapearchivelaw05_MatrixMinors.j0 k n m (ints p) x7 true) true := fun x7 => Ev.step (fun k => by simp only [tapearchivelaw05_MatrixMinors.j0]; rfl) (Ev.pos (by trivial) (Ev.now _))
  unfold tapearchivelaw05_MatrixMinors.f
  refine Ev.call rfl (Ev.pos (by trivial) (Ev.bind (cauchy_ev n m) ?_))
  by_cases h : cauOk n m
  · rw [if_pos h]
    refine Ev.pos (by trivial) ?_
    rw [ints_length]
    by_cases h128 : (p.length : Int) > 128
    · rw [decide_eq_true h128]
      exact out _
    · rw [decide_eq_false h128]
      have h1 := h.1
      have h2 := h.2.1
      have h3 := h.2.2
      obtain ⟨N, rfl⟩ := Int.eq_ofNat_of_zero_le (show 0 ≤ n by omega)
      obtain ⟨C, rfl⟩ := Int.eq_ofNat_of_zero_le (show 0 ≤ m by omega)
      rw [Int.toNat_natCast, Int.toNat_natCast]
      exact Ev.step (fun k => by simp only [tapearchivelaw05_MatrixMinors.j0]; rfl) (Ev.neg (by decide) (pick_loop (by omega) (by omega) (by omega) hp (by omega) p.length 0 [] [] (by omega) (by omega) List.nodup_nil List.nodup_nil (by simp) (by simp) rfl (by simp)))
  · rw [if_neg h]
    exact Ev.neg (by decide) (out _)
end Go.Proofs.Ytdeamnmadgemoaa.Pure
