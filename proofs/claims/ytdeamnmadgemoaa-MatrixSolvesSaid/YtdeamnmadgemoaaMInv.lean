/- matrix.Invert: what it answers. -/
import Derived.Test.YtdeamnmadgemoaaMRank
namespace Go.Proofs.Ytdeamnmadgemoaa.Q
open Go.RowKit Go.Proofs.YtdeamnmadgemoaaW.PrintWords Go.Proofs.YtdeamnmadgemoaaW.PrintLast Go.Proofs.YtdeamnmadgemoaaW.PrintMore
open Go.Proofs.Ytdeamnmadgemoaa.Gf Go.Proofs.Ytdeamnmadgemoaa.Lin Go.Proofs.Ytdeamnmadgemoaa.Evs
set_option linter.unusedVariables false
set_option linter.unnecessarySimpa false
/-- Rows of any lengths, the first m of them known. -/
structure MatQ (W : World) (B G cap : Nat) (g cp : Nat → Nat) (N : Nat) (rows : Nat → List Int) (m : Nat) : Prop where
  outer : ∃ inner, W.ownsRow B 32 1 (.slice (some ⟨G, 0, none⟩) N cap) N inner ∧ ∀ k, k < m → inner[k]? = some (.slice (some ⟨g k, 0, none⟩) (rows k).length (cp k))
  inner : ∀ k, k < m → W.ownsRow B 5 1 (.slice (some ⟨g k, 0, none⟩) (rows k).length (cp k)) (rows k).length (nums .u8 (rows k))
  inj : ∀ k l, k < m → l < m → g k = g l → k = l
def updA {α : Type} (f : Nat → α) (i : Nat) (x : α) : Nat → α := fun k => if k = i then x else f k
theorem updA_at {α : Type} (f : Nat → α) (i : Nat) (x : α) : updA f i x i = x := if_pos rfl
theorem updA_ne {α : Type} (f : Nat → α) {i k : Nat} (x : α) (h : k ≠ i) : updA f i x k = f k := if_neg h
section
variable {W W' W2 : World} {B G cap : Nat} {g cp : Nat → Nat} {N m : Nat} {rows : Nat → List Int}
theorem MatQ.own (h : MatQ W B G cap g cp N rows m) : B ≤ G ∧ G < W.heap.size ∧ ∃ cells, W.heap[G]? = some (.cells cells 32 (0, 0)) := by
  obtain ⟨inner, ho, _⟩ := h.outer
  exact own_block ho
theorem MatQ.ne (h : MatQ W B G cap g cp N rows m) {k : Nat} (hk : k < m) : G ≠ g k := by
  obtain ⟨inner, ho, _⟩ := h.outer
  exact own_apart ho (h.inner k hk) (by decide)
theorem MatQ.cell (h : MatQ W B G cap g cp N rows m) {k : Nat} (hk : k < m) : W.cell? ⟨G, k, none⟩ = some (.slice (some ⟨g k, 0, none⟩) (rows k).length (cp k)) ∧ W.frozen? ⟨G, k, none⟩ = false := by
  obtain ⟨inner, ho, hi⟩ := h.outer
  have hc := ho.cells (g := G) rfl k _ (hi k hk)
  rw [add_plain] at hc
  exact ⟨hc, own_frozen ho k⟩
theorem MatQ.some_cell (h : MatQ W B G cap g cp N rows m) {k : Nat} (hk : k < N) : ∃ u, W.cell? ⟨G, k, none⟩ = some u ∧ W.frozen? ⟨G, k, none⟩ = false := by
  obtain ⟨inner, ho, _⟩ := h.outer
  have hl : inner.length = N * 1 := ho.1
  have hc := ho.cells (g := G) rfl k _ (List.getElem?_eq_getElem (show k < inner.length by omega))
  rw [add_plain] at hc
  exact ⟨_, hc, own_frozen ho k⟩
theorem MatQ.step (h : MatQ W B G cap g cp N rows m) (hG : W'.heap[G]? = W.heap[G]?) (hg : ∀ i, i < m → W'.heap[g i]? = W.heap[g i]?) : MatQ W' B G cap g cp N rows m := by
  obtain ⟨inner, ho, hi⟩ := h.outer
  exact ⟨⟨inner, own_move ho (fun k hk => by cases hk; exact hG), hi⟩, fun i hi => own_move (h.inner i hi) (fun k hk => by cases hk; exact hg i hi), h.inj⟩
theorem MatQ.below (h : MatQ W B G cap g cp N rows m) (hb : Below W.heap.size W W') : MatQ W' B G cap g cp N rows m :=
  h.step (hb.block G h.own.2.1) (fun i hi => hb.block _ (own_block (h.inner i hi)).2.1)
/-- A row is put in. -/
theorem MatQ.put (h : MatQ W B G cap g cp N rows m) {i p q : Nat} {row : List Int} (hiN : i < N) (him : i ≤ m) (hG : W2.heap[G]? = W.heap[G]?) (hg : ∀ k, k < m → k ≠ i → W2.heap[g k]? = W.heap[g k]?)
    (hp : W2.ownsRow B 5 1 (.slice (some ⟨p, 0, none⟩) row.length q) row.length (nums .u8 row)) (hnew : ∀ k, k < m → k ≠ i → g k ≠ p) :
    MatQ (W2.setCell ⟨G, i, none⟩ (.slice (some ⟨p, 0, none⟩) row.length q)) B G cap (updA g i p) (updA cp i q) N (updA rows i row) (max m (i + 1)) := by
  obtain ⟨inner, ho, hi⟩ := h.outer
  have ho2 := own_move (w1 := W2) ho (fun k hk => by cases hk; exact hG)
  have hGp : G ≠ p := own_apart ho2 hp (by decide)
  have hil : inner.length = N * 1 := ho.1
  have hlt : ∀ k, k < max m (i + 1) → k ≠ i → k < m := fun k h1 h2 => by omega
  refine ⟨⟨_, (ho2.stored i _).1, fun k hk => ?_⟩, fun k hk => ?_, fun k l hk hl e => ?_⟩
  · rw [List.getElem?_set]
    by_cases e : i = k
    · subst e
      rw [if_pos rfl, if_pos (by omega), updA_at, updA_at, updA_at]
    · rw [if_neg e, updA_ne _ _ (Ne.symm e), updA_ne _ _ (Ne.symm e), updA_ne _ _ (Ne.symm e)]
      exact hi k (hlt k hk (Ne.symm e))
  · by_cases e : k = i
    · subst e
      rw [updA_at, updA_at, updA_at]
      exact own_setCell hp (fun e2 => hGp (by simpa [Value.ownBlock] using e2)) _
    · rw [updA_ne _ _ e, updA_ne _ _ e, updA_ne _ _ e]
      have hk' := hlt k hk e
      exact own_setCell (own_move (h.inner k hk') (fun k2 hk2 => by cases hk2; exact hg k hk' e)) (fun e2 => h.ne hk' (by simpa [Value.ownBlock] using e2)) _
  · by_cases e1 : k = i
    · by_cases e2 : l = i
      · omega
      · rw [e1, updA_at, updA_ne _ _ e2] at e
        exact absurd e.symm (hnew l (hlt l hl e2) e2)
    · by_cases e2 : l = i
      · rw [e2, updA_at, updA_ne _ _ e1] at e
        exact absurd e (hnew k (hlt k hk e1) e1)
      · rw [updA_ne _ _ e1, updA_ne _ _ e2] at e
        exact h.inj k l (hlt k hk e1) (hlt l hl e2) e
theorem MatO.toQ {C : Nat} {M : Mat} (h : MatO W B G cap g cp N C M) : MatQ W B G cap g cp N (fun k => rowV M k C) N :=
  ⟨⟨_, h.outer, fun k hk => by rw [rowV_length]; exact outV_get hk⟩, fun k hk => by rw [rowV_length]; exact h.inner k hk, h.inj⟩
theorem MatQ.toO {C : Nat} {M : Mat} (h : MatQ W B G cap g cp N rows m) (hm : m = N) (hr : ∀ k, k < N → rows k = rowV M k C) : MatO W B G cap g cp N C M := by
  subst hm
  obtain ⟨inner, ho, hi⟩ := h.outer
  refine ⟨?_, fun k hk => ?_, h.inj⟩
  · have e : inner = outV g cp m C := by
      have hil : inner.length = m * 1 := ho.1
      apply List.ext_getElem?
      intro k
      by_cases hk : k < m
      · rw [outV_get hk, hi k hk, hr k hk, rowV_length]
      · rw [List.getElem?_eq_none (by omega), List.getElem?_eq_none (by simp [outV]; omega)]
    rw [← e]
    exact ho
  · have := h.inner k hk
    rwa [hr k hk, rowV_length] at this
theorem MatQ.congr {rows' : Nat → List Int} (h : MatQ W B G cap g cp N rows m) (hr : ∀ k, k < m → rows k = rows' k) : MatQ W B G cap g cp N rows' m := by
  obtain ⟨inner, ho, hi⟩ := h.outer
  exact ⟨⟨inner, ho, fun k hk => by rw [← hr k hk]; exact hi k hk⟩, fun k hk => by rw [← hr k hk]; exact h.inner k hk, h.inj⟩
theorem MatQ.rowR (h : MatQ W B G cap g cp N rows m) {k : Nat} (hk : k < m) : Kd.R (Kd.int .u8) 5 W B (fun _ => True) (.slice (some ⟨g k, 0, none⟩) (rows k).length (cp k)) (rows k) :=
  Kd.R_of_own (enc := Value.int .u8) (h1 := fun _ => rfl) (h.inner k hk) (fun _ _ => trivial)
end
/-- What an append to a row of one's own leaves. -/
theorem app_form {W W2 : World} {B g n c : Nat} {xs : List Int} {v2 : Value} (hl : 0 < xs.length) (h : Kd.R (Kd.int .u8) 5 W2 B (fun _ => True) v2 xs) (hat : v2.ownBlock = (Value.slice (some ⟨g, 0, none⟩) n c).ownBlock ∨ ∃ b, v2.ownBlock = some b ∧ W.heap.size ≤ b) :
    ∃ p q, v2 = .slice (some ⟨p, 0, none⟩) xs.length q ∧ W2.ownsRow B 5 1 (.slice (some ⟨p, 0, none⟩) xs.length q) xs.length (nums .u8 xs) ∧ (p = g ∨ W.heap.size ≤ p) := by
  have ho := Kd.own_of_R h
  obtain ⟨p, q, rfl, _, _⟩ := ho.form hl
  refine ⟨p, q, rfl, ho, ?_⟩
  rcases hat with hat | ⟨b, hb, hle⟩
  · exact .inl (by simpa [Value.ownBlock] using hat)
  · have : p = b := by simpa [Value.ownBlock] using hb
    exact .inr (by omega)
theorem app_new {W W2 : World} {B z : Nat} {xs : List Int} {v v2 : Value} (hl : 0 < xs.length) (h : Kd.R (Kd.int .u8) 5 W2 B (fun _ => True) v2 xs) (hz : z ≤ W.heap.size) (hv : ∀ k, v.ownBlock = some k → z ≤ k) (hat : v2.ownBlock = v.ownBlock ∨ ∃ b, v2.ownBlock = some b ∧ W.heap.size ≤ b) :
    ∃ p q, v2 = .slice (some ⟨p, 0, none⟩) xs.length q ∧ W2.ownsRow B 5 1 (.slice (some ⟨p, 0, none⟩) xs.length q) xs.length (nums .u8 xs) ∧ z ≤ p := by
  have ho := Kd.own_of_R h
  obtain ⟨p, q, rfl, _, _⟩ := ho.form hl
  refine ⟨p, q, rfl, ho, ?_⟩
  rcases hat with hat | ⟨b, hb, hle⟩
  · exact hv p (by rw [← hat]; rfl)
  · have : p = b := by simpa [Value.ownBlock] using hb
    omega
theorem aug_row (M : Mat) (n i : Nat) : rowV M i n ++ rowV dlt i n = rowV (augF n M) i (n + n) := by
  apply List.ext_getElem?
  intro c
  by_cases hc : c < n
  · rw [List.getElem?_append_left (by rw [rowV_length]; exact hc)]
    unfold rowV augF
    rw [List.getElem?_map, List.getElem?_range hc, List.getElem?_map, List.getElem?_range (by omega), Option.map_some, Option.map_some, if_pos hc]
  · rw [List.getElem?_append_right (by rw [rowV_length]; omega), rowV_length]
    by_cases hc2 : c < n + n
    · unfold rowV augF
      rw [List.getElem?_map, List.getElem?_range (show c - n < n by omega), List.getElem?_map, List.getElem?_range hc2, Option.map_some, Option.map_some, if_neg hc]
      congr 3
      unfold dlt
      by_cases e : i = c - n
      · rw [if_pos e, if_pos (by omega)]
      · rw [if_neg e, if_neg (by omega)]
    · rw [List.getElem?_eq_none (by rw [rowV_length]; omega), List.getElem?_eq_none (by rw [rowV_length]; omega)]
/-- The rows of the first loop. -/
def rowsA (n : Nat) (M : Mat) (k : Nat) : Nat → List Int := fun i => if i < k then rowV (augF n M) i (n + n) else rowV M i n
theorem rowsA_at (n : Nat) (M : Mat) (k : Nat) : rowsA n M k k = rowV M k n := if_neg (by omega)
theorem rowsA_upd (n : Nat) (M : Mat) (k : Nat) : updA (rowsA n M k) k (rowV (augF n M) k (n + n)) = rowsA n M (k + 1) := by
  funext i
  unfold updA rowsA
  by_cases e : i = k
  · rw [if_pos e, if_pos (by omega), e]
  · rw [if_neg e]
    by_cases h : i < k
    · rw [if_pos h, if_pos (by omega)]
    · rw [if_neg h, if_neg (by omega)]
theorem inv_row (n : Nat) (M : Mat) (k : Nat) : (rowV (formF n n (augF n M)) k (n + n)).drop n = rowV (invF n M) k n := by
  apply List.ext_getElem?
  intro c
  rw [List.getElem?_drop]
  by_cases hc : c < n
  · unfold rowV invF
    rw [List.getElem?_map, List.getElem?_range (by omega), List.getElem?_map, List.getElem?_range hc]; rfl
  · rw [List.getElem?_eq_none (by rw [rowV_length]; omega), List.getElem?_eq_none (by rw [rowV_length]; omega)]
def InvPost (n : Nat) (M : Mat) (w : World) (e : Ending) (w' : World) : Prop :=
  (if rankF n n M = n then ∃ v, e = .returned (.tuple #[v, .bool true]) ∧ Kd.S (Kd.slice 5 (Kd.int .u8)) 32 w' w.heap.size (fun _ => True) v (rowsL (invF n M) n n) else e = .returned (.tuple #[.slice none 0 0, .bool false])) ∧ Below w.heap.size w w'
theorem ident_calls {n : Nat} (h1 : 1 ≤ n) (h2 : n ≤ 64) (w : World) :
    Calls Try.prog 16 #[.int .i64 (n : Nat)] w fun e w' => ∃ (G cap : Nat) (g cp : Nat → Nat), e = .returned (.slice (some ⟨G, 0, none⟩) n cap) ∧ MatO w' w.heap.size G cap g cp n n dlt ∧ Below w.heap.size w w' := by
  obtain ⟨k, hk⟩ := Ev.rounds (ident_ev (n : Nat))
  rw [if_pos (by omega), Int.toNat_natCast] at hk
  refine (matrix_Identity.calls k _ _ w hk).mono fun e w' ⟨v, he, hS, hb⟩ => ?_
  obtain ⟨G, cap, g, cp, rfl, hm⟩ := MatO.of_S hS (by omega) (by omega)
  exact ⟨G, cap, g, cp, he, hm, hb⟩
set_option maxRecDepth 100000 in
set_option maxHeartbeats 4000000 in
theorem invert_walk {n : Nat} {M : Mat} (h1 : 1 ≤ n) (h2 : n ≤ 64) (A0 : Option Addr) (c0 : Nat) (w : World) (hC : Kd.C (Kd.slice 5 (Kd.int .u8)) w A0 n (rowsL M n n)) (hc : n ≤ c0) :
    Calls Try.prog 11 #[.slice A0 n c0] w (InvPost n M w) := by
  obtain ⟨ad, A, c, rfl, hx⟩ := first_row h1 A0 w hC
  have HC := Aside0.mk hC
  clear hC
  have hn0 : (0 : Int) < (n : Int) := by omega
  have hn1 : 0 < n := by omega
  go_enter Try.func11, Try.ntmps11
  go_wp2_with (first | (go_at_call 25; refine (valid_calls2 h1 h2 h1 h2 _ _ _ HC.out hc).mono ?_; rintro e_ w_ ⟨rfl, nv, rfl⟩) | (go_at_call 27; refine (copied_calls h1 h2 h1 h2 _ _ _ (Kd.C_below HC.out (pw_below_drewN (Below.refl _ _) _)) hc).mono ?_; rintro e_ w1 ⟨G, cap, g, cp, rfl, hm, hb⟩; have HM := Aside0.mk hm; have HB : Aside0 (Below w.heap.size w w1) := ⟨⟨hb.os, hb.tape, hb.output, hb.size, hb.block⟩⟩; clear hm hb) | (go_at_call 16; refine (ident_calls h1 h2 _).mono ?_; rintro e_ w2 ⟨GI, capI, gI, cpI, rfl, hm, hb⟩; have HI := Aside0.mk hm; have HB2 := Aside0.mk hb; clear hm hb))
  have hw12 : w1.heap.size ≤ w2.heap.size := HB2.out.size
  have HQ0 : Aside0 (MatQ w2 w.heap.size G cap g cp n (rowsA n M 0) n) := ⟨(HM.out.toQ.congr (fun k hk => by unfold rowsA; rw [if_neg (by omega)])).below HB2.out⟩
  have HS0 : Aside0 (G < w1.heap.size ∧ ∀ i, i < n → g i < w1.heap.size ∨ w2.heap.size ≤ g i) := ⟨(own_block HM.out.outer).2.1, fun i hi => .inl (own_block (HM.out.inner i hi)).2.1⟩
  have HSI : Aside0 ((w1.heap.size ≤ GI ∧ GI < w2.heap.size) ∧ ∀ i, i < n → w1.heap.size ≤ gI i ∧ gI i < w2.heap.size) := ⟨⟨(own_block HI.out.outer).1, (own_block HI.out.outer).2.1⟩, fun i hi => ⟨(own_block (HI.out.inner i hi)).1, (own_block (HI.out.inner i hi)).2.1⟩⟩
  have hsw : w.heap.size ≤ w1.heap.size := HB.out.size
  have HB3 : Aside0 (Below w.heap.size w w2) := ⟨HB.out.trans (HB2.out.mono hsw)⟩
  clear HM HB HB2
  obtain ⟨z2, hz2⟩ : ∃ z, z = w2.heap.size := ⟨_, rfl⟩
  obtain ⟨z1, hz1⟩ : ∃ z, z = w1.heap.size := ⟨_, rfl⟩
  rw [← hz2] at hw12 HS0 HSI
  rw [← hz1] at hw12 HS0 HSI
  have hz2' : z2 ≤ w2.heap.size := by omega
  clear hz1 hz2 hsw
  go_loopg [29] (n + 1) (fun kq v29 W => ∃ (k : Nat) (g cp : Nat → Nat), Hid (kq + k = n + 1) ∧ k ≤ n ∧ v29 = .int .i64 (k : Nat) ∧ Aside0 (MatQ W w.heap.size G cap g cp n (rowsA n M k) n) ∧ (∃ BI, Aside0 (MatO W BI GI capI gI cpI n n dlt)) ∧ Aside0 (G < z1 ∧ ∀ i, i < n → g i < z1 ∨ z2 ≤ g i) ∧ Aside0 (Below w.heap.size w W) ∧ z2 ≤ W.heap.size)
  case atStart => exact ⟨0, g, cp, Lib.hid (by omega), Nat.zero_le _, rfl, HQ0, ⟨_, HI⟩, HS0, HB3, hz2'⟩
  case round =>
    clear HQ0 HI HS0 HB3 hz2'
    obtain ⟨k, g, cp, HK, hkn, rfl, HQ, ⟨BI, HI⟩, HS, HB, hzr⟩ := hrel
    by_cases hk : k < n
    · have hk1 : decide ((k : Int) < (n : Int)) = true := decide_eq_true (by omega)
      have hk2 : decide (k < n) = true := decide_eq_true hk
      obtain ⟨i1, i2⟩ := HI.out.outerCell hk
      obtain ⟨e1, e2⟩ := HQ.out.cell hk
      have hlr : (rowsA n M k k).length = n := by rw [rowsA_at, rowV_length]
      rw [hlr] at e1
      have HO : Aside0 (Kd.R (Kd.int .u8) 5 wr w.heap.size (fun _ => True) (.slice (some ⟨g k, 0, none⟩) n (cp k)) (rowV M k n)) := ⟨by
        have := HQ.out.rowR hk
        rw [hlr, rowsA_at] at this
        exact this⟩
      have HR : Aside0 (Kd.C (Kd.int .u8) wr (some ⟨gI k, 0, none⟩) n (rowV dlt k n)) := ⟨by have := (HI.out.row hk).1; rwa [rowV_length] at this⟩
      have hrl := rowV_length M k n
      have HBW : Aside0 (w.heap.size ≤ wr.heap.size) := ⟨HB.out.size⟩
      have hal : (rowV M k n ++ rowV dlt k n).length = n + n := by rw [List.length_append, rowV_length, rowV_length]
      have HAL := Lib.hid hal
      clear hlr hal
      go_wp2_with (first | ((with_reducible refine gate_builtin (b := .append) (xs := #[.tmp 39, .tmp 40]) rfl ?_); (try (refine gate_guard (by rfl) ?_; dsimp only)); at_builtin; refine Kd.R_append_rows (Kd.int .u8) (w0 := w) w.heap.size rfl (.tmp 39) (.tmp 40) 32 5 (.int .u8 0) 1 rfl Try.underlying32 info5 rfl (by decide) (by omega) (.slice (some ⟨g k, 0, none⟩) n (cp k)) (rowV M k n) (rowV dlt k n) _ _ _ (fun _ => True) (fun _ => False) rfl rfl ?aO ?aR (fun _ _ h => h) (fun _ h => h.elim) ?aF ?aB ?aS ?aL ?_; (case aR => exact HR.out); (case aB => exact HB.out); (case aF => exact (fun _ _ => trivial)); (case aO => exact HO.out); (case aS => exact HBW.out); (case aL => rw [hrl]; omega); intro v3 w3 ho hb hg hat; obtain ⟨p, q, hv3, hown, hp⟩ := app_form (W := wr) (g := g k) (n := n) (c := cp k) (by rw [HAL.out]; omega) ho hat; rw [HAL.out] at hv3 hown; subst hv3; have HOWN := Aside0.mk hown; have HP := Aside0.mk hp; have HG3 := Aside0.mk hg; have HB3 := Aside0.mk hb; have e3 : w3.cell? ⟨G, k, none⟩ = some (.slice (some ⟨g k, 0, none⟩) n (cp k)) := hg.cell e1 (fun e => HQ.out.ne hk (by simpa [Value.ownBlock] using e)); have e4 : w3.frozen? ⟨G, k, none⟩ = false := (World.frozen?_of_block (a := ⟨G, k, none⟩) (hg.block G HQ.out.own.2.1 (fun e => HQ.out.ne hk (by simpa [Value.ownBlock] using e)))).trans e2; clear ho hb hg hat hown hp))
      go_roundg (n + 1 - (k + 1))
      case measure => have := HK.out; omega
      case rel =>
        have hrow : (rowV (augF n M) k (n + n)).length = n + n := rowV_length _ _ _
        have hown2 : w3.ownsRow w.heap.size 5 1 (.slice (some ⟨p, 0, none⟩) (rowV (augF n M) k (n + n)).length q) (rowV (augF n M) k (n + n)).length (nums .u8 (rowV (augF n M) k (n + n))) := by
          rw [← aug_row, HAL.out]; exact HOWN.out
        have hgk : ∀ j, j < n → j ≠ k → some (g j) ≠ (Value.slice (some ⟨g k, 0, none⟩) n (cp k)).ownBlock := fun j hj hne e => hne (HQ.out.inj j k hj hk (by simpa [Value.ownBlock] using e))
        have hq := HQ.out.put (W2 := w3) (i := k) (p := p) (q := q) hk hkn (HG3.out.block G HQ.out.own.2.1 (fun e => HQ.out.ne hk (by simpa [Value.ownBlock] using e))) (fun j hj hne => HG3.out.block (g j) (own_block (HQ.out.inner j hj)).2.1 (hgk j hj hne)) hown2
          (fun j hj hne e => by
            rcases HP.out with hp | hp
            · exact hne (HQ.out.inj j k hj hk (by rw [e, hp]))
            · have := (own_block (HQ.out.inner j hj)).2.1; omega)
        rw [rowsA_upd, hrow, show max n (k + 1) = n by omega] at hq
        have hsep : ∀ x, z1 ≤ x → x < z2 → some x ≠ (Value.slice (some ⟨g k, 0, none⟩) n (cp k)).ownBlock ∧ x ≠ G := fun x hx1 hx2 => ⟨fun e => by
          have e : x = g k := by simpa [Value.ownBlock] using e
          have := HS.out.2 k hk; omega, by have := HS.out.1; omega⟩
        have hkeep : ∀ x, z1 ≤ x → x < z2 → (w3.setCell ⟨G, k, none⟩ (.slice (some ⟨p, 0, none⟩) (n + n) q)).heap[x]? = wr.heap[x]? := fun x hx1 hx2 => by
          rw [Below.heap_setCell _ _ _ _ (hsep x hx1 hx2).2]
          exact HG3.out.block x (by omega) (hsep x hx1 hx2).1
        have hi := HI.out.step (W' := w3.setCell ⟨G, k, none⟩ (.slice (some ⟨p, 0, none⟩) (n + n) q)) (hkeep _ HSI.out.1.1 HSI.out.1.2) (fun i hi => hkeep _ (HSI.out.2 i hi).1 (HSI.out.2 i hi).2)
        refine ⟨k + 1, _, _, Lib.hid (by have := HK.out; omega), by omega, by go_num, ⟨hq⟩, ⟨BI, ⟨hi⟩⟩, ⟨HS.out.1, fun i hi => ?_⟩, ⟨HB3.out.setCell (p := ⟨G, k, none⟩) HQ.out.own.1 _⟩, by rw [World.size_setCell]; have := HG3.out.size; omega⟩
        by_cases e : i = k
        · rw [e, updA_at]
          rcases HP.out with hp | hp
          · rw [hp]; exact HS.out.2 k hk
          · exact .inr (by omega)
        · rw [updA_ne _ _ e]; exact HS.out.2 i hi
    · have hk1 : decide ((k : Int) < (n : Int)) = false := decide_eq_false (by omega)
      have hk2 : decide (k < n) = false := decide_eq_false hk
      have hkn2 : k = n := by omega
      have HM : Aside0 (MatO wr w.heap.size G cap g cp n (n + n) (augF n M)) := ⟨HQ.out.toO rfl (fun i hi => by unfold rowsA; rw [if_pos (by omega)])⟩
      have hrle := (red_spec n n M).1
      clear HQ HI HS hkn2
      by_cases hr : rankF n n M = n
      · have HR := Lib.hid hr
        have hd1 : decide ((n : Int) < (n : Int)) = false := decide_eq_false (by omega)
        have hd2 : decide (n < n) = false := decide_eq_false (by omega)
        clear hr hrle
        go_wp2_with (first | (go_at_call 28; refine (reduce_walk (by omega) (by omega) (show n ≤ n + n by omega) (augF n M) _ w.heap.size G cap g cp HM.out).mono ?_; rintro e_ w4 ⟨he4, g2, cp2, hm2, hb2⟩; rw [rank_aug, HR.out] at he4; subst he4; have HM2 := Aside0.mk hm2; have HB4 : Aside0 (Below w.heap.size w w4) := ⟨HB.out.trans hb2⟩; clear hm2 hb2) | ((with_reducible refine gate_dst (N := 50) rfl ?_); refine Kd.S_make (Kd.slice 5 (Kd.int .u8)) (w0 := w) w.heap.size 32 rfl (N := 50) rfl 22 _ _ rfl (n : Int) rfl rfl Try.underlying22 (.slice none 0 0) 24 info32 rfl (by decide) (by omega) [] (ok := fun _ => True) (okp := fun _ => True) ⟨_, rfl, Kd.R_nil _ _ _ _ _⟩ (fun _ hk => hk) trivial (by omega) (by rw [Int.toNat_natCast]; omega) HB4.out HB4.out.size ?_; intro v5 w5 hs5 hb5 hg5 hn5; rw [Int.toNat_natCast] at hs5; obtain ⟨inner5, hown5⟩ := Kd.R_own (Kd.S_R hs5); rw [List.length_replicate] at hown5; obtain ⟨GO, capO, rfl, _, _⟩ := World.ownsRow.form hown5 h1; have HO5 := Aside0.mk hown5; have HB5 := Aside0.mk hb5; have HG5 := Aside0.mk hg5; have HN5 : Aside0 (w4.heap.size ≤ GO) := ⟨by obtain ⟨b, hb, hle⟩ := hn5; (have e5 : GO = b := (by simpa [Value.ownBlock] using hb)); omega⟩; clear hs5 hb5 hg5 hn5 hown5))
        obtain ⟨i0, hi0, _, hsz0, _⟩ := info_parts info5
        have hlo : w.heap.size ≤ w4.heap.size := HB4.out.size
        have HQ0 : Aside0 (MatQ w5 w.heap.size GO capO (fun _ => 0) (fun _ => 0) n (fun i => rowV (invF n M) i n) 0) := ⟨⟨_, HO5.out, fun k hk => absurd hk (by omega)⟩, fun k hk => absurd hk (by omega), fun k l hk _ _ => absurd hk (by omega)⟩
        have HM5 : Aside0 (MatO w5 w.heap.size G cap g2 cp2 n (n + n) (formF n n (augF n M))) := ⟨HM2.out.grown (fun k hk => HG5.out.block k hk (by simp))⟩
        have HSM : Aside0 (G < w4.heap.size ∧ ∀ i, i < n → g2 i < w4.heap.size) := ⟨(own_block HM2.out.outer).2.1, fun i hi => (own_block (HM2.out.inner i hi)).2.1⟩
        have h45 := HG5.out.size
        have hGO := HN5.out
        obtain ⟨z4, hz4⟩ : ∃ z, z = w4.heap.size := ⟨_, rfl⟩
        rw [← hz4] at HSM h45 hGO hlo
        clear hz4 HM2 HO5 HG5 HB4 HM HB HN5
        go_loopg [53] (n + 1) (fun kq2 v53 W => ∃ (k : Nat) (gO cpO : Nat → Nat), Hid (kq2 + k = n + 1) ∧ k ≤ n ∧ v53 = .int .i64 (k : Nat) ∧ Aside0 (MatQ W w.heap.size GO capO gO cpO n (fun i => rowV (invF n M) i n) k) ∧ Aside0 (MatO W w.heap.size G cap g2 cp2 n (n + n) (formF n n (augF n M))) ∧ Aside0 (Below w.heap.size w W) ∧ Aside0 (∀ i, i < k → z4 ≤ gO i) ∧ z4 ≤ W.heap.size)
        case atStart => exact ⟨0, _, _, Lib.hid (by omega), Nat.zero_le _, rfl, HQ0, HM5, HB5, ⟨fun i hi => absurd hi (by omega)⟩, h45⟩
        case round =>
          clear HQ0 HM5 HB5 h45
          obtain ⟨k, gO, cpO, HK, hkn, rfl, HQ, HM, HB, HS, hzr⟩ := hrel
          by_cases hk : k < n
          · have hk1 : decide ((k : Int) < (n : Int)) = true := decide_eq_true (by omega)
            have hk2 : decide (k < n) = true := decide_eq_true hk
            obtain ⟨e1, e2⟩ := HM.out.outerCell hk
            obtain ⟨u, e3, e4⟩ := HQ.out.some_cell hk
            have hcp := (own_cap (HM.out.inner k hk)).1
            have hcut := cut_from (P := Try.prog) 32 5 .i64 Try.underlying32 hi0 1 hsz0 (some ⟨g2 k, 0, none⟩) (n + n) (cp2 k) (n : Int) (by omega) (by omega)
            rw [Int.toNat_natCast, if_neg (by omega), Option.map_some, Nat.mul_one, add_plain, Nat.add_sub_cancel] at hcut
            have HRW : Aside0 (Kd.C (Kd.int .u8) wr (some ⟨g2 k, n, none⟩) n (rowV (invF n M) k n)) := ⟨by
              have h := HM.out.row hk
              have h5 := Kd.C_drop (m := n) h.1 (by rw [rowV_length]; omega) h.2
              rw [if_neg (by omega), Option.map_some, show n * (Kd.int .u8).sz = n from Nat.mul_one n, add_plain, inv_row, rowV_length] at h5
              exact h5⟩
            have HBW : Aside0 (w.heap.size ≤ wr.heap.size) := ⟨HB.out.size⟩
            have hrl := rowV_length (invF n M) k n
            have HRL := Lib.hid hrl
            have hGOk : Aside0 (GO < wr.heap.size) := ⟨HQ.out.own.2.1⟩
            clear hrl hcp
            go_wp2_with (first | ((with_reducible refine gate_dst (N := 58) rfl ?_); (try (refine gate_guard (by rfl) ?_; dsimp only)); refine Kd.R_lit (Kd.int .u8) (w0 := w) w.heap.size 5 ?hg (N := 58) ?hd (xs := ([] : List Int)) (inner := []) (ok := fun _ => True) (okp := fun _ => True) ?hr ?hp (fun _ hk => hk) trivial HB.out HBW.out (by simp) ?_; (case hd => rfl); (case hg => rfl); (case hr => first | (go_simp; done) | (go_simp; rfl)); (case hp => exact (Reps.none _ _)); intro v6 w6 ho6 hb6 hg6 hn6; have HO6 := Aside0.mk ho6; have HB6 := Aside0.mk hb6; have HG6 := Aside0.mk hg6; have HN6 : Aside0 (∀ x, v6.ownBlock = some x → wr.heap.size ≤ x) := ⟨fun x hx => by { obtain ⟨b, hb, hle⟩ := hn6; have e5 : b = x := (by { rw [hb] at hx; exact Option.some.inj hx }); omega }⟩; have hs6 := hg6.size; have f1 : w6.cell? ⟨G, k, none⟩ = some (.slice (some ⟨g2 k, 0, none⟩) (n + n) (cp2 k)) := hg6.cell e1 (by simp); have f3 : w6.cell? ⟨GO, k, none⟩ = some u := hg6.cell e3 (by simp); have f4 : w6.frozen? ⟨GO, k, none⟩ = false := (World.frozen?_of_block (a := ⟨GO, k, none⟩) (hg6.block GO hGOk.out (by simp))).trans e4; clear ho6 hb6 hg6 hn6) | ((with_reducible refine gate_builtin (b := .append) (xs := #[.tmp 58, .tmp 64]) rfl ?_); (try (refine gate_guard (by rfl) ?_; dsimp only)); at_builtin; refine Kd.R_append_rows (Kd.int .u8) (w0 := w) w.heap.size rfl (.tmp 58) (.tmp 64) 32 5 (.int .u8 0) 1 rfl Try.underlying32 info5 rfl (by decide) (by omega) v6 [] (rowV (invF n M) k n) _ _ _ (fun _ => True) (fun _ => False) rfl rfl ?aO ?aR (fun _ _ h => h) (fun _ h => h.elim) ?aF ?aB ?aS ?aL ?_; (case aR => exact Kd.C_below HRW.out ⟨HG6.out.os, HG6.out.tape, HG6.out.output, HG6.out.size, fun i hi => HG6.out.block i hi (by simp)⟩); (case aB => exact HB6.out); (case aF => exact (fun _ _ => trivial)); (case aO => exact HO6.out); (case aS => exact HB6.out.size); (case aL => simp; omega); intro v7 w7 ho7 hb7 hg7 hat7; rw [List.nil_append] at ho7; obtain ⟨p, q, hv7, hown7, hp7⟩ := app_new (W := w6) (z := wr.heap.size) (v := v6) (xs := rowV (invF n M) k n) (by rw [HRL.out]; omega) ho7 hs6 HN6.out hat7; rw [HRL.out] at hv7 hown7; subst hv7; have f5 : w7.cell? ⟨GO, k, none⟩ = some u := hg7.cell f3 (fun e => by { have := HN6.out GO e.symm; have := hGOk.out; omega }); have f6 : w7.frozen? ⟨GO, k, none⟩ = false := (World.frozen?_of_block (a := ⟨GO, k, none⟩) (hg7.block GO (by have := hGOk.out; omega) (fun e => by { have := HN6.out GO e.symm; have := hGOk.out; omega }))).trans f4; have HOWN := Aside0.mk hown7; have HP := Aside0.mk hp7; have HG7 := Aside0.mk hg7; have HB7 := Aside0.mk hb7; clear ho7 hb7 hg7 hat7 hown7 hp7))
            go_roundg (n + 1 - (k + 1))
            case measure => have := HK.out; omega
            case rel =>
              have hold : ∀ x, x < wr.heap.size → w7.heap[x]? = wr.heap[x]? := fun x hx =>
                (HG7.out.block x (by omega) (fun e => by have := HN6.out x e.symm; omega)).trans (HG6.out.block x hx (by simp))
              have hq := HQ.out.put (W2 := w7) (i := k) (p := p) (q := q) (row := rowV (invF n M) k n) hk (Nat.le_refl _) (hold GO hGOk.out) (fun j hj _ => hold _ (own_block (HQ.out.inner j hj)).2.1) (by rw [HRL.out]; exact HOWN.out)
                (fun j hj _ e => by have := (own_block (HQ.out.inner j hj)).2.1; have := HP.out; omega)
              rw [HRL.out, show max k (k + 1) = k + 1 by omega] at hq
              have hq2 := hq.congr (rows' := fun i => rowV (invF n M) i n) (fun j _ => by
                by_cases e : j = k
                · rw [e, updA_at]
                · rw [updA_ne _ _ e])
              have hs7 := HG7.out.size
              have hG := HSM.out.1
              have hkeep : ∀ x, x < z4 → (w7.setCell ⟨GO, k, none⟩ (.slice (some ⟨p, 0, none⟩) n q)).heap[x]? = wr.heap[x]? := fun x hx => by
                rw [Below.heap_setCell _ _ _ _ (show x ≠ GO by omega)]
                exact hold x (by omega)
              have hm := HM.out.step (W' := w7.setCell ⟨GO, k, none⟩ (.slice (some ⟨p, 0, none⟩) n q)) (hkeep G HSM.out.1) (fun i hi => hkeep _ (HSM.out.2 i hi))
              refine ⟨k + 1, _, _, Lib.hid (by have := HK.out; omega), by omega, by go_num, ⟨hq2⟩, ⟨hm⟩, ⟨HB7.out.setCell (p := ⟨GO, k, none⟩) HQ.out.own.1 _⟩, ⟨fun i hi => ?_⟩, by rw [World.size_setCell]; omega⟩
              by_cases e : i = k
              · rw [e, updA_at]; have := HP.out; omega
              · rw [updA_ne _ _ e]; exact HS.out i (by omega)
          · have hk1 : decide ((k : Int) < (n : Int)) = false := decide_eq_false (by omega)
            have hk2 : decide (k < n) = false := decide_eq_false hk
            have hkn2 : k = n := by omega
            have HMO : Aside0 (MatO wr w.heap.size GO capO gO cpO n n (invF n M)) := ⟨HQ.out.toO hkn2 (fun _ _ => rfl)⟩
            clear hkn2
            go_wp2
            go_ret2
            exact ⟨by rw [if_pos HR.out]; exact ⟨_, rfl, HMO.out.to_S⟩, HB.out⟩
      · have hd1 : decide (((rankF n n M : Nat) : Int) < (n : Int)) = true := decide_eq_true (by omega)
        have hd2 : decide (rankF n n M < n) = true := decide_eq_true (by omega)
        have HR := Lib.hid hr
        clear hr hrle
        go_wp2_with (first | (go_at_call 28; refine (reduce_walk (by omega) (by omega) (show n ≤ n + n by omega) (augF n M) _ w.heap.size G cap g cp HM.out).mono ?_; rintro e_ w4 ⟨he4, g2, cp2, hm2, hb2⟩; rw [rank_aug] at he4; subst he4; have HB4 : Aside0 (Below w.heap.size w w4) := ⟨HB.out.trans hb2⟩; clear hm2 hb2))
        go_ret2
        exact ⟨by rw [if_neg HR.out]; rfl, HB4.out⟩
set_option maxRecDepth 100000 in
set_option maxHeartbeats 4000000 in
theorem invert_bad {l : List (List Int)} (hv : ¬ isV l) (A0 : Option Addr) (c0 : Nat) (w : World) (hC : Kd.C (Kd.slice 5 (Kd.int .u8)) w A0 l.length l) (hc : l.length ≤ c0) :
    Calls Try.prog 11 #[.slice A0 l.length c0] w fun e w' => e = .returned (.tuple #[.slice none 0 0, .bool false]) ∧ Below w.heap.size w w' := by
  have HV := valid_calls A0 c0 l w hC hc
  rw [decide_eq_false hv] at HV
  have HVA := Aside0.mk HV
  clear hC HV hv
  go_enter Try.func11, Try.ntmps11
  go_wp2_with (first | (go_at_call 25; refine HVA.out.mono ?_; rintro e_ w_ ⟨rfl, nv, rfl⟩))
  go_ret2
  exact ⟨rfl, pw_below_drewN (Below.refl _ _) _⟩
set_option maxRecDepth 100000 in
set_option maxHeartbeats 4000000 in
theorem invert_rect {N C : Nat} {M : Mat} (h1 : 1 ≤ N) (h2 : N ≤ 64) (h3 : 1 ≤ C) (h4 : C ≤ 64) (hne : N ≠ C) (A0 : Option Addr) (c0 : Nat) (w : World) (hC : Kd.C (Kd.slice 5 (Kd.int .u8)) w A0 N (rowsL M N C)) (hc : N ≤ c0) :
    Calls Try.prog 11 #[.slice A0 N c0] w fun e w' => e = .returned (.tuple #[.slice none 0 0, .bool false]) ∧ Below w.heap.size w w' := by
  obtain ⟨ad, A, c, rfl, hx⟩ := first_row h1 A0 w hC
  have HC := Aside0.mk hC
  clear hC
  have hn0 : (0 : Int) < (N : Int) := by omega
  have hn1 : 0 < N := by omega
  have hx1 : ((N : Int) == (C : Int)) = false := beq_eq_false_iff_ne.2 (by omega)
  have hx2 : ((N : Int) != (C : Int)) = true := bne_iff_ne.2 (by omega)
  have hx3 : (N == C) = false := beq_eq_false_iff_ne.2 hne
  have hx4 : (N != C) = true := bne_iff_ne.2 hne
  clear hne
  go_enter Try.func11, Try.ntmps11
  go_wp2_with (first | (go_at_call 25; refine (valid_calls2 h1 h2 h3 h4 _ _ _ HC.out hc).mono ?_; rintro e_ w_ ⟨rfl, nv, rfl⟩))
  go_ret2
  exact ⟨rfl, pw_below_drewN (Below.refl _ _) _⟩
/-- What it answers. -/
def invR (l : List (List Int)) : List (List Int) × Bool :=
  if isV l ∧ l.length = wid l ∧ rankF l.length l.length (toM l) = l.length then (rowsL (invF l.length (toM l)) l.length l.length, true) else ([], false)
def matrix_Invert.f (l : List (List Int)) : Option (List (List Int) × Bool) := if AllB l then some (invR l) else none
theorem matrix_Invert.calls (A0 : Option Addr) (c0 : Nat) (l0 : List (List Int)) (r1 : List (List Int)) (r2 : Bool) (w : World) (hr0 : Kd.C (Kd.slice 5 (Kd.int .u8)) w A0 l0.length l0) (hc0 : l0.length ≤ c0) (h : matrix_Invert.f l0 = some (r1, r2)) :
    Calls Try.prog 11 #[.slice A0 l0.length c0] w fun e w' => ∃ v0_ : Value, e = .returned (.tuple #[v0_, .bool r2]) ∧ Kd.S (Kd.slice 5 (Kd.int .u8)) 32 w' w.heap.size (fun _ => True) v0_ r1 ∧ Below w.heap.size w w' := by
  unfold matrix_Invert.f at h
  by_cases hb : AllB l0
  · rw [if_pos hb] at h
    have h := Option.some.inj h
    unfold invR at h
    by_cases hv : isV l0
    · by_cases hsq : l0.length = wid l0
      · have hW := invert_walk (n := l0.length) (M := toM l0) hv.1.1 hv.1.2 A0 c0 w (by rw [← toM_rows hb (fun r hr => by rw [hv.2.2 r hr, hsq])]; exact hr0) hc0
        by_cases hr : rankF l0.length l0.length (toM l0) = l0.length
        · rw [if_pos ⟨hv, hsq, hr⟩] at h
          obtain ⟨rfl, rfl⟩ := Prod.mk.inj h
          refine hW.mono fun e w' ⟨hp, hbel⟩ => ?_
          rw [if_pos hr] at hp
          obtain ⟨v, he, hS⟩ := hp
          exact ⟨v, he, hS, hbel⟩
        · rw [if_neg (fun hh => hr hh.2.2)] at h
          obtain ⟨rfl, rfl⟩ := Prod.mk.inj h
          refine hW.mono fun e w' ⟨hp, hbel⟩ => ?_
          rw [if_neg hr] at hp
          exact ⟨_, hp, Kd.S_nil _ _ _ _ _, hbel⟩
      · rw [if_neg (fun hh => hsq hh.2.1)] at h
        obtain ⟨rfl, rfl⟩ := Prod.mk.inj h
        refine (invert_rect (M := toM l0) hv.1.1 hv.1.2 hv.2.1.1 hv.2.1.2 hsq A0 c0 w (by rw [← toM_rows hb hv.2.2]; exact hr0) hc0).mono fun e w' ⟨he, hbel⟩ => ⟨_, he, Kd.S_nil _ _ _ _ _, hbel⟩
    · rw [if_neg (fun hh => hv hh.1)] at h
      obtain ⟨rfl, rfl⟩ := Prod.mk.inj h
      exact (invert_bad hv A0 c0 w hr0 hc0).mono fun e w' ⟨he, hbel⟩ => ⟨_, he, Kd.S_nil _ _ _ _ _, hbel⟩
  · rw [if_neg hb] at h
    exact absurd h (by simp)
end Go.Proofs.Ytdeamnmadgemoaa.Q
