/- A matrix of bytes in memory of the call's own: rows in blocks of their own, led to by a row of slices. -/
import Derived.Test.YtdeamnmadgemoaaLin
import Derived.Test.YtdeamnmadgemoaaEv
import Derived.Test.YtdeamnmadgemoaaOwn2
namespace Go.Proofs.Ytdeamnmadgemoaa.Q
open Go.RowKit Go.Proofs.YtdeamnmadgemoaaW.PrintWords Go.Proofs.YtdeamnmadgemoaaW.PrintLast Go.Proofs.YtdeamnmadgemoaaW.PrintMore
open Go.Proofs.Ytdeamnmadgemoaa.Gf Go.Proofs.Ytdeamnmadgemoaa.Lin
set_option linter.unusedVariables false
set_option linter.unnecessarySimpa false
/-- A row's numbers. -/
def rowV (M : Mat) (i C : Nat) : List Int := (List.range C).map fun c => ((M i c).v : Int)
theorem rowV_length (M : Mat) (i C : Nat) : (rowV M i C).length = C := by simp [rowV]
theorem rowV_rd {M : Mat} {i C c : Nat} (hc : c < C) : rd (rowV M i C) (c : Int) = ((M i c).v : Int) := by
  unfold rd rowV
  rw [Int.toNat_natCast, List.getD_eq_getElem?_getD, List.getElem?_map, List.getElem?_range hc]
  rfl
theorem rowV_bytes (M : Mat) (i C : Nat) : Bytes (rowV M i C) := fun x hx => by
  obtain ⟨c, _, rfl⟩ := List.mem_map.1 hx
  have := (M i c).h
  exact ⟨by omega, by omega⟩
theorem rowV_congr {M M' : Mat} {i i' C : Nat} (h : ∀ c, c < C → M i c = M' i' c) : rowV M i C = rowV M' i' C :=
  List.map_congr_left fun c hc => by rw [h c (List.mem_range.1 hc)]
def updM (M : Mat) (i c : Nat) (x : GF) : Mat := fun k d => if k = i then (if d = c then x else M k d) else M k d
theorem rowV_set {M : Mat} {i C c : Nat} (x : GF) : (rowV M i C).set c (x.v : Int) = rowV (updM M i c x) i C := by
  apply List.ext_getElem?
  intro d
  by_cases hd : d < C
  · unfold rowV updM
    rw [List.getElem?_set, List.getElem?_map, List.getElem?_range hd, List.getElem?_map, List.getElem?_range hd]
    simp only [Option.map_some, List.length_map, List.length_range, if_true]
    by_cases e : c = d
    · subst e; simp [hd]
    · rw [if_neg e, if_neg (Ne.symm e)]
  · rw [List.getElem?_eq_none (by rw [List.length_set, rowV_length]; omega), List.getElem?_eq_none (by rw [rowV_length]; omega)]
/-- The row of slices. -/
def outV (g cp : Nat → Nat) (N C : Nat) : List Value := (List.range N).map fun i => .slice (some ⟨g i, 0, none⟩) C (cp i)
theorem outV_get {g cp : Nat → Nat} {N C i : Nat} (hi : i < N) : (outV g cp N C)[i]? = some (.slice (some ⟨g i, 0, none⟩) C (cp i)) := by simp [outV, List.getElem?_range hi]
theorem outV_set {g cp : Nat → Nat} {N C i : Nat} (h q : Nat) : (outV g cp N C).set i (.slice (some ⟨h, 0, none⟩) C q) = outV (fun k => if k = i then h else g k) (fun k => if k = i then q else cp k) N C := by
  apply List.ext_getElem?
  intro k
  by_cases hk : k < N
  · rw [List.getElem?_set, outV_get hk, outV_get hk]
    by_cases e : i = k
    · subst e; simp [outV, hk]
    · rw [if_neg e, if_neg (Ne.symm e), if_neg (Ne.symm e)]
  · rw [List.getElem?_eq_none (by simp [outV]; omega), List.getElem?_eq_none (by simp [outV]; omega)]
structure MatO (W : World) (B G cap : Nat) (g cp : Nat → Nat) (N C : Nat) (M : Mat) : Prop where
  outer : W.ownsRow B 32 1 (.slice (some ⟨G, 0, none⟩) N cap) N (outV g cp N C)
  inner : ∀ i, i < N → W.ownsRow B 5 1 (.slice (some ⟨g i, 0, none⟩) C (cp i)) C (nums .u8 (rowV M i C))
  inj : ∀ i k, i < N → k < N → g i = g k → i = k
theorem own_block {W : World} {B e s h n c : Nat} {xs : List Value} (ho : W.ownsRow B e s (.slice (some ⟨h, 0, none⟩) n c) n xs) : B ≤ h ∧ h < W.heap.size ∧ ∃ cells, W.heap[h]? = some (.cells cells e (0, 0)) :=
  ⟨own_base ho h rfl, own_lt ho h rfl, own_typed ho h rfl⟩
theorem own_cap {W : World} {B e s h n c : Nat} {xs : List Value} (ho : W.ownsRow B e s (.slice (some ⟨h, 0, none⟩) n c) n xs) : n ≤ c ∧ c ≤ maxLen := by
  rcases ho.2 with ⟨h', _⟩ | ⟨g', cap', cur, h', _, _, h1, h2, _⟩
  · cases h'
  · cases h'; exact ⟨h1, h2⟩
theorem own_frozen {W : World} {B e s h n c : Nat} {xs : List Value} (ho : W.ownsRow B e s (.slice (some ⟨h, 0, none⟩) n c) n xs) (i : Nat) : W.frozen? ⟨h, i, none⟩ = false := by
  obtain ⟨_, _, cells, hc⟩ := own_block ho
  simp [World.frozen?, hc]
theorem own_apart {W : World} {B e e' s s' h h' n n' c c' : Nat} {xs xs' : List Value} (ho : W.ownsRow B e s (.slice (some ⟨h, 0, none⟩) n c) n xs) (ho' : W.ownsRow B e' s' (.slice (some ⟨h', 0, none⟩) n' c') n' xs') (hne : e ≠ e') : h ≠ h' := fun he => by
  obtain ⟨_, _, c1, h1⟩ := own_block ho
  obtain ⟨_, _, c2, h2⟩ := own_block ho'
  rw [he, h2] at h1
  injection h1 with h1
  injection h1 with _ h1
  exact hne h1.symm
section
variable {W W' : World} {B G cap : Nat} {g cp : Nat → Nat} {N C : Nat} {M : Mat}
theorem MatO.ne (h : MatO W B G cap g cp N C M) {i : Nat} (hi : i < N) : G ≠ g i := own_apart h.outer (h.inner i hi) (by decide)
theorem MatO.outerCell (h : MatO W B G cap g cp N C M) {i : Nat} (hi : i < N) : W.cell? ⟨G, i, none⟩ = some (.slice (some ⟨g i, 0, none⟩) C (cp i)) ∧ W.frozen? ⟨G, i, none⟩ = false := by
  have hc := h.outer.cells (g := G) rfl i _ (outV_get hi)
  rw [add_plain] at hc
  exact ⟨hc, own_frozen h.outer i⟩
theorem MatO.elt (h : MatO W B G cap g cp N C M) {i c : Nat} (hi : i < N) (hc : c < C) : W.cell? ⟨g i, c, none⟩ = some (.int .u8 ((M i c).v : Int)) ∧ W.frozen? ⟨g i, c, none⟩ = false := by
  have := own_at (h.inner i hi) (c : Int) (by omega) (by omega)
  rwa [Int.toNat_natCast, rowV_rd hc] at this
theorem MatO.step (h : MatO W B G cap g cp N C M) (hG : W'.heap[G]? = W.heap[G]?) (hg : ∀ i, i < N → W'.heap[g i]? = W.heap[g i]?) : MatO W' B G cap g cp N C M :=
  ⟨own_move h.outer (fun k hk => by cases hk; exact hG), fun i hi => own_move (h.inner i hi) (fun k hk => by cases hk; exact hg i hi), h.inj⟩
theorem MatO.grown (h : MatO W B G cap g cp N C M) (hb : ∀ k, k < W.heap.size → W'.heap[k]? = W.heap[k]?) : MatO W' B G cap g cp N C M :=
  h.step (hb G (own_block h.outer).2.1) (fun i hi => hb _ (own_block (h.inner i hi)).2.1)
theorem MatO.below (h : MatO W B G cap g cp N C M) (hb : Below W.heap.size W W') : MatO W' B G cap g cp N C M := h.grown hb.block
theorem MatO.drew (h : MatO W B G cap g cp N C M) : MatO W.drew B G cap g cp N C M := h.grown (fun _ _ => rfl)
theorem MatO.drewN (h : MatO W B G cap g cp N C M) (n : Nat) : MatO (W.drewN n) B G cap g cp N C M := h.grown (fun _ _ => rfl)
theorem MatO.agree (h : MatO W B G cap g cp N C M) {M' : Mat} (e : ∀ i, i < N → ∀ c, c < C → M i c = M' i c) : MatO W B G cap g cp N C M' :=
  ⟨h.outer, fun i hi => by rw [← rowV_congr (fun c hc => e i hi c hc)]; exact h.inner i hi, h.inj⟩
theorem MatO.row (h : MatO W B G cap g cp N C M) {i : Nat} (hi : i < N) : Kd.C (Kd.int .u8) W (some ⟨g i, 0, none⟩) (rowV M i C).length (rowV M i C) ∧ (rowV M i C).length ≤ cp i := by
  have hl := rowV_length M i C
  have hr := Kd.R_of_own (enc := Value.int .u8) (h1 := fun _ => rfl) (xs := rowV M i C) (e := 5) (base := B) (v := .slice (some ⟨g i, 0, none⟩) C (cp i)) (w := W) (by rw [hl]; exact h.inner i hi) (ok := fun _ => True) (fun _ _ => trivial)
  obtain ⟨A, c, he, hc, hC⟩ := Kd.R_reads hr
  injection he with h1 h2 h3
  subst h1 h3
  exact ⟨hC, hc⟩
theorem MatO.setElt (h : MatO W B G cap g cp N C M) {i : Nat} (c : Nat) (x : GF) (hi : i < N) : MatO (W.setCell ⟨g i, c, none⟩ (.int .u8 (x.v : Int))) B G cap g cp N C (updM M i c x) := by
  refine ⟨own_setCell h.outer (fun e => h.ne hi (by simpa [Value.ownBlock] using e.symm)) _, fun k hk => ?_, h.inj⟩
  by_cases e : k = i
  · subst e
    have := (own_store (h.inner k hk) (c : Int) (x.v : Int)).1
    rwa [Int.toNat_natCast, rowV_set] at this
  · have hr : rowV (updM M i c x) k C = rowV M k C := rowV_congr fun d _ => by unfold updM; rw [if_neg e]
    rw [hr]
    exact own_setCell (h.inner k hk) (fun e2 => e (h.inj k i hk hi (by simpa [Value.ownBlock] using e2.symm))) _
theorem MatO.setRow (h : MatO W B G cap g cp N C M) {i : Nat} (hi : i < N) {p q : Nat} {M' : Mat} (hp : W.ownsRow B 5 1 (.slice (some ⟨p, 0, none⟩) C q) C (nums .u8 (rowV M' i C))) (hnew : ∀ k, k < N → k ≠ i → g k ≠ p) (hM : ∀ k, k < N → k ≠ i → ∀ c, c < C → M' k c = M k c) :
    MatO (W.setCell ⟨G, i, none⟩ (.slice (some ⟨p, 0, none⟩) C q)) B G cap (fun k => if k = i then p else g k) (fun k => if k = i then q else cp k) N C M' := by
  refine ⟨?_, fun k hk => ?_, fun k l hk hl e => ?_⟩
  · rw [← outV_set]
    exact (h.outer.stored i _).1
  · by_cases e : k = i
    · subst e
      simp only [if_true]
      exact own_setCell hp (fun e2 => own_apart h.outer hp (by decide) (by simpa [Value.ownBlock] using e2)) _
    · simp only [if_neg e]
      rw [rowV_congr (fun c hc => hM k hk e c hc)]
      exact own_setCell (h.inner k hk) (fun e2 => h.ne hk (by simpa [Value.ownBlock] using e2)) _
  · by_cases e1 : k = i
    · by_cases e2 : l = i
      · omega
      · simp only [if_pos e1, if_neg e2] at e
        exact absurd e.symm (hnew l hl e2)
    · by_cases e2 : l = i
      · simp only [if_neg e1, if_pos e2] at e
        exact absurd e (hnew k hk e1)
      · simp only [if_neg e1, if_neg e2] at e
        exact h.inj k l hk hl e
def swN (f : Nat → Nat) (r i : Nat) : Nat → Nat := fun k => if k = i then f r else if k = r then f i else f k
theorem MatO.swap (h : MatO W B G cap g cp N C M) {r i : Nat} (hr : r < N) (hi : i < N) :
    MatO ((W.setCell ⟨G, r, none⟩ (.slice (some ⟨g i, 0, none⟩) C (cp i))).setCell ⟨G, i, none⟩ (.slice (some ⟨g r, 0, none⟩) C (cp r))) B G cap (swN g r i) (swN cp r i) N C (swapF M r i) := by
  have hin : ∀ k, k < N → ((W.setCell ⟨G, r, none⟩ (.slice (some ⟨g i, 0, none⟩) C (cp i))).setCell ⟨G, i, none⟩ (.slice (some ⟨g r, 0, none⟩) C (cp r))).ownsRow B 5 1 (.slice (some ⟨g k, 0, none⟩) C (cp k)) C (nums .u8 (rowV M k C)) := fun k hk =>
    own_setCell (own_setCell (h.inner k hk) (fun e2 => h.ne hk (by simpa [Value.ownBlock] using e2)) _) (fun e2 => h.ne hk (by simpa [Value.ownBlock] using e2)) _
  refine ⟨?_, fun k hk => ?_, fun k l hk hl e => ?_⟩
  · have h1 := (h.outer.stored r (.slice (some ⟨g i, 0, none⟩) C (cp i))).1
    rw [outV_set] at h1
    have h2 := (h1.stored i (.slice (some ⟨g r, 0, none⟩) C (cp r))).1
    rw [outV_set] at h2
    exact h2
  · unfold swN
    by_cases e1 : k = i
    · rw [if_pos e1, if_pos e1, rowV_congr (M := swapF M r i) (M' := M) (i' := r) (fun c _ => by
        unfold swapF
        by_cases e2 : k = r
        · rw [if_pos e2, ← e1, e2]
        · rw [if_neg e2, if_pos e1])]
      exact hin r hr
    · rw [if_neg e1, if_neg e1]
      by_cases e2 : k = r
      · rw [if_pos e2, if_pos e2, rowV_congr (M := swapF M r i) (M' := M) (i' := i) (fun c _ => by unfold swapF; rw [if_pos e2])]
        exact hin i hi
      · rw [if_neg e2, if_neg e2, rowV_congr (M := swapF M r i) (M' := M) (i' := k) (fun c _ => by unfold swapF; rw [if_neg e2, if_neg e1])]
        exact hin k hk
  · obtain ⟨k', hk'⟩ : ∃ k', k' = if k = i then r else if k = r then i else k := ⟨_, rfl⟩
    obtain ⟨l', hl'⟩ : ∃ l', l' = if l = i then r else if l = r then i else l := ⟨_, rfl⟩
    have e1 : swN g r i k = g k' := by
      rw [hk']; unfold swN
      by_cases e1 : k = i
      · rw [if_pos e1, if_pos e1]
      · rw [if_neg e1, if_neg e1]
        by_cases e2 : k = r
        · rw [if_pos e2, if_pos e2]
        · rw [if_neg e2, if_neg e2]
    have e2 : swN g r i l = g l' := by
      rw [hl']; unfold swN
      by_cases e1 : l = i
      · rw [if_pos e1, if_pos e1]
      · rw [if_neg e1, if_neg e1]
        by_cases e2 : l = r
        · rw [if_pos e2, if_pos e2]
        · rw [if_neg e2, if_neg e2]
    rw [e1, e2] at e
    have hkN : k' < N := by rw [hk']; split <;> (try split) <;> omega
    have hlN : l' < N := by rw [hl']; split <;> (try split) <;> omega
    have := h.inj k' l' hkN hlN e
    rw [hk', hl'] at this
    split at this <;> split at this <;> (try split at this) <;> (try split at this) <;> omega
end
end Go.Proofs.Ytdeamnmadgemoaa.Q
