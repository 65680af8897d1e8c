/- A matrix of bytes in memory of the call's own: rows in blocks of their own, led to by a row of slices. -/
import Derived.Test.YtmlfpcnemganbaaGA
import Derived.Test.YtmlfpcnemganbaaGB
import Derived.Deep.Slices
import Derived.Test.YtmlfpcnemganbaaQ3
import Derived.Test.YtmlfpcnemganbaaQ4
import Derived.Test.YtmlfpcnemganbaaQ5
import Derived.Deep.LoopGhost
import Derived.StillTailTactics
import Derived.Deep.RegionHeld3
import Derived.Deep.RegionLaw
namespace Go.Proofs.Ytmlfpcnemganbaa.Q
open Go.RowKit Go.Proofs.YtmlfpcnemganbaaW.PrintWords Go.Proofs.YtmlfpcnemganbaaW.PrintLast Go.Proofs.YtmlfpcnemganbaaW.PrintMore
open Go.Proofs.Ytmlfpcnemganbaa.Gf Go.Proofs.Ytmlfpcnemganbaa.Lin
set_option linter.unusedVariables false
set_option linter.unnecessarySimpa false
/-- A row's numbers. -/
def rowV (M : Mat) (i C : Nat) : List Int := (List.range C).map fun c => ((M i c).v : Int)
theorem rowV_length (M : Mat) (i C : Nat) : (rowV M i C).length = C := by simp [rowV]
theorem rowV_rd {M : Mat} {i C c : Nat} (hc : c < C) : rd (rowV M i C) (c : Int) = ((M i c).v : Int) := by
  unfold rd rowV
  rw [Int.toNat_natCast, List.getD_eq_getElem?_getD, List.getElem?_map, List.getElem?_range hc]
  rfl
theorem rowV_bytes (M : Mat) (i C : Nat) : Bytes (rowV M i C) := fun x hx => by
  obtain ⟨c, _, rfl⟩ := List.mem_map.1 hx
  have := (M i c).h
  exact ⟨by omega, by omega⟩
theorem rowV_congr {M M' : Mat} {i i' C : Nat} (h : ∀ c, c < C → M i c = M' i' c) : rowV M i C = rowV M' i' C :=
  List.map_congr_left fun c hc => by rw [h c (List.mem_range.1 hc)]
def updM (M : Mat) (i c : Nat) (x : GF) : Mat := fun k d => if k = i then (if d = c then x else M k d) else M k d
theorem rowV_set {M : Mat} {i C c : Nat} (x : GF) : (rowV M i C).set c (x.v : Int) = rowV (updM M i c x) i C := by
  apply List.ext_getElem?
  intro d
  by_cases hd : d < C
  · unfold rowV updM
    rw [List.getElem?_set, List.getElem?_map, List.getElem?_range hd, List.getElem?_map, List.getElem?_range hd]
    simp only [Option.map_some, List.length_map, List.length_range, if_true]
    by_cases e : c = d
    · subst e; simp [hd]
    · rw [if_neg e, if_neg (Ne.symm e)]
  · rw [List.getElem?_eq_none (by rw [List.length_set, rowV_length]; omega), List.getElem?_eq_none (by rw [rowV_length]; omega)]
/-- The row of slices. -/
def outV (g cp : Nat → Nat) (N C : Nat) : List Value := (List.range N).map fun i => .slice (some ⟨g i, 0, none⟩) C (cp i)
theorem outV_get {g cp : Nat → Nat} {N C i : Nat} (hi : i < N) : (outV g cp N C)[i]? = some (.slice (some ⟨g i, 0, none⟩) C (cp i)) := by simp [outV, List.getElem?_range hi]
theorem outV_set {g cp : Nat → Nat} {N C i : Nat} (h q : Nat) : (outV g cp N C).set i (.slice (some ⟨h, 0, none⟩) C q) = outV (fun k => if k = i then h else g k) (fun k => if k = i then q else cp k) N C := by
  apply List.ext_getElem?
  intro k
  by_cases hk : k < N
  · rw [List.getElem?_set, outV_get hk, outV_get hk]
    by_cases e : i = k
    · subst e; simp [outV, hk]
    · rw [if_neg e, if_neg (Ne.symm e), if_neg (Ne.symm e)]
  · rw [List.getElem?_eq_none (by simp [outV]; omega), List.getElem?_eq_none (by simp [outV]; omega)]
structure MatO (W : World) (B G cap : Nat) (g cp : Nat → Nat) (N C : Nat) (M : Mat) : Prop where
  outer : W.ownsRow B 33 1 (.slice (some ⟨G, 0, none⟩) N cap) N (outV g cp N C)
  inner : ∀ i, i < N → W.ownsRow B 5 1 (.slice (some ⟨g i, 0, none⟩) C (cp i)) C (nums .u8 (rowV M i C))
  inj : ∀ i k, i < N → k < N → g i = g k → i = k
theorem own_block {W : World} {B e s h n c : Nat} {xs : List Value} (ho : W.ownsRow B e s (.slice (some ⟨h, 0, none⟩) n c) n xs) : B ≤ h ∧ h < W.heap.size ∧ ∃ cells, W.heap[h]? = some (.cells cells e (0, 0)) :=
  ⟨own_base ho h rfl, own_lt ho h rfl, own_typed ho h rfl⟩
theorem own_cap {W : World} {B e s h n c : Nat} {xs : List Value} (ho : W.ownsRow B e s (.slice (some ⟨h, 0, none⟩) n c) n xs) : n ≤ c ∧ c ≤ maxLen := by
  rcases ho.2 with ⟨h', _⟩ | ⟨g', cap', cur, h', _, _, h1, h2, _⟩
  · cases h'
  · cases h'; exact ⟨h1, h2⟩
theorem own_frozen {W : World} {B e s h n c : Nat} {xs : List Value} (ho : W.ownsRow B e s (.slice (some ⟨h, 0, none⟩) n c) n xs) (i : Nat) : W.frozen? ⟨h, i, none⟩ = false := by
  obtain ⟨_, _, cells, hc⟩ := own_block ho
  simp [World.frozen?, hc]
theorem own_apart {W : World} {B e e' s s' h h' n n' c c' : Nat} {xs xs' : List Value} (ho : W.ownsRow B e s (.slice (some ⟨h, 0, none⟩) n c) n xs) (ho' : W.ownsRow B e' s' (.slice (some ⟨h', 0, none⟩) n' c') n' xs') (hne : e ≠ e') : h ≠ h' := fun he => by
  obtain ⟨_, _, c1, h1⟩ := own_block ho
  obtain ⟨_, _, c2, h2⟩ := own_block ho'
  rw [he, h2] at h1
  injection h1 with h1
  injection h1 with _ h1
  exact hne h1.symm
section
variable {W W' : World} {B G cap : Nat} {g cp : Nat → Nat} {N C : Nat} {M : Mat}
theorem MatO.ne (h : MatO W B G cap g cp N C M) {i : Nat} (hi : i < N) : G ≠ g i := own_apart h.outer (h.inner i hi) (by decide)
theorem MatO.outerCell (h : MatO W B G cap g cp N C M) {i : Nat} (hi : i < N) : W.cell? ⟨G, i, none⟩ = some (.slice (some ⟨g i, 0, none⟩) C (cp i)) ∧ W.frozen? ⟨G, i, none⟩ = false := by
  have hc := h.outer.cells (g := G) rfl i _ (outV_get hi)
  rw [add_plain] at hc
  exact ⟨hc, own_frozen h.outer i⟩
theorem MatO.elt (h : MatO W B G cap g cp N C M) {i c : Nat} (hi : i < N) (hc : c < C) : W.cell? ⟨g i, c, none⟩ = some (.int .u8 ((M i c).v : Int)) ∧ W.frozen? ⟨g i, c, none⟩ = false := by
  have := own_at (h.inner i hi) (c : Int) (by omega) (by omega)
  rwa [Int.toNat_natCast, rowV_rd hc] at this
theorem MatO.step (h : MatO W B G cap g cp N C M) (hG : W'.heap[G]? = W.heap[G]?) (hg : ∀ i, i < N → W'.heap[g i]? = W.heap[g i]?) : MatO W' B G cap g cp N C M :=
  ⟨own_move h.outer (fun k hk => by cases hk; exact hG), fun i hi => own_move (h.inner i hi) (fun k hk => by cases hk; exact hg i hi), h.inj⟩
theorem MatO.grown (h : MatO W B G cap g cp N C M) (hb : ∀ k, k < W.heap.size → W'.heap[k]? = W.heap[k]?) : MatO W' B G cap g cp N C M :=
  h.step (hb G (own_block h.outer).2.1) (fun i hi => hb _ (own_block (h.inner i hi)).2.1)
theorem MatO.below (h : MatO W B G cap g cp N C M) (hb : Below W.heap.size W W') : MatO W' B G cap g cp N C M := h.grown hb.block
theorem MatO.drew (h : MatO W B G cap g cp N C M) : MatO W.drew B G cap g cp N C M := h.grown (fun _ _ => rfl)
theorem MatO.drewN (h : MatO W B G cap g cp N C M) (n : Nat) : MatO (W.drewN n) B G cap g cp N C M := h.grown (fun _ _ => rfl)
theorem MatO.agree (h : MatO W B G cap g cp N C M) {M' : Mat} (e : ∀ i, i < N → ∀ c, c < C → M i c = M' i c) : MatO W B G cap g cp N C M' :=
  ⟨h.outer, fun i hi => by rw [← rowV_congr (fun c hc => e i hi c hc)]; exact h.inner i hi, h.inj⟩
theorem MatO.row (h : MatO W B G cap g cp N C M) {i : Nat} (hi : i < N) : Kd.C (Kd.int .u8) W (some ⟨g i, 0, none⟩) (rowV M i C).length (rowV M i C) ∧ (rowV M i C).length ≤ cp i := by
  have hl := rowV_length M i C
  have hr := Kd.R_of_own (enc := Value.int .u8) (h1 := fun _ => rfl) (xs := rowV M i C) (e := 5) (base := B) (v := .slice (some ⟨g i, 0, none⟩) C (cp i)) (w := W) (by rw [hl]; exact h.inner i hi) (ok := fun _ => True) (fun _ _ => trivial)
  obtain ⟨A, c, he, hc, hC⟩ := Kd.R_reads hr
  injection he with h1 h2 h3
  subst h1 h3
  exact ⟨hC, hc⟩
theorem MatO.setElt (h : MatO W B G cap g cp N C M) {i : Nat} (c : Nat) (x : GF) (hi : i < N) : MatO (W.setCell ⟨g i, c, none⟩ (.int .u8 (x.v : Int))) B G cap g cp N C (updM M i c x) := by
  refine ⟨own_setCell h.outer (fun e => h.ne hi (by simpa [Value.ownBlock] using e.symm)) _, fun k hk => ?_, h.inj⟩
  by_cases e : k = i
  · subst e
    have := (own_store (h.inner k hk) (c : Int) (x.v : Int)).1
    rwa [Int.toNat_natCast, rowV_set] at this
  · have hr : rowV (updM M i c x) k C = rowV M k C := rowV_congr fun d _ => by unfold updM; rw [if_neg e]
    rw [hr]
    exact own_setCell (h.inner k hk) (fun e2 => e (h.inj k i hk hi (by simpa [Value.ownBlock] using e2.symm))) _
theorem MatO.setRow (h : MatO W B G cap g cp N C M) {i : Nat} (hi : i < N) {p q : Nat} {M' : Mat} (hp : W.ownsRow B 5 1 (.slice (some ⟨p, 0, none⟩) C q) C (nums .u8 (rowV M' i C))) (hnew : ∀ k, k < N → k ≠ i → g k ≠ p) (hM : ∀ k, k < N → k ≠ i → ∀ c, c < C → M' k c = M k c) :
    MatO (W.setCell ⟨G, i, none⟩ (.slice (some ⟨p, 0, none⟩) C q)) B G cap (fun k => if k = i then p else g k) (fun k => if k = i then q else cp k) N C M' := by
  refine ⟨?_, fun k hk => ?_, fun k l hk hl e => ?_⟩
  · rw [← outV_set]
    exact (h.outer.stored i _).1
  · by_cases e : k = i
    · subst e
      simp only [if_true]
      exact own_setCell hp (fun e2 => own_apart h.outer hp (by decide) (by simpa [Value.ownBlock] using e2)) _
    · simp only [if_neg e]
      rw [rowV_congr (fun c hc => hM k hk e c hc)]
      exact own_setCell (h.inner k hk) (fun e2 => h.ne hk (by simpa [Value.ownBlock] using e2)) _
  · by_cases e1 : k = i
    · by_cases e2 : l = i
      · omega
      · simp only [if_pos e1, if_neg e2] at e
        exact absurd e.symm (hnew l hl e2)
    · by_cases e2 : l = i
      · simp only [if_neg e1, if_pos e2] at e
        exact absurd e (hnew k hk e1)
      · simp only [if_neg e1, if_neg e2] at e
        exact h.inj k l hk hl e
def swN (f : Nat → Nat) (r i : Nat) : Nat → Nat := fun k => if k = i then f r else if k = r then f i else f k
theorem MatO.swap (h : MatO W B G cap g cp N C M) {r i : Nat} (hr : r < N) (hi : i < N) :
    MatO ((W.setCell ⟨G, r, none⟩ (.slice (some ⟨g i, 0, none⟩) C (cp i))).setCell ⟨G, i, none⟩ (.slice (some ⟨g r, 0, none⟩) C (cp r))) B G cap (swN g r i) (swN cp r i) N C (swapF M r i) := by
  have hin : ∀ k, k < N → ((W.setCell ⟨G, r, none⟩ (.slice (some ⟨g i, 0, none⟩) C (cp i))).setCell ⟨G, i, none⟩ (.slice (some ⟨g r, 0, none⟩) C (cp r))).ownsRow B 5 1 (.slice (some ⟨g k, 0, none⟩) C (cp k)) C (nums .u8 (rowV M k C)) := fun k hk =>
    own_setCell (own_setCell (h.inner k hk) (fun e2 => h.ne hk (by simpa [Value.ownBlock] using e2)) _) (fun e2 => h.ne hk (by simpa [Value.ownBlock] using e2)) _
  refine ⟨?_, fun k hk => ?_, fun k l hk hl e => ?_⟩
  · have h1 := (h.outer.stored r (.slice (some ⟨g i, 0, none⟩) C (cp i))).1
    rw [outV_set] at h1
    have h2 := (h1.stored i (.slice (some ⟨g r, 0, none⟩) C (cp r))).1
    rw [outV_set] at h2
    exact h2
  · unfold swN
    by_cases e1 : k = i
    · rw [if_pos e1, if_pos e1, rowV_congr (M := swapF M r i) (M' := M) (i' := r) (fun c _ => by
        unfold swapF
        by_cases e2 : k = r
        · rw [if_pos e2, ← e1, e2]
        · rw [if_neg e2, if_pos e1])]
      exact hin r hr
    · rw [if_neg e1, if_neg e1]
      by_cases e2 : k = r
      · rw [if_pos e2, if_pos e2, rowV_congr (M := swapF M r i) (M' := M) (i' := i) (fun c _ => by unfold swapF; rw [if_pos e2])]
        exact hin i hi
      · rw [if_neg e2, if_neg e2, rowV_congr (M := swapF M r i) (M' := M) (i' := k) (fun c _ => by unfold swapF; rw [if_neg e2, if_neg e1])]
        exact hin k hk
  · obtain ⟨k', hk'⟩ : ∃ k', k' = if k = i then r else if k = r then i else k := ⟨_, rfl⟩
    obtain ⟨l', hl'⟩ : ∃ l', l' = if l = i then r else if l = r then i else l := ⟨_, rfl⟩
    have e1 : swN g r i k = g k' := by
      rw [hk']; unfold swN
      by_cases e1 : k = i
      · rw [if_pos e1, if_pos e1]
      · rw [if_neg e1, if_neg e1]
        by_cases e2 : k = r
        · rw [if_pos e2, if_pos e2]
        · rw [if_neg e2, if_neg e2]
    have e2 : swN g r i l = g l' := by
      rw [hl']; unfold swN
      by_cases e1 : l = i
      · rw [if_pos e1, if_pos e1]
      · rw [if_neg e1, if_neg e1]
        by_cases e2 : l = r
        · rw [if_pos e2, if_pos e2]
        · rw [if_neg e2, if_neg e2]
    rw [e1, e2] at e
    have hkN : k' < N := by rw [hk']; split <;> (try split) <;> omega
    have hlN : l' < N := by rw [hl']; split <;> (try split) <;> omega
    have := h.inj k' l' hkN hlN e
    rw [hk', hl'] at this
    split at this <;> split at this <;> (try split at this) <;> (try split at this) <;> omega
end
end Go.Proofs.Ytmlfpcnemganbaa.Q
/- Rows that the print tells as Kd.S, as a matrix (MatO), and back; lists of lists as matrices. -/
namespace Go.Proofs.Ytmlfpcnemganbaa.Q
open Go.RowKit Go.Proofs.YtmlfpcnemganbaaW.PrintWords Go.Proofs.YtmlfpcnemganbaaW.PrintLast Go.Proofs.YtmlfpcnemganbaaW.PrintMore
open Go.Proofs.Ytmlfpcnemganbaa.Gf Go.Proofs.Ytmlfpcnemganbaa.Lin
set_option linter.unusedVariables false
set_option linter.unnecessarySimpa false
def rowsL (M : Mat) (N C : Nat) : List (List Int) := (List.range N).map fun i => rowV M i C
theorem rowsL_length (M : Mat) (N C : Nat) : (rowsL M N C).length = N := by simp [rowsL]
theorem rowsL_get {M : Mat} {N C i : Nat} (hi : i < N) : (rowsL M N C)[i]? = some (rowV M i C) := by simp [rowsL, List.getElem?_range hi]
theorem rowsL_congr {M M' : Mat} {N C : Nat} (h : ∀ i, i < N → ∀ c, c < C → M i c = M' i c) : rowsL M N C = rowsL M' N C :=
  List.map_congr_left fun i hi => rowV_congr (h i (List.mem_range.1 hi))
theorem MatO.of_S {W : World} {B N C : Nat} {M : Mat} {v : Value} (h : Kd.S (Kd.slice 5 (Kd.int .u8)) 33 W B (fun _ => True) v (rowsL M N C)) (hN : 0 < N) (hC : 0 < C) :
    ∃ (G cap : Nat) (g cp : Nat → Nat), v = .slice (some ⟨G, 0, none⟩) N cap ∧ MatO W B G cap g cp N C M := by
  obtain ⟨f, _, inner, ho, hr⟩ := h
  have hl : (rowsL M N C).zipIdx.length = N := by rw [List.length_zipIdx, rowsL_length]
  rw [hl] at ho
  obtain ⟨G, cap, rfl, _, _⟩ := ho.form hN
  have hin : ∀ i, i < N → ∃ gc : Nat × Nat, inner[i]? = some (.slice (some ⟨gc.1, 0, none⟩) C gc.2) ∧ W.ownsRow B 5 1 (.slice (some ⟨gc.1, 0, none⟩) C gc.2) C (nums .u8 (rowV M i C)) ∧ f gc.1 = i := fun i hi => by
    have h1 := hr.2 i (rowV M i C, i) (Kd.zip_at (rowsL_get hi))
    obtain ⟨u, hu, hR⟩ := h1
    have hlen : inner.length = N := by have : inner.length = N * 1 := ho.1; omega
    have hui : inner[i]? = some u := by
      have h2 : ((inner.drop (i * 1)).take 1) = [u] := hu
      rw [Nat.mul_one, List.drop_eq_getElem_cons (by omega)] at h2
      have h3 := congrArg List.head? h2
      rw [List.take_succ_cons] at h3
      rw [List.getElem?_eq_getElem (by omega)]
      exact h3
    have hown := Kd.own_of_R hR
    rw [show ((rowV M i C, i) : List Int × Nat).1.length = C from rowV_length _ _ _] at hown
    obtain ⟨p, q, rfl, _, _⟩ := hown.form hC
    exact ⟨(p, q), hui, hown, (hR.1 p rfl).2⟩
  obtain ⟨gc, hgc⟩ := Go.Deep.choose_lt hin
  refine ⟨G, cap, fun i => (gc i).1, fun i => (gc i).2, rfl, ?_, fun i hi => (hgc i hi).2.1, fun i k hi hk e => ?_⟩
  · have e : inner = outV (fun i => (gc i).1) (fun i => (gc i).2) N C := by
      apply List.ext_getElem?
      intro i
      by_cases hi : i < N
      · rw [outV_get hi]; exact (hgc i hi).1
      · rw [List.getElem?_eq_none (by have : inner.length = N * 1 := ho.1; omega), List.getElem?_eq_none (by simp [outV]; omega)]
    rw [← e]
    exact ho
  · rw [← (hgc i hi).2.2, ← (hgc k hk).2.2]
    exact congrArg f e
theorem MatO.to_S {W : World} {B G cap N C : Nat} {g cp : Nat → Nat} {M : Mat} (h : MatO W B G cap g cp N C M) :
    Kd.S (Kd.slice 5 (Kd.int .u8)) 33 W B (fun _ => True) (.slice (some ⟨G, 0, none⟩) N cap) (rowsL M N C) := by
  obtain ⟨f, hf⟩ := Kd.reps_tag (d := Kd.slice 5 (Kd.int .u8)) (w := W) (base := B) (ok := fun k => True ∧ some k ≠ (Value.slice (some ⟨G, 0, none⟩) N cap).ownBlock) (xs := rowsL M N C) (inner := outV g cp N C) (fun j k => j < N ∧ g j = k)
    (fun i j k hi hj => h.inj i j hi.1 hj.1 (hi.2.trans hj.2.symm)) (fun j k hj => ⟨trivial, fun e => h.ne hj.1 (by rw [hj.2]; simpa [Value.ownBlock] using e.symm)⟩) (by simp [outV, rowsL, Kd.slice]) (fun j x hx => by
    have hj : j < N := by have := (List.getElem?_eq_some_iff.1 hx).1; rwa [rowsL_length] at this
    rw [rowsL_get hj] at hx
    obtain rfl := Option.some.inj hx
    have hc : ((outV g cp N C).drop (j * 1)).take 1 = [.slice (some ⟨g j, 0, none⟩) C (cp j)] := by
      have hg := outV_get (g := g) (cp := cp) (C := C) hj
      obtain ⟨hl, he⟩ := List.getElem?_eq_some_iff.1 hg
      rw [Nat.mul_one, List.drop_eq_getElem_cons hl, he]
      rfl
    show ∃ u, ((outV g cp N C).drop (j * 1)).take 1 = [u] ∧ _
    rw [hc]
    refine ⟨_, rfl, Kd.R_of_own (enc := Value.int .u8) (h1 := fun _ => rfl) ?_ (fun k hk => ⟨hj, by simpa [Value.ownBlock] using hk⟩)⟩
    rw [rowV_length]
    exact h.inner j hj)
  refine ⟨f, fun _ _ => trivial, outV g cp N C, ?_, hf⟩
  rw [List.length_zipIdx, rowsL_length]
  exact h.outer
/-! Lists of lists of bytes. -/
def AllB (l : List (List Int)) : Prop := ∀ r ∈ l, Bytes r
instance (l : List (List Int)) : Decidable (AllB l) := inferInstanceAs (Decidable (∀ r ∈ l, Bytes r))
def toM (l : List (List Int)) : Mat := fun i c => ⟨((l.getD i []).getD c 0).toNat % 256, Nat.mod_lt _ (by omega)⟩
def wid (l : List (List Int)) : Nat := (l.getD 0 []).length
theorem toM_rows {l : List (List Int)} {C : Nat} (hb : AllB l) (hC : ∀ r ∈ l, r.length = C) : l = rowsL (toM l) l.length C := by
  apply List.ext_getElem?
  intro i
  by_cases hi : i < l.length
  · rw [rowsL_get hi, List.getElem?_eq_getElem hi]
    congr 1
    have hm := List.getElem_mem hi
    apply List.ext_getElem?
    intro c
    by_cases hc : c < C
    · have hlc : c < l[i].length := by rw [hC _ hm]; exact hc
      have hbb := hb _ hm _ (List.getElem_mem hlc)
      unfold rowV
      rw [List.getElem?_map, List.getElem?_range hc, List.getElem?_eq_getElem hlc]
      unfold toM
      simp only [Option.map_some]
      rw [List.getD_eq_getElem?_getD (l := l), List.getElem?_eq_getElem hi, Option.getD_some, List.getD_eq_getElem?_getD, List.getElem?_eq_getElem hlc, Option.getD_some]
      congr 1
      omega
    · rw [List.getElem?_eq_none (by rw [hC _ hm]; omega), List.getElem?_eq_none (by rw [rowV_length]; omega)]
  · rw [List.getElem?_eq_none (by omega), List.getElem?_eq_none (by rw [rowsL_length]; omega)]
theorem toM_rowsL {M : Mat} {N C i c : Nat} (hi : i < N) (hc : c < C) : toM (rowsL M N C) i c = M i c := by
  apply GF.ext_
  unfold toM
  simp only []
  rw [List.getD_eq_getElem?_getD (l := rowsL M N C), rowsL_get hi, Option.getD_some, List.getD_eq_getElem?_getD]
  unfold rowV
  rw [List.getElem?_map, List.getElem?_range hc]
  simp only [Option.map_some, Option.getD_some, Int.toNat_natCast]
  exact Nat.mod_eq_of_lt (M i c).h
theorem rowsL_allB (M : Mat) (N C : Nat) : AllB (rowsL M N C) := fun r hr => by
  obtain ⟨i, _, rfl⟩ := List.mem_map.1 hr
  exact rowV_bytes _ _ _
theorem rowsL_wid {M : Mat} {N C : Nat} (hN : 0 < N) : wid (rowsL M N C) = C := by
  unfold wid
  rw [List.getD_eq_getElem?_getD, rowsL_get hN]
  exact rowV_length _ _ _
theorem rowsL_rect {M : Mat} {N C : Nat} : ∀ r ∈ rowsL M N C, r.length = C := fun r hr => by
  obtain ⟨i, _, rfl⟩ := List.mem_map.1 hr
  exact rowV_length _ _ _
/-- A valid matrix. -/
def isV (l : List (List Int)) : Prop := (1 ≤ l.length ∧ l.length ≤ 64) ∧ (1 ≤ wid l ∧ wid l ≤ 64) ∧ ∀ r ∈ l, r.length = wid l
instance (l : List (List Int)) : Decidable (isV l) := inferInstanceAs (Decidable (_ ∧ _ ∧ ∀ r ∈ l, r.length = wid l))
theorem isV_rowsL {M : Mat} {N C : Nat} (h1 : 1 ≤ N) (h2 : N ≤ 64) (h3 : 1 ≤ C) (h4 : C ≤ 64) : isV (rowsL M N C) := by
  refine ⟨by rw [rowsL_length]; omega, by rw [rowsL_wid (by omega)]; omega, fun r hr => ?_⟩
  rw [rowsL_wid (by omega)]; exact rowsL_rect r hr
end Go.Proofs.Ytmlfpcnemganbaa.Q
/- What the printed functions of the matrix package answer, over matrices. -/
namespace Go.Proofs.Ytmlfpcnemganbaa.Q
open Go.RowKit Go.Proofs.YtmlfpcnemganbaaW.PrintWords Go.Proofs.YtmlfpcnemganbaaW.PrintLast Go.Proofs.YtmlfpcnemganbaaW.PrintMore
open Go.Proofs.Ytmlfpcnemganbaa.Gf Go.Proofs.Ytmlfpcnemganbaa.Lin Go.Proofs.Ytmlfpcnemganbaa.Evs
set_option linter.unusedVariables false
set_option linter.unnecessarySimpa false
theorem w_succ {i : Nat} (h : i ≤ 1000000000000) : wrap64 ((i : Int) + 1) = ((i + 1 : Nat) : Int) := by unfold wrap64; omega
theorem rd_rows {M : Mat} {N C i : Nat} (hi : i < N) : rd_L1 (rowsL M N C) (i : Int) = rowV M i C := by
  unfold rd_L1
  rw [Int.toNat_natCast, List.getD_eq_getElem?_getD, rowsL_get hi]
  rfl
theorem rows_set {M M' : Mat} {N C i : Nat} : (rowsL M N C).set i (rowV M' i C) = rowsL (fun k => if k = i then M' i else M k) N C := by
  apply List.ext_getElem?
  intro k
  by_cases hk : k < N
  · rw [List.getElem?_set, rowsL_get hk, rowsL_get hk, rowsL_length]
    by_cases e : i = k
    · subst e
      rw [if_pos rfl, if_pos hk]
      exact congrArg some (rowV_congr fun c _ => by simp only [if_true])
    · rw [if_neg e]
      exact congrArg some (rowV_congr fun c _ => by simp only [if_neg (Ne.symm e)])
  · rw [List.getElem?_eq_none (by rw [List.length_set, rowsL_length]; omega), List.getElem?_eq_none (by rw [rowsL_length]; omega)]
theorem rows_upd {M : Mat} {N C i c : Nat} (x : GF) : (rowsL M N C).set i ((rowV M i C).set c (x.v : Int)) = rowsL (updM M i c x) N C := by
  rw [rowV_set, rows_set]
  refine rowsL_congr fun k _ d _ => ?_
  by_cases e : k = i
  · rw [if_pos e, e]
  · rw [if_neg e]; unfold updM; rw [if_neg e]
theorem in_ev (n : Int) : matrix_in.f n = some (decide (1 ≤ n ∧ n ≤ 64)) := by
  unfold matrix_in.f
  by_cases h : n ≥ 1
  · rw [if_pos h]; congr 1; simp; omega
  · rw [if_neg h]; congr 1; simp; omega
theorem valid_loop {l : List (List Int)} (hl : l.length ≤ 64) (h0 : 0 < l.length) : ∀ (d i : Nat), i + d = l.length → Ev (fun k => matrix_Valid.l0 k l l (l.length : Int) (i : Int)) (decide (∀ r ∈ l.drop i, r.length = wid l))
  | 0, i, h => by
    refine Ev.step (fun k => by simp only [matrix_Valid.l0]; rfl) (Ev.neg (by omega) ?_)
    rw [List.drop_of_length_le (by omega), decide_eq_true (fun r hr => absurd hr (by simp))]
    exact Ev.now _
  | d + 1, i, h => by
    have hi : i < l.length := by omega
    refine Ev.step (fun k => by simp only [matrix_Valid.l0]; rfl) (Ev.pos (by omega) (Ev.pos (by omega) (Ev.pos (by omega) (Ev.pos (by omega) ?_))))
    have e1 : rd_L1 l (i : Int) = l[i] := by unfold rd_L1; rw [Int.toNat_natCast, List.getD_eq_getElem?_getD, List.getElem?_eq_getElem hi]; rfl
    have e2 : rd_L1 l 0 = l.getD 0 [] := rfl
    rw [e1, e2, w_succ (by omega), List.drop_eq_getElem_cons hi]
    refine Ev.pick (fun c => ?_) (fun c => ?_)
    · refine Ev.eq (valid_loop hl h0 d (i + 1) (by omega)) ?_
      have hc : l[i].length = wid l := by unfold wid; omega
      rw [decide_eq_decide]
      exact ⟨fun h r hr => by rcases List.mem_cons.1 hr with rfl | hr; exact hc; exact h r hr, fun h r hr => h r (List.mem_cons_of_mem _ hr)⟩
    · have hc : ¬ l[i].length = wid l := fun e => c (by unfold wid at e; omega)
      refine Ev.eq (Ev.now _) ?_
      exact (decide_eq_false (fun h => hc (h _ List.mem_cons_self))).symm
theorem valid_ev (l : List (List Int)) : Ev (fun k => matrix_Valid.f k l) (decide (isV l)) := by
  unfold matrix_Valid.f
  refine Ev.call (in_ev _) ?_
  have out : ∀ b : Bool, b = true → ¬ isV l → Ev (fun k => matrix_Valid.j0 k l b) (decide (isV l)) := fun b hb hn => by
    subst hb
    rw [decide_eq_false hn]
    exact Ev.step (fun k => by simp only [matrix_Valid.j0]; rfl) (Ev.pos (by trivial) (Ev.now _))
  by_cases h1 : 1 ≤ l.length ∧ l.length ≤ 64
  · refine Ev.pos (decide_eq_true (by omega)) (Ev.pos (by omega) (Ev.call (in_ev _) ?_))
    have e2 : ((rd_L1 l 0).length : Int) = (wid l : Int) := rfl
    rw [e2]
    by_cases h2 : 1 ≤ wid l ∧ wid l ≤ 64
    · rw [decide_eq_true (show 1 ≤ (wid l : Int) ∧ (wid l : Int) ≤ 64 by omega)]
      refine Ev.step (fun k => by simp only [matrix_Valid.j0]; rfl) (Ev.neg (by decide) ?_)
      refine Ev.eq (valid_loop h1.2 (by omega) l.length 0 (by omega)) ?_
      rw [List.drop_zero]
      simp [isV, h1, h2]
    · refine out _ ?_ (fun h => h2 h.2.1)
      rw [decide_eq_false (by omega)]; rfl
  · exact Ev.neg (by rw [decide_eq_false (by omega)]; decide) (out _ rfl (fun h => h1 h.1))
theorem copied_loop {l : List (List Int)} (hl : l.length ≤ 1000) (hr : ∀ r ∈ l, r.length ≤ 1000) : ∀ (d i : Nat), i + d = l.length → Ev (fun k => matrix_copied_byte.l0 k (l.take i ++ List.replicate d []) l (l.length : Int) (i : Int)) l
  | 0, i, h => by
    refine Ev.step (fun k => by simp only [matrix_copied_byte.l0]; rfl) (Ev.neg (by omega) ?_)
    rw [List.take_of_length_le (by omega), List.replicate_zero, List.append_nil]
    exact Ev.now _
  | d + 1, i, h => by
    have hi : i < l.length := by omega
    have e1 : rd_L1 l (i : Int) = l[i] := by unfold rd_L1; rw [Int.toNat_natCast, List.getD_eq_getElem?_getD, List.getElem?_eq_getElem hi]; rfl
    have hlen : (l.take i ++ List.replicate (d + 1) ([] : List Int)).length = l.length := by rw [List.length_append, List.length_take, List.length_replicate]; omega
    refine Ev.step (fun k => by simp only [matrix_copied_byte.l0]; rfl) (Ev.pos (by omega) (Ev.pos (by omega) (Ev.pos (by omega) (Ev.call rfl (Ev.pos ?_ (Ev.pos (by rw [hlen]; omega) ?_))))))
    · rw [e1]; have := hr _ (List.getElem_mem hi); simp; omega
    · rw [e1, Int.toNat_natCast, w_succ (by omega), List.nil_append]
      have e : (l.take i ++ List.replicate (d + 1) ([] : List Int)).set i l[i] = l.take (i + 1) ++ List.replicate d [] := by
        rw [List.set_append_right _ _ (by rw [List.length_take]; omega), List.length_take, show i - min i l.length = 0 by omega, List.replicate_succ, List.set_cons_zero, List.take_succ_eq_append_getElem hi, List.append_assoc, List.singleton_append]
      rw [e]
      exact copied_loop hl hr d (i + 1) (by omega)
theorem copied_ev {l : List (List Int)} (hl : l.length ≤ 1000) (hr : ∀ r ∈ l, r.length ≤ 1000) : Ev (fun k => matrix_copied_byte.f k l) l := by
  unfold matrix_copied_byte.f
  refine Ev.pos (by omega) (Ev.pos (by omega) ?_)
  rw [Int.toNat_natCast]
  exact copied_loop hl hr l.length 0 (by omega)
theorem row_zero (C : Nat) (i : Nat) : List.replicate C (0 : Int) = rowV (fun _ _ => 0) i C := by
  apply List.ext_getElem?
  intro c
  by_cases hc : c < C
  · unfold rowV
    rw [List.getElem?_replicate, if_pos hc, List.getElem?_map, List.getElem?_range hc]; rfl
  · rw [List.getElem?_eq_none (by simp; omega), List.getElem?_eq_none (by rw [rowV_length]; omega)]
theorem empty_loop {N C : Nat} (hN : N ≤ 1000) (hC : C ≤ 1000) : ∀ (d i : Nat), i + d = N → Ev (fun k => matrix_empty.l0 k (C : Int) (rowsL (fun _ _ => 0) i C ++ List.replicate d []) (N : Int) (i : Int)) (rowsL (fun _ _ => 0) N C)
  | 0, i, h => by
    refine Ev.step (fun k => by simp only [matrix_empty.l0]; rfl) (Ev.neg (by omega) ?_)
    rw [List.replicate_zero, List.append_nil, show i = N by omega]
    exact Ev.now _
  | d + 1, i, h => by
    have hlen : (rowsL (fun _ _ => 0) i C ++ List.replicate (d + 1) ([] : List Int)).length = N := by rw [List.length_append, rowsL_length, List.length_replicate]; omega
    refine Ev.step (fun k => by simp only [matrix_empty.l0]; rfl) (Ev.pos (by omega) (Ev.pos (by omega) (Ev.pos (by omega) (Ev.pos (by omega) (Ev.pos (by rw [hlen]; omega) ?_)))))
    rw [Int.toNat_natCast, Int.toNat_natCast, w_succ (by omega)]
    have e : (rowsL (fun _ _ => 0) i C ++ List.replicate (d + 1) ([] : List Int)).set i (List.replicate C 0) = rowsL (fun _ _ => 0) (i + 1) C ++ List.replicate d [] := by
      rw [List.set_append_right _ _ (by rw [rowsL_length]; omega), rowsL_length, Nat.sub_self, List.replicate_succ, List.set_cons_zero]
      unfold rowsL
      rw [List.range_succ, List.map_append, List.append_assoc, row_zero C i]
      rfl
    rw [e]
    exact empty_loop hN hC d (i + 1) (by omega)
theorem empty_ev {N C : Nat} (hN : N ≤ 1000) (hC : C ≤ 1000) : Ev (fun k => matrix_empty.f k (N : Int) (C : Int)) (rowsL (fun _ _ => 0) N C) := by
  unfold matrix_empty.f
  refine Ev.pos (by omega) (Ev.pos (by omega) (Ev.call rfl ?_))
  rw [Int.toNat_natCast, List.length_replicate]
  exact empty_loop hN hC N 0 (by omega)
/-! Identity. -/
def idK (i : Nat) : Mat := fun r c => if r < i then dlt r c else 0
theorem ident_loop {N : Nat} (hN : N ≤ 64) : ∀ (d i : Nat), i + d = N → Ev (fun k => matrix_Identity.l0 k (rowsL (idK i) N N) (N : Int) (i : Int)) (rowsL dlt N N)
  | 0, i, h => by
    refine Ev.step (fun k => by simp only [matrix_Identity.l0]; rfl) (Ev.neg (by omega) ?_)
    refine Ev.eq (Ev.now _) (rowsL_congr fun r hr c _ => ?_)
    unfold idK; rw [if_pos (by omega)]
  | d + 1, i, h => by
    have hi : i < N := by omega
    have hlen := rowsL_length (idK i) N N
    have hrl := rowV_length (idK i) i N
    refine Ev.step (fun k => by simp only [matrix_Identity.l0]; rfl) (Ev.pos (by omega) (Ev.pos (by omega) (Ev.pos (by omega) ?_)))
    rw [rd_rows hi]
    refine Ev.pos (by omega) ?_
    rw [Int.toNat_natCast, w_succ (by omega), show (1 : Int) = ((1 : GF).v : Int) from rfl, rows_upd]
    have e : rowsL (updM (idK i) i i 1) N N = rowsL (idK (i + 1)) N N := rowsL_congr fun r _ c _ => by
      unfold updM idK dlt
      by_cases h1 : r = i
      · rw [if_pos h1, if_pos (show r < i + 1 by omega)]
        by_cases h2 : c = i
        · rw [if_pos h2, if_pos (show r = c by omega)]
        · rw [if_neg h2, if_neg (show ¬ r < i by omega), if_neg (show ¬ r = c by omega)]
      · rw [if_neg h1]
        by_cases h2 : r < i
        · rw [if_pos h2, if_pos (show r < i + 1 by omega)]
        · rw [if_neg h2, if_neg (show ¬ r < i + 1 by omega)]
    rw [e]
    exact ident_loop hN d (i + 1) (by omega)
theorem ident_ev (n : Int) : Ev (fun k => matrix_Identity.f k n) (if 1 ≤ n ∧ n ≤ 64 then rowsL dlt n.toNat n.toNat else []) := by
  unfold matrix_Identity.f
  refine Ev.call (in_ev n) ?_
  by_cases h : 1 ≤ n ∧ n ≤ 64
  · rw [if_pos h]
    obtain ⟨m, rfl⟩ := Int.eq_ofNat_of_zero_le (show 0 ≤ n by omega)
    refine Ev.pos (decide_eq_true h) (Ev.bind (empty_ev (by omega) (by omega)) ?_)
    rw [rowsL_length, Int.toNat_natCast]
    have e : rowsL (fun _ _ => 0) m m = rowsL (idK 0) m m := rowsL_congr fun r _ c _ => by unfold idK; rw [if_neg (by omega)]
    rw [e]
    exact ident_loop (by omega) m 0 (by omega)
  · rw [if_neg h]
    exact Ev.neg (by rw [decide_eq_false h]; decide) (Ev.now _)
/-! Cauchy matrices. -/
def ofN (n : Nat) : GF := ⟨n % 256, Nat.mod_lt _ (by omega)⟩
theorem ofN_v {n : Nat} (h : n < 256) : (ofN n).v = n := Nat.mod_eq_of_lt h
theorem ofN_inj {a b : Nat} (ha : a < 256) (hb : b < 256) (h : ofN a = ofN b) : a = b := by have := congrArg GF.v h; rwa [ofN_v ha, ofN_v hb] at this
def cauM (C : Nat) : Mat := fun i j => inv (ofN (C + i) + ofN j)
theorem cau_ne {C i j : Nat} (hC : C + i < 256) (hj : j < C) : ofN (C + i) + ofN j ≠ 0 := add_ne_ fun e => by have := ofN_inj hC (by omega) e; omega
def cauK (C i j : Nat) : Mat := fun r c => if r < i ∨ (r = i ∧ c < j) then cauM C r c else 0
theorem finv_ev {x : GF} (h : x ≠ 0) : field_Inv.f (x.v : Int) = some (((inv x).v : Int), true) := by
  have := x.h
  have h0 := ne_v h
  unfold field_Inv.f
  rw [if_pos (by omega), if_neg (by omega), inv_v, Int.toNat_natCast]
theorem cau_arg {C i j : Nat} (h : C + i ≤ 64) (hj : j < C) : Go.bits .xor .u8 ((wrap64 ((C : Int) + (i : Int))) % 256) (((j : Nat) : Int) % 256) = ((ofN (C + i) + ofN j).v : Int) := by
  have e : wrap64 ((C : Int) + (i : Int)) = ((C + i : Nat) : Int) := by unfold wrap64; omega
  rw [e, show (((C + i : Nat) : Int) % 256) = ((C + i : Nat) : Int) by clear e; omega, show ((j : Int) % 256) = (j : Int) by clear e; omega, xor_u8 (by omega) (by omega), add_v, ofN_v (by omega), ofN_v (by omega)]
theorem cau_row {N C : Nat} (hNC : N + C ≤ 64) : ∀ (d j i : Nat), j + d = C → i < N → ∀ {r : List (List Int) × Bool}, Ev (fun k => matrix_Cauchy.l0 k (C : Int) (rowsL (cauK C (i + 1) 0) N C) (N : Int) ((i + 1 : Nat) : Int)) r →
    Ev (fun k => matrix_Cauchy.l1 k (C : Int) (rowsL (cauK C i j) N C) (i : Int) (N : Int) (i : Int) (C : Int) (j : Int)) r
  | 0, j, i, h, hi, r, hr => by
    refine Ev.step (fun k => by simp only [matrix_Cauchy.l1]; rfl) (Ev.neg (by omega) ?_)
    rw [w_succ (by omega)]
    have e : rowsL (cauK C i j) N C = rowsL (cauK C (i + 1) 0) N C := rowsL_congr fun r _ c hc => by
      unfold cauK
      by_cases h1 : r < i + 1
      · rw [if_pos (by omega), if_pos (by omega)]
      · rw [if_neg (by omega), if_neg (by omega)]
    rw [e]
    exact hr
  | d + 1, j, i, h, hi, r, hr => by
    have hlen := rowsL_length (cauK C i j) N C
    have hrl := rowV_length (cauK C i j) i C
    refine Ev.step (fun k => by simp only [matrix_Cauchy.l1]; rfl) (Ev.pos (by omega) (Ev.pos (by omega) (Ev.pos (by omega) ?_)))
    rw [cau_arg (by omega) (show j < C by omega), rd_rows hi]
    refine Ev.call (finv_ev (cau_ne (by omega) (by omega))) (Ev.pos (by omega) (Ev.pos (by omega) ?_))
    rw [Int.toNat_natCast, Int.toNat_natCast, w_succ (by omega)]
    show Ev (fun k => matrix_Cauchy.l1 k (C : Int) ((rowsL (cauK C i j) N C).set i ((rowV (cauK C i j) i C).set j ((inv (ofN (C + i) + ofN j)).v : Int))) (i : Int) (N : Int) (i : Int) (C : Int) ((j + 1 : Nat) : Int)) r
    rw [rows_upd]
    have e : rowsL (updM (cauK C i j) i j (inv (ofN (C + i) + ofN j))) N C = rowsL (cauK C i (j + 1)) N C := rowsL_congr fun r _ c _ => by
      unfold updM cauK
      by_cases h1 : r = i
      · rw [if_pos h1]
        by_cases h2 : c = j
        · rw [if_pos h2, if_pos (by omega), h1, h2]; rfl
        · rw [if_neg h2]
          by_cases h3 : c < j
          · rw [if_pos (by omega), if_pos (by omega)]
          · rw [if_neg (by omega), if_neg (by omega)]
      · rw [if_neg h1]
        by_cases h3 : r < i
        · rw [if_pos (by omega), if_pos (by omega)]
        · rw [if_neg (by omega), if_neg (by omega)]
    rw [e]
    exact cau_row hNC d (j + 1) i (by omega) hi hr
theorem cau_loop {N C : Nat} (hNC : N + C ≤ 64) : ∀ (d i : Nat), i + d = N → Ev (fun k => matrix_Cauchy.l0 k (C : Int) (rowsL (cauK C i 0) N C) (N : Int) (i : Int)) (rowsL (cauM C) N C, true)
  | 0, i, h => by
    refine Ev.step (fun k => by simp only [matrix_Cauchy.l0]; rfl) (Ev.neg (by omega) ?_)
    have e : rowsL (cauK C i 0) N C = rowsL (cauM C) N C := rowsL_congr fun r _ c _ => by unfold cauK; rw [if_pos (by omega)]
    rw [e]
    exact Ev.now _
  | d + 1, i, h => by
    have hlen := rowsL_length (cauK C i 0) N C
    refine Ev.step (fun k => by simp only [matrix_Cauchy.l0]; rfl) (Ev.pos (by omega) (Ev.pos (by omega) (Ev.pos (by omega) ?_)))
    rw [rd_rows (by omega), rowV_length]
    exact cau_row hNC C 0 i (by omega) (by omega) (cau_loop hNC d (i + 1) (by omega))
def cauOk (n m : Int) : Prop := (1 ≤ n ∧ n ≤ 64) ∧ (1 ≤ m ∧ m ≤ 64) ∧ n + m ≤ 64
instance (n m : Int) : Decidable (cauOk n m) := inferInstanceAs (Decidable (_ ∧ _ ∧ _))
theorem cauchy_ev (n m : Int) : Ev (fun k => matrix_Cauchy.f k n m) (if cauOk n m then (rowsL (cauM m.toNat) n.toNat m.toNat, true) else ([], false)) := by
  unfold matrix_Cauchy.f
  have out : ∀ b : Bool, b = true → ¬ cauOk n m → Ev (fun k => matrix_Cauchy.j0 k n m b) (if cauOk n m then (rowsL (cauM m.toNat) n.toNat m.toNat, true) else ([], false)) := fun b hb hn => by
    subst hb
    rw [if_neg hn]
    exact Ev.step (fun k => by simp only [matrix_Cauchy.j0]; rfl) (Ev.pos (by trivial) (Ev.now _))
  refine Ev.call (in_ev n) ?_
  by_cases h1 : 1 ≤ n ∧ n ≤ 64
  · refine Ev.pos (decide_eq_true h1) (Ev.call (in_ev m) ?_)
    by_cases h2 : 1 ≤ m ∧ m ≤ 64
    · refine Ev.pos (decide_eq_true h2) ?_
      have e : wrap64 (n + m) = n + m := by unfold wrap64; omega
      rw [e]
      clear e
      by_cases h3 : n + m ≤ 64
      · rw [decide_eq_false (by omega), if_pos ⟨h1, h2, h3⟩]
        obtain ⟨a, rfl⟩ := Int.eq_ofNat_of_zero_le (show 0 ≤ n by omega)
        obtain ⟨b, rfl⟩ := Int.eq_ofNat_of_zero_le (show 0 ≤ m by omega)
        rw [Int.toNat_natCast, Int.toNat_natCast]
        refine Ev.step (fun k => by simp only [matrix_Cauchy.j0]; rfl) (Ev.neg (by decide) (Ev.bind (empty_ev (by omega) (by omega)) ?_))
        rw [rowsL_length]
        have e : rowsL (fun _ _ => 0) a b = rowsL (cauK b 0 0) a b := rowsL_congr fun r _ c _ => by unfold cauK; rw [if_neg (by omega)]
        rw [e]
        exact cau_loop (by omega) a 0 (by omega)
      · rw [decide_eq_true (by omega)]
        exact out _ rfl (fun h => h3 h.2.2)
    · exact Ev.neg (by rw [decide_eq_false h2]; decide) (out _ rfl (fun h => h2 h.2.1))
  · exact Ev.neg (by rw [decide_eq_false h1]; decide) (out _ rfl (fun h => h1 h.1))
end Go.Proofs.Ytmlfpcnemganbaa.Q
/- matrix.reduce: what it does to a matrix in memory of the call's own. -/
namespace Go.Proofs.Ytmlfpcnemganbaa.Q
open Go.RowKit Go.Proofs.YtmlfpcnemganbaaW.PrintWords Go.Proofs.YtmlfpcnemganbaaW.PrintLast Go.Proofs.YtmlfpcnemganbaaW.PrintMore
open Go.Proofs.Ytmlfpcnemganbaa.Gf Go.Proofs.Ytmlfpcnemganbaa.Lin
set_option linter.unusedVariables false
set_option linter.unnecessarySimpa false
theorem mul_calls (x y : GF) (w : World) : Calls Try.prog 32 #[.int .u8 (x.v : Int), .int .u8 (y.v : Int)] w fun e w' => e = .returned (.int .u8 ((x * y).v : Int)) ∧ ∃ n, w' = w.drewN n := by
  obtain ⟨k, hk⟩ := Ev.rounds (mul_ev x.h y.h)
  exact (field_Mul.calls k _ _ _ w hk).mono fun e w' ⟨he, hd⟩ => ⟨he, hd.out⟩
theorem inv_calls (x : GF) (h : x ≠ 0) (w : World) : Calls Try.prog 31 #[.int .u8 (x.v : Int)] w fun e w' => e = .returned (.tuple #[.int .u8 ((inv x).v : Int), .bool true]) ∧ Below w.heap.size w w' := by
  rw [inv_v]
  exact inv_some x.v x.h (ne_v h) w
/-- A row and a multiple of another one. -/
def addM (M : Mat) (i r : Nat) (f : GF) : Mat := fun k c => if k = i then M i c + f * M r c else M k c
theorem scale_calls {W : World} {B G cap : Nat} {g cp : Nat → Nat} {N C : Nat} {M : Mat} (h : MatO W B G cap g cp N C M) {i r : Nat} (hi : i < N) (hr : r < N) (hC : C ≤ 1000) (f : GF) :
    Calls Try.prog 59 #[.slice (some ⟨g i, 0, none⟩) C (cp i), .slice (some ⟨g r, 0, none⟩) C (cp r), .int .u8 (f.v : Int)] W fun e w' => e = .returned (.slice (some ⟨W.heap.size, 0, none⟩) C C) ∧
      w'.ownsRow B 5 1 (.slice (some ⟨W.heap.size, 0, none⟩) C C) C (nums .u8 (rowV (addM M i r f) i C)) ∧ Below W.heap.size W w' := by
  obtain ⟨c0, l0⟩ := h.row hi
  obtain ⟨c1, l1⟩ := h.row hr
  have hl0 := rowV_length M i C
  have hl1 := rowV_length M r C
  have hs := scale_walk (some ⟨g i, 0, none⟩) (cp i) (rowV M i C) (some ⟨g r, 0, none⟩) (cp r) (rowV M r C) f.v W c0 l0 c1 l1 (rowV_bytes _ _ _) (rowV_bytes _ _ _) f.h (by omega)
  rw [hl0, hl1] at hs
  refine hs.mono fun e w' ⟨he, hg, hb⟩ => ⟨he, ⟨by simp [nums, rowV_length], .inr ⟨W.heap.size, C, _, rfl, ?_, hg, Nat.le_refl _, by unfold maxLen; omega, by rw [outA_size, hl0]; omega, ?_⟩⟩, hb⟩
  · have := (own_block h.outer).1
    have := (own_block h.outer).2.1
    omega
  · have e1 : scaleL (rowV M i C) (rowV M r C) f.v = rowV (addM M i r f) i C := by
      unfold scaleL
      rw [hl0]
      unfold rowV
      refine List.map_congr_left fun c hc => ?_
      have hc := List.mem_range.1 hc
      show scaleAt (rowV M i C) (rowV M r C) f.v c = _
      unfold scaleAt addM
      rw [if_pos (by rw [hl1]; exact hc), rowV_rd hc, rowV_rd hc, if_pos rfl, Int.toNat_natCast, Int.toNat_natCast]
      rw [add_v, mul_comm_, mul_v]
    have e2 := outA_list (rowV M i C) (rowV M r C) f.v
    rw [hl0] at e2
    rw [e2, e1, List.take_of_length_le (by simp [nums, rowV_length])]
theorem redF_zero (N : Nat) (A : Mat) (r j : Nat) : redF N A r j 0 = (A, r) := rfl
theorem redF_full {N : Nat} {A : Mat} {j : Nat} : ∀ d, redF N A N j d = (A, N)
  | 0 => rfl
  | d + 1 => by unfold redF; rw [if_pos rfl]
theorem pivF_none {A : Mat} {j : Nat} : ∀ (n r : Nat), (∀ i, r ≤ i → i < r + n → A i j = 0) → pivF A j r n = r + n
  | 0, r, _ => rfl
  | n + 1, r, h => by
    unfold pivF
    rw [if_pos (h r (Nat.le_refl _) (by omega)), pivF_none n (r + 1) (fun i h1 h2 => h i (by omega) (by omega))]
    omega
theorem pivF_at {A : Mat} {j : Nat} : ∀ (n r i : Nat), r ≤ i → i < r + n → (∀ k, r ≤ k → k < i → A k j = 0) → A i j ≠ 0 → pivF A j r n = i
  | 0, r, i, h1, h2, _, _ => absurd h2 (by omega)
  | n + 1, r, i, h1, h2, hz, h0 => by
    unfold pivF
    by_cases e : r = i
    · subst e
      rw [if_neg h0]
    · rw [if_pos (hz r (Nat.le_refl _) (by omega))]
      exact pivF_at n (r + 1) i (by omega) (by omega) (fun k h1 h2 => hz k (by omega) h2) h0
theorem redF_none {N : Nat} {A : Mat} {r j d : Nat} (hr : r < N) (hz : ∀ i, r ≤ i → i < N → A i j = 0) : redF N A r j (d + 1) = redF N A r (j + 1) d := by
  rw [redF, if_neg (by omega), pivF_none (N - r) r (fun i h1 h2 => hz i h1 (by omega)), if_pos (by omega)]
theorem redF_some {N : Nat} {A : Mat} {r j d i : Nat} (hr : r ≤ i) (hi : i < N) (hz : ∀ k, r ≤ k → k < i → A k j = 0) (h0 : A i j ≠ 0) : redF N A r j (d + 1) = redF N (elimF (swapF A r i) r j) (r + 1) (j + 1) d := by
  rw [redF, if_neg (by omega), pivF_at (N - r) r i hr (by omega) hz h0, if_neg (by omega)]
/-- A row scaled in its first k columns. -/
def scaleK (A : Mat) (r j k : Nat) : Mat := fun i c => if i = r ∧ c < k then scaleF A r j c else A i c
theorem scaleK_step (A : Mat) (r j k : Nat) {N C : Nat} : ∀ i, i < N → ∀ c, c < C → updM (scaleK A r j k) r k (scaleK A r j k r k * inv (A r j)) i c = scaleK A r j (k + 1) i c := fun i _ c _ => by
  unfold updM scaleK
  by_cases h1 : i = r
  · by_cases h2 : c = k
    · rw [if_pos h1, if_pos h2, if_neg (fun h => absurd h.2 (by omega)), if_pos ⟨h1, by omega⟩, h2]; rfl
    · rw [if_pos h1, if_neg h2]
      by_cases h3 : c < k
      · rw [if_pos ⟨h1, h3⟩, if_pos ⟨h1, by omega⟩]
      · rw [if_neg (fun h => h3 h.2), if_neg (fun h => absurd h.2 (by omega))]
  · rw [if_neg h1, if_neg (fun h => h1 h.1), if_neg (fun h => h1 h.1)]
/-- The rows before i have been cleared in column j, all but row r; row r is scaled. -/
def clearK (A : Mat) (r j i : Nat) : Mat := fun k c => if k = r then scaleF A r j c else if k < i then A k c + A k j * scaleF A r j c else A k c
theorem clearK_zero (A : Mat) (r j : Nat) {N C : Nat} : ∀ i, i < N → ∀ c, c < C → scaleK A r j C i c = clearK A r j 0 i c := fun i _ c hc => by
  unfold scaleK clearK
  by_cases h1 : i = r
  · rw [if_pos ⟨h1, hc⟩, if_pos h1]
  · rw [if_neg (fun h => h1 h.1), if_neg h1, if_neg (by omega)]
theorem clearK_full (A : Mat) (r j N : Nat) {C : Nat} : ∀ i, i < N → ∀ c, c < C → clearK A r j N i c = elimF A r j i c := fun i hi c _ => by
  unfold clearK elimF
  by_cases h1 : i = r
  · rw [if_pos h1, if_pos h1]
  · rw [if_neg h1, if_neg h1, if_pos hi]
theorem clearK_skip (A : Mat) (r j k : Nat) {N C : Nat} (h : k = r ∨ A k j = 0) : ∀ i, i < N → ∀ c, c < C → clearK A r j k i c = clearK A r j (k + 1) i c := fun i _ c _ => by
  unfold clearK
  by_cases h1 : i = r
  · rw [if_pos h1, if_pos h1]
  · rw [if_neg h1, if_neg h1]
    by_cases h2 : i = k
    · rcases h with h | h
      · omega
      · rw [if_neg (by omega), if_pos (by omega), h2, h, zero_mul_, add_zero_]
    · by_cases h3 : i < k
      · rw [if_pos h3, if_pos (by omega)]
      · rw [if_neg h3, if_neg (by omega)]
theorem clearK_col (A : Mat) (r j k : Nat) (h : k ≠ r) : clearK A r j k k j = A k j := by unfold clearK; rw [if_neg h, if_neg (by omega)]
theorem clearK_add (A : Mat) (r j k : Nat) (h : k ≠ r) {N C : Nat} : ∀ i, i < N → ∀ c, c < C → addM (clearK A r j k) k r (A k j) i c = clearK A r j (k + 1) i c := fun i _ c _ => by
  unfold addM
  by_cases h2 : i = k
  · rw [if_pos h2]
    unfold clearK
    rw [if_neg h, if_neg (by omega), if_pos rfl, if_neg (by omega), if_pos (by omega), h2]
  · rw [if_neg h2]
    unfold clearK
    by_cases h1 : i = r
    · rw [if_pos h1, if_pos h1]
    · rw [if_neg h1, if_neg h1]
      by_cases h3 : i < k
      · rw [if_pos h3, if_pos (by omega)]
      · rw [if_neg h3, if_neg (by omega)]
/-- How the call ends. -/
def RedPost (B G cap N C cols : Nat) (M : Mat) (w : World) (e : Ending) (w' : World) : Prop :=
  e = .returned (.int .i64 (rankF N cols M : Nat)) ∧ ∃ g cp, MatO w' B G cap g cp N C (formF N cols M) ∧ Below B w w'
set_option maxRecDepth 100000 in
set_option maxHeartbeats 4000000 in
theorem reduce_walk {N C cols : Nat} (hN : N ≤ 1000) (hC : C ≤ 1000) (hcols : cols ≤ C) (M : Mat) (w : World) (B G cap : Nat) (g0 cp0 : Nat → Nat) (hM : MatO w B G cap g0 cp0 N C M) :
    Calls Try.prog 40 #[.slice (some ⟨G, 0, none⟩) N cap, .int .i64 (cols : Nat)] w (RedPost B G cap N C cols M w) := by
  have hW0 : Aside0 (Below B w w) := ⟨Below.refl _ _⟩
  have HM0 := Aside0.mk hM
  have hcap := Lib.hid (own_cap hM.outer)
  clear hM
  go_enter Try.func40, Try.ntmps40
  go_wp2
  go_step3
  go_wp2
  go_step3
  go_wp2
  go_loopg [5, 13] (cols + 1) (fun kq v5 v13 W => ∃ (r j : Nat) (A : Mat) (g cp : Nat → Nat), Hid (kq + j = cols + 1) ∧ j ≤ cols ∧ r ≤ N ∧ v5 = .int .i64 (r : Nat) ∧ v13 = .int .i64 (j : Nat) ∧ Hid (redF N A r j (cols - j) = redF N M 0 0 cols) ∧ Aside0 (MatO W B G cap g cp N C A) ∧ Aside0 (Below B w W))
  case atStart => exact ⟨0, 0, M, g0, cp0, Lib.hid (by omega), by omega, by omega, rfl, rfl, Lib.hid rfl, HM0, hW0⟩
  case round =>
    clear HM0 hW0
    obtain ⟨r, j, A, g, cp, HK, hj, hr, rfl, rfl, HR, HM, HB⟩ := hrel
    by_cases hjc : j < cols
    · have hj1 : decide ((j : Int) < (cols : Int)) = true := decide_eq_true (by omega)
      have hj2 : decide (j < cols) = true := decide_eq_true hjc
      go_wp2
      go_loopg [7] (N + 1 - r) (fun kq2 v7 W => ∃ i : Nat, Hid (kq2 + i = N + 1) ∧ r ≤ i ∧ i ≤ N ∧ v7 = .int .i64 (i : Nat) ∧ Hid (∀ k, r ≤ k → k < i → A k j = 0) ∧ Aside0 (MatO W B G cap g cp N C A) ∧ Aside0 (Below B w W))
      case atStart => exact ⟨r, Lib.hid (by omega), Nat.le_refl _, hr, rfl, Lib.hid (fun k h1 h2 => absurd h2 (by omega)), HM, HB⟩
      case round =>
        clear HM HB
        obtain ⟨i, HK2, hri, hiN, rfl, HZ, HM, HB⟩ := hrel
        by_cases hrN : r = N
        · have hrN1 : ((r : Int) == (N : Int)) = true := beq_iff_eq.2 (by omega)
          have hrN2 : (r == N) = true := beq_iff_eq.2 hrN
          have HRN := Lib.hid hrN
          clear hrN
          go_wp2
          rw [Exit.noGoto_ret]
          go_ret
          have hrn := HRN.out
          subst hrn
          have e := HR.out
          rw [redF_full] at e
          have e1 : rankF r cols M = r := by unfold rankF; rw [← e]
          have e2 : formF r cols M = A := by unfold formF; rw [← e]
          exact ⟨by rw [e1]; rfl, g, cp, by rw [e2]; exact HM.out, HB.out⟩
        have hrN1 : ((r : Int) == (N : Int)) = false := beq_eq_false_iff_ne.2 (by omega)
        have hrN2 : (r == N) = false := beq_eq_false_iff_ne.2 hrN
        by_cases hiN2 : i = N
        · have hiN3 : ((i : Int) == (N : Int)) = true := beq_iff_eq.2 (by omega)
          have hiN4 : (i == N) = true := beq_iff_eq.2 hiN2
          have HIN := Lib.hid hiN2
          have HRN := Lib.hid hrN
          clear hiN2 hrN
          go_wp2
          go_roundg (cols + 1 - (j + 1))
          case measure => have := HK.out; omega
          case rel =>
            have hi := HIN.out
            have hrn := HRN.out
            refine ⟨r, j + 1, A, g, cp, Lib.hid (by have := HK.out; omega), by omega, hr, rfl, by go_num, Lib.hid ?_, HM, HB⟩
            rw [← HR.out, show cols - j = (cols - (j + 1)) + 1 by omega, redF_none (by omega) (fun k h1 h2 => HZ.out k h1 (by omega))]
        have hiN3 : ((i : Int) == (N : Int)) = false := beq_eq_false_iff_ne.2 (by omega)
        have hiN4 : (i == N) = false := beq_eq_false_iff_ne.2 hiN2
        have hi : i < N := by omega
        have hri2 : r < N := by omega
        obtain ⟨e1, e2⟩ := HM.out.outerCell hi
        obtain ⟨e3, e4⟩ := HM.out.elt hi (show j < C by omega)
        clear hiN2 hrN
        by_cases h0 : A i j = 0
        · rw [h0] at e3
          rw [zero_v] at e3
          have HZ2 : Hid (∀ k, r ≤ k → k < i + 1 → A k j = 0) := Lib.hid fun k h1 h2 => by
            by_cases e : k = i
            · rw [e]; exact h0
            · exact HZ.out k h1 (by omega)
          clear h0
          go_wp2
          go_roundg (N + 1 - (i + 1))
          case measure => have := HK2.out; omega
          case rel => exact ⟨i + 1, Lib.hid (by have := HK2.out; omega), by omega, by omega, by go_num, HZ2, HM, HB⟩
        · have hv := ne_v h0
          have hn1 : (((A i j).v : Int) == 0) = false := beq_eq_false_iff_ne.2 (by omega)
          have hn2 : (((A i j).v : Int) != 0) = true := by simp only [bne, hn1]; rfl
          obtain ⟨e5, e6⟩ := HM.out.outerCell hri2
          have H0 := Lib.hid h0
          have HRI := Lib.hid hri
          have hs1 : (wr.setCell ⟨G, r, none⟩ (.slice (some ⟨g i, 0, none⟩) C (cp i))).cell? ⟨G, i, none⟩ = some (.slice (some ⟨g i, 0, none⟩) C (cp i)) := by
            by_cases e : r = i
            · subst e; exact World.cell?_setCell_same' _ _ _ (by rw [e1]; rfl)
            · rw [World.cell?_setCell_other _ _ _ _ (by simpa using e)]; exact e1
          clear hv h0
          go_wp2
          go_region
          have HM1 := Aside0.mk (HM.out.swap hri2 hi).drew
          have HB1 : Aside0 (Below B w ((wr.setCell ⟨G, r, none⟩ (.slice (some ⟨g i, 0, none⟩) C (cp i))).setCell ⟨G, i, none⟩ (.slice (some ⟨g r, 0, none⟩) C (cp r))).drew) :=
            ⟨below_drew ((HB.out.setCell (p := ⟨G, r, none⟩) (own_block HM.out.outer).1 _).setCell (p := ⟨G, i, none⟩) (own_block HM.out.outer).1 _)⟩
          have H1 : Hid (swapF A r i r j ≠ 0) := Lib.hid (by unfold swapF; rw [if_pos rfl]; exact H0.out)
          have HR1 : Hid (redF N (elimF (swapF A r i) r j) (r + 1) (j + 1) (cols - (j + 1)) = redF N M 0 0 cols) := Lib.hid (by
            rw [← HR.out, show cols - j = (cols - (j + 1)) + 1 by omega, redF_some HRI.out hi HZ.out H0.out])
          clear e1 e2 e3 e4 e5 e6 hs1 hn1 hn2 HM HB HR HZ H0
          generalize ((wr.setCell ⟨G, r, none⟩ (.slice (some ⟨g i, 0, none⟩) C (cp i))).setCell ⟨G, i, none⟩ (.slice (some ⟨g r, 0, none⟩) C (cp r))).drew = W1 at HM1 HB1 ⊢
          generalize swN g r i = g1 at HM1
          generalize swN cp r i = cp1 at HM1
          generalize swapF A r i = A1 at HM1 H1 HR1
          obtain ⟨e1, e2⟩ := HM1.out.outerCell hri2
          obtain ⟨e3, e4⟩ := HM1.out.elt hri2 (show j < C by omega)
          go_wp2_with (go_at_call 31; refine (inv_calls (A1 r j) H1.out _).mono ?_; rintro e_ W2 ⟨rfl, hb2⟩; have HM2 := Aside0.mk (HM1.out.below hb2); have HB2 : Aside0 (Below B w W2) := ⟨HB1.out.trans (hb2.mono (by have := (own_block HM1.out.outer).1; have := (own_block HM1.out.outer).2.1; omega))⟩; clear e1 e2 e3 e4 hb2 HB1 HM1; obtain ⟨e1, e2⟩ := HM2.out.outerCell hri2)
          go_loopg [67] (C + 1) (fun kq3 v67 W => ∃ k : Nat, Hid (kq3 + k = C + 1) ∧ k ≤ C ∧ v67 = .int .i64 (k : Nat) ∧ Aside0 (MatO W B G cap g1 cp1 N C (scaleK A1 r j k)) ∧ Aside0 (Below B w W))
          case atStart => exact ⟨0, Lib.hid (by omega), Nat.zero_le _, rfl, ⟨HM2.out.agree (fun i _ c _ => by unfold scaleK; rw [if_neg (fun h => absurd h.2 (by omega))])⟩, HB2⟩
          case round =>
            clear HM2 HB2 e1 e2
            obtain ⟨k, HK3, hkC, rfl, HM, HB⟩ := hrel
            obtain ⟨e1, e2⟩ := HM.out.outerCell hri2
            by_cases hlt : k < C
            · obtain ⟨e3, e4⟩ := HM.out.elt hri2 hlt
              have hk1 : decide ((k : Int) < (C : Int)) = true := decide_eq_true (by omega)
              have hk2 : decide (k < C) = true := decide_eq_true hlt
              go_wp2
              go_region_law (go_simp; go_at_call 32; refine (mul_calls _ _ _).mono ?_; rintro e_ w_ ⟨rfl, nq, rfl⟩)
              all_goals (
                go_wp2
                go_roundg (C + 1 - (k + 1))
                case measure => have := HK3.out; omega
                case rel =>
                  have hm := (HM.out.setElt k (scaleK A1 r j k r k * inv (A1 r j)) hri2).agree (M' := scaleK A1 r j (k + 1)) (scaleK_step A1 r j k)
                  have hb := HB.out.setCell (p := ⟨g1 r, k, none⟩) (own_block (HM.out.inner r hri2)).1 (.int .u8 ((scaleK A1 r j k r k * inv (A1 r j)).v : Int))
                  exact ⟨k + 1, Lib.hid (by have := HK3.out; omega), by omega, by go_num, ⟨hm.step rfl (fun _ _ => rfl)⟩, ⟨⟨hb.os, hb.tape, hb.output, hb.size, hb.block⟩⟩⟩)
            · have hk1 : decide ((k : Int) < (C : Int)) = false := decide_eq_false (by omega)
              have hk2 : decide (k < C) = false := decide_eq_false hlt
              have hkC2 : k = C := by omega
              have HM3 := Aside0.mk (HM.out.agree (M' := clearK A1 r j 0) (by rw [hkC2]; exact clearK_zero A1 r j))
              clear HM hkC2 e1 e2
              go_wp2
              go_loopg [88] (N + 1) (fun kq4 v88 W => ∃ (k : Nat) (g cp : Nat → Nat), Hid (kq4 + k = N + 1) ∧ k ≤ N ∧ v88 = .int .i64 (k : Nat) ∧ Aside0 (MatO W B G cap g cp N C (clearK A1 r j k)) ∧ Aside0 (Below B w W))
              case atStart => exact ⟨0, g1, cp1, Lib.hid (by omega), Nat.zero_le _, rfl, HM3, HB⟩
              case round =>
                clear HM3 HB
                obtain ⟨k2, g2, cp2, HK4, hkN, rfl, HM, HB⟩ := hrel
                by_cases hkl : k2 < N
                · have hl1 : decide ((k2 : Int) < (N : Int)) = true := decide_eq_true (by omega)
                  have hl2 : decide (k2 < N) = true := decide_eq_true hkl
                  by_cases hkr : k2 = r
                  · have hx1 : ((k2 : Int) == (r : Int)) = true := beq_iff_eq.2 (by omega)
                    have hx2 : ((k2 : Int) != (r : Int)) = false := bne_eq_false_iff_eq.2 (by omega)
                    have hx3 : (k2 == r) = true := beq_iff_eq.2 hkr
                    have HM4 := Aside0.mk (HM.out.agree (clearK_skip A1 r j k2 (.inl hkr)))
                    clear HM hkr
                    go_wp2
                    go_roundg (N + 1 - (k2 + 1))
                    case measure => have := HK4.out; omega
                    case rel => exact ⟨k2 + 1, g2, cp2, Lib.hid (by have := HK4.out; omega), by omega, by go_num, HM4, HB⟩
                  have hx1 : ((k2 : Int) == (r : Int)) = false := beq_eq_false_iff_ne.2 (by omega)
                  have hx2 : ((k2 : Int) != (r : Int)) = true := bne_iff_ne.2 (by omega)
                  have hx3 : (k2 == r) = false := beq_eq_false_iff_ne.2 hkr
                  obtain ⟨e1, e2⟩ := HM.out.outerCell hkl
                  obtain ⟨e3, e4⟩ := HM.out.elt hkl (show j < C by omega)
                  rw [clearK_col A1 r j k2 hkr] at e3
                  by_cases h0 : A1 k2 j = 0
                  · rw [h0, zero_v] at e3
                    have HM4 := Aside0.mk (HM.out.agree (clearK_skip A1 r j k2 (.inr h0)))
                    clear HM hkr h0
                    go_wp2
                    go_roundg (N + 1 - (k2 + 1))
                    case measure => have := HK4.out; omega
                    case rel => exact ⟨k2 + 1, g2, cp2, Lib.hid (by have := HK4.out; omega), by omega, by go_num, HM4, HB⟩
                  · have hv := ne_v h0
                    have hn1 : (((A1 k2 j).v : Int) == 0) = false := beq_eq_false_iff_ne.2 (by omega)
                    have hn2 : (((A1 k2 j).v : Int) != 0) = true := by simp only [bne, hn1]; rfl
                    obtain ⟨e5, e6⟩ := HM.out.outerCell hri2
                    have HKR := Lib.hid hkr
                    have hjC : j < C := by omega
                    have hjC1 : (j : Int) < (C : Int) := by omega
                    have hjC2 : (0 : Int) ≤ (j : Int) := by omega
                    clear hv h0 hkr
                    go_wp2
                    go_region_law (go_simp; go_at_call 59; refine (scale_calls (B := B) (G := G) (cap := cap) (g := g2) (cp := cp2) (M := clearK A1 r j k2) (HM.out.step (by rfl) (by intro _ _; rfl)) hkl hri2 hC (A1 k2 j)).mono ?_; rintro e_ w1 ⟨rfl, ho1, hb1⟩; have HO1 := Aside0.mk ho1; have HB1 := Aside0.mk hb1; have HM1 : Aside0 (MatO w1 B G cap g2 cp2 N C (clearK A1 r j k2)) := ⟨MatO.below (HM.out.step (by rfl) (by intro _ _; rfl)) hb1⟩; clear ho1 hb1; obtain ⟨e7, e8⟩ := HM1.out.outerCell hkl)
                    all_goals (
                      go_wp2
                      go_roundg (N + 1 - (k2 + 1))
                      case measure => have := HK4.out; omega
                      case rel =>
                        have hlow : B ≤ wr.heap.size := by have := (own_block HM.out.outer).1; have := (own_block HM.out.outer).2.1; omega
                        have hm := HM1.out.setRow hkl (p := wr.heap.size) (q := C) (M' := addM (clearK A1 r j k2) k2 r (A1 k2 j)) HO1.out (fun k hk _ => by have := (own_block (HM.out.inner k hk)).2.1; omega) (fun k _ hk c _ => by unfold addM; rw [if_neg hk])
                        have hm2 := hm.agree (clearK_add A1 r j k2 HKR.out)
                        have hb := (HB.out.trans (Below.mono (B := wr.heap.size) ⟨HB1.out.os, HB1.out.tape, HB1.out.output, HB1.out.size, HB1.out.block⟩ hlow)).setCell (p := ⟨G, k2, none⟩) (own_block HM.out.outer).1 (.slice (some ⟨wr.heap.size, 0, none⟩) C C)
                        exact ⟨k2 + 1, _, _, Lib.hid (by have := HK4.out; omega), by omega, by go_num, ⟨hm2.step rfl (fun _ _ => rfl)⟩, ⟨⟨hb.os, hb.tape, hb.output, hb.size, hb.block⟩⟩⟩)
                · have hl1 : decide ((k2 : Int) < (N : Int)) = false := decide_eq_false (by omega)
                  have hl2 : decide (k2 < N) = false := decide_eq_false hkl
                  have hkN2 : k2 = N := by omega
                  have HM4 := Aside0.mk (HM.out.agree (M' := elimF A1 r j) (by rw [hkN2]; exact clearK_full A1 r j N))
                  clear HM hkN2
                  go_wp2
                  go_roundg (cols + 1 - (j + 1))
                  case measure => have := HK.out; omega
                  case rel => exact ⟨r + 1, j + 1, _, g2, cp2, Lib.hid (by have := HK.out; omega), by omega, by omega, by go_num, by go_num, HR1, HM4, HB⟩
    · have hj1 : decide ((j : Int) < (cols : Int)) = false := decide_eq_false (by omega)
      have hj2 : decide (j < cols) = false := decide_eq_false hjc
      go_wp2
      go_ret
      have e : j = cols := by omega
      subst e
      have e := HR.out
      rw [Nat.sub_self, redF_zero] at e
      have e1 : rankF N j M = r := by unfold rankF; rw [← e]
      have e2 : formF N j M = A := by unfold formF; rw [← e]
      exact ⟨by rw [e1]; rfl, g, cp, by rw [e2]; exact HM.out, HB.out⟩
end Go.Proofs.Ytmlfpcnemganbaa.Q
/- matrix.Rank: what it answers. -/
namespace Go.Proofs.Ytmlfpcnemganbaa.Q
open Go.RowKit Go.Proofs.YtmlfpcnemganbaaW.PrintWords Go.Proofs.YtmlfpcnemganbaaW.PrintLast Go.Proofs.YtmlfpcnemganbaaW.PrintMore
open Go.Proofs.Ytmlfpcnemganbaa.Gf Go.Proofs.Ytmlfpcnemganbaa.Lin Go.Proofs.Ytmlfpcnemganbaa.Evs
set_option linter.unusedVariables false
set_option linter.unnecessarySimpa false
theorem valid_calls (A0 : Option Addr) (c0 : Nat) (l : List (List Int)) (w : World) (hC : Kd.C (Kd.slice 5 (Kd.int .u8)) w A0 l.length l) (hc : l.length ≤ c0) :
    Calls Try.prog 38 #[.slice A0 l.length c0] w fun e w' => e = .returned (.bool (decide (isV l))) ∧ ∃ n, w' = w.drewN n := by
  obtain ⟨k, hk⟩ := Ev.rounds (valid_ev l)
  exact (matrix_Valid.calls k A0 c0 l _ w hC hc hk).mono fun e w' ⟨he, hd⟩ => ⟨he, hd.out⟩
theorem valid_calls2 {N C : Nat} {M : Mat} (h1 : 1 ≤ N) (h2 : N ≤ 64) (h3 : 1 ≤ C) (h4 : C ≤ 64) (A0 : Option Addr) (c0 : Nat) (w : World) (hC : Kd.C (Kd.slice 5 (Kd.int .u8)) w A0 N (rowsL M N C)) (hc : N ≤ c0) :
    Calls Try.prog 38 #[.slice A0 N c0] w fun e w' => e = .returned (.bool true) ∧ ∃ n, w' = w.drewN n := by
  have h := valid_calls A0 c0 (rowsL M N C) w (by rw [rowsL_length]; exact hC) (by rw [rowsL_length]; exact hc)
  rw [rowsL_length, decide_eq_true (isV_rowsL h1 h2 h3 h4)] at h
  exact h
theorem copied_calls {N C : Nat} {M : Mat} (h1 : 1 ≤ N) (h2 : N ≤ 64) (h3 : 1 ≤ C) (h4 : C ≤ 64) (A0 : Option Addr) (c0 : Nat) (w : World) (hC : Kd.C (Kd.slice 5 (Kd.int .u8)) w A0 N (rowsL M N C)) (hc : N ≤ c0) :
    Calls Try.prog 39 #[.slice A0 N c0] w fun e w' => ∃ (G cap : Nat) (g cp : Nat → Nat), e = .returned (.slice (some ⟨G, 0, none⟩) N cap) ∧ MatO w' w.heap.size G cap g cp N C M ∧ Below w.heap.size w w' := by
  obtain ⟨k, hk⟩ := Ev.rounds (copied_ev (l := rowsL M N C) (by rw [rowsL_length]; omega) (fun r hr => by rw [rowsL_rect r hr]; omega))
  have h := matrix_copied_byte.calls k A0 c0 (rowsL M N C) _ w (by rw [rowsL_length]; exact hC) (by rw [rowsL_length]; exact hc) hk
  rw [rowsL_length] at h
  refine h.mono fun e w' ⟨v, he, hS, hb⟩ => ?_
  obtain ⟨G, cap, g, cp, rfl, hm⟩ := MatO.of_S hS (by omega) (by omega)
  exact ⟨G, cap, g, cp, he, hm, hb⟩
/-- The first row's slice, of a matrix that is read. -/
theorem first_row {N C : Nat} {M : Mat} (h1 : 1 ≤ N) (A0 : Option Addr) (w : World) (hC : Kd.C (Kd.slice 5 (Kd.int .u8)) w A0 N (rowsL M N C)) : ∃ (ad : Addr) (A : Option Addr) (c : Nat), A0 = some ad ∧ w.cell? ad = some (.slice A C c) := by
  obtain ⟨ad, A, c, rfl, hx, _, _⟩ := at_L1 hC 0 (by omega) (by omega)
  have e : rd_L1 (rowsL M N C) 0 = rowV M 0 C := rd_rows (i := 0) (by omega)
  rw [e, rowV_length] at hx
  exact ⟨ad, A, c, rfl, hx⟩
end Go.Proofs.Ytmlfpcnemganbaa.Q
/- matrix.Invert: what it answers. -/
namespace Go.Proofs.Ytmlfpcnemganbaa.Q
open Go.RowKit Go.Proofs.YtmlfpcnemganbaaW.PrintWords Go.Proofs.YtmlfpcnemganbaaW.PrintLast Go.Proofs.YtmlfpcnemganbaaW.PrintMore
open Go.Proofs.Ytmlfpcnemganbaa.Gf Go.Proofs.Ytmlfpcnemganbaa.Lin Go.Proofs.Ytmlfpcnemganbaa.Evs
set_option linter.unusedVariables false
set_option linter.unnecessarySimpa false
/-- Rows of any lengths, the first m of them known. -/
structure MatQ (W : World) (B G cap : Nat) (g cp : Nat → Nat) (N : Nat) (rows : Nat → List Int) (m : Nat) : Prop where
  outer : ∃ inner, W.ownsRow B 33 1 (.slice (some ⟨G, 0, none⟩) N cap) N inner ∧ ∀ k, k < m → inner[k]? = some (.slice (some ⟨g k, 0, none⟩) (rows k).length (cp k))
  inner : ∀ k, k < m → W.ownsRow B 5 1 (.slice (some ⟨g k, 0, none⟩) (rows k).length (cp k)) (rows k).length (nums .u8 (rows k))
  inj : ∀ k l, k < m → l < m → g k = g l → k = l
def updA {α : Type} (f : Nat → α) (i : Nat) (x : α) : Nat → α := fun k => if k = i then x else f k
theorem updA_at {α : Type} (f : Nat → α) (i : Nat) (x : α) : updA f i x i = x := if_pos rfl
theorem updA_ne {α : Type} (f : Nat → α) {i k : Nat} (x : α) (h : k ≠ i) : updA f i x k = f k := if_neg h
section
variable {W W' W2 : World} {B G cap : Nat} {g cp : Nat → Nat} {N m : Nat} {rows : Nat → List Int}
theorem MatQ.own (h : MatQ W B G cap g cp N rows m) : B ≤ G ∧ G < W.heap.size ∧ ∃ cells, W.heap[G]? = some (.cells cells 33 (0, 0)) := by
  obtain ⟨inner, ho, _⟩ := h.outer
  exact own_block ho
theorem MatQ.ne (h : MatQ W B G cap g cp N rows m) {k : Nat} (hk : k < m) : G ≠ g k := by
  obtain ⟨inner, ho, _⟩ := h.outer
  exact own_apart ho (h.inner k hk) (by decide)
theorem MatQ.cell (h : MatQ W B G cap g cp N rows m) {k : Nat} (hk : k < m) : W.cell? ⟨G, k, none⟩ = some (.slice (some ⟨g k, 0, none⟩) (rows k).length (cp k)) ∧ W.frozen? ⟨G, k, none⟩ = false := by
  obtain ⟨inner, ho, hi⟩ := h.outer
  have hc := ho.cells (g := G) rfl k _ (hi k hk)
  rw [add_plain] at hc
  exact ⟨hc, own_frozen ho k⟩
theorem MatQ.some_cell (h : MatQ W B G cap g cp N rows m) {k : Nat} (hk : k < N) : ∃ u, W.cell? ⟨G, k, none⟩ = some u ∧ W.frozen? ⟨G, k, none⟩ = false := by
  obtain ⟨inner, ho, _⟩ := h.outer
  have hl : inner.length = N * 1 := ho.1
  have hc := ho.cells (g := G) rfl k _ (List.getElem?_eq_getElem (show k < inner.length by omega))
  rw [add_plain] at hc
  exact ⟨_, hc, own_frozen ho k⟩
theorem MatQ.step (h : MatQ W B G cap g cp N rows m) (hG : W'.heap[G]? = W.heap[G]?) (hg : ∀ i, i < m → W'.heap[g i]? = W.heap[g i]?) : MatQ W' B G cap g cp N rows m := by
  obtain ⟨inner, ho, hi⟩ := h.outer
  exact ⟨⟨inner, own_move ho (fun k hk => by cases hk; exact hG), hi⟩, fun i hi => own_move (h.inner i hi) (fun k hk => by cases hk; exact hg i hi), h.inj⟩
theorem MatQ.below (h : MatQ W B G cap g cp N rows m) (hb : Below W.heap.size W W') : MatQ W' B G cap g cp N rows m :=
  h.step (hb.block G h.own.2.1) (fun i hi => hb.block _ (own_block (h.inner i hi)).2.1)
/-- A row is put in. -/
theorem MatQ.put (h : MatQ W B G cap g cp N rows m) {i p q : Nat} {row : List Int} (hiN : i < N) (him : i ≤ m) (hG : W2.heap[G]? = W.heap[G]?) (hg : ∀ k, k < m → k ≠ i → W2.heap[g k]? = W.heap[g k]?)
    (hp : W2.ownsRow B 5 1 (.slice (some ⟨p, 0, none⟩) row.length q) row.length (nums .u8 row)) (hnew : ∀ k, k < m → k ≠ i → g k ≠ p) :
    MatQ (W2.setCell ⟨G, i, none⟩ (.slice (some ⟨p, 0, none⟩) row.length q)) B G cap (updA g i p) (updA cp i q) N (updA rows i row) (max m (i + 1)) := by
  obtain ⟨inner, ho, hi⟩ := h.outer
  have ho2 := own_move (w1 := W2) ho (fun k hk => by cases hk; exact hG)
  have hGp : G ≠ p := own_apart ho2 hp (by decide)
  have hil : inner.length = N * 1 := ho.1
  have hlt : ∀ k, k < max m (i + 1) → k ≠ i → k < m := fun k h1 h2 => by omega
  refine ⟨⟨_, (ho2.stored i _).1, fun k hk => ?_⟩, fun k hk => ?_, fun k l hk hl e => ?_⟩
  · rw [List.getElem?_set]
    by_cases e : i = k
    · subst e
      rw [if_pos rfl, if_pos (by omega), updA_at, updA_at, updA_at]
    · rw [if_neg e, updA_ne _ _ (Ne.symm e), updA_ne _ _ (Ne.symm e), updA_ne _ _ (Ne.symm e)]
      exact hi k (hlt k hk (Ne.symm e))
  · by_cases e : k = i
    · subst e
      rw [updA_at, updA_at, updA_at]
      exact own_setCell hp (fun e2 => hGp (by simpa [Value.ownBlock] using e2)) _
    · rw [updA_ne _ _ e, updA_ne _ _ e, updA_ne _ _ e]
      have hk' := hlt k hk e
      exact own_setCell (own_move (h.inner k hk') (fun k2 hk2 => by cases hk2; exact hg k hk' e)) (fun e2 => h.ne hk' (by simpa [Value.ownBlock] using e2)) _
  · by_cases e1 : k = i
    · by_cases e2 : l = i
      · omega
      · rw [e1, updA_at, updA_ne _ _ e2] at e
        exact absurd e.symm (hnew l (hlt l hl e2) e2)
    · by_cases e2 : l = i
      · rw [e2, updA_at, updA_ne _ _ e1] at e
        exact absurd e (hnew k (hlt k hk e1) e1)
      · rw [updA_ne _ _ e1, updA_ne _ _ e2] at e
        exact h.inj k l (hlt k hk e1) (hlt l hl e2) e
theorem MatO.toQ {C : Nat} {M : Mat} (h : MatO W B G cap g cp N C M) : MatQ W B G cap g cp N (fun k => rowV M k C) N :=
  ⟨⟨_, h.outer, fun k hk => by rw [rowV_length]; exact outV_get hk⟩, fun k hk => by rw [rowV_length]; exact h.inner k hk, h.inj⟩
theorem MatQ.toO {C : Nat} {M : Mat} (h : MatQ W B G cap g cp N rows m) (hm : m = N) (hr : ∀ k, k < N → rows k = rowV M k C) : MatO W B G cap g cp N C M := by
  subst hm
  obtain ⟨inner, ho, hi⟩ := h.outer
  refine ⟨?_, fun k hk => ?_, h.inj⟩
  · have e : inner = outV g cp m C := by
      have hil : inner.length = m * 1 := ho.1
      apply List.ext_getElem?
      intro k
      by_cases hk : k < m
      · rw [outV_get hk, hi k hk, hr k hk, rowV_length]
      · rw [List.getElem?_eq_none (by omega), List.getElem?_eq_none (by simp [outV]; omega)]
    rw [← e]
    exact ho
  · have := h.inner k hk
    rwa [hr k hk, rowV_length] at this
theorem MatQ.congr {rows' : Nat → List Int} (h : MatQ W B G cap g cp N rows m) (hr : ∀ k, k < m → rows k = rows' k) : MatQ W B G cap g cp N rows' m := by
  obtain ⟨inner, ho, hi⟩ := h.outer
  exact ⟨⟨inner, ho, fun k hk => by rw [← hr k hk]; exact hi k hk⟩, fun k hk => by rw [← hr k hk]; exact h.inner k hk, h.inj⟩
theorem MatQ.rowR (h : MatQ W B G cap g cp N rows m) {k : Nat} (hk : k < m) : Kd.R (Kd.int .u8) 5 W B (fun _ => True) (.slice (some ⟨g k, 0, none⟩) (rows k).length (cp k)) (rows k) :=
  Kd.R_of_own (enc := Value.int .u8) (h1 := fun _ => rfl) (h.inner k hk) (fun _ _ => trivial)
end
/-- What an append to a row of one's own leaves. -/
theorem app_form {W W2 : World} {B g n c : Nat} {xs : List Int} {v2 : Value} (hl : 0 < xs.length) (h : Kd.R (Kd.int .u8) 5 W2 B (fun _ => True) v2 xs) (hat : v2.ownBlock = (Value.slice (some ⟨g, 0, none⟩) n c).ownBlock ∨ ∃ b, v2.ownBlock = some b ∧ W.heap.size ≤ b) :
    ∃ p q, v2 = .slice (some ⟨p, 0, none⟩) xs.length q ∧ W2.ownsRow B 5 1 (.slice (some ⟨p, 0, none⟩) xs.length q) xs.length (nums .u8 xs) ∧ (p = g ∨ W.heap.size ≤ p) := by
  have ho := Kd.own_of_R h
  obtain ⟨p, q, rfl, _, _⟩ := ho.form hl
  refine ⟨p, q, rfl, ho, ?_⟩
  rcases hat with hat | ⟨b, hb, hle⟩
  · exact .inl (by simpa [Value.ownBlock] using hat)
  · have : p = b := by simpa [Value.ownBlock] using hb
    exact .inr (by omega)
theorem app_new {W W2 : World} {B z : Nat} {xs : List Int} {v v2 : Value} (hl : 0 < xs.length) (h : Kd.R (Kd.int .u8) 5 W2 B (fun _ => True) v2 xs) (hz : z ≤ W.heap.size) (hv : ∀ k, v.ownBlock = some k → z ≤ k) (hat : v2.ownBlock = v.ownBlock ∨ ∃ b, v2.ownBlock = some b ∧ W.heap.size ≤ b) :
    ∃ p q, v2 = .slice (some ⟨p, 0, none⟩) xs.length q ∧ W2.ownsRow B 5 1 (.slice (some ⟨p, 0, none⟩) xs.length q) xs.length (nums .u8 xs) ∧ z ≤ p := by
  have ho := Kd.own_of_R h
  obtain ⟨p, q, rfl, _, _⟩ := ho.form hl
  refine ⟨p, q, rfl, ho, ?_⟩
  rcases hat with hat | ⟨b, hb, hle⟩
  · exact hv p (by rw [← hat]; rfl)
  · have : p = b := by simpa [Value.ownBlock] using hb
    omega
theorem aug_row (M : Mat) (n i : Nat) : rowV M i n ++ rowV dlt i n = rowV (augF n M) i (n + n) := by
  apply List.ext_getElem?
  intro c
  by_cases hc : c < n
  · rw [List.getElem?_append_left (by rw [rowV_length]; exact hc)]
    unfold rowV augF
    rw [List.getElem?_map, List.getElem?_range hc, List.getElem?_map, List.getElem?_range (by omega), Option.map_some, Option.map_some, if_pos hc]
  · rw [List.getElem?_append_right (by rw [rowV_length]; omega), rowV_length]
    by_cases hc2 : c < n + n
    · unfold rowV augF
      rw [List.getElem?_map, List.getElem?_range (show c - n < n by omega), List.getElem?_map, List.getElem?_range hc2, Option.map_some, Option.map_some, if_neg hc]
      congr 3
      unfold dlt
      by_cases e : i = c - n
      · rw [if_pos e, if_pos (by omega)]
      · rw [if_neg e, if_neg (by omega)]
    · rw [List.getElem?_eq_none (by rw [rowV_length]; omega), List.getElem?_eq_none (by rw [rowV_length]; omega)]
/-- The rows of the first loop. -/
def rowsA (n : Nat) (M : Mat) (k : Nat) : Nat → List Int := fun i => if i < k then rowV (augF n M) i (n + n) else rowV M i n
theorem rowsA_at (n : Nat) (M : Mat) (k : Nat) : rowsA n M k k = rowV M k n := if_neg (by omega)
theorem rowsA_upd (n : Nat) (M : Mat) (k : Nat) : updA (rowsA n M k) k (rowV (augF n M) k (n + n)) = rowsA n M (k + 1) := by
  funext i
  unfold updA rowsA
  by_cases e : i = k
  · rw [if_pos e, if_pos (by omega), e]
  · rw [if_neg e]
    by_cases h : i < k
    · rw [if_pos h, if_pos (by omega)]
    · rw [if_neg h, if_neg (by omega)]
theorem inv_row (n : Nat) (M : Mat) (k : Nat) : (rowV (formF n n (augF n M)) k (n + n)).drop n = rowV (invF n M) k n := by
  apply List.ext_getElem?
  intro c
  rw [List.getElem?_drop]
  by_cases hc : c < n
  · unfold rowV invF
    rw [List.getElem?_map, List.getElem?_range (by omega), List.getElem?_map, List.getElem?_range hc]; rfl
  · rw [List.getElem?_eq_none (by rw [rowV_length]; omega), List.getElem?_eq_none (by rw [rowV_length]; omega)]
def InvPost (n : Nat) (M : Mat) (w : World) (e : Ending) (w' : World) : Prop :=
  (if rankF n n M = n then ∃ v, e = .returned (.tuple #[v, .bool true]) ∧ Kd.S (Kd.slice 5 (Kd.int .u8)) 33 w' w.heap.size (fun _ => True) v (rowsL (invF n M) n n) else e = .returned (.tuple #[.slice none 0 0, .bool false])) ∧ Below w.heap.size w w'
theorem ident_calls {n : Nat} (h1 : 1 ≤ n) (h2 : n ≤ 64) (w : World) :
    Calls Try.prog 36 #[.int .i64 (n : Nat)] w fun e w' => ∃ (G cap : Nat) (g cp : Nat → Nat), e = .returned (.slice (some ⟨G, 0, none⟩) n cap) ∧ MatO w' w.heap.size G cap g cp n n dlt ∧ Below w.heap.size w w' := by
  obtain ⟨k, hk⟩ := Ev.rounds (ident_ev (n : Nat))
  rw [if_pos (by omega), Int.toNat_natCast] at hk
  refine (matrix_Identity.calls k _ _ w hk).mono fun e w' ⟨v, he, hS, hb⟩ => ?_
  obtain ⟨G, cap, g, cp, rfl, hm⟩ := MatO.of_S hS (by omega) (by omega)
  exact ⟨G, cap, g, cp, he, hm, hb⟩
set_option maxRecDepth 100000 in
set_option maxHeartbeats 4000000 in
theorem invert_walk {n : Nat} {M : Mat} (h1 : 1 ≤ n) (h2 : n ≤ 64) (A0 : Option Addr) (c0 : Nat) (w : World) (hC : Kd.C (Kd.slice 5 (Kd.int .u8)) w A0 n (rowsL M n n)) (hc : n ≤ c0) :
    Calls Try.prog 14 #[.slice A0 n c0] w (InvPost n M w) := by
  obtain ⟨ad, A, c, rfl, hx⟩ := first_row h1 A0 w hC
  have HC := Aside0.mk hC
  clear hC
  have hn0 : (0 : Int) < (n : Int) := by omega
  have hn1 : 0 < n := by omega
  go_enter Try.func14, Try.ntmps14
  go_wp2_with (first | (go_at_call 38; refine (valid_calls2 h1 h2 h1 h2 _ _ _ HC.out hc).mono ?_; rintro e_ w_ ⟨rfl, nv, rfl⟩) | (go_at_call 39; refine (copied_calls h1 h2 h1 h2 _ _ _ (Kd.C_below HC.out (pw_below_drewN (Below.refl _ _) _)) hc).mono ?_; rintro e_ w1 ⟨G, cap, g, cp, rfl, hm, hb⟩; have HM := Aside0.mk hm; have HB : Aside0 (Below w.heap.size w w1) := ⟨⟨hb.os, hb.tape, hb.output, hb.size, hb.block⟩⟩; clear hm hb) | (go_at_call 36; refine (ident_calls h1 h2 _).mono ?_; rintro e_ w2 ⟨GI, capI, gI, cpI, rfl, hm, hb⟩; have HI := Aside0.mk hm; have HB2 := Aside0.mk hb; clear hm hb))
  have hw12 : w1.heap.size ≤ w2.heap.size := HB2.out.size
  have HQ0 : Aside0 (MatQ w2 w.heap.size G cap g cp n (rowsA n M 0) n) := ⟨(HM.out.toQ.congr (fun k hk => by unfold rowsA; rw [if_neg (by omega)])).below HB2.out⟩
  have HS0 : Aside0 (G < w1.heap.size ∧ ∀ i, i < n → g i < w1.heap.size ∨ w2.heap.size ≤ g i) := ⟨(own_block HM.out.outer).2.1, fun i hi => .inl (own_block (HM.out.inner i hi)).2.1⟩
  have HSI : Aside0 ((w1.heap.size ≤ GI ∧ GI < w2.heap.size) ∧ ∀ i, i < n → w1.heap.size ≤ gI i ∧ gI i < w2.heap.size) := ⟨⟨(own_block HI.out.outer).1, (own_block HI.out.outer).2.1⟩, fun i hi => ⟨(own_block (HI.out.inner i hi)).1, (own_block (HI.out.inner i hi)).2.1⟩⟩
  have hsw : w.heap.size ≤ w1.heap.size := HB.out.size
  have HB3 : Aside0 (Below w.heap.size w w2) := ⟨HB.out.trans (HB2.out.mono hsw)⟩
  clear HM HB HB2
  obtain ⟨z2, hz2⟩ : ∃ z, z = w2.heap.size := ⟨_, rfl⟩
  obtain ⟨z1, hz1⟩ : ∃ z, z = w1.heap.size := ⟨_, rfl⟩
  rw [← hz2] at hw12 HS0 HSI
  rw [← hz1] at hw12 HS0 HSI
  have hz2' : z2 ≤ w2.heap.size := by omega
  clear hz1 hz2 hsw
  go_loopg [29] (n + 1) (fun kq v29 W => ∃ (k : Nat) (g cp : Nat → Nat), Hid (kq + k = n + 1) ∧ k ≤ n ∧ v29 = .int .i64 (k : Nat) ∧ Aside0 (MatQ W w.heap.size G cap g cp n (rowsA n M k) n) ∧ (∃ BI, Aside0 (MatO W BI GI capI gI cpI n n dlt)) ∧ Aside0 (G < z1 ∧ ∀ i, i < n → g i < z1 ∨ z2 ≤ g i) ∧ Aside0 (Below w.heap.size w W) ∧ z2 ≤ W.heap.size)
  case atStart => exact ⟨0, g, cp, Lib.hid (by omega), Nat.zero_le _, rfl, HQ0, ⟨_, HI⟩, HS0, HB3, hz2'⟩
  case round =>
    clear HQ0 HI HS0 HB3 hz2'
    obtain ⟨k, g, cp, HK, hkn, rfl, HQ, ⟨BI, HI⟩, HS, HB, hzr⟩ := hrel
    by_cases hk : k < n
    · have hk1 : decide ((k : Int) < (n : Int)) = true := decide_eq_true (by omega)
      have hk2 : decide (k < n) = true := decide_eq_true hk
      obtain ⟨i1, i2⟩ := HI.out.outerCell hk
      obtain ⟨e1, e2⟩ := HQ.out.cell hk
      have hlr : (rowsA n M k k).length = n := by rw [rowsA_at, rowV_length]
      rw [hlr] at e1
      have HO : Aside0 (Kd.R (Kd.int .u8) 5 wr w.heap.size (fun _ => True) (.slice (some ⟨g k, 0, none⟩) n (cp k)) (rowV M k n)) := ⟨by
        have := HQ.out.rowR hk
        rw [hlr, rowsA_at] at this
        exact this⟩
      have HR : Aside0 (Kd.C (Kd.int .u8) wr (some ⟨gI k, 0, none⟩) n (rowV dlt k n)) := ⟨by have := (HI.out.row hk).1; rwa [rowV_length] at this⟩
      have hrl := rowV_length M k n
      have HBW : Aside0 (w.heap.size ≤ wr.heap.size) := ⟨HB.out.size⟩
      have hal : (rowV M k n ++ rowV dlt k n).length = n + n := by rw [List.length_append, rowV_length, rowV_length]
      have HAL := Lib.hid hal
      clear hlr hal
      go_wp2_with (first | ((with_reducible refine gate_builtin (b := .append) (xs := #[.tmp 39, .tmp 40]) rfl ?_); (try (refine gate_guard (by rfl) ?_; dsimp only)); at_builtin; refine Kd.R_append_rows (Kd.int .u8) (w0 := w) w.heap.size rfl (.tmp 39) (.tmp 40) 33 5 (.int .u8 0) 1 rfl Try.underlying33 info5 rfl (by decide) (by omega) (.slice (some ⟨g k, 0, none⟩) n (cp k)) (rowV M k n) (rowV dlt k n) _ _ _ (fun _ => True) (fun _ => False) rfl rfl ?aO ?aR (fun _ _ h => h) (fun _ h => h.elim) ?aF ?aB ?aS ?aL ?_; (case aR => exact HR.out); (case aB => exact HB.out); (case aF => exact (fun _ _ => trivial)); (case aO => exact HO.out); (case aS => exact HBW.out); (case aL => rw [hrl]; omega); intro v3 w3 ho hb hg hat; obtain ⟨p, q, hv3, hown, hp⟩ := app_form (W := wr) (g := g k) (n := n) (c := cp k) (by rw [HAL.out]; omega) ho hat; rw [HAL.out] at hv3 hown; subst hv3; have HOWN := Aside0.mk hown; have HP := Aside0.mk hp; have HG3 := Aside0.mk hg; have HB3 := Aside0.mk hb; have e3 : w3.cell? ⟨G, k, none⟩ = some (.slice (some ⟨g k, 0, none⟩) n (cp k)) := hg.cell e1 (fun e => HQ.out.ne hk (by simpa [Value.ownBlock] using e)); have e4 : w3.frozen? ⟨G, k, none⟩ = false := (World.frozen?_of_block (a := ⟨G, k, none⟩) (hg.block G HQ.out.own.2.1 (fun e => HQ.out.ne hk (by simpa [Value.ownBlock] using e)))).trans e2; clear ho hb hg hat hown hp))
      go_roundg (n + 1 - (k + 1))
      case measure => have := HK.out; omega
      case rel =>
        have hrow : (rowV (augF n M) k (n + n)).length = n + n := rowV_length _ _ _
        have hown2 : w3.ownsRow w.heap.size 5 1 (.slice (some ⟨p, 0, none⟩) (rowV (augF n M) k (n + n)).length q) (rowV (augF n M) k (n + n)).length (nums .u8 (rowV (augF n M) k (n + n))) := by
          rw [← aug_row, HAL.out]; exact HOWN.out
        have hgk : ∀ j, j < n → j ≠ k → some (g j) ≠ (Value.slice (some ⟨g k, 0, none⟩) n (cp k)).ownBlock := fun j hj hne e => hne (HQ.out.inj j k hj hk (by simpa [Value.ownBlock] using e))
        have hq := HQ.out.put (W2 := w3) (i := k) (p := p) (q := q) hk hkn (HG3.out.block G HQ.out.own.2.1 (fun e => HQ.out.ne hk (by simpa [Value.ownBlock] using e))) (fun j hj hne => HG3.out.block (g j) (own_block (HQ.out.inner j hj)).2.1 (hgk j hj hne)) hown2
          (fun j hj hne e => by
            rcases HP.out with hp | hp
            · exact hne (HQ.out.inj j k hj hk (by rw [e, hp]))
            · have := (own_block (HQ.out.inner j hj)).2.1; omega)
        rw [rowsA_upd, hrow, show max n (k + 1) = n by omega] at hq
        have hsep : ∀ x, z1 ≤ x → x < z2 → some x ≠ (Value.slice (some ⟨g k, 0, none⟩) n (cp k)).ownBlock ∧ x ≠ G := fun x hx1 hx2 => ⟨fun e => by
          have e : x = g k := by simpa [Value.ownBlock] using e
          have := HS.out.2 k hk; omega, by have := HS.out.1; omega⟩
        have hkeep : ∀ x, z1 ≤ x → x < z2 → (w3.setCell ⟨G, k, none⟩ (.slice (some ⟨p, 0, none⟩) (n + n) q)).heap[x]? = wr.heap[x]? := fun x hx1 hx2 => by
          rw [Below.heap_setCell _ _ _ _ (hsep x hx1 hx2).2]
          exact HG3.out.block x (by omega) (hsep x hx1 hx2).1
        have hi := HI.out.step (W' := w3.setCell ⟨G, k, none⟩ (.slice (some ⟨p, 0, none⟩) (n + n) q)) (hkeep _ HSI.out.1.1 HSI.out.1.2) (fun i hi => hkeep _ (HSI.out.2 i hi).1 (HSI.out.2 i hi).2)
        refine ⟨k + 1, _, _, Lib.hid (by have := HK.out; omega), by omega, by go_num, ⟨hq⟩, ⟨BI, ⟨hi⟩⟩, ⟨HS.out.1, fun i hi => ?_⟩, ⟨HB3.out.setCell (p := ⟨G, k, none⟩) HQ.out.own.1 _⟩, by rw [World.size_setCell]; have := HG3.out.size; omega⟩
        by_cases e : i = k
        · rw [e, updA_at]
          rcases HP.out with hp | hp
          · rw [hp]; exact HS.out.2 k hk
          · exact .inr (by omega)
        · rw [updA_ne _ _ e]; exact HS.out.2 i hi
    · have hk1 : decide ((k : Int) < (n : Int)) = false := decide_eq_false (by omega)
      have hk2 : decide (k < n) = false := decide_eq_false hk
      have hkn2 : k = n := by omega
      have HM : Aside0 (MatO wr w.heap.size G cap g cp n (n + n) (augF n M)) := ⟨HQ.out.toO rfl (fun i hi => by unfold rowsA; rw [if_pos (by omega)])⟩
      have hrle := (red_spec n n M).1
      clear HQ HI HS hkn2
      by_cases hr : rankF n n M = n
      · have HR := Lib.hid hr
        have hd1 : decide ((n : Int) < (n : Int)) = false := decide_eq_false (by omega)
        have hd2 : decide (n < n) = false := decide_eq_false (by omega)
        clear hr hrle
        go_wp2_with (first | (go_at_call 40; refine (reduce_walk (by omega) (by omega) (show n ≤ n + n by omega) (augF n M) _ w.heap.size G cap g cp HM.out).mono ?_; rintro e_ w4 ⟨he4, g2, cp2, hm2, hb2⟩; rw [rank_aug, HR.out] at he4; subst he4; have HM2 := Aside0.mk hm2; have HB4 : Aside0 (Below w.heap.size w w4) := ⟨HB.out.trans hb2⟩; clear hm2 hb2) | ((with_reducible refine gate_dst (N := 50) rfl ?_); refine Kd.S_make (Kd.slice 5 (Kd.int .u8)) (w0 := w) w.heap.size 33 rfl (N := 50) rfl 22 _ _ rfl (n : Int) rfl rfl Try.underlying22 (.slice none 0 0) 24 info33 rfl (by decide) (by omega) [] (ok := fun _ => True) (okp := fun _ => True) ⟨_, rfl, Kd.R_nil _ _ _ _ _⟩ (fun _ hk => hk) trivial (by omega) (by rw [Int.toNat_natCast]; omega) HB4.out HB4.out.size ?_; intro v5 w5 hs5 hb5 hg5 hn5; rw [Int.toNat_natCast] at hs5; obtain ⟨inner5, hown5⟩ := Kd.R_own (Kd.S_R hs5); rw [List.length_replicate] at hown5; obtain ⟨GO, capO, rfl, _, _⟩ := World.ownsRow.form hown5 h1; have HO5 := Aside0.mk hown5; have HB5 := Aside0.mk hb5; have HG5 := Aside0.mk hg5; have HN5 : Aside0 (w4.heap.size ≤ GO) := ⟨by obtain ⟨b, hb, hle⟩ := hn5; (have e5 : GO = b := (by simpa [Value.ownBlock] using hb)); omega⟩; clear hs5 hb5 hg5 hn5 hown5))
        obtain ⟨i0, hi0, _, hsz0, _⟩ := info_parts info5
        have hlo : w.heap.size ≤ w4.heap.size := HB4.out.size
        have HQ0 : Aside0 (MatQ w5 w.heap.size GO capO (fun _ => 0) (fun _ => 0) n (fun i => rowV (invF n M) i n) 0) := ⟨⟨_, HO5.out, fun k hk => absurd hk (by omega)⟩, fun k hk => absurd hk (by omega), fun k l hk _ _ => absurd hk (by omega)⟩
        have HM5 : Aside0 (MatO w5 w.heap.size G cap g2 cp2 n (n + n) (formF n n (augF n M))) := ⟨HM2.out.grown (fun k hk => HG5.out.block k hk (by simp))⟩
        have HSM : Aside0 (G < w4.heap.size ∧ ∀ i, i < n → g2 i < w4.heap.size) := ⟨(own_block HM2.out.outer).2.1, fun i hi => (own_block (HM2.out.inner i hi)).2.1⟩
        have h45 := HG5.out.size
        have hGO := HN5.out
        obtain ⟨z4, hz4⟩ : ∃ z, z = w4.heap.size := ⟨_, rfl⟩
        rw [← hz4] at HSM h45 hGO hlo
        clear hz4 HM2 HO5 HG5 HB4 HM HB HN5
        go_loopg [53] (n + 1) (fun kq2 v53 W => ∃ (k : Nat) (gO cpO : Nat → Nat), Hid (kq2 + k = n + 1) ∧ k ≤ n ∧ v53 = .int .i64 (k : Nat) ∧ Aside0 (MatQ W w.heap.size GO capO gO cpO n (fun i => rowV (invF n M) i n) k) ∧ Aside0 (MatO W w.heap.size G cap g2 cp2 n (n + n) (formF n n (augF n M))) ∧ Aside0 (Below w.heap.size w W) ∧ Aside0 (∀ i, i < k → z4 ≤ gO i) ∧ z4 ≤ W.heap.size)
        case atStart => exact ⟨0, _, _, Lib.hid (by omega), Nat.zero_le _, rfl, HQ0, HM5, HB5, ⟨fun i hi => absurd hi (by omega)⟩, h45⟩
        case round =>
          clear HQ0 HM5 HB5 h45
          obtain ⟨k, gO, cpO, HK, hkn, rfl, HQ, HM, HB, HS, hzr⟩ := hrel
          by_cases hk : k < n
          · have hk1 : decide ((k : Int) < (n : Int)) = true := decide_eq_true (by omega)
            have hk2 : decide (k < n) = true := decide_eq_true hk
            obtain ⟨e1, e2⟩ := HM.out.outerCell hk
            obtain ⟨u, e3, e4⟩ := HQ.out.some_cell hk
            have hcp := (own_cap (HM.out.inner k hk)).1
            have hcut := cut_from (P := Try.prog) 33 5 .i64 Try.underlying33 hi0 1 hsz0 (some ⟨g2 k, 0, none⟩) (n + n) (cp2 k) (n : Int) (by omega) (by omega)
            rw [Int.toNat_natCast, if_neg (by omega), Option.map_some, Nat.mul_one, add_plain, Nat.add_sub_cancel] at hcut
            have HRW : Aside0 (Kd.C (Kd.int .u8) wr (some ⟨g2 k, n, none⟩) n (rowV (invF n M) k n)) := ⟨by
              have h := HM.out.row hk
              have h5 := Kd.C_drop (m := n) h.1 (by rw [rowV_length]; omega) h.2
              rw [if_neg (by omega), Option.map_some, show n * (Kd.int .u8).sz = n from Nat.mul_one n, add_plain, inv_row, rowV_length] at h5
              exact h5⟩
            have HBW : Aside0 (w.heap.size ≤ wr.heap.size) := ⟨HB.out.size⟩
            have hrl := rowV_length (invF n M) k n
            have HRL := Lib.hid hrl
            have hGOk : Aside0 (GO < wr.heap.size) := ⟨HQ.out.own.2.1⟩
            clear hrl hcp
            go_wp2_with (first | ((with_reducible refine gate_dst (N := 58) rfl ?_); (try (refine gate_guard (by rfl) ?_; dsimp only)); refine Kd.R_lit (Kd.int .u8) (w0 := w) w.heap.size 5 ?hg (N := 58) ?hd (xs := ([] : List Int)) (inner := []) (ok := fun _ => True) (okp := fun _ => True) ?hr ?hp (fun _ hk => hk) trivial HB.out HBW.out (by simp) ?_; (case hd => rfl); (case hg => rfl); (case hr => first | (go_simp; done) | (go_simp; rfl)); (case hp => exact (Reps.none _ _)); intro v6 w6 ho6 hb6 hg6 hn6; have HO6 := Aside0.mk ho6; have HB6 := Aside0.mk hb6; have HG6 := Aside0.mk hg6; have HN6 : Aside0 (∀ x, v6.ownBlock = some x → wr.heap.size ≤ x) := ⟨fun x hx => by { obtain ⟨b, hb, hle⟩ := hn6; have e5 : b = x := (by { rw [hb] at hx; exact Option.some.inj hx }); omega }⟩; have hs6 := hg6.size; have f1 : w6.cell? ⟨G, k, none⟩ = some (.slice (some ⟨g2 k, 0, none⟩) (n + n) (cp2 k)) := hg6.cell e1 (by simp); have f3 : w6.cell? ⟨GO, k, none⟩ = some u := hg6.cell e3 (by simp); have f4 : w6.frozen? ⟨GO, k, none⟩ = false := (World.frozen?_of_block (a := ⟨GO, k, none⟩) (hg6.block GO hGOk.out (by simp))).trans e4; clear ho6 hb6 hg6 hn6) | ((with_reducible refine gate_builtin (b := .append) (xs := #[.tmp 58, .tmp 64]) rfl ?_); (try (refine gate_guard (by rfl) ?_; dsimp only)); at_builtin; refine Kd.R_append_rows (Kd.int .u8) (w0 := w) w.heap.size rfl (.tmp 58) (.tmp 64) 33 5 (.int .u8 0) 1 rfl Try.underlying33 info5 rfl (by decide) (by omega) v6 [] (rowV (invF n M) k n) _ _ _ (fun _ => True) (fun _ => False) rfl rfl ?aO ?aR (fun _ _ h => h) (fun _ h => h.elim) ?aF ?aB ?aS ?aL ?_; (case aR => exact Kd.C_below HRW.out ⟨HG6.out.os, HG6.out.tape, HG6.out.output, HG6.out.size, fun i hi => HG6.out.block i hi (by simp)⟩); (case aB => exact HB6.out); (case aF => exact (fun _ _ => trivial)); (case aO => exact HO6.out); (case aS => exact HB6.out.size); (case aL => simp; omega); intro v7 w7 ho7 hb7 hg7 hat7; rw [List.nil_append] at ho7; obtain ⟨p, q, hv7, hown7, hp7⟩ := app_new (W := w6) (z := wr.heap.size) (v := v6) (xs := rowV (invF n M) k n) (by rw [HRL.out]; omega) ho7 hs6 HN6.out hat7; rw [HRL.out] at hv7 hown7; subst hv7; have f5 : w7.cell? ⟨GO, k, none⟩ = some u := hg7.cell f3 (fun e => by { have := HN6.out GO e.symm; have := hGOk.out; omega }); have f6 : w7.frozen? ⟨GO, k, none⟩ = false := (World.frozen?_of_block (a := ⟨GO, k, none⟩) (hg7.block GO (by have := hGOk.out; omega) (fun e => by { have := HN6.out GO e.symm; have := hGOk.out; omega }))).trans f4; have HOWN := Aside0.mk hown7; have HP := Aside0.mk hp7; have HG7 := Aside0.mk hg7; have HB7 := Aside0.mk hb7; clear ho7 hb7 hg7 hat7 hown7 hp7))
            go_roundg (n + 1 - (k + 1))
            case measure => have := HK.out; omega
            case rel =>
              have hold : ∀ x, x < wr.heap.size → w7.heap[x]? = wr.heap[x]? := fun x hx =>
                (HG7.out.block x (by omega) (fun e => by have := HN6.out x e.symm; omega)).trans (HG6.out.block x hx (by simp))
              have hq := HQ.out.put (W2 := w7) (i := k) (p := p) (q := q) (row := rowV (invF n M) k n) hk (Nat.le_refl _) (hold GO hGOk.out) (fun j hj _ => hold _ (own_block (HQ.out.inner j hj)).2.1) (by rw [HRL.out]; exact HOWN.out)
                (fun j hj _ e => by have := (own_block (HQ.out.inner j hj)).2.1; have := HP.out; omega)
              rw [HRL.out, show max k (k + 1) = k + 1 by omega] at hq
              have hq2 := hq.congr (rows' := fun i => rowV (invF n M) i n) (fun j _ => by
                by_cases e : j = k
                · rw [e, updA_at]
                · rw [updA_ne _ _ e])
              have hs7 := HG7.out.size
              have hG := HSM.out.1
              have hkeep : ∀ x, x < z4 → (w7.setCell ⟨GO, k, none⟩ (.slice (some ⟨p, 0, none⟩) n q)).heap[x]? = wr.heap[x]? := fun x hx => by
                rw [Below.heap_setCell _ _ _ _ (show x ≠ GO by omega)]
                exact hold x (by omega)
              have hm := HM.out.step (W' := w7.setCell ⟨GO, k, none⟩ (.slice (some ⟨p, 0, none⟩) n q)) (hkeep G HSM.out.1) (fun i hi => hkeep _ (HSM.out.2 i hi))
              refine ⟨k + 1, _, _, Lib.hid (by have := HK.out; omega), by omega, by go_num, ⟨hq2⟩, ⟨hm⟩, ⟨HB7.out.setCell (p := ⟨GO, k, none⟩) HQ.out.own.1 _⟩, ⟨fun i hi => ?_⟩, by rw [World.size_setCell]; omega⟩
              by_cases e : i = k
              · rw [e, updA_at]; have := HP.out; omega
              · rw [updA_ne _ _ e]; exact HS.out i (by omega)
          · have hk1 : decide ((k : Int) < (n : Int)) = false := decide_eq_false (by omega)
            have hk2 : decide (k < n) = false := decide_eq_false hk
            have hkn2 : k = n := by omega
            have HMO : Aside0 (MatO wr w.heap.size GO capO gO cpO n n (invF n M)) := ⟨HQ.out.toO hkn2 (fun _ _ => rfl)⟩
            clear hkn2
            go_wp2
            go_ret2
            exact ⟨by rw [if_pos HR.out]; exact ⟨_, rfl, HMO.out.to_S⟩, HB.out⟩
      · have hd1 : decide (((rankF n n M : Nat) : Int) < (n : Int)) = true := decide_eq_true (by omega)
        have hd2 : decide (rankF n n M < n) = true := decide_eq_true (by omega)
        have HR := Lib.hid hr
        clear hr hrle
        go_wp2_with (first | (go_at_call 40; refine (reduce_walk (by omega) (by omega) (show n ≤ n + n by omega) (augF n M) _ w.heap.size G cap g cp HM.out).mono ?_; rintro e_ w4 ⟨he4, g2, cp2, hm2, hb2⟩; rw [rank_aug] at he4; subst he4; have HB4 : Aside0 (Below w.heap.size w w4) := ⟨HB.out.trans hb2⟩; clear hm2 hb2))
        go_ret2
        exact ⟨by rw [if_neg HR.out]; rfl, HB4.out⟩
set_option maxRecDepth 100000 in
set_option maxHeartbeats 4000000 in
theorem invert_bad {l : List (List Int)} (hv : ¬ isV l) (A0 : Option Addr) (c0 : Nat) (w : World) (hC : Kd.C (Kd.slice 5 (Kd.int .u8)) w A0 l.length l) (hc : l.length ≤ c0) :
    Calls Try.prog 14 #[.slice A0 l.length c0] w fun e w' => e = .returned (.tuple #[.slice none 0 0, .bool false]) ∧ Below w.heap.size w w' := by
  have HV := valid_calls A0 c0 l w hC hc
  rw [decide_eq_false hv] at HV
  have HVA := Aside0.mk HV
  clear hC HV hv
  go_enter Try.func14, Try.ntmps14
  go_wp2_with (first | (go_at_call 38; refine HVA.out.mono ?_; rintro e_ w_ ⟨rfl, nv, rfl⟩))
  go_ret2
  exact ⟨rfl, pw_below_drewN (Below.refl _ _) _⟩
set_option maxRecDepth 100000 in
set_option maxHeartbeats 4000000 in
theorem invert_rect {N C : Nat} {M : Mat} (h1 : 1 ≤ N) (h2 : N ≤ 64) (h3 : 1 ≤ C) (h4 : C ≤ 64) (hne : N ≠ C) (A0 : Option Addr) (c0 : Nat) (w : World) (hC : Kd.C (Kd.slice 5 (Kd.int .u8)) w A0 N (rowsL M N C)) (hc : N ≤ c0) :
    Calls Try.prog 14 #[.slice A0 N c0] w fun e w' => e = .returned (.tuple #[.slice none 0 0, .bool false]) ∧ Below w.heap.size w w' := by
  obtain ⟨ad, A, c, rfl, hx⟩ := first_row h1 A0 w hC
  have HC := Aside0.mk hC
  clear hC
  have hn0 : (0 : Int) < (N : Int) := by omega
  have hn1 : 0 < N := by omega
  have hx1 : ((N : Int) == (C : Int)) = false := beq_eq_false_iff_ne.2 (by omega)
  have hx2 : ((N : Int) != (C : Int)) = true := bne_iff_ne.2 (by omega)
  have hx3 : (N == C) = false := beq_eq_false_iff_ne.2 hne
  have hx4 : (N != C) = true := bne_iff_ne.2 hne
  clear hne
  go_enter Try.func14, Try.ntmps14
  go_wp2_with (first | (go_at_call 38; refine (valid_calls2 h1 h2 h3 h4 _ _ _ HC.out hc).mono ?_; rintro e_ w_ ⟨rfl, nv, rfl⟩))
  go_ret2
  exact ⟨rfl, pw_below_drewN (Below.refl _ _) _⟩
/-- What it answers. -/
def invR (l : List (List Int)) : List (List Int) × Bool :=
  if isV l ∧ l.length = wid l ∧ rankF l.length l.length (toM l) = l.length then (rowsL (invF l.length (toM l)) l.length l.length, true) else ([], false)
def matrix_Invert.f (l : List (List Int)) : Option (List (List Int) × Bool) := if AllB l then some (invR l) else none
theorem matrix_Invert.calls (A0 : Option Addr) (c0 : Nat) (l0 : List (List Int)) (r1 : List (List Int)) (r2 : Bool) (w : World) (hr0 : Kd.C (Kd.slice 5 (Kd.int .u8)) w A0 l0.length l0) (hc0 : l0.length ≤ c0) (h : matrix_Invert.f l0 = some (r1, r2)) :
    Calls Try.prog 14 #[.slice A0 l0.length c0] w fun e w' => ∃ v0_ : Value, e = .returned (.tuple #[v0_, .bool r2]) ∧ Kd.S (Kd.slice 5 (Kd.int .u8)) 33 w' w.heap.size (fun _ => True) v0_ r1 ∧ Below w.heap.size w w' := by
  unfold matrix_Invert.f at h
  by_cases hb : AllB l0
  · rw [if_pos hb] at h
    have h := Option.some.inj h
    unfold invR at h
    by_cases hv : isV l0
    · by_cases hsq : l0.length = wid l0
      · have hW := invert_walk (n := l0.length) (M := toM l0) hv.1.1 hv.1.2 A0 c0 w (by rw [← toM_rows hb (fun r hr => by rw [hv.2.2 r hr, hsq])]; exact hr0) hc0
        by_cases hr : rankF l0.length l0.length (toM l0) = l0.length
        · rw [if_pos ⟨hv, hsq, hr⟩] at h
          obtain ⟨rfl, rfl⟩ := Prod.mk.inj h
          refine hW.mono fun e w' ⟨hp, hbel⟩ => ?_
          rw [if_pos hr] at hp
          obtain ⟨v, he, hS⟩ := hp
          exact ⟨v, he, hS, hbel⟩
        · rw [if_neg (fun hh => hr hh.2.2)] at h
          obtain ⟨rfl, rfl⟩ := Prod.mk.inj h
          refine hW.mono fun e w' ⟨hp, hbel⟩ => ?_
          rw [if_neg hr] at hp
          exact ⟨_, hp, Kd.S_nil _ _ _ _ _, hbel⟩
      · rw [if_neg (fun hh => hsq hh.2.1)] at h
        obtain ⟨rfl, rfl⟩ := Prod.mk.inj h
        refine (invert_rect (M := toM l0) hv.1.1 hv.1.2 hv.2.1.1 hv.2.1.2 hsq A0 c0 w (by rw [← toM_rows hb hv.2.2]; exact hr0) hc0).mono fun e w' ⟨he, hbel⟩ => ⟨_, he, Kd.S_nil _ _ _ _ _, hbel⟩
    · rw [if_neg (fun hh => hv hh.1)] at h
      obtain ⟨rfl, rfl⟩ := Prod.mk.inj h
      exact (invert_bad hv A0 c0 w hr0 hc0).mono fun e w' ⟨he, hbel⟩ => ⟨_, he, Kd.S_nil _ _ _ _ _, hbel⟩
  · rw [if_neg hb] at h
    exact absurd h (by simp)
end Go.Proofs.Ytmlfpcnemganbaa.Q
