/- Scan, Resync, Salvage: frame's and the reference's, over plain numbers. -/
import Derived.Test.YtgfkjjmlakolpaaFNEv
import Derived.Test.YtgfkjjmlakolpaaFScan
import Derived.Test.YtgfkjjmlakolpaaQ9
import Derived.Test.YtgfkjjmlakolpaaQ10
namespace Go.Proofs.Ytgfkjjmlakolpaa.Pure
open Go.RowKit Go.Proofs.Ytgfkjjmlakolpaa.Q Go.Proofs.YtgfkjjmlakolpaaW.PrintWords Go.Proofs.YtgfkjjmlakolpaaW.PrintLast
open Go.Proofs.Ytgfkjjmlakolpaa.Cr Go.Proofs.Ytgfkjjmlakolpaa.Evs
set_option linter.unusedVariables false
/-! Same, of equal lists. -/
theorem same_loop {L : List (List Int)} (hl : L.length ≤ 1000000) : ∀ (d i : Nat), i + d = L.length → Ev (fun k => tapearchiveref03_Same.l0 k L L (i : Int)) true
  | 0, i, h => by
    refine Ev.step (fun k => by simp only [tapearchiveref03_Same.l0]; rfl) (Ev.neg (by omega) (Ev.now _))
  | d + 1, i, h => by
    refine Ev.step (fun k => by simp only [tapearchiveref03_Same.l0]; rfl) (Ev.pos (by omega) (Ev.pos (by omega) (Ev.pos (by omega) (Ev.pos (by trivial) ?_))))
    rw [show wrap64 ((i : Int) + 1) = ((i + 1 : Nat) : Int) by unfold wrap64; omega]
    exact same_loop hl d (i + 1) (by omega)
theorem same_ev {L M : List (List Int)} (e : L = M) (hl : L.length ≤ 1000000) : Ev (fun k => tapearchiveref03_Same.f k L M) true := by
  subst e
  exact Ev.pos (c := (L.length : Int) = (L.length : Int)) rfl (same_loop hl L.length 0 (by omega))
/-! Scan. -/
def bods (l : List (List Nat × Nat)) : List (List Int) := l.map fun x => ints x.1
theorem scan_len {p : List Nat} (k : Nat) : (scan p k).length ≤ p.length := by have := scanL_length (p := p) (p.length + 1) k; unfold scan; omega
theorem fscan_ev {p : List Nat} (hp : ∀ x ∈ p, x < 256) (hl : p.length ≤ 5000) : frame_Scan.f (ints p) = some (bods (scan p 0), ((lastE (scan p 0) : Nat) : Int)) := by
  unfold frame_Scan.f
  rw [if_pos ⟨bytes_ints hp, by rw [ints_length]; omega⟩, nats_ints]
  rfl
theorem rscan_loop {p : List Nat} (hp : ∀ x ∈ p, x < 256) (hl : p.length ≤ 5000) : ∀ (d k : Nat) (pre : List (List Nat × Nat)), p.length - k < d → k ≤ p.length → lastE pre = k → pre.length + (scan p k).length ≤ 5000 →
    Ev (fun n => tapearchiveref03_Scan.l0 n (ints p) (bods pre) (k : Int)) (bods (pre ++ scan p k), ((lastE (pre ++ scan p k) : Nat) : Int))
  | 0, k, pre, h, _, _, _ => absurd h (by omega)
  | d + 1, k, pre, h, hk, hL, hn => by
    refine Ev.step (fun n => by simp only [tapearchiveref03_Scan.l0]; rfl) (Ev.bind (rnext_ev hp hl (k : Int)) ?_)
    by_cases hz : (fnext p (k : Nat)).2.2 = 0
    · obtain ⟨e, he, h1, h2, h3⟩ := fnext_ok hz
      have hst := scan_step hz he
      have hlen : (bods pre).length = pre.length := by simp [bods]
      have hsl : pre.length + 1 ≤ 5000 := by rw [hst, List.length_cons] at hn; omega
      refine Ev.pos hz (Ev.pos (by rw [hlen]; omega) ?_)
      have := rscan_loop hp hl d e (pre ++ [((fnext p (k : Nat)).1, e)]) (by omega) h2 (lastE_snoc _ _) (by rw [hst, List.length_cons] at hn; rw [List.length_append, List.length_singleton]; omega)
      rw [hst, List.append_cons pre]
      rw [show (nx (fnext p (k : Int))).2.1 = (e : Int) from he]
      have hb : bods pre ++ [(nx (fnext p (k : Int))).1] = bods (pre ++ [((fnext p (k : Nat)).1, e)]) := by simp [bods, nx]
      rw [hb]
      exact this
    · refine Ev.neg hz ?_
      rw [scan_stop hz, List.append_nil, hL]
      exact Ev.now _
theorem rscan_ev {p : List Nat} (hp : ∀ x ∈ p, x < 256) (hl : p.length ≤ 5000) : Ev (fun n => tapearchiveref03_Scan.f n (ints p)) (bods (scan p 0), ((lastE (scan p 0) : Nat) : Int)) :=
  rscan_loop hp hl (p.length + 1) 0 [] (by omega) (Nat.zero_le _) rfl (by have := scan_len (p := p) 0; simp; omega)
/-! Resync. -/
def rsy (p : List Nat) : Nat → Nat → Option Nat
  | 0, _ => none
  | d + 1, i => if (fnext p (i : Nat)).2.2 = 0 then some i else rsy p d (i + 1)
def rsyV : Option Nat → Int × Bool
  | some i => ((i : Int), true)
  | none => (0, false)
theorem not_ok {p : List Nat} {i : Nat} (h : p.length < i + 10) : (fnext p (i : Nat)).2.2 ≠ 0 := fun hz => by
  obtain ⟨e, he, h1, h2, h3⟩ := fnext_ok hz
  omega
theorem rsy_short {p : List Nat} : ∀ (d i : Nat), p.length < i + 10 → rsy p d i = none
  | 0, _, _ => rfl
  | d + 1, i, h => by unfold rsy; rw [if_neg (not_ok h)]; exact rsy_short d (i + 1) (by omega)
theorem rsy_some {p : List Nat} : ∀ (d i j : Nat), rsy p d i = some j → i ≤ j ∧ j < i + d ∧ (fnext p (j : Nat)).2.2 = 0 ∧ ∀ m, i ≤ m → m < j → (fnext p (m : Nat)).2.2 ≠ 0
  | 0, i, j, h => by cases h
  | d + 1, i, j, h => by
    unfold rsy at h
    by_cases hz : (fnext p (i : Nat)).2.2 = 0
    · rw [if_pos hz] at h
      obtain rfl := Option.some.inj h
      exact ⟨Nat.le_refl _, by omega, hz, fun m h1 h2 => absurd h2 (by omega)⟩
    · rw [if_neg hz] at h
      obtain ⟨h1, h2, h3, h4⟩ := rsy_some d (i + 1) j h
      refine ⟨by omega, by omega, h3, fun m hm1 hm2 => ?_⟩
      by_cases e : m = i
      · rw [e]; exact hz
      · exact h4 m (by omega) hm2
theorem rsy_none {p : List Nat} : ∀ (d i : Nat), rsy p d i = none → ∀ m, i ≤ m → m < i + d → (fnext p (m : Nat)).2.2 ≠ 0
  | 0, i, _, m, h1, h2 => absurd h2 (by omega)
  | d + 1, i, h, m, h1, h2 => by
    unfold rsy at h
    by_cases hz : (fnext p (i : Nat)).2.2 = 0
    · rw [if_pos hz] at h; cases h
    · rw [if_neg hz] at h
      by_cases e : m = i
      · rw [e]; exact hz
      · exact rsy_none d (i + 1) h m (by omega) (by omega)
theorem frs_loop {p : List Nat} (hp : ∀ x ∈ p, x < 256) (hl : p.length ≤ 5000) : ∀ (d i : Nat), i + d = p.length → Ev (fun n => frame_Resync.l0 n (ints p) (i : Int)) (rsyV (rsy p d i))
  | 0, i, h => by
    refine Ev.step (fun n => by simp only [frame_Resync.l0]; rfl) (Ev.neg (by rw [ints_length]; unfold wrap64; omega) (Ev.now _))
  | d + 1, i, h => by
    refine Ev.step (fun n => by simp only [frame_Resync.l0]; rfl) ?_
    have hw : wrap64 (((ints p).length : Int) - 10) = (p.length : Int) - 10 := by rw [ints_length]; unfold wrap64; omega
    rw [hw]
    refine Ev.pick (fun c => ?_) (fun c => ?_)
    · refine Ev.call (next_ev hp _) ?_
      unfold rsy
      by_cases hz : (fnext p (i : Nat)).2.2 = 0
      · rw [if_pos hz]; exact Ev.pos hz (Ev.now _)
      · rw [if_neg hz]
        refine Ev.neg hz ?_
        clear hw
        rw [show wrap64 ((i : Int) + 1) = ((i + 1 : Nat) : Int) by unfold wrap64; omega]
        exact frs_loop hp hl d (i + 1) (by omega)
    · rw [rsy_short _ _ (by omega)]; exact Ev.now _
/-- From where Resync looks on: what is beyond the end finds nothing. -/
def rs (p : List Nat) (i : Nat) : Option Nat := rsy p (p.length - i) i
theorem frs_nat {p : List Nat} (hp : ∀ x ∈ p, x < 256) (hl : p.length ≤ 5000) (i : Nat) : Ev (fun n => frame_Resync.l0 n (ints p) (i : Int)) (rsyV (rs p i)) := by
  unfold rs
  by_cases h : i ≤ p.length
  · exact frs_loop hp hl _ i (by omega)
  · rw [show p.length - i = 0 by omega]
    exact Ev.step (fun n => by simp only [frame_Resync.l0]; rfl) (Ev.neg (by rw [ints_length]; unfold wrap64; omega) (Ev.now _))
theorem frs_ev {p : List Nat} (hp : ∀ x ∈ p, x < 256) (hl : p.length ≤ 5000) (a : Int) : Ev (fun n => frame_Resync.f n (ints p) a) (rsyV (rs p a.toNat)) := by
  have e : mx 0 a = ((a.toNat : Nat) : Int) := by unfold mx; split <;> omega
  unfold frame_Resync.f
  rw [e]
  exact frs_nat hp hl _
theorem rrs_loop {p : List Nat} (hp : ∀ x ∈ p, x < 256) (hl : p.length ≤ 5000) : ∀ (d i : Nat), p.length - i = d → Ev (fun n => tapearchiveref03_Resync.l0 n (ints p) (i : Int)) (rsyV (rsy p d i))
  | 0, i, h => by
    refine Ev.step (fun n => by simp only [tapearchiveref03_Resync.l0]; rfl) (Ev.neg (by rw [ints_length]; omega) (Ev.now _))
  | d + 1, i, h => by
    refine Ev.step (fun n => by simp only [tapearchiveref03_Resync.l0]; rfl) (Ev.pos (by rw [ints_length]; omega) (Ev.bind (rnext_ev hp hl _) ?_))
    unfold rsy
    by_cases hz : (fnext p (i : Nat)).2.2 = 0
    · rw [if_pos hz]; exact Ev.pos hz (Ev.now _)
    · rw [if_neg hz]
      refine Ev.neg hz ?_
      rw [show wrap64 ((i : Int) + 1) = ((i + 1 : Nat) : Int) by unfold wrap64; omega]
      exact rrs_loop hp hl d (i + 1) (by omega)
theorem rrs_ev {p : List Nat} (hp : ∀ x ∈ p, x < 256) (hl : p.length ≤ 5000) (a : Int) : Ev (fun n => tapearchiveref03_Resync.f n (ints p) a) (rsyV (rs p a.toNat)) := by
  unfold tapearchiveref03_Resync.f
  refine Ev.pick (fun c => ?_) (fun c => ?_)
  · refine Ev.step (fun n => by simp only [tapearchiveref03_Resync.j0]; rfl) ?_
    rw [show a.toNat = 0 by omega]
    exact rrs_loop hp hl _ 0 rfl
  · refine Ev.step (fun n => by simp only [tapearchiveref03_Resync.j0]; rfl) ?_
    have := rrs_loop hp hl _ a.toNat rfl
    rwa [show ((a.toNat : Nat) : Int) = a by omega] at this
/-! Salvage. -/
def salv (p : List Nat) : Nat → Nat → List (List Nat)
  | 0, _ => []
  | f + 1, k => match rs p k with
    | none => []
    | some i => (fnext p (i : Nat)).1 :: salv p f (fnext p (i : Nat)).2.1.toNat
theorem salv_none {p : List Nat} {f k : Nat} (h : rs p k = none) : salv p (f + 1) k = [] := by unfold salv; rw [h]
theorem salv_some {p : List Nat} {f k i : Nat} (h : rs p k = some i) : salv p (f + 1) k = (fnext p (i : Nat)).1 :: salv p f (fnext p (i : Nat)).2.1.toNat := by rw [salv, h]
theorem salv_len {p : List Nat} : ∀ (f k : Nat), (salv p f k).length ≤ f
  | 0, _ => Nat.le_refl _
  | f + 1, k => by
    unfold salv
    cases rs p k with
    | none => exact Nat.zero_le _
    | some i => exact Nat.succ_le_succ (salv_len f _)
theorem rs_here {p : List Nat} {k : Nat} (h : (fnext p (k : Nat)).2.2 = 0) : rs p k = some k := by
  obtain ⟨e, he, h1, h2, h3⟩ := fnext_ok h
  unfold rs
  rw [show p.length - k = (p.length - k - 1) + 1 by omega]
  unfold rsy
  rw [if_pos h]
theorem fsal_loop {p : List Nat} (hp : ∀ x ∈ p, x < 256) (hl : p.length ≤ 5000) : ∀ (d k : Nat) (pre : List (List Nat)), p.length - k < d → k ≤ p.length → pre.length + d ≤ 20000 →
    Ev (fun n => frame_Salvage.l0 n (ints p) (pre.map ints) (k : Int)) ((pre ++ salv p d k).map ints)
  | 0, k, pre, h, _, _ => absurd h (by omega)
  | d + 1, k, pre, h, hk, hn => by
    have ok : ∀ i : Nat, k ≤ i → (fnext p (i : Nat)).2.2 = 0 → Ev (fun n => frame_Salvage.l0 n (ints p) (pre.map ints) (i : Int)) ((pre ++ (fnext p (i : Nat)).1 :: salv p d (fnext p (i : Nat)).2.1.toNat).map ints) := fun i hi hz => by
      obtain ⟨e, he, h1, h2, h3⟩ := fnext_ok hz
      refine Ev.step (fun n => by simp only [frame_Salvage.l0]; rfl) ?_
      refine Ev.call (next_ev hp _) ?_
      refine Ev.pos hz ?_
      refine Ev.call (clone_ev (l := ints (fnext p (i : Int)).1) (by rw [ints_length]; omega)) ?_
      refine Ev.pos (by rw [List.length_map]; omega) ?_
      have := fsal_loop hp hl d e (pre ++ [(fnext p (i : Nat)).1]) (by omega) h2 (by rw [List.length_append, List.length_singleton]; omega)
      rw [he, Int.toNat_natCast, List.append_cons pre]
      rw [show (nx (fnext p (i : Int))).2.1 = (e : Int) from he, show List.map ints pre ++ [ints (fnext p (i : Int)).1] = List.map ints (pre ++ [(fnext p (i : Nat)).1]) by simp]
      exact this
    by_cases hz : (fnext p (k : Nat)).2.2 = 0
    · rw [salv_some (rs_here hz)]
      exact ok k (Nat.le_refl _) hz
    · refine Ev.step (fun n => by simp only [frame_Salvage.l0]; rfl) (Ev.call (next_ev hp _) (Ev.neg hz (Ev.bind (frs_ev hp hl _) ?_)))
      rw [Int.toNat_natCast]
      cases hr : rs p k with
      | none => rw [salv_none hr, List.append_nil]; exact Ev.neg (by simp [rsyV]) (Ev.now _)
      | some i =>
        rw [salv_some hr]
        obtain ⟨h1, h2, h3, _⟩ := rsy_some _ _ _ hr
        exact Ev.pos rfl (ok i h1 h3)
theorem fsal_ev {p : List Nat} (hp : ∀ x ∈ p, x < 256) (hl : p.length ≤ 5000) : Ev (fun n => frame_Salvage.f n (ints p)) ((salv p (p.length + 1) 0).map ints) :=
  fsal_loop hp hl (p.length + 1) 0 [] (by omega) (Nat.zero_le _) (by simp; omega)
theorem rsal_loop {p : List Nat} (hp : ∀ x ∈ p, x < 256) (hl : p.length ≤ 5000) : ∀ (d k : Nat) (pre : List (List Nat)), p.length - k < d → k ≤ p.length → pre.length + d ≤ 20000 →
    Ev (fun n => tapearchiveref03_Salvage.l0 n (ints p) (pre.map ints) (k : Int)) ((pre ++ salv p d k).map ints)
  | 0, k, pre, h, _, _ => absurd h (by omega)
  | d + 1, k, pre, h, hk, hn => by
    refine Ev.step (fun n => by simp only [tapearchiveref03_Salvage.l0]; rfl) (Ev.bind (rrs_ev hp hl _) ?_)
    rw [Int.toNat_natCast]
    cases hr : rs p k with
    | none => rw [salv_none hr, List.append_nil]; exact Ev.neg (by simp [rsyV]) (Ev.now _)
    | some i =>
      rw [salv_some hr]
      obtain ⟨h1, h2, h3, _⟩ := rsy_some _ _ _ hr
      obtain ⟨e, he, h4, h5, h6⟩ := fnext_ok h3
      refine Ev.pos rfl ?_
      refine Ev.bind (rnext_ev hp hl _) ?_
      refine Ev.pos (by rw [List.length_map]; omega) ?_
      have := rsal_loop hp hl d e (pre ++ [(fnext p (i : Nat)).1]) (by omega) h5 (by rw [List.length_append, List.length_singleton]; omega)
      rw [he, Int.toNat_natCast, List.append_cons pre]
      rw [show (rsyV (some i)).1 = (i : Int) from rfl, show (nx (fnext p (i : Int))).2.1 = (e : Int) from he, show List.map ints pre ++ [(nx (fnext p (i : Int))).1] = List.map ints (pre ++ [(fnext p (i : Nat)).1]) by simp [nx]]
      exact this
theorem rsal_ev {p : List Nat} (hp : ∀ x ∈ p, x < 256) (hl : p.length ≤ 5000) : Ev (fun n => tapearchiveref03_Salvage.f n (ints p)) ((salv p (p.length + 1) 0).map ints) :=
  rsal_loop hp hl (p.length + 1) 0 [] (by omega) (Nat.zero_le _) (by simp; omega)
/-- The bodies of Scan are the first ones of Salvage. -/
theorem scan_salv {p : List Nat} : ∀ (d k : Nat), p.length - k < d → ∃ rest, salv p d k = (scan p k).map (·.1) ++ rest
  | 0, k, h => absurd h (by omega)
  | d + 1, k, h => by
    by_cases hz : (fnext p (k : Nat)).2.2 = 0
    · obtain ⟨e, he, h1, h2, h3⟩ := fnext_ok hz
      obtain ⟨rest, hr⟩ := scan_salv (p := p) d e (by omega)
      exact ⟨rest, by rw [salv_some (rs_here hz), he, Int.toNat_natCast, hr, scan_step hz he]; rfl⟩
    · exact ⟨_, by rw [scan_stop hz]; rfl⟩
end Go.Proofs.Ytgfkjjmlakolpaa.Pure
