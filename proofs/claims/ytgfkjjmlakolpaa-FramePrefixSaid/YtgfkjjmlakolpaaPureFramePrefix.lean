/- FramePrefix: the pure statement. -/
import Derived.Test.YtgfkjjmlakolpaaFFnd
import Derived.Test.YtgfkjjmlakolpaaQ11
namespace Go.Proofs.Ytgfkjjmlakolpaa.Pure
open Go.RowKit Go.Proofs.Ytgfkjjmlakolpaa.Q Go.Proofs.YtgfkjjmlakolpaaW.PrintWords Go.Proofs.YtgfkjjmlakolpaaW.PrintLast
open Go.Proofs.Ytgfkjjmlakolpaa.Cr Go.Proofs.Ytgfkjjmlakolpaa.Evs
set_option linter.unusedVariables false
theorem prefix_loop {p : List Nat} (hp : ∀ x ∈ p, x < 256) (hl : p.length ≤ 5000) : ∀ (d k n : Nat), n - k = d → n ≤ 5000 → (∀ m, k ≤ m → m < n → (fnext p (m : Nat)).2.2 ≠ 0) → Ev (fun f => tapearchivelaw03_FramePrefix.l0 f (ints p) (n : Int) (k : Int)) true
  | 0, k, n, h, _, _ => by
    refine Ev.step (fun f => by simp only [tapearchivelaw03_FramePrefix.l0]; rfl) (Ev.neg (by omega) (Ev.call awake_ev (Ev.now _)))
  | d + 1, k, n, h, hn, hz => by
    refine Ev.step (fun f => by simp only [tapearchivelaw03_FramePrefix.l0]; rfl) (Ev.pos (by omega) (Ev.call (Next_ev hp hl _) (Ev.neg (hz k (Nat.le_refl _) (by omega)) ?_)))
    rw [show wrap64 ((k : Int) + 1) = ((k + 1 : Nat) : Int) by unfold wrap64; omega]
    exact prefix_loop hp hl d (k + 1) n (by omega) hn (fun m h1 h2 => hz m (by omega) h2)
theorem prefix_j1 {p : List Nat} (hp : ∀ x ∈ p, x < 256) (hl : p.length ≤ 5000) (a : Int) (n : Nat) (hn : n ≤ 5000) (hz : ∀ m, a.toNat ≤ m → m < n → (fnext p (m : Nat)).2.2 ≠ 0) : Ev (fun f => tapearchivelaw03_FramePrefix.j1 f (ints p) a (n : Int)) true := by
  refine Ev.step (fun f => by simp only [tapearchivelaw03_FramePrefix.j1]; rfl) ?_
  rw [show mx a 0 = ((a.toNat : Nat) : Int) by unfold mx; split <;> omega]
  exact prefix_loop hp hl _ a.toNat n rfl hn hz
theorem FramePrefix : tapearchivelaw03_FramePrefix.Pure := by
  intro l0 a1 _ _ b0 _
  obtain ⟨p0, rfl, hp0⟩ := bytes_of b0
  have hl : (p0.take 300).length ≤ 300 := by rw [List.length_take]; omega
  have hp : ∀ x ∈ p0.take 300, x < 256 := fun x hx => hp0 x (List.mem_of_mem_take hx)
  refine Ev.rounds ?_
  unfold tapearchivelaw03_FramePrefix.f
  refine Ev.call (short_ev p0) ?_
  generalize p0.take 300 = p at hl hp
  have hs := scan_len (p := p) 0
  have hv := salv_len (p := p) (p.length + 1) 0
  obtain ⟨rest, hr⟩ := scan_salv (p := p) (p.length + 1) 0 (by omega)
  have hbl : (bods (scan p 0)).length = (scan p 0).length := by simp [bods]
  have hsl : ((salv p (p.length + 1) 0).map ints).length = (scan p 0).length + rest.length := by rw [hr]; simp
  refine Ev.call (fscan_ev hp (by omega)) (Ev.bind (fsal_ev hp (by omega)) (Ev.neg (by rw [hbl, hsl]; omega) (Ev.pos (by omega) (Ev.pos (by rw [hbl, hsl]; omega) (Ev.bind (same_ev ?_ (by rw [hbl]; omega)) ?_)))))
  · rw [hbl, Int.toNat_natCast, hr, List.map_append, List.take_left' (by simp)]
    simp [bods]
  refine Ev.step (fun f => by simp only [tapearchivelaw03_FramePrefix.j0]; rfl) (Ev.neg (by decide) (Ev.bind (frs_ev hp (by omega) a1) ?_))
  cases hrs : rs p a1.toNat with
  | none =>
    refine Ev.neg (by simp [rsyV]) ?_
    rw [ints_length]
    exact prefix_j1 hp (by omega) a1 p.length (by omega) (fun m h1 h2 => rsy_none _ _ hrs m h1 (by omega))
  | some i =>
    obtain ⟨h1, h2, h3, h4⟩ := rsy_some _ _ _ hrs
    refine Ev.pos rfl (Ev.call (Next_ev hp (by omega) _) (Ev.pos h3 (Ev.neg (by show ¬ (i : Int) < a1; omega) ?_)))
    exact prefix_j1 hp (by omega) a1 i (by omega) h4
end Go.Proofs.Ytgfkjjmlakolpaa.Pure
