/- The references of Split and Join: what they answer. -/
import Derived.Test.YtmlfpcnemganbaaESpl
import Derived.Test.YtmlfpcnemganbaaQ16
import Derived.Test.YtmlfpcnemganbaaQ17
namespace Go.Proofs.Ytmlfpcnemganbaa.Q
open Go.RowKit Go.Proofs.YtmlfpcnemganbaaW.PrintWords Go.Proofs.YtmlfpcnemganbaaW.PrintLast Go.Proofs.YtmlfpcnemganbaaW.PrintMore
open Go.Proofs.Ytmlfpcnemganbaa.Gf Go.Proofs.Ytmlfpcnemganbaa.Lin Go.Proofs.Ytmlfpcnemganbaa.Evs
set_option linter.unusedVariables false
set_option linter.unnecessarySimpa false
theorem cutL_step {b : List Int} {m s i k : Nat} (hm : b.length ≤ m) (hk : k < s) (hi : i * s + s ≤ m) : (cutL b m s i).take k ++ [if i * s + k < b.length then rd b ((i * s + k : Nat) : Int) else 0] = (cutL b m s i).take (k + 1) := by
  have hl : (cutL b m s i).length = s := by unfold cutL; rw [List.length_take, List.length_drop, padL_length hm]; omega
  rw [List.take_succ_eq_append_getElem (by omega)]
  refine congrArg (fun x => (cutL b m s i).take k ++ [x]) ?_
  unfold cutL
  rw [List.getElem_take, List.getElem_drop]
  unfold padL rd
  rw [Int.toNat_natCast]
  by_cases h : i * s + k < b.length
  · rw [if_pos h, List.getElem_append_left h, List.getD_eq_getElem?_getD, List.getElem?_eq_getElem h]
    rfl
  · rw [if_neg h, List.getElem_append_right (by omega), List.getElem_replicate]
theorem rsplit_in {b : List Int} {n s i : Nat} (hb : b.length ≤ 1000) (hs : s ≤ 2000) (hn : n ≤ 16) (hm : b.length ≤ n * s) (hi : i * s + s ≤ n * s) (hi2 : i < n) {r : List (List Int) × Int} (hr : Ev (fun k => tapearchiveref06_Split.l0 k b (n : Int) (s : Int) (splitV b n s (i + 1)) ((i + 1 : Nat) : Int)) r) :
    ∀ (d k : Nat), k + d = s → Ev (fun f => tapearchiveref06_Split.l1 f b (n : Int) (s : Int) (splitV b n s i) (i : Int) ((cutL b (n * s) s i).take k) (k : Int)) r
  | 0, k, h => by
    have hl := splitV_length b n s i
    have hc : (cutL b (n * s) s i).length = s := by unfold cutL; rw [List.length_take, List.length_drop, padL_length hm]; omega
    refine Ev.step (fun k => by simp only [tapearchiveref06_Split.l1]; rfl) (Ev.neg (by omega) (Ev.pos (by omega) ?_))
    rw [List.take_of_length_le (by omega), splitV_snoc, w_succ (by omega)]
    exact hr
  | d + 1, k, h => by
    have hw1 : wrap64 ((i : Int) * (s : Int)) = ((i * s : Nat) : Int) := by
      rw [← Int.natCast_mul]
      have : i * s ≤ 16 * 2000 := Nat.mul_le_mul (by omega) hs
      generalize i * s = a at this
      unfold wrap64
      omega
    have hw2 : wrap64 (((i * s : Nat) : Int) + (k : Int)) = ((i * s + k : Nat) : Int) := by
      have : i * s ≤ 16 * 2000 := Nat.mul_le_mul (by omega) hs
      generalize i * s = a at this
      unfold wrap64
      omega
    have hst := cutL_step (b := b) (k := k) hm (by omega) hi
    have hl : ((cutL b (n * s) s i).take k).length ≤ k := List.length_take_le _ _
    refine Ev.step (fun k => by simp only [tapearchiveref06_Split.l1]; rfl) (Ev.pos (by clear hw1 hw2; omega) ?_)
    rw [hw1, hw2]
    clear hw1 hw2
    by_cases hlt : i * s + k < b.length
    · rw [if_pos hlt] at hst
      refine Ev.pos (by omega) (Ev.pos (by omega) (Ev.pos (by omega) ?_))
      rw [hst, w_succ (by omega)]
      exact rsplit_in hb hs hn hm hi hi2 hr d (k + 1) (by omega)
    · rw [if_neg hlt] at hst
      refine Ev.neg (by omega) (Ev.pos (by omega) ?_)
      rw [hst, w_succ (by omega)]
      exact rsplit_in hb hs hn hm hi hi2 hr d (k + 1) (by omega)
theorem rsplit_loop {b : List Int} {n s : Nat} (hb : b.length ≤ 1000) (hs : s ≤ 2000) (hn : n ≤ 16) (hm : b.length ≤ n * s) : ∀ (d i : Nat), i + d = n → Ev (fun k => tapearchiveref06_Split.l0 k b (n : Int) (s : Int) (splitV b n s i) (i : Int)) (splitV b n s n, 0)
  | 0, i, h => by
    refine Ev.step (fun k => by simp only [tapearchiveref06_Split.l0]; rfl) (Ev.neg (by omega) ?_)
    rw [show i = n by omega]
    exact Ev.now _
  | d + 1, i, h => by
    refine Ev.step (fun k => by simp only [tapearchiveref06_Split.l0]; rfl) (Ev.pos (by omega) ?_)
    exact rsplit_in hb hs hn hm (by rw [← Nat.succ_mul]; exact Nat.mul_le_mul_right _ (by omega)) (by omega) (rsplit_loop hb hs hn hm d (i + 1) (by omega)) s 0 (by omega)
def sizeS (b : List Int) (n : Nat) : Nat := (b.length + n - 1) / n
theorem sizeS_facts {b : List Int} {n : Nat} (h1 : 1 ≤ n) : b.length ≤ n * sizeS b n ∧ n * sizeS b n ≤ b.length + n := by
  have := Nat.div_add_mod (b.length + n - 1) n
  have h3 := Nat.mod_lt (b.length + n - 1) (show 0 < n by omega)
  unfold sizeS
  constructor <;> omega
theorem sizeS_le {b : List Int} {n : Nat} (h1 : 1 ≤ n) : sizeS b n ≤ b.length + n := Nat.le_trans (Nat.le_mul_of_pos_left _ (by omega)) (sizeS_facts h1).2
def splitR (b : List Int) (p : Int) : List (List Int) × Int := if 1 ≤ p ∧ p ≤ 16 then (splitV b p.toNat (sizeS b p.toNat) p.toNat, 0) else ([], 7)
theorem rsplit_ev {b : List Int} (hb : b.length ≤ 1000) (p : Int) : Ev (fun k => tapearchiveref06_Split.f k b p) (splitR b p) := by
  unfold tapearchiveref06_Split.f splitR
  have out : ∀ z : Bool, z = true → ¬ (1 ≤ p ∧ p ≤ 16) → Ev (fun k => tapearchiveref06_Split.j0 k b p z) (if 1 ≤ p ∧ p ≤ 16 then (splitV b p.toNat (sizeS b p.toNat) p.toNat, 0) else ([], 7)) := fun z hz hn => by
    subst hz
    rw [if_neg hn]
    exact Ev.step (fun k => by simp only [tapearchiveref06_Split.j0]; rfl) (Ev.pos (by trivial) (Ev.now _))
  by_cases h1 : p < 1
  · exact Ev.pos h1 (out _ rfl (by omega))
  refine Ev.neg h1 ?_
  by_cases h2 : p > 16
  · rw [decide_eq_true h2]
    exact out _ rfl (by omega)
  rw [decide_eq_false h2, if_pos ⟨by omega, by omega⟩]
  obtain ⟨n, rfl⟩ := Int.eq_ofNat_of_zero_le (show 0 ≤ p by omega)
  rw [Int.toNat_natCast]
  refine Ev.step (fun k => by simp only [tapearchiveref06_Split.j0]; rfl) (Ev.neg (by decide) (Ev.neg (by omega) ?_))
  have hn1 : 1 ≤ n := by omega
  have hf := sizeS_facts (b := b) hn1
  have hsl := sizeS_le (b := b) hn1
  have e1 : wrap64 (wrap64 ((b.length : Int) + (n : Int)) - 1) = ((b.length + n - 1 : Nat) : Int) := by
    have e : wrap64 ((b.length : Int) + (n : Int)) = ((b.length + n : Nat) : Int) := by unfold wrap64; omega
    rw [e]
    unfold wrap64
    omega
  have e2 : wrap64 (Int.tdiv ((b.length + n - 1 : Nat) : Int) (n : Int)) = (sizeS b n : Int) := by
    rw [Int.tdiv_eq_ediv_of_nonneg (by omega), ← Int.natCast_ediv]
    show wrap64 ((sizeS b n : Nat) : Int) = _
    unfold wrap64
    omega
  rw [e1, e2]
  clear e1 e2
  exact rsplit_loop hb (by omega) (by omega) hf.1 n 0 (by omega)
theorem rjoin_loop {l : List (List Int)} {m : Nat} (hl : l.length ≤ 1000) (hr : ∀ r ∈ l, r.length ≤ 1000) : ∀ (d i : Nat), i + d = l.length → Ev (fun k => tapearchiveref06_Join.l0 k l (m : Int) (joinK l i) (i : Int)) (joinR l (m : Int))
  | 0, i, h => by
    have e : joinK l i = l.flatten := by unfold joinK; rw [List.take_of_length_le (by omega)]
    refine Ev.step (fun k => by simp only [tapearchiveref06_Join.l0]; rfl) (Ev.neg (by omega) ?_)
    rw [e]
    have hR : joinR l (m : Int) = if (l.flatten.length : Int) < (m : Int) then ([], 2) else (l.flatten.take m, 0) := by unfold joinR; rw [if_neg (by omega), Int.toNat_natCast]
    rw [hR]
    refine Ev.pick (fun c => ?_) (fun c => ?_)
    · rw [if_pos c]
      exact Ev.now _
    · rw [if_neg c]
      exact Ev.pos (by omega) (Ev.pos (by omega) (Ev.now _))
  | d + 1, i, h => by
    have h1 := joinK_len hr i (by omega)
    have h2 := hr l[i] (List.getElem_mem (by omega))
    have hst := joinK_step (l := l) (i := i) (by omega)
    rw [List.getD_eq_getElem?_getD, List.getElem?_eq_getElem (by omega), Option.getD_some] at hst
    refine Ev.step (fun k => by simp only [tapearchiveref06_Join.l0]; rfl) (Ev.pos (by omega) (Ev.pos (by omega) ?_))
    rw [rdL_get (by omega), hst, w_succ (by omega)]
    exact Ev.pos (by omega) (rjoin_loop hl hr d (i + 1) (by omega))
theorem rjoin_ev {l : List (List Int)} (hl : l.length ≤ 1000) (hr : ∀ r ∈ l, r.length ≤ 1000) (p : Int) : Ev (fun k => tapearchiveref06_Join.f k l p) (joinR l p) := by
  unfold tapearchiveref06_Join.f
  by_cases hp : p < 0
  · unfold joinR
    rw [if_pos hp]
    exact Ev.pos hp (Ev.now _)
  · obtain ⟨m, rfl⟩ := Int.eq_ofNat_of_zero_le (show 0 ≤ p by omega)
    exact Ev.neg hp (rjoin_loop hl hr l.length 0 (by omega))
theorem flat_split {b : List Int} {n s : Nat} : ∀ j, j ≤ n → (splitV b n s j).flatten = (padL b (n * s)).take (j * s)
  | 0, _ => by simp [splitV]
  | j + 1, h => by
    rw [← splitV_snoc, List.flatten_append, flat_split j (by omega), Nat.succ_mul, List.take_add]
    simp [cutL]
/-- Split's shards, joined. -/
theorem join_split {b : List Int} {n : Nat} (h1 : 1 ≤ n) : joinR (splitV b n (sizeS b n) n) (b.length : Int) = (b, 0) := by
  have hf := sizeS_facts (b := b) h1
  have hfl : (splitV b n (sizeS b n) n).flatten = padL b (n * sizeS b n) := by
    rw [flat_split n (Nat.le_refl _), List.take_of_length_le (by rw [padL_length hf.1]; exact Nat.le_refl _)]
  unfold joinR
  rw [if_neg (by omega), hfl, padL_length hf.1, if_neg (by omega), Int.toNat_natCast]
  unfold padL
  rw [List.take_left' rfl]
theorem splitV_row {b : List Int} {n s : Nat} {j : Nat} (hs : s ≤ 1000) : ∀ r ∈ splitV b n s j, r.length ≤ 1000 := fun r hr => by
  unfold splitV at hr
  obtain ⟨i, _, rfl⟩ := List.mem_map.1 hr
  unfold cutL
  rw [List.length_take]
  omega
theorem splitV_allB {b : List Int} {n s j : Nat} (hb : Bytes b) : AllB (splitV b n s j) := fun r hr x hx => by
  unfold splitV at hr
  obtain ⟨i, _, rfl⟩ := List.mem_map.1 hr
  have h := List.mem_of_mem_drop (List.mem_of_mem_take hx)
  unfold padL at h
  rcases List.mem_append.1 h with h | h
  · exact hb x h
  · rw [(List.mem_replicate.1 h).2]
    omega
end Go.Proofs.Ytmlfpcnemganbaa.Q
