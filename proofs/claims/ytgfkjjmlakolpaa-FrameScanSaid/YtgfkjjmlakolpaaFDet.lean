/- A frame with one byte of its checksum or body changed is not read: ErrChecksum. -/
import Derived.Test.YtgfkjjmlakolpaaFNEv
namespace Go.Proofs.Ytgfkjjmlakolpaa.Pure
open Go.RowKit Go.Proofs.Ytgfkjjmlakolpaa.Q Go.Proofs.YtgfkjjmlakolpaaW.PrintWords Go.Proofs.YtgfkjjmlakolpaaW.PrintLast
open Go.Proofs.Ytgfkjjmlakolpaa.Cr Go.Proofs.Ytgfkjjmlakolpaa.Evs
set_option linter.unusedVariables false
theorem upd_cons (r x : Nat) (l : List Nat) : upd r (x :: l) = upd (aft r x) l := rfl
theorem aft_one (r y d : Nat) : aft r (y ^^^ d) = aft r y ^^^ stps 8 d := by
  unfold aft
  rw [← stps_xor, Nat.xor_assoc]
theorem xor_lt256 {a b : Nat} (ha : a < 256) (hb : b < 256) : a ^^^ b < 256 := Nat.xor_lt_two_pow (n := 8) ha hb
theorem cup_one {s y d : Nat} {pre post : List Nat} (hp : ∀ x ∈ pre ++ y :: post, x < 256) (hd : d < 256) (h0 : d ≠ 0) : cup s (pre ++ (y ^^^ d) :: post) ≠ cup s (pre ++ y :: post) := by
  intro h
  unfold cup at h
  have hpre : ∀ x ∈ pre, x < 256 := fun x hx => hp x (List.mem_append_left _ hx)
  have hr := upd_lt (l := pre) (inv_lt s) hpre
  have hu := upd_lt (r := inv s) (inv_lt s) hp
  rw [upd_append] at h hu
  rw [upd_append] at h
  generalize upd (inv s) pre = r at h hr hu
  have e : upd r ((y ^^^ d) :: post) = upd r (y :: post) ^^^ stps (8 * post.length) (stps 8 d) := by
    rw [upd_cons, upd_cons, aft_one, upd_xor]
  rw [e] at h
  have hd32 : d < 4294967296 := by omega
  have hdl : stps (8 * post.length) (stps 8 d) < 4294967296 := stps_lt _ (stps_lt _ hd32)
  generalize upd r (y :: post) = u at h hu
  rw [inv_xor (xor_lt32 hu hdl), inv_xor hu] at h
  have h1 : u ^^^ stps (8 * post.length) (stps 8 d) = u := by
    have h2 : (u ^^^ stps (8 * post.length) (stps 8 d) ^^^ 4294967295) ^^^ 4294967295 = (u ^^^ 4294967295) ^^^ 4294967295 := by rw [h]
    rwa [Nat.xor_assoc, Nat.xor_self, Nat.xor_zero, Nat.xor_assoc, Nat.xor_self, Nat.xor_zero] at h2
  have h3 : stps (8 * post.length) (stps 8 d) = 0 := by
    have h4 : u ^^^ (u ^^^ stps (8 * post.length) (stps 8 d)) = u ^^^ u := by rw [h1]
    rwa [← Nat.xor_assoc, Nat.xor_self, Nat.zero_xor] at h4
  exact h0 (stps_inj 8 hd32 (stps_inj _ (stps_lt _ hd32) h3))
theorem xor_ne {y d : Nat} (h0 : d ≠ 0) : y ^^^ d ≠ y := fun h => by
  have h2 : y ^^^ (y ^^^ d) = y ^^^ y := by rw [h]
  rw [← Nat.xor_assoc, Nat.xor_self, Nat.zero_xor] at h2
  exact h0 h2
/-- The parts of a list of at least ten elements behind its head. -/
theorem fnext_bad {c0 c1 c2 c3 : Nat} {b : List Nat} (hb : b.length ≤ 65536) (hc : num [c0, c1, c2, c3] ≠ fck b) :
    fnext ([167, 60] ++ four b.length ++ [c0, c1, c2, c3] ++ b) 0 = ([], 0, 4) := by
  have hl : ([167, 60] ++ four b.length ++ [c0, c1, c2, c3] ++ b).length = b.length + 10 := by simp [four]
  unfold fnext
  rw [if_neg (by omega)]
  have hd : ([167, 60] ++ four b.length ++ [c0, c1, c2, c3] ++ b).drop (0 : Int).toNat = [167, 60] ++ four b.length ++ [c0, c1, c2, c3] ++ b := rfl
  rw [hd]
  have m1 : mid ([167, 60] ++ four b.length ++ [c0, c1, c2, c3] ++ b) 2 6 = four b.length := by simp [mid, four]
  have m2 : mid ([167, 60] ++ four b.length ++ [c0, c1, c2, c3] ++ b) 6 10 = [c0, c1, c2, c3] := by simp [mid, four]
  have m3 : mid ([167, 60] ++ four b.length ++ [c0, c1, c2, c3] ++ b) 10 (10 + b.length) = b := by
    unfold mid
    rw [List.take_of_length_le (by omega)]
    rfl
  unfold fnextR
  rw [if_neg (by omega), if_neg (by simp), m1, num_four (by omega), if_neg (by omega), if_neg (by omega), m2, m3]
  exact if_pos (fun h => hc h.symm)
theorem frm_shape (p : List Nat) : frm p = [167, 60] ++ four p.length ++ four (fck p) ++ p := rfl
theorem split1 {p : List Nat} {a : Nat} (h : a < p.length) : ∃ pre y post, p = pre ++ y :: post ∧ pre.length = a ∧ y = p.getD a 0 := by
  refine ⟨p.take a, p[a], p.drop (a + 1), ?_, by rw [List.length_take]; omega, by rw [List.getD_eq_getElem?_getD, List.getElem?_eq_getElem h]; rfl⟩
  rw [← List.drop_eq_getElem_cons h, List.take_append_drop]
theorem set_mid {pre post : List Nat} {y x : Nat} {n : Nat} (h : pre.length = n) : (pre ++ y :: post).set n x = pre ++ x :: post := by
  subst h
  simp
theorem det_ev {q : List Nat} (hq : ∀ x ∈ q, x < 256) (hl : q.length ≤ 60) {a d : Nat} (h6 : 6 ≤ a) (ha : a < q.length + 10) (hd : d < 256) (h0 : d ≠ 0) :
    fnext ((frm q).set a ((frm q).getD a 0 ^^^ d)) 0 = ([], 0, 4) := by
  rw [frm_shape]
  have hck := fck_lt q
  obtain ⟨c0, c1, c2, c3, hc⟩ : ∃ c0 c1 c2 c3, four (fck q) = [c0, c1, c2, c3] := ⟨_, _, _, _, rfl⟩
  have hcb := four_lt (fck q)
  rw [hc] at hcb ⊢
  have hnum : num [c0, c1, c2, c3] = fck q := by rw [← hc, num_four hck]
  have b0 : c0 < 256 := hcb c0 (by simp)
  have b1 : c1 < 256 := hcb c1 (by simp)
  have b2 : c2 < 256 := hcb c2 (by simp)
  have b3 : c3 < 256 := hcb c3 (by simp)
  have four_ne : ∀ e0 e1 e2 e3 : Nat, e0 < 256 → e1 < 256 → e2 < 256 → e3 < 256 → [e0, e1, e2, e3] ≠ [c0, c1, c2, c3] → num [e0, e1, e2, e3] ≠ fck q := by
    intro e0 e1 e2 e3 k0 k1 k2 k3 hne h
    apply hne
    have h1 := four_num (p := [e0, e1, e2, e3]) (by simp [k0, k1, k2, k3]) rfl
    have h2 := four_num (p := [c0, c1, c2, c3]) (by simp [b0, b1, b2, b3]) rfl
    rw [← h1, ← h2, h, hnum]
  by_cases h10 : a < 10
  · rcases (show a = 6 ∨ a = 7 ∨ a = 8 ∨ a = 9 by omega) with rfl | rfl | rfl | rfl
    · exact fnext_bad (c0 := c0 ^^^ d) (c1 := c1) (c2 := c2) (c3 := c3) (by omega) (four_ne _ _ _ _ (xor_lt256 b0 hd) b1 b2 b3 (by simp [xor_ne h0]))
    · exact fnext_bad (c0 := c0) (c1 := c1 ^^^ d) (c2 := c2) (c3 := c3) (by omega) (four_ne _ _ _ _ b0 (xor_lt256 b1 hd) b2 b3 (by simp [xor_ne h0]))
    · exact fnext_bad (c0 := c0) (c1 := c1) (c2 := c2 ^^^ d) (c3 := c3) (by omega) (four_ne _ _ _ _ b0 b1 (xor_lt256 b2 hd) b3 (by simp [xor_ne h0]))
    · exact fnext_bad (c0 := c0) (c1 := c1) (c2 := c2) (c3 := c3 ^^^ d) (by omega) (four_ne _ _ _ _ b0 b1 b2 (xor_lt256 b3 hd) (by simp [xor_ne h0]))
  · obtain ⟨pre, y, post, he, hp, hy⟩ := split1 (p := q) (a := a - 10) (by omega)
    have hgo : ([167, 60] ++ four q.length ++ [c0, c1, c2, c3] ++ q).getD a 0 = y := by
      rw [hy, List.getD_eq_getElem?_getD, List.getD_eq_getElem?_getD, List.getElem?_append_right (by simp [four]; omega)]
      rfl
    have hset : ([167, 60] ++ four q.length ++ [c0, c1, c2, c3] ++ q).set a (y ^^^ d) = [167, 60] ++ four (pre ++ (y ^^^ d) :: post).length ++ [c0, c1, c2, c3] ++ (pre ++ (y ^^^ d) :: post) := by
      have hln : (pre ++ (y ^^^ d) :: post).length = q.length := by rw [he]; simp
      rw [hln, List.set_append_right _ _ (by simp [four]; omega)]
      congr 1
      have e : a - ([167, 60] ++ four q.length ++ [c0, c1, c2, c3]).length = a - 10 := rfl
      rw [e]
      conv => lhs; rw [he]
      exact set_mid hp
    rw [hgo, hset]
    have hln : (pre ++ (y ^^^ d) :: post).length = q.length := by rw [he]; simp
    refine fnext_bad (by rw [hln]; omega) ?_
    rw [hnum]
    have hne := cup_one (s := csum (four q.length)) (y := y) (d := d) (pre := pre) (post := post) (he ▸ hq) hd h0
    rw [← he] at hne
    unfold fck
    rw [hln]
    exact hne.symm
end Go.Proofs.Ytgfkjjmlakolpaa.Pure
