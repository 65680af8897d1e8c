/- The reference's Next over plain numbers: the same as frame.next. -/
import Derived.Test.YtgfkjjmlakolpaaFEv
import Derived.Test.YtgfkjjmlakolpaaQ5
import Derived.Test.YtgfkjjmlakolpaaQ6
import Derived.Test.YtgfkjjmlakolpaaQ7
import Derived.Lib.Bytes
namespace Go.Proofs.Ytgfkjjmlakolpaa.Pure
open Go.RowKit Go.Proofs.Ytgfkjjmlakolpaa.Q Go.Proofs.YtgfkjjmlakolpaaW.PrintWords Go.Proofs.YtgfkjjmlakolpaaW.PrintLast
open Go.Proofs.Ytgfkjjmlakolpaa.Cr Go.Proofs.Ytgfkjjmlakolpaa.Evs
set_option linter.unusedVariables false
theorem four_num {p : List Nat} (hp : ∀ x ∈ p, x < 256) (hl : p.length = 4) : four (num p) = p := by
  match p, hl with
  | [a, b, c, d], _ =>
    have h0 : a < 256 := hp a (by simp)
    have h1 : b < 256 := hp b (by simp)
    have h2 : c < 256 := hp c (by simp)
    have h3 : d < 256 := hp d (by simp)
    show [_, _, _, _] = _
    have e : num [a, b, c, d] = a * 16777216 + b * 65536 + c * 256 + d := rfl
    rw [e]
    simp only [List.cons.injEq, and_true]
    omega
theorem num_four {x : Nat} (hx : x < 4294967296) : num (four x) = x := by
  show x / 16777216 % 256 * 16777216 + x / 65536 % 256 * 65536 + x / 256 % 256 * 256 + x % 256 = x
  omega
theorem num_mid (r : List Nat) : num (r.drop 2) = num (mid r 2 6) := by
  have e : ∀ j, j < 4 → (r.drop 2).getD j 0 = (mid r 2 6).getD j 0 := fun j hj => by
    unfold mid
    rw [List.getD_eq_getElem?_getD, List.getD_eq_getElem?_getD, List.getElem?_drop, List.getElem?_drop, List.getElem?_take_of_lt (by omega)]
  unfold num
  rw [e 0 (by omega), e 1 (by omega), e 2 (by omega), e 3 (by omega)]
theorem rnumber_step {p : List Nat} (hp : ∀ x ∈ p, x < 256) (x i : Nat) (hx : x < 1099511627776) (hi : i < 4) (hl : 4 ≤ p.length) {r : Int}
    (h : Ev (fun k => tapearchiveref03_number.l0 k (ints p) ((x * 256 + p.getD i 0 : Nat) : Int) ((i + 1 : Nat) : Int)) r) : Ev (fun k => tapearchiveref03_number.l0 k (ints p) (x : Int) (i : Int)) r := by
  refine Ev.step (fun k => ?_) h
  simp only [tapearchiveref03_number.l0]
  have hg := getD_lt hp i
  rw [if_pos (by omega), if_pos (by omega), if_pos (by rw [ints_length]; omega), ints_rd]
  generalize p.getD i 0 = g at hg
  have w1 : wrap64 ((wrap64 ((x : Int) * 256)) + (wrap64 (g : Int))) = ((x * 256 + g : Nat) : Int) := by
    have a : wrap64 ((x : Int) * 256) = (x : Int) * 256 := by unfold wrap64; omega
    have b : wrap64 (g : Int) = (g : Int) := by clear a; unfold wrap64; omega
    rw [a, b]; clear a b; unfold wrap64; omega
  have w2 : wrap64 ((i : Int) + 1) = ((i + 1 : Nat) : Int) := by clear w1; unfold wrap64; omega
  rw [w1, w2]
theorem rnumber_ev {p : List Nat} (hp : ∀ x ∈ p, x < 256) (hl : 4 ≤ p.length) : Ev (fun k => tapearchiveref03_number.f k (ints p)) ((num p : Nat) : Int) := by
  have g0 := getD_lt hp 0
  have g1 := getD_lt hp 1
  have g2 := getD_lt hp 2
  have g3 := getD_lt hp 3
  have s4 : Ev (fun k => tapearchiveref03_number.l0 k (ints p) ((num p : Nat) : Int) ((3 + 1 : Nat) : Int)) ((num p : Nat) : Int) := by
    refine Ev.step (f := fun _ => some _) (fun k => ?_) (Ev.now _)
    simp only [tapearchiveref03_number.l0]
    rw [if_neg (by omega)]
  have hn : num p = ((p.getD 0 0 * 256 + p.getD 1 0) * 256 + p.getD 2 0) * 256 + p.getD 3 0 := by unfold num; omega
  have h0 : p.getD 0 0 = 0 * 256 + p.getD 0 0 := by omega
  rw [hn] at s4
  have s3 := rnumber_step hp ((p.getD 0 0 * 256 + p.getD 1 0) * 256 + p.getD 2 0) 3 (by omega) (by omega) hl s4
  have s2 := rnumber_step hp (p.getD 0 0 * 256 + p.getD 1 0) 2 (by omega) (by omega) hl s3
  have s1 := rnumber_step hp (p.getD 0 0) 1 (by omega) (by omega) hl s2
  rw [h0] at s1
  have s0 := rnumber_step hp 0 0 (by omega) (by omega) hl s1
  rw [← h0, ← hn] at s0
  exact s0
theorem str_eq {a b : List Nat} (ha : ∀ x ∈ a, x < 256) (hb : ∀ x ∈ b, x < 256) : (strOfNums (ints a)).toList = (strOfNums (ints b)).toList ↔ a = b := by
  refine ⟨fun h => ?_, fun h => by rw [h]⟩
  rw [Lib.strOfNums_toList, Lib.strOfNums_toList] at h
  induction a generalizing b with
  | nil => cases b with
    | nil => rfl
    | cons y b => simp [Lib.bytesOf, ints] at h
  | cons x a ih => cases b with
    | nil => simp [Lib.bytesOf, ints] at h
    | cons y b =>
      simp only [Lib.bytesOf, ints, List.map_cons, List.cons.injEq] at h
      have hx := ha x (by simp)
      have hy := hb y (by simp)
      have e : x = y := by
        have := congrArg UInt8.toNat h.1
        simp at this
        omega
      rw [e, ih (fun z hz => ha z (List.mem_cons_of_mem _ hz)) (fun z hz => hb z (List.mem_cons_of_mem _ hz)) (by simpa [Lib.bytesOf, ints] using h.2)]
/-- What 'next' answers, as whole numbers. -/
def nx (z : List Nat × Int × Int) : List Int × Int × Int := (ints z.1, z.2.1, z.2.2)
theorem wrap64_mid {x : Int} (h0 : -1000000000000 ≤ x) (h1 : x ≤ 1000000000000) : wrap64 x = x := by unfold wrap64; omega
theorem rnext_j1 {r : List Nat} (hr : ∀ x ∈ r, x < 256) (hl : r.length ≤ 5000) (h10 : 10 ≤ r.length) (a : Int) (h0 : 0 ≤ a) (ha : a ≤ 100000) (h7 : r.getD 0 0 = 167 ∧ r.getD 1 0 = 60) :
    Ev (fun k => tapearchiveref03_Next.j1 k a (ints r) false) (nx (fnextR r a)) := by
  have hlen := ints_length r
  have hnl := num_lt (mid_lt hr 2 6)
  have hm : (mid r 2 6).length = 4 := mid_length (by omega)
  unfold fnextR
  rw [if_neg (by omega), if_neg (by simp only [h7]; decide)]
  refine Ev.step (fun k => by simp only [tapearchiveref03_Next.j1]; rfl) ?_
  refine Ev.neg (by simp) (Ev.pos (by omega) ?_)
  rw [ints_drop]
  have hd : ∀ x ∈ r.drop 2, x < 256 := fun x hx => hr x (List.mem_of_mem_drop hx)
  refine Ev.bind (rnumber_ev hd (by rw [List.length_drop]; omega)) ?_
  rw [num_mid]
  have h4 := four_num (mid_lt hr 2 6) hm
  generalize hn : num (mid r 2 6) = n at hnl h4 ⊢
  refine Ev.pick (fun c1 => ?_) fun c1 => ?_
  · rw [if_pos (show 65536 < n by omega)]
    exact Ev.now _
  rw [if_neg (show ¬ 65536 < n by omega)]
  have w : wrap64 ((n : Int) + 10) = ((10 + n : Nat) : Int) := by rw [wrap64_mid (by omega) (by omega)]; omega
  rw [w]
  clear w
  refine Ev.pick (fun c2 => ?_) fun c2 => ?_
  · rw [if_pos (show r.length < 10 + n by omega)]
    exact Ev.now _
  rw [if_neg (show ¬ r.length < 10 + n by omega)]
  have w1 : wrap64 (wrap64 (a + (n : Int)) + 10) = a + ((10 + n : Nat) : Int) := by
    rw [wrap64_mid (x := a + (n : Int)) (by omega) (by omega), wrap64_mid (x := a + (n : Int) + 10) (by omega) (by omega)]
    omega
  have W1 := Aside0.mk w1
  clear w1
  refine Ev.pos (by omega) (Ev.pos (by omega) ?_)
  rw [Int.toNat_natCast, mid_ints]
  have hb := mid_lt hr 10 (10 + n)
  have hbl : (mid r 10 (10 + n)).length = n := by rw [mid_length (by omega)]; omega
  have c5 : ([] : List Int).length + (ints (mid r 10 (10 + n))).length < 140737488355328 := by
    have h5 := ints_length (mid r 10 (10 + n))
    rw [h5, hbl, List.length_nil]
    omega
  refine Ev.call (a := ints (mid r 10 (10 + n))) rfl ?_
  refine Ev.pos c5 ?_
  refine Ev.call (a := ints (mid r 10 (10 + n))) (by rw [List.nil_append]) ?_
  refine Ev.call (rsum_ev hb (by omega)) (Ev.pos (by decide) (Ev.pos (by omega) ?_))
  rw [mid_ints]
  have hb6 := mid_lt hr 6 10
  have hm6 : (mid r 6 10).length = 4 := mid_length (by omega)
  have hf : fck (mid r 10 (10 + n)) = cup (csum (mid r 2 6)) (mid r 10 (10 + n)) := by unfold fck; rw [hbl, h4]
  have hs := str_eq (four_lt (fck (mid r 10 (10 + n)))) hb6
  have hlt := fck_lt (mid r 10 (10 + n))
  rw [← hf]
  have hiff : four (fck (mid r 10 (10 + n))) = mid r 6 10 ↔ fck (mid r 10 (10 + n)) = num (mid r 6 10) :=
    ⟨fun h => by rw [← h, num_four hlt], fun h => by rw [h, four_num hb6 hm6]⟩
  by_cases c3 : fck (mid r 10 (10 + n)) = num (mid r 6 10)
  · refine Ev.pos (hs.2 (hiff.2 c3)) ?_
    have e : (if fck (mid r 10 (10 + n)) ≠ num (mid r 6 10) then (([], 0, 4) : List Nat × Int × Int) else (mid r 10 (10 + n), a + ((10 + n : Nat) : Int), 0)) = (mid r 10 (10 + n), a + ((10 + n : Nat) : Int), 0) := if_neg (fun h => h c3)
    rw [e, W1.out]
    exact Ev.now _
  · refine Ev.neg (fun h => c3 (hiff.1 (hs.1 h))) ?_
    have e : (if fck (mid r 10 (10 + n)) ≠ num (mid r 6 10) then (([], 0, 4) : List Nat × Int × Int) else (mid r 10 (10 + n), a + ((10 + n : Nat) : Int), 0)) = ([], 0, 4) := if_pos c3
    rw [e]
    exact Ev.now _
theorem rnext_ev {p : List Nat} (hp : ∀ x ∈ p, x < 256) (hl : p.length ≤ 5000) (a : Int) : Ev (fun k => tapearchiveref03_Next.f k (ints p) a) (nx (fnext p a)) := by
  have hlen := ints_length p
  unfold tapearchiveref03_Next.f fnext
  have bad : ∀ {z : List Nat × Int × Int}, nx z = ([], 0, 7) → Ev (fun k => tapearchiveref03_Next.j0 k (ints p) a true) (nx z) := fun hz => by
    rw [hz]
    exact Ev.step (f := fun _ => some _) (fun k => by simp only [tapearchiveref03_Next.j0]; rfl) (Ev.now _)
  refine Ev.pick (fun c1 => ?_) fun c1 => ?_
  · rw [if_pos (.inl c1)]
    exact bad rfl
  by_cases c2 : a > ((ints p).length : Int)
  · rw [decide_eq_true c2, if_pos (.inr (by omega))]
    exact bad rfl
  rw [decide_eq_false c2, if_neg (by omega)]
  obtain ⟨i, rfl⟩ := Int.eq_ofNat_of_zero_le (show 0 ≤ a by omega)
  have hi : i ≤ p.length := by omega
  refine Ev.step (fun k => by simp only [tapearchiveref03_Next.j0]; rfl) ?_
  refine Ev.neg (by simp) (Ev.pos (by omega) (Ev.pos (by omega) ?_))
  rw [Int.toNat_natCast, ints_drop]
  refine Ev.call rfl ?_
  have hr : ∀ x ∈ p.drop i, x < 256 := fun x hx => hp x (List.mem_of_mem_drop hx)
  have hrl : (p.drop i).length ≤ 5000 := by rw [List.length_drop]; omega
  generalize p.drop i = r at hr hrl
  have hl2 := ints_length r
  refine Ev.pick (fun c3 => ?_) fun c3 => ?_
  · unfold fnextR
    rw [if_pos (by omega)]
    exact Ev.now _
  refine Ev.pos (by omega) ?_
  have r0 := ints_rd r 0
  have r1 := ints_rd r 1
  simp only [Int.cast_ofNat_Int] at r0 r1
  have no : ∀ (c : ¬ (r.getD 0 0 = 167 ∧ r.getD 1 0 = 60)), nx (fnextR r (i : Int)) = ([], 0, 1) := fun c => by
    unfold fnextR
    rw [if_neg (by omega), if_pos c]
    rfl
  refine Ev.pick (fun c4 => ?_) fun c4 => ?_
  · rw [r0] at c4
    refine Ev.pos (by omega) ?_
    by_cases c5 : r.getD 1 0 = 60
    · rw [show ((rd (ints r) 1) != 60) = false by rw [r1, c5]; rfl]
      exact rnext_j1 hr hrl (by omega) _ (by omega) (by omega) ⟨by omega, c5⟩
    · rw [show ((rd (ints r) 1) != 60) = true by rw [r1]; exact bne_iff_ne.2 (by omega), no (fun h => c5 h.2)]
      exact Ev.step (f := fun _ => some _) (fun k => by simp only [tapearchiveref03_Next.j1]; rfl) (Ev.now _)
  · rw [r0] at c4
    rw [no (fun h => c4 (by omega))]
    exact Ev.step (f := fun _ => some _) (fun k => by simp only [tapearchiveref03_Next.j1]; rfl) (Ev.now _)
theorem mid_len_le (r : List Nat) (lo hi : Nat) : (mid r lo hi).length ≤ r.length := by
  unfold mid; rw [List.length_drop, List.length_take]; omega
theorem fnext_len (p : List Nat) (a : Int) : (fnext p a).1.length ≤ p.length := by
  unfold fnext
  split
  · exact Nat.zero_le _
  · have h : (p.drop a.toNat).length ≤ p.length := by rw [List.length_drop]; omega
    refine Nat.le_trans ?_ h
    unfold fnextR
    repeat' split
    all_goals first | exact Nat.zero_le _ | exact mid_len_le _ _ _
theorem next_ev {p : List Nat} (hp : ∀ x ∈ p, x < 256) (a : Int) : frame_next.f (ints p) a = some (nx (fnext p a)) := by
  unfold frame_next.f
  rw [if_pos (bytes_ints hp), nats_ints]
  rfl
theorem clone_ev {l : List Int} (h : l.length ≤ 1000000) : bytes_Clone.f l = some l := by
  unfold bytes_Clone.f
  rw [if_pos (by omega)]
theorem Next_ev {p : List Nat} (hp : ∀ x ∈ p, x < 256) (hl : p.length ≤ 5000) (a : Int) : frame_Next.f (ints p) a = some (nx (fnext p a)) := by
  unfold frame_Next.f
  have h := fnext_len p a
  rw [next_ev hp, Option.bind_some, show (nx (fnext p a)).1 = ints (fnext p a).1 from rfl, clone_ev (by rw [ints_length]; omega)]
  rfl
end Go.Proofs.Ytgfkjjmlakolpaa.Pure
