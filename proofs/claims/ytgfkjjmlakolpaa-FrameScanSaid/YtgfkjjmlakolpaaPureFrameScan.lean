/- FrameScan: frames appended one after another, cut, are scanned: the bodies of those that are there as a whole. -/
import Derived.Test.YtgfkjjmlakolpaaFFnd
import Derived.Test.YtgfkjjmlakolpaaFDet
namespace Go.Proofs.Ytgfkjjmlakolpaa.Pure
open Go.RowKit Go.Proofs.Ytgfkjjmlakolpaa.Q Go.Proofs.YtgfkjjmlakolpaaW.PrintWords Go.Proofs.YtgfkjjmlakolpaaW.PrintLast
open Go.Proofs.Ytgfkjjmlakolpaa.Cr Go.Proofs.Ytgfkjjmlakolpaa.Evs
set_option linter.unusedVariables false
theorem frm_len (q : List Nat) : (frm q).length = 10 + q.length := by rw [frm_shape]; simp [four]; omega
def cat (l : List (List Nat)) : List Nat := l.flatMap frm
theorem cat_cons (q : List Nat) (l : List (List Nat)) : cat (q :: l) = frm q ++ cat l := rfl
theorem cat_snoc (q : List Nat) (l : List (List Nat)) : cat (l ++ [q]) = cat l ++ frm q := by simp [cat]
theorem fnext_at (pre r : List Nat) : fnext (pre ++ r) (pre.length : Nat) = fnextR r (pre.length : Nat) := by
  unfold fnext
  rw [if_neg (by rw [List.length_append]; omega), Int.toNat_natCast, List.drop_left]
theorem fnext_frm (pre post : List Nat) {q : List Nat} (hq : ∀ x ∈ q, x < 256) (hl : q.length ≤ 60) : fnext (pre ++ (frm q ++ post)) (pre.length : Nat) = (q, ((pre.length + (10 + q.length) : Nat) : Int), 0) := by
  rw [fnext_at, frm_shape]
  obtain ⟨c0, c1, c2, c3, hc⟩ : ∃ c0 c1 c2 c3, four (fck q) = [c0, c1, c2, c3] := ⟨_, _, _, _, rfl⟩
  have hnum : num [c0, c1, c2, c3] = fck q := by rw [← hc, num_four (fck_lt q)]
  rw [hc]
  have hlen : ([167, 60] ++ four q.length ++ [c0, c1, c2, c3] ++ q ++ post).length = 10 + q.length + post.length := by simp [four]; omega
  have m1 : mid ([167, 60] ++ four q.length ++ [c0, c1, c2, c3] ++ q ++ post) 2 6 = four q.length := by simp [mid, four]
  have m2 : mid ([167, 60] ++ four q.length ++ [c0, c1, c2, c3] ++ q ++ post) 6 10 = [c0, c1, c2, c3] := by simp [mid, four]
  have m3 : mid ([167, 60] ++ four q.length ++ [c0, c1, c2, c3] ++ q ++ post) 10 (10 + q.length) = q := by
    unfold mid
    rw [List.take_left' (by simp [four]; omega)]
    rfl
  unfold fnextR
  rw [if_neg (by omega), if_neg (by simp), m1, num_four (by omega), if_neg (by omega), if_neg (by omega), m2, m3, hnum]
  have e : cup (csum (four q.length)) q = fck q := rfl
  rw [if_neg (fun h => h e)]
  congr 1
theorem fnext_cut (pre : List Nat) {q : List Nat} (hl : q.length ≤ 60) {m : Nat} (hm : m < 10 + q.length) : (fnext (pre ++ (frm q).take m) (pre.length : Nat)).2.2 ≠ 0 := by
  rw [fnext_at]
  have hlen : ((frm q).take m).length = m := by rw [List.length_take, frm_len]; omega
  unfold fnextR
  by_cases h10 : m < 10
  · rw [if_pos (by omega)]; decide
  rw [if_neg (by omega)]
  have hm1 : mid ((frm q).take m) 2 6 = four q.length := by
    unfold mid
    rw [List.take_take, show min 6 m = 6 by omega, frm_shape]
    simp [four]
  by_cases c : ¬ (((frm q).take m).getD 0 0 = 167 ∧ ((frm q).take m).getD 1 0 = 60)
  · rw [if_pos c]; decide
  rw [if_neg c, hm1, num_four (by omega), if_neg (by omega), if_pos (by omega)]
  decide
def offs : List (List Nat) → Nat → List (List Nat × Nat)
  | [], _ => []
  | q :: l, k => (q, k + (10 + q.length)) :: offs l (k + (10 + q.length))
theorem scan_cat (r : List Nat) : ∀ (l : List (List Nat)) (pre : List Nat), (∀ q ∈ l, (∀ x ∈ q, x < 256) ∧ q.length ≤ 60) → scan (pre ++ (cat l ++ r)) pre.length = offs l pre.length ++ scan (pre ++ (cat l ++ r)) (pre.length + (cat l).length)
  | [], pre, _ => rfl
  | q :: l, pre, h => by
    obtain ⟨hq, hl⟩ := h q List.mem_cons_self
    have e : pre ++ (cat (q :: l) ++ r) = pre ++ (frm q ++ (cat l ++ r)) := by rw [cat_cons, List.append_assoc]
    have hf := fnext_frm pre (cat l ++ r) hq hl
    rw [e, scan_step (e := pre.length + (10 + q.length)) (by rw [hf]) (by rw [hf]), hf]
    have ih := scan_cat r l (pre ++ frm q) (fun q hq => h q (List.mem_cons_of_mem _ hq))
    rw [List.append_assoc, List.length_append, frm_len] at ih
    rw [ih, cat_cons, List.length_append, frm_len]
    show _ :: (offs l _ ++ _) = _ :: (offs l _ ++ _)
    rw [show pre.length + (10 + q.length + (cat l).length) = pre.length + (10 + q.length) + (cat l).length by omega]
theorem offs_fst : ∀ (l : List (List Nat)) (k : Nat), (offs l k).map (·.1) = l
  | [], _ => rfl
  | q :: l, k => by show q :: (offs l _).map (·.1) = q :: l; rw [offs_fst l]
theorem offs_last : ∀ (l : List (List Nat)) (k : Nat), l ≠ [] → lastE (offs l k) = k + (cat l).length
  | [], _, h => absurd rfl h
  | [q], k, _ => by simp [offs, lastE, cat, frm_len]
  | q :: q2 :: l, k, _ => by
    have ih := offs_last (q2 :: l) (k + (10 + q.length)) (by simp)
    have e : lastE (offs (q :: q2 :: l) k) = lastE (offs (q2 :: l) (k + (10 + q.length))) := by
      show (((_ :: offs (q2 :: l) (k + (10 + q.length))).getLast?).map _).getD 0 = _
      rfl
    rw [e, ih, cat_cons q, List.length_append, frm_len]; omega
theorem offs_last0 (l : List (List Nat)) : lastE (offs l 0) = (cat l).length := by
  cases l with
  | nil => rfl
  | cons q l => rw [offs_last _ _ (by simp), Nat.zero_add]
/-- The first a bytes of frames, n of which are there as a whole. -/
theorem scan_keep {M : List (List Nat)} (hM : ∀ q ∈ M, (∀ x ∈ q, x < 256) ∧ q.length ≤ 60) {n a : Nat} (hn : n ≤ M.length) (h1 : (cat (M.take n)).length ≤ a) (h2 : a ≤ (cat M).length) (h3 : n < M.length → a < (cat (M.take (n + 1))).length) :
    bods (scan ((cat M).take a) 0) = (M.take n).map ints ∧ lastE (scan ((cat M).take a) 0) = (cat (M.take n)).length := by
  have hcat : cat M = cat (M.take n) ++ cat (M.drop n) := by unfold cat; rw [← List.flatMap_append, List.take_append_drop]
  have hq : (cat M).take a = cat (M.take n) ++ (cat (M.drop n)).take (a - (cat (M.take n)).length) := by rw [hcat, List.take_append, List.take_of_length_le (by omega)]
  have hsc := scan_cat ((cat (M.drop n)).take (a - (cat (M.take n)).length)) (M.take n) [] (fun q hq => hM q (List.mem_of_mem_take hq))
  rw [List.nil_append, List.length_nil, ← hq] at hsc
  have hstop : scan ((cat M).take a) (0 + (cat (M.take n)).length) = [] := by
    refine scan_stop ?_
    rw [Nat.zero_add, hq]
    by_cases hlt : n < M.length
    · have hd : cat (M.drop n) = frm M[n] ++ cat (M.drop (n + 1)) := by rw [List.drop_eq_getElem_cons hlt, cat_cons]
      have h4 := h3 hlt
      rw [List.take_succ_eq_append_getElem hlt, cat_snoc, List.length_append, frm_len] at h4
      rw [hd, List.take_append_of_le_length (by rw [frm_len]; omega)]
      exact fnext_cut _ (hM _ (List.getElem_mem hlt)).2 (by omega)
    · have hz : a - (cat (M.take n)).length = 0 := by rw [List.take_of_length_le (by omega)] at h1; rw [List.take_of_length_le (by omega)]; omega
      rw [hz, List.take_zero, List.append_nil]
      exact not_ok (by omega)
  rw [hsc, hstop, List.append_nil]
  exact ⟨by unfold bods; rw [show (fun x : List Nat × Nat => ints x.1) = ints ∘ (·.1) from rfl, ← List.map_map, offs_fst], offs_last0 _⟩
/-! The law's own loops. -/
theorem rdL_map (L : List (List Nat)) (i : Nat) (hi : i < L.length) : rd_L1 (L.map ints) (i : Int) = ints L[i] := by
  unfold rd_L1
  rw [Int.toNat_natCast, List.getD_eq_getElem?_getD, List.getElem?_map, List.getElem?_eq_getElem hi]
  rfl
theorem few_loop {L : List (List Nat)} (hl : L.length ≤ 9223372036854775807) : ∀ (d i : Nat), i + d = (L.take 12).length → Ev (fun k => tapearchivelaw03_few.l0 k (L.map ints) (((L.take i).map (List.take 60)).map ints) (i : Int)) (((L.take 12).map (List.take 60)).map ints)
  | 0, i, h => by
    rw [List.length_take] at h
    have e : L.take i = L.take 12 := by
      by_cases h12 : 12 ≤ L.length
      · rw [show i = 12 by omega]
      · rw [List.take_of_length_le (by omega), List.take_of_length_le (by omega)]
    rw [e]
    refine Ev.step (fun k => by simp only [tapearchivelaw03_few.l0]; rfl) (Ev.pick (fun c => ?_) (fun c => ?_))
    · refine Ev.step (fun k => by simp only [tapearchivelaw03_few.j1]; rfl) (Ev.neg ?_ (Ev.now _))
      rw [List.length_map] at c
      simp; omega
    · refine Ev.step (fun k => by simp only [tapearchivelaw03_few.j1]; rfl) (Ev.neg (by decide) (Ev.now _))
  | d + 1, i, h => by
    have h' := h
    rw [List.length_take] at h
    have hi : i < L.length := by omega
    have hlen : (((L.take i).map (List.take 60)).map ints).length ≤ 12 := by simp; omega
    refine Ev.step (fun k => by simp only [tapearchivelaw03_few.l0]; rfl) (Ev.pos (by rw [List.length_map]; omega) ?_)
    refine Ev.step (fun k => by simp only [tapearchivelaw03_few.j1]; rfl) (Ev.pos (by simp; omega) (Ev.pos (by omega) (Ev.pos (by rw [List.length_map]; omega) ?_)))
    rw [rdL_map L i hi, ints_length, show wrap64 ((i : Int) + 1) = ((i + 1 : Nat) : Int) by unfold wrap64; omega]
    have ih := few_loop hl d (i + 1) (by omega)
    rw [List.take_succ_eq_append_getElem hi, List.map_append, List.map_append] at ih
    refine Ev.pick (fun c => Ev.pos (by omega) (Ev.pos (by omega) ?_)) (fun c => Ev.pos (by omega) ?_)
    · rw [ints_take]; exact ih
    · have e : [L[i]].map (List.take 60) = [L[i]] := by simp; rw [List.take_of_length_le (by omega)]
      rw [e] at ih; exact ih
theorem few_ev {L : List (List Nat)} (hl : L.length ≤ 9223372036854775807) : Ev (fun k => tapearchivelaw03_few.f k (L.map ints)) (((L.take 12).map (List.take 60)).map ints) :=
  few_loop hl _ 0 (Nat.zero_add _)
theorem cat_bytes {M : List (List Nat)} (hM : ∀ q ∈ M, ∀ x ∈ q, x < 256) : ∀ x ∈ cat M, x < 256 := fun x hx => by
  obtain ⟨q, hq, hx⟩ := List.mem_flatMap.1 hx
  rw [frm_shape] at hx
  simp only [List.mem_append] at hx
  rcases hx with ((hx | hx) | hx) | hx
  · simp at hx; omega
  · exact four_lt _ x hx
  · exact four_lt _ x hx
  · exact hM q hq x hx
theorem cat_len : ∀ {M : List (List Nat)}, (∀ q ∈ M, q.length ≤ 60) → (cat M).length ≤ M.length * 70
  | [], _ => Nat.le_refl _
  | q :: M, h => by
    have := cat_len (M := M) (fun q hq => h q (List.mem_cons_of_mem _ hq))
    have := h q List.mem_cons_self
    rw [cat_cons, List.length_append, frm_len, List.length_cons]; omega
theorem flen_ev {n : Nat} (h : n ≤ 60) : frame_Len.f (n : Int) = some ((n + 10 : Nat) : Int) := by
  unfold frame_Len.f
  rw [if_neg (by omega), if_neg (by omega)]
  congr 1
  unfold wrap64
  omega
theorem fs_loop {M : List (List Nat)} (hM : ∀ q ∈ M, (∀ x ∈ q, x < 256) ∧ q.length ≤ 60) (hm : M.length ≤ 12) (a : Int) : ∀ (d i n : Nat), i + d = M.length → n ≤ i → (0 ≤ a → ((cat (M.take n)).length : Int) ≤ a) → (n < i → a < ((cat (M.take (n + 1))).length : Int)) →
    Ev (fun k => tapearchivelaw03_FrameScan.l0 k (M.map ints) a (ints (cat (M.take i))) ((cat (M.take n)).length : Int) (n : Int) (i : Int)) true
  | 0, i, n, h, hn, h1, h2 => by
    obtain rfl : i = M.length := by omega
    rw [List.take_length]
    have hcl := cat_len (M := M) (fun q hq => (hM q hq).2)
    refine Ev.step (fun k => by simp only [tapearchivelaw03_FrameScan.l0]; rfl) (Ev.neg (by rw [List.length_map]; omega) ?_)
    have out : ∀ b : Bool, b = true → Ev (fun k => tapearchivelaw03_FrameScan.j2 k (M.map ints) a (ints (cat M)) ((cat (M.take n)).length : Int) (n : Int) b) true := fun b hb => by
      subst hb
      exact Ev.step (fun k => by simp only [tapearchivelaw03_FrameScan.j2]; rfl) (Ev.pos (by trivial) (Ev.call awake_ev (Ev.now _)))
    refine Ev.pick (fun c => out _ rfl) (fun c => ?_)
    by_cases c2 : a > ((ints (cat M)).length : Int)
    · exact out _ (decide_eq_true c2)
    rw [decide_eq_false c2]
    rw [ints_length] at c2
    obtain ⟨m, rfl⟩ := Int.eq_ofNat_of_zero_le (show 0 ≤ a by omega)
    have hk := scan_keep hM hn (by have := h1 (by omega); omega) (show m ≤ (cat M).length by omega) (fun hlt => by have := h2 hlt; omega)
    have hb : ∀ x ∈ (cat M).take m, x < 256 := fun x hx => cat_bytes (fun q hq => (hM q hq).1) x (List.mem_of_mem_take hx)
    have hbl : ((cat M).take m).length ≤ 5000 := by rw [List.length_take]; omega
    refine Ev.step (fun k => by simp only [tapearchivelaw03_FrameScan.j2]; rfl) (Ev.neg (by decide) (Ev.pos (by omega) (Ev.pos (by rw [ints_length]; omega) ?_)))
    rw [Int.toNat_natCast, ints_take, Int.toNat_natCast]
    refine Ev.call (fscan_ev hb hbl) (Ev.pos (by omega) (Ev.pos (by rw [List.length_map]; omega) (Ev.bind (same_ev (by rw [hk.1, List.map_take]) (by rw [hk.1]; simp; omega)) ?_)))
    refine Ev.pos rfl (Ev.pos ?_ (Ev.call awake_ev (Ev.now _)))
    show ((lastE (scan ((cat M).take m) 0) : Nat) : Int) = _
    rw [hk.2]
  | d + 1, i, n, h, hn, h1, h2 => by
    have hi : i < M.length := by omega
    obtain ⟨hq, hql⟩ := hM M[i] (List.getElem_mem hi)
    have hcl := cat_len (M := M.take (i + 1)) (fun q hq => (hM q (List.mem_of_mem_take hq)).2)
    rw [List.length_take] at hcl
    have hct : cat (M.take (i + 1)) = cat (M.take i) ++ frm M[i] := by rw [List.take_succ_eq_append_getElem hi, cat_snoc]
    have hc2 : (cat (M.take (i + 1))).length = (cat (M.take i)).length + (10 + M[i].length) := by rw [hct, List.length_append, frm_len]
    refine Ev.step (fun k => by simp only [tapearchivelaw03_FrameScan.l0]; rfl) (Ev.pos (by rw [List.length_map]; omega) (Ev.pos (by omega) ?_))
    rw [rdL_map M i hi]
    refine Ev.call (app_ev hq (by rw [ints_length]; omega) (by omega)) (Ev.pos rfl (Ev.call (by rw [ints_length]; exact flen_ev hql) ?_))
    have e1 : ints (cat (M.take i)) ++ ints (frm M[i]) = ints (cat (M.take (i + 1))) := by rw [hct, ints_append]
    rw [show ((ints (cat (M.take i)) ++ ints (frm M[i]), (0 : Int)) : List Int × Int).1 = ints (cat (M.take (i + 1))) from e1, ints_length, ints_length]
    have e2 : (((cat (M.take (i + 1))).length : Int) != wrap64 (((cat (M.take i)).length : Int) + ((M[i].length + 10 : Nat) : Int))) = false := by
      rw [show wrap64 (((cat (M.take i)).length : Int) + ((M[i].length + 10 : Nat) : Int)) = ((cat (M.take (i + 1))).length : Int) by unfold wrap64; omega]
      simp
    rw [e2]
    clear e2
    refine Ev.step (fun k => by simp only [tapearchivelaw03_FrameScan.j1]; rfl) (Ev.neg (by decide) ?_)
    rw [ints_length, show wrap64 ((i : Int) + 1) = ((i + 1 : Nat) : Int) by unfold wrap64; omega]
    refine Ev.pick (fun c => ?_) (fun c => ?_)
    · exact fs_loop hM hm a d (i + 1) (i + 1) (by omega) (Nat.le_refl _) (fun _ => c) (fun hlt => absurd hlt (by omega))
    · refine fs_loop hM hm a d (i + 1) n (by omega) (by omega) h1 (fun hlt => ?_)
      by_cases e : n = i
      · rw [e]; omega
      · exact h2 (by omega)
theorem rows_nat {l : List (List Int)} (h : ∀ r ∈ l, ∀ x ∈ r, (Lit.int .u8 x).wf = true) : ∃ L : List (List Nat), l = L.map ints ∧ ∀ q ∈ L, ∀ x ∈ q, x < 256 := by
  induction l with
  | nil => exact ⟨[], rfl, fun q hq => absurd hq (by simp)⟩
  | cons r l ih =>
    obtain ⟨q, rfl, hq⟩ := bytes_of (h r List.mem_cons_self)
    obtain ⟨L, rfl, hL⟩ := ih (fun r hr => h r (List.mem_cons_of_mem _ hr))
    exact ⟨q :: L, rfl, fun z hz => by rcases List.mem_cons.1 hz with rfl | hz; exact hq; exact hL z hz⟩
theorem FrameScan (l0 : List (List Int)) (hl : l0.length ≤ maxLen) (h : ∀ r ∈ l0, r.length ≤ maxLen ∧ ∀ x ∈ r, (Lit.int .u8 x).wf = true) (a1 : Int) (_ : (Lit.int .i64 a1).wf = true) : ∃ k, tapearchivelaw03_FrameScan.f k l0 a1 = some true := by
  unfold maxLen at hl
  obtain ⟨L, rfl, hL⟩ := rows_nat (fun r hr => (h r hr).2)
  rw [List.length_map] at hl
  refine Ev.rounds ?_
  unfold tapearchivelaw03_FrameScan.f
  refine Ev.bind (few_ev hl) ?_
  refine fs_loop (fun q hq => ?_) (by simp; omega) a1 _ 0 0 (Nat.zero_add _) (Nat.le_refl _) (fun h => h) (fun h => absurd h (by omega))
  obtain ⟨z, hz, rfl⟩ := List.mem_map.1 hq
  exact ⟨fun x hx => hL z (List.mem_of_mem_take hz) x (List.mem_of_mem_take hx), by rw [List.length_take]; omega⟩
end Go.Proofs.Ytgfkjjmlakolpaa.Pure
