/- The statement TopShards: its parts. -/
import Derived.Test.YtmlfpcnemganbaaTGen
import Derived.Test.YtmlfpcnemganbaaMApp
import Derived.Test.YtmlfpcnemganbaaQ1T
namespace Go.Proofs.Ytmlfpcnemganbaa.Q
open Go.RowKit Go.Proofs.YtmlfpcnemganbaaW.PrintWords Go.Proofs.YtmlfpcnemganbaaW.PrintLast Go.Proofs.YtmlfpcnemganbaaW.PrintMore
open Go.Proofs.Ytmlfpcnemganbaa.Gf Go.Proofs.Ytmlfpcnemganbaa.Lin Go.Proofs.Ytmlfpcnemganbaa.Evs
set_option linter.unusedVariables false
set_option linter.unnecessarySimpa false
def shrB (l : List (List Int)) (i : Nat) : Bool := decide (∀ r ∈ l.drop i, r.length ≤ 40 ∧ r.length = wid l) && decide (1 ≤ l.length ∧ l.length ≤ 8)
theorem shrB_step {l : List (List Int)} {i : Nat} (hi : i < l.length) : shrB l i = (decide (l[i].length ≤ 40 ∧ l[i].length = wid l) && shrB l (i + 1)) := by
  unfold shrB
  rw [List.drop_eq_getElem_cons hi]
  by_cases hc : l[i].length ≤ 40 ∧ l[i].length = wid l
  · rw [decide_eq_true hc, Bool.true_and]
    congr 1
    rw [decide_eq_decide]
    exact ⟨fun h r hr => h r (List.mem_cons_of_mem _ hr), fun h r hr => by rcases List.mem_cons.1 hr with rfl | hr; exact hc; exact h r hr⟩
  · rw [decide_eq_false hc, Bool.false_and, decide_eq_false (fun h => hc (h _ List.mem_cons_self)), Bool.false_and]
theorem w_succ2 {i : Nat} (h : i < 9223372036854775807) : wrap64 ((i : Int) + 1) = ((i + 1 : Nat) : Int) := by unfold wrap64; omega
theorem shards_loop {l : List (List Int)} (hl : l.length ≤ maxLen) : ∀ (d i : Nat), i + d = l.length → Ev (fun k => tapearchivetop_shards.l0 k l (i : Int)) (shrB l i)
  | 0, i, h => by
    refine Ev.step (fun k => by simp only [tapearchivetop_shards.l0]; rfl) (Ev.neg (by omega) ?_)
    unfold shrB
    rw [List.drop_of_length_le (by omega), decide_eq_true (fun r hr => absurd hr (by simp)), Bool.true_and]
    refine Ev.pick (fun c => ?_) (fun c => ?_)
    · refine Ev.eq (Ev.now _) (decide_eq_decide.2 ?_)
      omega
    · rw [decide_eq_false (by omega)]
      exact Ev.now _
  | d + 1, i, h => by
    have hi : i < l.length := by omega
    refine Ev.step (fun k => by simp only [tapearchivetop_shards.l0]; rfl) (Ev.pos (by omega) (Ev.pos (by omega) ?_))
    rw [rdL_get hi, wid_rd, w_succ2 (by have : maxLen = 9223372036854775807 := rfl; omega), shrB_step hi]
    refine Ev.pick (fun c => ?_) (fun c => Ev.pos (by omega) (Ev.pick (fun c2 => ?_) (fun c2 => ?_)))
    · rw [decide_eq_false (fun h => by omega), Bool.false_and]
      exact Ev.now _
    · rw [decide_eq_true ⟨by omega, by unfold wid; omega⟩, Bool.true_and]
      exact shards_loop hl d (i + 1) (by omega)
    · rw [decide_eq_false (fun h => by have := h.2; unfold wid at this; omega), Bool.false_and]
      exact Ev.now _
theorem shards_c {w : World} {A : Option Addr} {n c : Nat} {l : List (List Int)} (h : RC w A n c l) (hl : n ≤ maxLen) :
    Calls Try.prog 10 #[.slice A n c] w fun e w' => e = .returned (.bool (shrB l 0)) ∧ Below w.heap.size w w' := by
  obtain ⟨hC, hc⟩ := h
  obtain rfl := hC.1
  obtain ⟨k, hk⟩ := Ev.rounds (shards_loop hl l.length 0 (by omega))
  refine (tapearchivetop_shards.calls k A c l _ w hC hc hk).mono fun e w' ⟨he, nd, hd⟩ => ⟨he, ?_⟩
  subst hd
  exact pw_below_drewN (Below.refl _ _) _
theorem par_e {D : List (List Int)} (h : shrB D 0 = true) : 1 ≤ D.length ∧ D.length ≤ 8 ∧ wid D ≤ 40 ∧ evenP D := by
  unfold shrB at h
  rw [Bool.and_eq_true, decide_eq_true_eq, decide_eq_true_eq, List.drop_zero] at h
  obtain ⟨h1, h2, h3⟩ := h
  refine ⟨h2, h3, ?_, fun r hr => (h1 r hr).2⟩
  have hm : D[0]'(by omega) ∈ D := List.getElem_mem _
  have := (h1 _ hm)
  omega
set_option maxRecDepth 100000 in
set_option maxHeartbeats 4000000 in
theorem top_bad {A0 A1 : Option Addr} {n c0 n1 c1 : Nat} {l : List (List Int)} {p : Int} (w : World) (h0 : RC w A0 n c0 l) (hn : n ≤ maxLen) (hp : -9223372036854775808 ≤ p ∧ p ≤ 9223372036854775807) (hn1 : n1 ≤ maxLen) (hbad : ¬ (shrB l 0 = true ∧ 1 ≤ p ∧ p ≤ 8 ∧ (n1 : Int) = (n : Int) + p)) :
    Calls Try.prog 3 #[.slice A0 n c0, .int .i64 p, .slice A1 n1 c1] w fun e w' => e = .returned (.bool true) ∧ Below w.heap.size w w' := by
  have HSH := Aside0.mk (shards_c h0 hn)
  have hlen := h0.len
  cases hs : shrB l 0 with
  | false =>
    rw [hs] at HSH
    clear h0 hbad hs hlen
    go_enter Try.func3, Try.ntmps3
    go_wp2_with (first
      | (go_at_call 10; refine HSH.out.mono ?_; rintro e_ w1 ⟨rfl, hb1⟩; have HB1 := Aside0.mk hb1; clear hb1)
      | (go_at_call 11; refine (codes_c _).mono ?_; rintro e_ w2 ⟨rfl, hb2⟩; have HB2 := Aside0.mk (below_step HB1.out hb2); clear hb2))
    go_ret
    exact ⟨rfl, HB2.out⟩
  | true =>
    have hf := par_e hs
    rw [hlen] at hf
    rw [hs] at HSH
    by_cases h1 : p < 1
    · have hd1 : decide (p < 1) = true := decide_eq_true h1
      clear h0 hbad hs hlen hf
      go_enter Try.func3, Try.ntmps3
      go_wp2_with (first
        | (go_at_call 10; refine HSH.out.mono ?_; rintro e_ w1 ⟨rfl, hb1⟩; have HB1 := Aside0.mk hb1; clear hb1)
        | (go_at_call 11; refine (codes_c _).mono ?_; rintro e_ w2 ⟨rfl, hb2⟩; have HB2 := Aside0.mk (below_step HB1.out hb2); clear hb2))
      go_ret
      exact ⟨rfl, HB2.out⟩
    · have hd1 : decide (p < 1) = false := decide_eq_false h1
      by_cases h2 : 8 < p
      · have hd2 : decide (8 < p) = true := decide_eq_true h2
        clear h0 hbad hs hlen hf
        go_enter Try.func3, Try.ntmps3
        go_wp2_with (first
          | (go_at_call 10; refine HSH.out.mono ?_; rintro e_ w1 ⟨rfl, hb1⟩; have HB1 := Aside0.mk hb1; clear hb1)
          | (go_at_call 11; refine (codes_c _).mono ?_; rintro e_ w2 ⟨rfl, hb2⟩; have HB2 := Aside0.mk (below_step HB1.out hb2); clear hb2))
        go_ret
        exact ⟨rfl, HB2.out⟩
      · have hd2 : decide (8 < p) = false := decide_eq_false h2
        obtain ⟨m, rfl⟩ := Int.eq_ofNat_of_zero_le (show 0 ≤ p by omega)
        have hm8 : m ≤ 8 := by omega
        have hn8 : n ≤ 8 := hf.2.1
        have hne : (n1 : Int) ≠ ((n + m : Nat) : Int) := fun e => hbad ⟨hs, by omega, by omega, by omega⟩
        have hne1 : ((n1 : Int) != (n : Int) + (m : Int)) = true := bne_iff_ne.2 (by omega)
        have hne2 : ((n1 : Int) == (n : Int) + (m : Int)) = false := beq_eq_false_iff_ne.2 (by omega)
        clear h0 hbad hs hlen hf hne
        go_enter Try.func3, Try.ntmps3
        go_wp2_with (first
          | (go_at_call 10; refine HSH.out.mono ?_; rintro e_ w1 ⟨rfl, hb1⟩; have HB1 := Aside0.mk hb1; clear hb1)
          | (go_at_call 11; refine (codes_c _).mono ?_; rintro e_ w2 ⟨rfl, hb2⟩; have HB2 := Aside0.mk (below_step HB1.out hb2); clear hb2))
        go_ret
        exact ⟨rfl, HB2.out⟩
theorem pick_all {D : List (List Int)} {p : Nat} (h : Shards D p) {ix : List Nat} (hix : ∀ x ∈ ix, x < D.length + p) :
    pickL (allS D p) (ints ix) = rowsL (mulF D.length (selM D.length (ints ix)) (toM D)) ix.length (wid D) := by
  unfold pickL
  apply List.ext_getElem?
  intro j
  by_cases hj : j < ix.length
  · have hj2 : j < (ints ix).length := by rw [ints_length]; exact hj
    have h1 := hix ix[j] (List.getElem_mem hj)
    have e : (ints ix)[j] = ((ix[j] : Nat) : Int) := by simp [ints]
    rw [List.getElem?_map, List.getElem?_eq_getElem hj2, Option.map_some, rowsL_get hj, e]
    unfold rd_L1
    rw [Int.toNat_natCast, h.row h1]
    refine congrArg some (rowV_congr fun c _ => ?_)
    refine sum_congr fun k _ => ?_
    unfold selM
    rw [ints_getD, List.getD_eq_getElem?_getD, List.getElem?_eq_getElem hj]
    rfl
  · rw [List.getElem?_eq_none (by rw [List.length_map, ints_length]; omega), List.getElem?_eq_none (by rw [rowsL_length]; omega)]
set_option maxRecDepth 100000 in
set_option maxHeartbeats 8000000 in
theorem top_few {A0 A1 : Option Addr} {c0 c1 n p q : Nat} {D : List (List Int)} {b : List Bool} (w : World) (h0 : RC w A0 n c0 D) (hsh : shrB D 0 = true) (hs : Shards D p) (hp1 : 1 ≤ p) (hp8 : p ≤ 8) (hq : q = n + p) (h1 : Kd.C Kd.bool w A1 q b) (hqc : q ≤ c1) (hlt : (ixs b).length < n) :
    Calls Try.prog 3 #[.slice A0 n c0, .int .i64 (p : Nat), .slice A1 q c1] w fun e w' => e = .returned (.bool true) ∧ Below w.heap.size w w' := by
  have HSH := Aside0.mk (shards_c h0 (by have := (par_e hsh); have := h0.len; have : maxLen = 9223372036854775807 := rfl; omega))
  rw [hsh] at HSH
  have hf := par_e hsh
  have hDl := h0.len
  rw [hDl] at hf
  have hn1 : 1 ≤ n := hf.1
  have hn8 : n ≤ 8 := hf.2.1
  have hC40 : wid D ≤ 40 := hf.2.2.1
  have HN := Lib.hid hDl
  have HQ := Lib.hid hq
  have hbl : b.length = q := h1.1
  have HBL := Lib.hid hbl
  have HS := Aside0.mk hs
  have H0 := Aside0.mk h0
  have H1 := Aside0.mk h1
  have HALLL : Aside0 ((allS D p).length = q) := ⟨by rw [hs.all_len, hDl, hq]⟩
  have hd1 : decide ((p : Int) < 1) = false := decide_eq_false (by omega)
  have hd1' : decide (p < 1) = false := decide_eq_false (by omega)
  have hd2 : decide ((8 : Int) < (p : Int)) = false := decide_eq_false (by omega)
  have hd2' : decide (8 < p) = false := decide_eq_false (by omega)
  have hqI : (n : Int) + (p : Int) = (q : Int) := by omega
  clear hf h0 hsh hs h1 hbl hDl hq
  have hm : ((ixs b).take n).length = (ixs b).length := by rw [List.length_take]; omega
  have HGEN : Aside0 (∀ (W : World) (A : Option Addr) (c : Nat), RC W A q c (allS D p) → Kd.C Kd.bool W A1 q b → Calls Try.prog 13 #[.slice A q c, .slice A1 q c1, .int .i64 (n : Nat), .int .i64 (p : Nat)] W fun e w' => ∃ A c A' c', e = .returned (.tuple #[.slice A (ixs b).length c, .slice A' (ixs b).length c']) ∧ Below W.heap.size W w') := ⟨fun W A c hr hb => by
    refine (gen_walk hn1 hp1 (by omega) HQ.out W hr hb hqc).mono fun e w' ⟨A, c, A', c', he, _, _, hbel⟩ => ?_
    rw [hm] at he
    exact ⟨A, c, A', c', he, hbel⟩⟩
  have hl1 : decide (((ixs b).length : Int) < (n : Int)) = true := decide_eq_true (by omega)
  have hl2 : decide ((ixs b).length < n) = true := decide_eq_true hlt
  generalize (ixs b).length = m at HGEN hl1 hl2 hm hlt
  go_enter Try.func3, Try.ntmps3
  go_wp2_with (first
    | (go_at_call 10; refine HSH.out.mono ?_; rintro e_ w1 ⟨rfl, hb1⟩; have HB1 := Aside0.mk hb1; have H01 := Aside0.mk (H0.out.below hb1); clear hb1)
    | (go_at_call 12; refine (par_ok H01.out HS.out).mono ?_; rintro e_ w3 ⟨A3, c3, rfl, h3, hb3⟩; have H3 := Aside0.mk h3; have H23 := Aside0.mk (H01.out.below hb3); have HB3 := Aside0.mk (below_step HB1.out hb3); clear h3 hb3)
    | ((with_reducible refine gate_dst (N := 60) rfl ?_); refine Kd.R_lit (Kd.raw 1) _ 33 ?hg (N := 60) ?hd (xs := ([] : List (List Value))) (inner := []) (ok := fun _ => True) (okp := fun _ => True) ?hr ?hp (fun _ hk => hk) trivial (Below.refl _ _) (Nat.le_refl _) (by simp) ?_; (case hd => rfl); (case hg => rfl); (case hr => first | (go_simp; done) | (go_simp; rfl)); (case hp => exact (Reps.none _ _)); intro v4 w4 ho4 hb4 hg4 hn4; have HO4 := Aside0.mk ho4; have HB4 := Aside0.mk hb4; clear ho4 hb4 hg4 hn4)
    | ((with_reducible refine gate_builtin (b := .append) (xs := #[.tmp 60, .tmp 61]) rfl ?_); at_builtin; obtain ⟨us, hul, hraw, hrd⟩ := RC_raw H23.out; refine Kd.R_append_rows (Kd.raw 1) (w0 := w3) w3.heap.size rfl (.tmp 60) (.tmp 61) 22 33 (.slice none 0 0) 24 rfl Try.underlying22 info33 rfl (by decide) (by omega) v4 [] (ones us) A0 n c0 (fun _ => True) (fun _ => False) rfl rfl HO4.out (Kd.C_below hraw HB4.out) (fun _ _ h => h) (fun _ h => h.elim) (fun _ _ => trivial) HB4.out HB4.out.size (by simp; omega) ?_; intro v5 w5 ho5 hb5 hg5 hat5; rw [List.nil_append] at ho5; have HO5 := Aside0.mk ho5; have HB5 := Aside0.mk hb5; have HUL := Lib.hid hul; have HRD1 := Aside0.mk hrd; clear ho5 hb5 hg5 hat5 hraw hrd hul)
    | ((with_reducible refine gate_builtin (b := .append) (xs := #[.tmp 62, .tmp 63]) rfl ?_); at_builtin; obtain ⟨us2, hul2, hraw2, hrd2⟩ := RC_raw H3.out; refine Kd.R_append_rows (Kd.raw 1) (w0 := w3) w3.heap.size rfl (.tmp 62) (.tmp 63) 22 33 (.slice none 0 0) 24 rfl Try.underlying22 info33 rfl (by decide) (by omega) v5 (ones us) (ones us2) A3 p c3 (fun _ => True) (fun _ => False) rfl rfl HO5.out (Kd.C_below hraw2 HB5.out) (fun _ _ h => h) (fun _ h => h.elim) (fun _ _ => trivial) HB5.out HB5.out.size (by rw [ones_length, HUL.out]; omega) ?_; intro v6 w6 ho6 hb6 hg6 hat6; obtain ⟨A6, c6, e6⟩ := Kd.R_slice ho6; rw [List.length_append, ones_length, ones_length, HUL.out, hul2, ← HQ.out] at e6; subst e6; have hc6 := (Kd.R_reads' ho6).2; have HRC6 : Aside0 (RC w6 A6 q c6 (allS D p)) := ⟨⟨C_of_raw HALLL.out (us := us ++ us2) (by rw [← ones_append]; (have h_ := hc6.2); rw [List.length_append, ones_length, ones_length, HUL.out, hul2, ← HQ.out] at h_; exact h_) (fun j hj => by { have hq_ := HQ.out; have hul_ := HUL.out; unfold allS; by_cases hjn : j < n; { rw [List.getD_eq_getElem?_getD, List.getElem?_append_left (by omega), ← List.getD_eq_getElem?_getD, List.getD_eq_getElem?_getD (l := D ++ parD D p), List.getElem?_append_left (by rw [HN.out]; exact hjn), ← List.getD_eq_getElem?_getD]; exact (HRD1.out j hjn).below hb6 }; { rw [List.getD_eq_getElem?_getD, List.getElem?_append_right (by omega), ← List.getD_eq_getElem?_getD, List.getD_eq_getElem?_getD (l := D ++ parD D p), List.getElem?_append_right (by rw [HN.out]; omega), ← List.getD_eq_getElem?_getD, hul_, HN.out]; exact (hrd2 (j - n) (by omega)).below hb6 } }), hc6.1⟩⟩; have HB6 := Aside0.mk (below_step HB3.out hb6); clear ho6 hb6 hg6 hat6 hraw2 hrd2 hul2 hc6)
    | (go_at_call 13; refine (HGEN.out _ _ _ HRC6.out (Kd.C_below H1.out HB6.out)).mono ?_; rintro e_ w7 ⟨A7, c7, A8, c8, rfl, hb7⟩; have HB7 := Aside0.mk (below_step HB6.out hb7); clear hb7)
    | (go_at_call 11; refine (codes_c _).mono ?_; rintro e_ w8 ⟨rfl, hb8⟩; have HB8 := Aside0.mk (below_step HB7.out hb8); clear hb8))
  go_ret
  exact ⟨rfl, HB8.out⟩
end Go.Proofs.Ytmlfpcnemganbaa.Q
