/- The statement TopShards: where there are enough shards. -/
import Derived.Test.YtmlfpcnemganbaaTTop
namespace Go.Proofs.Ytmlfpcnemganbaa.Q
open Go.RowKit Go.Proofs.YtmlfpcnemganbaaW.PrintWords Go.Proofs.YtmlfpcnemganbaaW.PrintLast Go.Proofs.YtmlfpcnemganbaaW.PrintMore
open Go.Proofs.Ytmlfpcnemganbaa.Gf Go.Proofs.Ytmlfpcnemganbaa.Lin Go.Proofs.Ytmlfpcnemganbaa.Evs
set_option linter.unusedVariables false
set_option linter.unnecessarySimpa false
/-- A matrix that is read: its rows' cells. -/
theorem RC.rows {W : World} {ad : Addr} {N c C : Nat} {M : Mat} (h : RC W (some ad) N c (rowsL M N C)) : ∀ i, i < N → ∃ A k, W.cell? (ad.add i) = some (.slice A C k) ∧ BC W A C k (rowV M i C) := fun i hi => by
  obtain ⟨us, _, hc, hr⟩ := C_raw h.row
  obtain ⟨ad', e, hx⟩ := hc i hi
  injection e with e
  subst e
  obtain ⟨A, k, eu, hk, hC⟩ := hr i hi
  have e2 : (rowsL M N C).getD i [] = rowV M i C := by rw [List.getD_eq_getElem?_getD, rowsL_get hi]; rfl
  rw [e2, rowV_length] at eu hk hC
  exact ⟨A, k, by rw [hx, eu], hC, hk⟩
theorem BC.elt {W : World} {A : Option Addr} {C k : Nat} {M : Mat} {i c : Nat} (h : BC W A C k (rowV M i C)) (hc : c < C) : ∃ ad, A = some ad ∧ W.cell? (ad.add c) = some (.int .u8 ((M i c).v : Int)) := by
  obtain ⟨ad, e, hx⟩ := Kd.at_int h.row (c : Int) (by omega) (by omega)
  rw [rowV_rd hc, Int.toNat_natCast] at hx
  exact ⟨ad, e, hx⟩
theorem vec_snoc (x : Row) (i : Nat) : vecL x i ++ [((x i).v : Int)] = vecL x (i + 1) := by
  unfold vecL rowV
  rw [List.range_succ, List.map_append]
  rfl
/-- A row of values of the call's own, as it lies. -/
theorem raw_own {W : World} {base : Nat} {ok : Nat → Prop} {v : Value} {us : List Value} (h : Kd.R (Kd.raw 1) 33 W base ok v (ones us)) : W.ownsRow base 33 1 v us.length us := by
  obtain ⟨_, inner, ho, hr⟩ := h
  have hl : inner.length = us.length := by have := hr.1; rwa [ones_length, show (Kd.raw 1).sz = 1 from rfl, Nat.mul_one] at this
  have e : inner = us := by
    apply List.ext_getElem?
    intro j
    by_cases hj : j < us.length
    · have h1 := hr.2 j [us.getD j nilV] (by
        have := ones_get us j hj
        rw [List.getD_eq_getElem?_getD, List.getElem?_eq_getElem (by rw [ones_length]; exact hj), Option.getD_some] at this
        rw [List.getElem?_eq_getElem (by rw [ones_length]; exact hj), this])
      have h2 := h1.1
      rw [show (Kd.raw 1).sz = 1 from rfl, Nat.mul_one, List.drop_eq_getElem_cons (by omega)] at h2
      have h3 := (List.cons.inj h2).1
      rw [List.getElem?_eq_getElem (by omega), List.getElem?_eq_getElem hj, h3, List.getD_eq_getElem?_getD, List.getElem?_eq_getElem hj]
      rfl
    · rw [List.getElem?_eq_none (by omega), List.getElem?_eq_none (by omega)]
  rw [e, ones_length] at ho
  exact ho
theorem own_rc {W : World} {base G n c : Nat} {us : List Value} {l : List (List Int)} (h : W.ownsRow base 33 1 (.slice (some ⟨G, 0, none⟩) n c) n us) (hl : l.length = n) (hu : us.length = n) (hn : n ≤ 1000) (hr : ∀ j, j < n → Rd W (us.getD j nilV) (l.getD j [])) : RC W (some ⟨G, 0, none⟩) n c l := by
  refine ⟨⟨hl, by omega, fun _ => ⟨_, rfl, fun j p hj => ?_⟩⟩, (own_cap h).1⟩
  have hjl : j < n := by have := (List.getElem?_eq_some_iff.1 hj).1; omega
  obtain ⟨A, k, e, hk, hC⟩ := hr j hjl
  rw [List.getD_eq_getElem?_getD (l := l), hj, Option.getD_some] at hk hC
  have hcell := h.cells (g := G) rfl j (us.getD j nilV) (by rw [List.getD_eq_getElem?_getD, List.getElem?_eq_getElem (by omega)]; rfl)
  refine ⟨[us.getD j nilV], rfl, ⟨A, k, ?_, hk, hC⟩, fun i u hu2 => ?_⟩
  · rw [e, List.getD_eq_getElem?_getD (l := l), hj]
    rfl
  · cases i with
    | zero =>
      obtain rfl : us.getD j nilV = u := by simpa using hu2
      rw [show (Kd.slice 5 (Kd.int .u8)).sz = 1 from rfl, Nat.mul_one, Nat.add_zero]
      exact hcell
    | succ k => simp at hu2
/-- The torn list, as far as i. -/
def tornK (us : List Value) (b : List Bool) (i : Nat) : List Value := (List.range us.length).map fun j => if b.getD j false = false ∧ j < i then nilV else us.getD j nilV
theorem tornK_length (us : List Value) (b : List Bool) (i : Nat) : (tornK us b i).length = us.length := by unfold tornK; rw [List.length_map, List.length_range]
theorem tornK_zero (us : List Value) (b : List Bool) : tornK us b 0 = us := by
  apply List.ext_getElem?
  intro j
  by_cases hj : j < us.length
  · unfold tornK
    rw [List.getElem?_map, List.getElem?_range hj, Option.map_some, if_neg (by omega), List.getD_eq_getElem?_getD, List.getElem?_eq_getElem hj]
    rfl
  · rw [List.getElem?_eq_none (by rw [tornK_length]; omega), List.getElem?_eq_none (by omega)]
theorem tornK_yes {us : List Value} {b : List Bool} {i : Nat} (h : b.getD i false = true) : tornK us b (i + 1) = tornK us b i := by
  unfold tornK
  refine List.map_congr_left fun j _ => ?_
  by_cases e : j = i
  · rw [e, h, if_neg (fun x => Bool.noConfusion x.1), if_neg (fun x => Bool.noConfusion x.1)]
  · by_cases hb : b.getD j false = false ∧ j < i
    · rw [if_pos hb, if_pos ⟨hb.1, by omega⟩]
    · rw [if_neg hb, if_neg (fun x => hb ⟨x.1, by omega⟩)]
theorem tornK_no {us : List Value} {b : List Bool} {i : Nat} (hi : i < us.length) (h : b.getD i false = false) : (tornK us b i).set i nilV = tornK us b (i + 1) := by
  apply List.ext_getElem?
  intro j
  by_cases hj : j < us.length
  · rw [List.getElem?_set]
    by_cases e : i = j
    · subst e
      rw [if_pos rfl, if_pos (by rw [tornK_length]; exact hi)]
      unfold tornK
      rw [List.getElem?_map, List.getElem?_range hi, Option.map_some, if_pos ⟨h, by omega⟩]
    · rw [if_neg e]
      unfold tornK
      rw [List.getElem?_map, List.getElem?_map, List.getElem?_range hj, Option.map_some, Option.map_some]
      by_cases hb : b.getD j false = false ∧ j < i
      · rw [if_pos hb, if_pos ⟨hb.1, by omega⟩]
      · rw [if_neg hb, if_neg (fun x => hb ⟨x.1, by omega⟩)]
  · rw [List.getElem?_eq_none (by rw [List.length_set, tornK_length]; omega), List.getElem?_eq_none (by rw [tornK_length]; omega)]
theorem tornK_get {us : List Value} {b : List Bool} {i j : Nat} (hj : j < us.length) : (tornK us b i).getD j nilV = if b.getD j false = false ∧ j < i then nilV else us.getD j nilV := by
  unfold tornK
  rw [List.getD_eq_getElem?_getD, List.getElem?_map, List.getElem?_range hj]
  rfl
set_option maxRecDepth 100000 in
set_option maxHeartbeats 0 in
theorem top_good {A0 A1 : Option Addr} {c0 c1 n p q : Nat} {D : List (List Int)} {b : List Bool} (w : World) (h0 : RC w A0 n c0 D) (hsh : shrB D 0 = true) (hs : Shards D p) (hp1 : 1 ≤ p) (hp8 : p ≤ 8) (hq : q = n + p) (h1 : Kd.C Kd.bool w A1 q b) (hqc : q ≤ c1) (hge : ¬ (ixs b).length < n) :
    Calls Try.prog 3 #[.slice A0 n c0, .int .i64 (p : Nat), .slice A1 q c1] w fun e w' => e = .returned (.bool true) ∧ Below w.heap.size w w' := by
  have hD2 := toM_rows hs.allB hs.even
  have hixq : ∀ x ∈ (ixs b).take n, x < q := fun x hx => by
    have := ixK_lt b b.length x (List.mem_of_mem_take hx)
    have := h1.1
    omega
  have HSH := Aside0.mk (shards_c h0 (by have := (par_e hsh); have := h0.len; have : maxLen = 9223372036854775807 := rfl; omega))
  rw [hsh] at HSH
  have hf := par_e hsh
  have hDl := h0.len
  rw [hDl] at hf
  have hn1 : 1 ≤ n := hf.1
  have hn8 : n ≤ 8 := hf.2.1
  have hC40 : wid D ≤ 40 := hf.2.2.1
  have HN := Lib.hid hDl
  have HQ := Lib.hid hq
  have hbl : b.length = q := h1.1
  have HBL := Lib.hid hbl
  have HS := Aside0.mk hs
  have H0 := Aside0.mk h0
  have H1 := Aside0.mk h1
  have HALLL : Aside0 ((allS D p).length = q) := ⟨by rw [hs.all_len, hDl, hq]⟩
  have hd1 : decide ((p : Int) < 1) = false := decide_eq_false (by omega)
  have hd1' : decide (p < 1) = false := decide_eq_false (by omega)
  have hd2 : decide ((8 : Int) < (p : Int)) = false := decide_eq_false (by omega)
  have hd2' : decide (8 < p) = false := decide_eq_false (by omega)
  have hqI : (n : Int) + (p : Int) = (q : Int) := by omega
  clear hf h0 hsh hs h1 hbl hDl hq
  have hm : ((ixs b).take n).length = n := by rw [List.length_take]; omega
  have hrank : rankF n n (selM n (ints ((ixs b).take n))) = n := sel_full (p := p) (by omega) ((ixK_nodup b _).sublist (List.take_sublist _ _)) hm (fun x hx => by have := hixq x hx; omega)
  have hpick : pickL (allS D p) (ints ((ixs b).take n)) = rowsL (mulF n (selM n (ints ((ixs b).take n))) (toM D)) n (wid D) := by
    have h := pick_all HS.out (ix := (ixs b).take n) (fun x hx => by rw [HN.out]; have := hixq x hx; omega)
    rw [HN.out, hm] at h
    exact h
  have HGEN : Aside0 (∀ (W : World) (A : Option Addr) (c : Nat), RC W A q c (allS D p) → Kd.C Kd.bool W A1 q b → Calls Try.prog 13 #[.slice A q c, .slice A1 q c1, .int .i64 (n : Nat), .int .i64 (p : Nat)] W fun e w' => ∃ A c A' c', e = .returned (.tuple #[.slice A n c, .slice A' n c']) ∧ RC w' A n c (rowsL (selM n (ints ((ixs b).take n))) n n) ∧ RC w' A' n c' (rowsL (mulF n (selM n (ints ((ixs b).take n))) (toM D)) n (wid D)) ∧ Below W.heap.size W w') := ⟨fun W A c hr hb => by
    refine (gen_walk hn1 hp1 (by omega) HQ.out W hr hb hqc).mono fun e w' ⟨A, c, A', c', he, hr1, hr2, hbel⟩ => ?_
    rw [hm] at he hr1 hr2
    rw [hpick] at hr2
    exact ⟨A, c, A', c', he, hr1, hr2, hbel⟩⟩
  have hREC : recR (givenL D p [] b q) b (p : Int) = (allS D p, 0) := by
    have h := HS.out.rec_all (lost := []) (b := b) (by rw [HBL.out, HN.out]; exact HQ.out) (by rw [HN.out]; exact hge)
    rw [HN.out, ← HQ.out] at h
    exact h
  have hGB : AllB (givenL D p [] b q) := HS.out.given_allB (fun x hx => absurd hx (by simp)) b q (by rw [HN.out]; exact Nat.le_of_eq HQ.out)
  have hGR : ∀ r ∈ givenL D p [] b q, r.length ≤ 1000 := HS.out.given_row (by simp) b q (by rw [HN.out]; exact Nat.le_of_eq HQ.out)
  have HREC := Aside0.mk hREC
  have HGB := Aside0.mk hGB
  have HGR := Aside0.mk hGR
  have HBACK : Aside0 (∀ j, j < n → ∀ c, c < wid D → mulF n (invF n (selM n (ints ((ixs b).take n)))) (mulF n (selM n (ints ((ixs b).take n))) (toM D)) j c = toM D j c) := ⟨solve_back (L := (ixs b).take n) hrank (fun _ _ _ _ => rfl)⟩
  rw [HN.out] at hD2
  have H0' : Aside0 (RC w A0 n c0 (rowsL (toM D) n (wid D))) := ⟨by rw [← hD2]; exact H0.out⟩
  have hl1 : decide ((n : Int) < (n : Int)) = false := decide_eq_false (by omega)
  have hl2 : decide (n < n) = false := decide_eq_false (by omega)
  generalize selM n (ints ((ixs b).take n)) = R at HGEN hrank hpick HBACK
  obtain ⟨M, hM⟩ : ∃ M, M = toM D := ⟨_, rfl⟩
  rw [← hM] at HGEN HBACK H0'
  obtain ⟨C, hC⟩ : ∃ C, C = wid D := ⟨_, rfl⟩
  rw [← hC] at HGEN HBACK H0' hC40
  clear hM hC hm hpick hixq hD2 hge hREC hGB hGR
  obtain ⟨ad1, rfl, _⟩ := H1.out.2.2 (by have := HQ.out; omega)
  go_enter Try.func3, Try.ntmps3
  go_wp2_with (first
    | (go_at_call 10; refine HSH.out.mono ?_; rintro e_ w1 ⟨rfl, hb1⟩; have HB1 := Aside0.mk hb1; have H01 := Aside0.mk (H0.out.below hb1); clear hb1)
    | (go_at_call 12; refine (par_ok H01.out HS.out).mono ?_; rintro e_ w3 ⟨A3, c3, rfl, h3, hb3⟩; have H3 := Aside0.mk h3; have H23 := Aside0.mk (H01.out.below hb3); have HB3 := Aside0.mk (below_step HB1.out hb3); clear h3 hb3)
    | ((with_reducible refine gate_dst (N := 60) rfl ?_); refine Kd.R_lit (Kd.raw 1) _ 33 ?hg (N := 60) ?hd (xs := ([] : List (List Value))) (inner := []) (ok := fun _ => True) (okp := fun _ => True) ?hr ?hp (fun _ hk => hk) trivial (Below.refl _ _) (Nat.le_refl _) (by simp) ?_; (case hd => rfl); (case hg => rfl); (case hr => first | (go_simp; done) | (go_simp; rfl)); (case hp => exact (Reps.none _ _)); intro v4 w4 ho4 hb4 hg4 hn4; have HO4 := Aside0.mk ho4; have HB4 := Aside0.mk hb4; clear ho4 hb4 hg4 hn4)
    | ((with_reducible refine gate_builtin (b := .append) (xs := #[.tmp 60, .tmp 61]) rfl ?_); at_builtin; obtain ⟨us, hul, hraw, hrd⟩ := RC_raw H23.out; refine Kd.R_append_rows (Kd.raw 1) (w0 := w3) w3.heap.size rfl (.tmp 60) (.tmp 61) 22 33 (.slice none 0 0) 24 rfl Try.underlying22 info33 rfl (by decide) (by omega) v4 [] (ones us) A0 n c0 (fun _ => True) (fun _ => False) rfl rfl HO4.out (Kd.C_below hraw HB4.out) (fun _ _ h => h) (fun _ h => h.elim) (fun _ _ => trivial) HB4.out HB4.out.size (by simp; omega) ?_; intro v5 w5 ho5 hb5 hg5 hat5; rw [List.nil_append] at ho5; have HO5 := Aside0.mk ho5; have HB5 := Aside0.mk hb5; have HUL := Lib.hid hul; have HRD1 := Aside0.mk hrd; clear ho5 hb5 hg5 hat5 hraw hrd hul)
    | ((with_reducible refine gate_builtin (b := .append) (xs := #[.tmp 62, .tmp 63]) rfl ?_); at_builtin; obtain ⟨us2, hul2, hraw2, hrd2⟩ := RC_raw H3.out; refine Kd.R_append_rows (Kd.raw 1) (w0 := w3) w3.heap.size rfl (.tmp 62) (.tmp 63) 22 33 (.slice none 0 0) 24 rfl Try.underlying22 info33 rfl (by decide) (by omega) v5 (ones us) (ones us2) A3 p c3 (fun _ => True) (fun _ => False) rfl rfl HO5.out (Kd.C_below hraw2 HB5.out) (fun _ _ h => h) (fun _ h => h.elim) (fun _ _ => trivial) HB5.out HB5.out.size (by rw [ones_length, HUL.out]; omega) ?_; intro v6 w6 ho6 hb6 hg6 hat6; obtain ⟨A6, c6, e6⟩ := Kd.R_slice ho6; rw [List.length_append, ones_length, ones_length, HUL.out, hul2, ← HQ.out] at e6; subst e6; have hc6 := (Kd.R_reads' ho6).2; have HRC6 : Aside0 (RC w6 A6 q c6 (allS D p)) := ⟨⟨C_of_raw HALLL.out (us := us ++ us2) (by rw [← ones_append]; (have h_ := hc6.2); rw [List.length_append, ones_length, ones_length, HUL.out, hul2, ← HQ.out] at h_; exact h_) (fun j hj => by { have hq_ := HQ.out; have hul_ := HUL.out; unfold allS; by_cases hjn : j < n; { rw [List.getD_eq_getElem?_getD, List.getElem?_append_left (by omega), ← List.getD_eq_getElem?_getD, List.getD_eq_getElem?_getD (l := D ++ parD D p), List.getElem?_append_left (by rw [HN.out]; exact hjn), ← List.getD_eq_getElem?_getD]; exact (HRD1.out j hjn).below hb6 }; { rw [List.getD_eq_getElem?_getD, List.getElem?_append_right (by omega), ← List.getD_eq_getElem?_getD, List.getD_eq_getElem?_getD (l := D ++ parD D p), List.getElem?_append_right (by rw [HN.out]; omega), ← List.getD_eq_getElem?_getD, hul_, HN.out]; exact (hrd2 (j - n) (by omega)).below hb6 } }), hc6.1⟩⟩; have HB6 := Aside0.mk (below_step HB3.out hb6); clear ho6 hb6 hg6 hat6 hraw2 hrd2 hul2 hc6)
    | (go_at_call 13; refine (HGEN.out _ _ _ HRC6.out (Kd.C_below H1.out HB6.out)).mono ?_; rintro e_ w7 ⟨A7, c7, A8, c8, rfl, hr7, hr8, hb7⟩; have HR7 := Aside0.mk hr7; have HR8 := Aside0.mk hr8; have HRC7 := Aside0.mk (HRC6.out.below hb7); have HB7 := Aside0.mk (below_step HB6.out hb7); clear hb7 hr7 hr8)
    | (go_at_call 14; refine (invert_walk (n := n) (M := R) hn1 (by omega) A7 c7 _ HR7.out.row HR7.out.cap).mono ?_; rintro e_ w9 ⟨hp9, hb9⟩; rw [if_pos hrank] at hp9; obtain ⟨v9, rfl, hs9⟩ := hp9; obtain ⟨A9, c9, e9, hrc9⟩ := S_rc hs9; rw [rowsL_length] at e9 hrc9; subst e9; have HINV := Aside0.mk hrc9; have HUSED := Aside0.mk (HR8.out.below hb9); have HALL := Aside0.mk (HRC7.out.below hb9); have HB9 := Aside0.mk (below_step HB7.out hb9); clear hs9 hb9 hrc9))
  have HDAT := Aside0.mk (H0'.out.below HB9.out)
  have H19 := Aside0.mk (Kd.C_below H1.out HB9.out)
  clear H0 H0' H01 H23 H3 HRC6 HRC7 HR7 HR8 HB1 HB3 HB6 HB7 HGEN HSH H1 hrank
  obtain ⟨adU, rfl, _⟩ := HUSED.out.row.2.2 (by omega)
  obtain ⟨adD, rfl, _⟩ := HDAT.out.row.2.2 (by omega)
  have HU := Aside0.mk HUSED.out.rows
  have HD := Aside0.mk HDAT.out.rows
  clear HUSED HDAT
  go_loopg [14] (C + 1) (fun kq v14 W => ∃ k : Nat, Hid (kq + k = C + 1) ∧ k ≤ C ∧ v14 = .int .i64 (k : Nat) ∧ Aside0 (Below w9.heap.size w9 W))
  case atStart => exact ⟨0, Lib.hid (by omega), Nat.zero_le _, rfl, ⟨Below.refl _ _⟩⟩
  case round =>
    obtain ⟨k, HK, hkC, rfl, HB⟩ := hrel
    obtain ⟨Ad0, cd0, hxd0, hbd0⟩ := HD.out 0 (by omega)
    rw [Addr.add_zero'] at hxd0
    replace hxd0 := (HB.out.cell (World.block_lt_of_cell? w9 _ hxd0)).trans hxd0
    have hn0 : decide ((0 : Int) < (n : Int)) = true := decide_eq_true (by omega)
    have hn0' : (0 < n) = True := eq_true (by omega)
    have hn0'' : (0 : Int) < (n : Int) := by omega
    by_cases hk : k < C
    · have hk1 : decide ((k : Int) < (C : Int)) = true := decide_eq_true (by omega)
      have hk2 : decide (k < C) = true := decide_eq_true hk
      have hk3 : (k : Int) < (C : Int) := by omega
      have hk4 : decide ((C : Int) ≤ (k : Int)) = false := decide_eq_false (by omega)
      have hk5 : decide (C ≤ k) = false := decide_eq_false (by omega)
      clear hbd0
      go_wp2
      obtain ⟨wo, rfl⟩ : ∃ wo : World, wo = wr := ⟨_, rfl⟩
      go_loopg [15, 16] (n + 1) (fun kq v15 v16 W => ∃ i : Nat, Hid (kq + i = n + 1) ∧ i ≤ n ∧ v16 = .int .i64 (i : Nat) ∧ Aside0 (Kd.R (Kd.int .u8) 5 W wo.heap.size (fun _ => True) v15 (vecL (fun t => mulF n R M t k) i)) ∧ Aside0 (Below wo.heap.size wo W))
      case atStart => exact ⟨0, Lib.hid (by omega), Nat.zero_le _, rfl, ⟨Kd.R_nil _ _ _ _ _⟩, ⟨Below.refl _ _⟩⟩
      case round =>
        obtain ⟨i, HKi, hin, rfl, HV, HBi⟩ := hrel
        have HBw : Aside0 (Below w9.heap.size w9 wr) := ⟨below_step HB.out HBi.out⟩
        clear hxd0
        by_cases hi : i < n
        · have hi1 : decide ((i : Int) < (n : Int)) = true := decide_eq_true (by omega)
          have hi2 : decide (i < n) = true := decide_eq_true hi
          have hi3 : (i : Int) < (n : Int) := by omega
          obtain ⟨AU, cU, hxU, hbU⟩ := HU.out i hi
          obtain ⟨adE, rfl, hxE⟩ := hbU.elt hk
          replace hxU := (HBw.out.cell (World.block_lt_of_cell? w9 _ hxU)).trans hxU
          replace hxE := (HBw.out.cell (World.block_lt_of_cell? w9 _ hxE)).trans hxE
          have HVS := Lib.hid (vec_snoc (fun t => mulF n R M t k) i)
          have HVL := Lib.hid (rowV_length (fun _ t => mulF n R M t k) 0 i)
          clear hbU
          go_wp2_with (first
            | ((with_reducible refine gate_builtin (b := .append) (xs := #[.tmp 108, .tmp 116]) rfl ?_); at_builtin; refine Kd.R_append (Kd.int .u8) (w0 := wo) wo.heap.size rfl (.tmp 108) (.tmp 116) 33 5 (.int .u8 0) 1 rfl Try.underlying33 info5 rfl (by decide) (by omega) u15 (vecL (fun t => mulF n R M t k) i) ((mulF n R M i k).v : Int) [.int .u8 ((mulF n R M i k).v : Int)] (fun _ => True) (fun _ => False) rfl rfl rfl (fun _ hk => hk.elim) (fun _ _ => trivial) HV.out HBi.out HBi.out.size (by rw [HVL.out]; omega) ?_; intro v5_ w5_ ho5 hb5 hg5 hat5; rw [HVS.out] at ho5; have HO5_ := Aside0.mk ho5; have HB5_ := Aside0.mk hb5; clear ho5 hb5 hg5 hat5))
          go_roundg (n + 1 - (i + 1))
          case measure => have := HKi.out; omega
          case rel => exact ⟨i + 1, Lib.hid (by have := HKi.out; omega), by omega, by go_num, HO5_, HB5_⟩
        · have hi1 : decide ((i : Int) < (n : Int)) = false := decide_eq_false (by omega)
          have hi2 : decide (i < n) = false := decide_eq_false hi
          have ein : n = i := by omega
          subst ein
          obtain ⟨A15, c15, e15⟩ := Kd.R_slice HV.out
          rw [rowV_length] at e15
          subst e15
          have hv15 := (Kd.R_reads' HV.out).2
          rw [rowV_length] at hv15
          have HAPP := Aside0.mk (apply_walk (M := invF n R) (x := fun t => mulF n R M t k) hn1 (by omega) hn1 (by omega) A9 c9 A15 c15 wr (HINV.out.below HBw.out).row HINV.out.cap hv15.2)
          clear hv15
          go_wp2_with (first
            | (go_at_call 15; refine HAPP.out.mono ?_; rintro e_ wg ⟨vg, rfl, hog, hbg⟩; obtain ⟨Ag, cg, eg⟩ := Kd.R_slice hog; rw [rowV_length] at eg; subst eg; have hrg := (Kd.R_reads' hog).2; rw [rowV_length] at hrg; have HBG : Aside0 (BC wg Ag n cg (rowV (fun _ => appF (invF n R) n (fun t => mulF n R M t k)) 0 n)) := ⟨⟨hrg.2, hrg.1⟩⟩; have HBWg := Aside0.mk (below_step HBw.out hbg); clear hog hbg hrg))
          go_loopg [19] (n + 1) (fun kq v19 W => ∃ j : Nat, Hid (kq + j = n + 1) ∧ j ≤ n ∧ v19 = .int .i64 (j : Nat) ∧ Aside0 (Below wg.heap.size wg W))
          case atStart => exact ⟨0, Lib.hid (by omega), Nat.zero_le _, rfl, ⟨Below.refl _ _⟩⟩
          case round =>
            obtain ⟨j, HKj, hjn, rfl, HBj⟩ := hrel
            by_cases hj : j < n
            · have hj1 : decide ((j : Int) < (n : Int)) = true := decide_eq_true (by omega)
              have hj2 : decide (j < n) = true := decide_eq_true hj
              have hj3 : (j : Int) < (n : Int) := by omega
              obtain ⟨adg, rfl, hxg⟩ := HBG.out.elt hj
              obtain ⟨AD, cD, hxD, hbD⟩ := HD.out j hj
              obtain ⟨adX, rfl, hxX⟩ := hbD.elt hk
              have hap : appF (invF n R) n (fun t => mulF n R M t k) j = M j k := HBACK.out j hj k hk
              replace hxg : wg.cell? (adg.add j) = some (.int .u8 ((appF (invF n R) n (fun t => mulF n R M t k) j).v : Int)) := hxg
              rw [hap] at hxg
              have HBwj : Aside0 (Below w9.heap.size w9 wr) := ⟨below_step HBWg.out HBj.out⟩
              replace hxg := (HBj.out.cell (World.block_lt_of_cell? wg _ hxg)).trans hxg
              replace hxD := (HBwj.out.cell (World.block_lt_of_cell? w9 _ hxD)).trans hxD
              replace hxX := (HBwj.out.cell (World.block_lt_of_cell? w9 _ hxX)).trans hxX
              clear hap hbD
              generalize ((M j k).v : Int) = val at hxg hxX
              go_wp2
              repeat (go_quiet (fail); try go_wp2)
              go_roundg (n + 1 - (j + 1))
              case measure => have := HKj.out; omega
              case rel => exact ⟨j + 1, Lib.hid (by have := HKj.out; omega), by omega, by go_num, ⟨by repeat (first | exact HBj.out | apply below_drew1 | apply pw_below_drewN | apply below_drew)⟩⟩
            · have hj1 : decide ((j : Int) < (n : Int)) = false := decide_eq_false (by omega)
              have hj2 : decide (j < n) = false := decide_eq_false hj
              go_wp2
              go_roundg (C + 1 - (k + 1))
              case measure => have := HK.out; omega
              case rel => exact ⟨k + 1, Lib.hid (by have := HK.out; omega), by omega, by go_num, ⟨below_step HBWg.out HBj.out⟩⟩
    · have hk1 : decide ((k : Int) < (C : Int)) = false := decide_eq_false (by omega)
      have hk2 : decide (k < C) = false := decide_eq_false hk
      clear hbd0
      obtain ⟨wo, rfl⟩ : ∃ wo : World, wo = wr := ⟨_, rfl⟩
      obtain ⟨adL, rfl, _⟩ := HALL.out.row.2.2 (by have := HQ.out; omega)
      have HALo := Aside0.mk (HALL.out.below HB.out)
      clear HU HD HINV HBACK
      go_wp2_with (first
        | ((with_reducible refine gate_dst (N := 151) rfl ?_); refine Kd.R_lit (Kd.raw 1) _ 33 ?hg (N := 151) ?hd (xs := ([] : List (List Value))) (inner := []) (ok := fun _ => True) (okp := fun _ => True) ?hr ?hp (fun _ hk => hk) trivial (Below.refl _ _) (Nat.le_refl _) (by simp) ?_; (case hd => rfl); (case hg => rfl); (case hr => first | (go_simp; done) | (go_simp; rfl)); (case hp => exact (Reps.none _ _)); intro v14_ w14 ho4 hb4 hg4 hn4; have HO14 := Aside0.mk ho4; have HB14 := Aside0.mk hb4; clear ho4 hb4 hg4 hn4)
        | ((with_reducible refine gate_builtin (b := .append) (xs := #[.tmp 151, .tmp 152]) rfl ?_); at_builtin; obtain ⟨ust, hult, hrawt, hrdt⟩ := RC_raw HALo.out; refine Kd.R_append_rows (Kd.raw 1) (w0 := wo) wo.heap.size rfl (.tmp 151) (.tmp 152) 22 33 (.slice none 0 0) 24 rfl Try.underlying22 info33 rfl (by decide) (by omega) v14_ [] (ones ust) (some adL) q c6 (fun _ => True) (fun _ => False) rfl rfl HO14.out (Kd.C_below hrawt HB14.out) (fun _ _ h => h) (fun _ h => h.elim) (fun _ _ => trivial) HB14.out HB14.out.size (by have := HQ.out; simp; omega) ?_; intro v15_ w15 ho5 hb5 hg5 hat5; rw [List.nil_append] at ho5; obtain ⟨G, cap, e15, _, _, _⟩ := Kd.R_form ho5 (by rw [ones_length, hult]; have := HQ.out; omega); rw [ones_length, hult] at e15; subst e15; have hown := raw_own ho5; rw [hult] at hown; have HOT := Aside0.mk hown; have HBT := Aside0.mk hb5; have HULT := Lib.hid hult; have HRDT := Aside0.mk hrdt; clear ho5 hb5 hg5 hat5 hrawt hrdt hult hown))
      have H1t := Aside0.mk (Kd.C_below H19.out HB.out)
      go_loopg [21] (q + 1) (fun kq v21 W => ∃ i : Nat, Hid (kq + i = q + 1) ∧ i ≤ q ∧ v21 = .int .i64 (i : Nat) ∧ Aside0 (W.ownsRow wo.heap.size 33 1 (.slice (some ⟨G, 0, none⟩) q cap) q (tornK ust b i)) ∧ Aside0 (Below wo.heap.size wo W))
      case atStart => exact ⟨0, Lib.hid (by omega), Nat.zero_le _, rfl, ⟨by rw [tornK_zero]; exact HOT.out⟩, HBT⟩
      case round =>
        clear HOT HBT
        obtain ⟨i, HKi, hiq, rfl, HOT, HBT⟩ := hrel
        by_cases hi : i < q
        · have hi1 : decide ((i : Int) < (q : Int)) = true := decide_eq_true (by omega)
          have hi2 : decide (i < q) = true := decide_eq_true hi
          have hi3 : (i : Int) < (q : Int) := by omega
          obtain ⟨ad, ea, hxb⟩ := Kd.at_bool H1t.out (i : Int) (by omega) (by omega)
          injection ea with ea
          subst ea
          rw [rdOf_bool, Int.toNat_natCast] at hxb
          replace hxb := (HBT.out.cell (World.block_lt_of_cell? wo _ hxb)).trans hxb
          by_cases hbi : b.getD i false = true
          · rw [hbi] at hxb
            have HTY := Lib.hid (tornK_yes (us := ust) hbi)
            clear hbi
            go_wp2
            go_roundg (q + 1 - (i + 1))
            case measure => have := HKi.out; omega
            case rel => exact ⟨i + 1, Lib.hid (by have := HKi.out; omega), by omega, by go_num, ⟨by rw [HTY.out]; exact HOT.out⟩, HBT⟩
          · have hbf : b.getD i false = false := by simpa using hbi
            rw [hbf] at hxb
            have HTN := Lib.hid (tornK_no (us := ust) (by rw [HULT.out]; exact hi) hbf)
            have hcl := HOT.out.cells (g := G) rfl i ((tornK ust b i).getD i nilV) (by rw [List.getD_eq_getElem?_getD, List.getElem?_eq_getElem (by rw [tornK_length, HULT.out]; exact hi)]; rfl)
            rw [add_plain] at hcl
            have hfz := own_frozen HOT.out i
            generalize (tornK ust b i).getD i nilV = told at hcl
            clear hbi hbf
            go_wp2
            go_roundg (q + 1 - (i + 1))
            case measure => have := HKi.out; omega
            case rel => exact ⟨i + 1, Lib.hid (by have := HKi.out; omega), by omega, by go_num, ⟨by rw [← HTN.out]; exact (HOT.out.stored i _).1⟩, ⟨HBT.out.setCell (p := ⟨G, i, none⟩) (own_block HOT.out).1 _⟩⟩
        · have hi1 : decide ((i : Int) < (q : Int)) = false := decide_eq_false (by omega)
          have hi2 : decide (i < q) = false := decide_eq_false hi
          have eiq : q = i := by omega
          subst eiq
          have hq16 : q ≤ 16 := by have := HQ.out; omega
          have hgl := givenL_length D p [] b q
          have HRT : Aside0 (RC wr (some ⟨G, 0, none⟩) q cap (givenL D p [] b q)) := ⟨own_rc HOT.out hgl (by rw [tornK_length, HULT.out]) (by omega) (fun j hj => by
            rw [tornK_get (by rw [HULT.out]; exact hj), givenL_get hj]
            by_cases hbj : b.getD j false = true
            · rw [hbj, if_neg (fun x => Bool.noConfusion x.1), if_pos rfl]
              exact (HRDT.out j hj).below HBT.out
            · have hbf : b.getD j false = false := by simpa using hbj
              rw [hbf, if_pos ⟨rfl, hj⟩, if_neg (by decide)]
              exact rd_nil _)⟩
          have HRE := Aside0.mk (rec_eq HRT.out (Kd.C_below H1t.out HBT.out) hqc HGB.out HGR.out (by rw [hgl]; omega) HREC.out HALLL.out)
          have HALr := Aside0.mk (HALo.out.below HBT.out)
          clear hgl
          go_wp2_with (first
            | (go_at_call 16; refine HRE.out.mono ?_; rintro e_ wz ⟨Az, cz, rfl, hz, hbz⟩; have HZ := Aside0.mk hz; have HALz := Aside0.mk (HALr.out.below hbz); have HBz := Aside0.mk (below_step HB9.out (below_step HB.out (below_step HBT.out hbz))); clear hz hbz))
          obtain ⟨usz, _, hcz, hrz⟩ := C_raw HZ.out.row
          obtain ⟨usl, _, hcl, hrl⟩ := C_raw HALz.out.row
          obtain ⟨adz, rfl, _⟩ := HZ.out.row.2.2 (by have := HQ.out; omega)
          have HCz := Aside0.mk hcz
          have HRz := Aside0.mk hrz
          have HCl := Aside0.mk hcl
          have HRl := Aside0.mk hrl
          clear hcz hrz hcl hrl
          go_loopg [24] (q + 1) (fun kq v24 W => ∃ j : Nat, Hid (kq + j = q + 1) ∧ j ≤ q ∧ v24 = .int .i64 (j : Nat) ∧ Aside0 (Below wz.heap.size wz W))
          case atStart => exact ⟨0, Lib.hid (by omega), Nat.zero_le _, rfl, ⟨Below.refl _ _⟩⟩
          case round =>
            obtain ⟨j, HKj, hjq, rfl, HBj⟩ := hrel
            by_cases hj : j < q
            · have hj1 : decide ((j : Int) < (q : Int)) = true := decide_eq_true (by omega)
              have hj2 : decide (j < q) = true := decide_eq_true hj
              have hj3 : (j : Int) < (q : Int) := by omega
              obtain ⟨ad, ea, hx1⟩ := HCz.out j hj
              injection ea with ea
              subst ea
              obtain ⟨ad, ea, hx2⟩ := HCl.out j hj
              injection ea with ea
              subst ea
              obtain ⟨Aa, ca, e1, hca, hCa⟩ := HRz.out j hj
              obtain ⟨Ab, cb, e2, hcb, hCb⟩ := HRl.out j hj
              rw [e1] at hx1
              rw [e2] at hx2
              replace hx1 := (HBj.out.cell (World.block_lt_of_cell? wz _ hx1)).trans hx1
              replace hx2 := (HBj.out.cell (World.block_lt_of_cell? wz _ hx2)).trans hx2
              generalize (allS D p).getD j [] = row at hx1 hx2 hCa hCb hca hcb
              have hcva := fun m_ : Nat => Kd.C_string (P := Try.prog) (A := Aa) (c := ca) Try.underlying33 Try.underlying5 Try.underlying9 (Kd.C_below (Kd.C_below hCa HBj.out) (pw_below_drewN (Below.refl wr.heap.size wr) m_))
              have hcvaz := hcva 0
              rw [World.drewN_zero] at hcvaz
              have hcvb := fun m_ : Nat => Kd.C_string (P := Try.prog) (A := Ab) (c := cb) Try.underlying33 Try.underlying5 Try.underlying9 (Kd.C_below (Kd.C_below hCb HBj.out) (pw_below_drewN (Below.refl wr.heap.size wr) m_))
              have hcvbz := hcvb 0
              rw [World.drewN_zero] at hcvbz
              clear e1 e2 hca hCa hcb hCb
              go_wp2
              repeat (go_quiet (fail); try go_wp2)
              go_roundg (q + 1 - (j + 1))
              case measure => have := HKj.out; omega
              case rel => exact ⟨j + 1, Lib.hid (by have := HKj.out; omega), by omega, by go_num, ⟨by repeat (first | exact HBj.out | apply below_drew1 | apply pw_below_drewN | apply below_drew)⟩⟩
            · have hj1 : decide ((j : Int) < (q : Int)) = false := decide_eq_false (by omega)
              have hj2 : decide (j < q) = false := decide_eq_false hj
              go_wp2_with (first
                | (go_at_call 11; refine (codes_c _).mono ?_; rintro e_ wc ⟨rfl, hbc⟩; have HBc := Aside0.mk (below_step HBz.out (below_step HBj.out hbc)); clear hbc))
              go_ret
              exact ⟨rfl, HBc.out⟩
end Go.Proofs.Ytmlfpcnemganbaa.Q
