/- The statement ErasureRecovers, walked. -/
import Derived.Test.YtmlfpcnemganbaaEX
namespace Go.Proofs.Ytmlfpcnemganbaa.Q
open Go.RowKit Go.Proofs.YtmlfpcnemganbaaW.PrintWords Go.Proofs.YtmlfpcnemganbaaW.PrintLast Go.Proofs.YtmlfpcnemganbaaW.PrintMore
open Go.Proofs.Ytmlfpcnemganbaa.Gf Go.Proofs.Ytmlfpcnemganbaa.Lin Go.Proofs.Ytmlfpcnemganbaa.Evs
set_option linter.unusedVariables false
set_option linter.unnecessarySimpa false
theorem views_snoc {W w1 : World} {gs : List Value} {v v1 u : Value} {rows : Nat → List Int} {j : Nat} (hl : gs.length = j) (h : ∀ i, i < j → Kd.V (Kd.int .u8) 5 W 0 (fun k => True ∧ some k ≠ v.ownBlock) (gs.getD i nilV) (rows i)) (hu : Kd.V (Kd.int .u8) 5 W 0 (fun k => True ∧ some k ≠ v.ownBlock) u (rows j))
    (hg : W.grownBy w1 v.ownBlock) (hat : v1.ownBlock = v.ownBlock ∨ ∃ b, v1.ownBlock = some b ∧ W.heap.size ≤ b) : ∀ i, i < j + 1 → Kd.V (Kd.int .u8) 5 w1 0 (fun k => True ∧ some k ≠ v1.ownBlock) ((gs ++ [u]).getD i nilV) (rows i) := fun i hi => by
  by_cases hij : i < j
  · rw [List.getD_eq_getElem?_getD, List.getElem?_append_left (by omega), ← List.getD_eq_getElem?_getD]
    exact Kd.V_after (h i hij) hg hat
  · have e : i = j := by omega
    rw [e, List.getD_eq_getElem?_getD, List.getElem?_append_right (by omega), hl, Nat.sub_self]
    exact Kd.V_after hu hg hat
set_option maxRecDepth 100000 in
set_option maxHeartbeats 4000000 in
theorem rcv_bad {A0 A1 : Option Addr} {n0 c0 n1 c1 : Nat} {l0 : List (List Int)} (p : Int) (w : World) (h0 : RC w A0 n0 c0 l0) (hb : AllB l0) (he : (parR (fewV l0) p).2 ≠ 0) :
    Calls Try.prog 6 #[.slice A0 n0 c0, .int .i64 p, .slice A1 n1 c1] w fun e w' => e = .returned (.bool true) ∧ Below w.heap.size w w' := by
  have HFB := Aside0.mk (fewV_allB hb)
  have HWD := Aside0.mk (wid_le (fewV_len (l := l0)))
  have HL := Aside0.mk (fewV_length l0)
  have HFEW := Aside0.mk (few_c h0)
  obtain ⟨q, hq⟩ : ∃ q, q = fewV l0 := ⟨_, rfl⟩
  rw [← hq] at HFB HWD HL HFEW he
  have hl : q.length ≤ 1000 := by have := HL.out; omega
  obtain ⟨R, hR⟩ : ∃ R, R = parR q p := ⟨_, rfl⟩
  rw [← hR] at he
  have HP := Aside0.mk hR
  have he1 : (R.2 != 0) = true := bne_iff_ne.2 he
  have he2 : (R.2 == 0) = false := beq_eq_false_iff_ne.2 he
  clear h0 hq hR he
  go_enter Try.func6, Try.ntmps6
  go_wp2_with (first
    | (go_at_call 17; refine HFEW.out.mono ?_; rintro e_ w1 ⟨A2, c2, rfl, h2, hb2⟩; have H2 := Aside0.mk h2; have HB2 := Aside0.mk hb2; clear h2 hb2)
    | (go_at_call 12; refine (par_c H2.out HFB.out HWD.out hl p).mono ?_; rw [← HP.out]; rintro e_ w3 ⟨A3, c3, rfl, h3, hb3⟩; have HB3 := Aside0.mk (below_step HB2.out hb3); clear h3 hb3)
    | (go_at_call 22; refine (awake_c _).mono ?_; rintro e_ w8 ⟨rfl, hb8⟩; have HB8 := Aside0.mk (below_step HB3.out hb8); clear hb8))
  go_ret
  exact ⟨rfl, HB8.out⟩
set_option maxRecDepth 100000 in
set_option maxHeartbeats 4000000 in
theorem rcv_short {A0 A1 : Option Addr} {n0 c0 n1 c1 n p q : Nat} {l0 : List (List Int)} (w : World) (h0 : RC w A0 n0 c0 l0) (hs : Shards (fewV l0) p) (hn : (fewV l0).length = n) (hq : q = n + p) (hlt : n1 < q) :
    Calls Try.prog 6 #[.slice A0 n0 c0, .int .i64 (p : Nat), .slice A1 n1 c1] w fun e w' => e = .returned (.bool true) ∧ Below w.heap.size w w' := by
  have HFEW := Aside0.mk (few_c h0)
  rw [hn] at HFEW
  obtain ⟨D, hD⟩ : ∃ D, D = fewV l0 := ⟨_, rfl⟩
  rw [← hD] at HFEW hs hn
  have HS := Aside0.mk hs
  have hfew := hs.few
  rw [hn] at hfew
  have HQ := Lib.hid hq
  have HN := Lib.hid hn
  have hd1 : decide ((n1 : Int) < (q : Int)) = true := decide_eq_true (by omega)
  have hd2 : decide (n1 < q) = true := decide_eq_true hlt
  have hn64 : n ≤ 64 := by omega
  have hp64 : p ≤ 64 := by omega
  clear h0 hD hs hq hn hfew
  go_enter Try.func6, Try.ntmps6
  go_wp2_with (first
    | (go_at_call 17; refine HFEW.out.mono ?_; rintro e_ w1 ⟨A2, c2, rfl, h2, hb2⟩; have H2 := Aside0.mk h2; have HB2 := Aside0.mk hb2; clear h2 hb2)
    | (go_at_call 12; refine (par_ok H2.out HS.out).mono ?_; rintro e_ w3 ⟨A3, c3, rfl, h3, hb3⟩; have H3 := Aside0.mk h3; have H23 := Aside0.mk (H2.out.below hb3); have HB3 := Aside0.mk (below_step HB2.out hb3); clear h3 hb3)
    | ((with_reducible refine gate_dst (N := 26) rfl ?_); refine Kd.R_lit (Kd.raw 1) _ 33 ?hg (N := 26) ?hd (xs := ([] : List (List Value))) (inner := []) (ok := fun _ => True) (okp := fun _ => True) ?hr ?hp (fun _ hk => hk) trivial (Below.refl _ _) (Nat.le_refl _) (by simp) ?_; (case hd => rfl); (case hg => rfl); (case hr => first | (go_simp; done) | (go_simp; rfl)); (case hp => exact (Reps.none _ _)); intro v4 w4 ho4 hb4 hg4 hn4; have HO4 := Aside0.mk ho4; have HB4 := Aside0.mk hb4; clear ho4 hb4 hg4 hn4)
    | ((with_reducible refine gate_builtin (b := .append) (xs := #[.tmp 26, .tmp 27]) rfl ?_); at_builtin; obtain ⟨us, hul, hraw, hrd⟩ := RC_raw H23.out; refine Kd.R_append_rows (Kd.raw 1) (w0 := w3) w3.heap.size rfl (.tmp 26) (.tmp 27) 22 33 (.slice none 0 0) 24 rfl Try.underlying22 info33 rfl (by decide) (by omega) v4 [] (ones us) A2 n c2 (fun _ => True) (fun _ => False) rfl rfl HO4.out (Kd.C_below hraw HB4.out) (fun _ _ h => h) (fun _ h => h.elim) (fun _ _ => trivial) HB4.out HB4.out.size (by simp; omega) ?_; intro v5 w5 ho5 hb5 hg5 hat5; rw [List.nil_append] at ho5; have HO5 := Aside0.mk ho5; have HB5 := Aside0.mk hb5; have HUL := Lib.hid hul; clear ho5 hb5 hg5 hat5 hraw hrd hul)
    | ((with_reducible refine gate_builtin (b := .append) (xs := #[.tmp 28, .tmp 29]) rfl ?_); at_builtin; obtain ⟨us2, hul2, hraw2, hrd2⟩ := RC_raw H3.out; refine Kd.R_append_rows (Kd.raw 1) (w0 := w3) w3.heap.size rfl (.tmp 28) (.tmp 29) 22 33 (.slice none 0 0) 24 rfl Try.underlying22 info33 rfl (by decide) (by omega) v5 (ones us) (ones us2) A3 p c3 (fun _ => True) (fun _ => False) rfl rfl HO5.out (Kd.C_below hraw2 HB5.out) (fun _ _ h => h) (fun _ h => h.elim) (fun _ _ => trivial) HB5.out HB5.out.size (by rw [ones_length, HUL.out]; omega) ?_; intro v6 w6 ho6 hb6 hg6 hat6; obtain ⟨A6, c6, e6⟩ := Kd.R_slice ho6; rw [List.length_append, ones_length, ones_length, HUL.out, hul2, ← HQ.out] at e6; subst e6; have HB6 := Aside0.mk (below_step HB3.out hb6); clear ho6 hb6 hg6 hat6 hraw2 hrd2 hul2)
    | (go_at_call 22; refine (awake_c _).mono ?_; rintro e_ w8 ⟨rfl, hb8⟩; have HB8 := Aside0.mk (below_step HB6.out hb8); clear hb8))
  go_ret
  exact ⟨rfl, HB8.out⟩
set_option maxRecDepth 100000 in
set_option maxHeartbeats 8000000 in
theorem rcv_walk {A0 A1 : Option Addr} {n0 c0 n1 c1 n p q : Nat} {l0 : List (List Int)} {b : List Bool} (w : World) (h0 : RC w A0 n0 c0 l0) (hs : Shards (fewV l0) p) (hn : (fewV l0).length = n) (hq : q = n + p) (hlt : q ≤ n1) (hn1 : n1 ≤ c1) (h1 : Kd.C Kd.bool w A1 q b) :
    Calls Try.prog 6 #[.slice A0 n0 c0, .int .i64 (p : Nat), .slice A1 n1 c1] w fun e w' => e = .returned (.bool true) ∧ Below w.heap.size w w' := by
  have HFEW := Aside0.mk (few_c h0)
  rw [hn] at HFEW
  obtain ⟨D, hD⟩ : ∃ D, D = fewV l0 := ⟨_, rfl⟩
  rw [← hD] at HFEW hs hn
  have HS := Aside0.mk hs
  have hfew := hs.few
  have hone := hs.one
  rw [hn] at hfew hone
  have hbl : b.length = q := h1.1
  have HQ := Lib.hid hq
  have HN := Lib.hid hn
  have HBL := Lib.hid hbl
  have hq16 : q ≤ 16 := by omega
  have HCHK : Aside0 (chkR (allS D p) (p : Int) = true) := ⟨hs.chk⟩
  have HALLL : Aside0 ((allS D p).length = q) := ⟨by rw [hs.all_len, hn, hq]⟩
  have HIX : Aside0 (∀ x : Nat, x = q → ixK b x = ixs b) := ⟨fun x hx => by unfold ixs; rw [hbl, hx]⟩
  have hd1 : decide ((n1 : Int) < (q : Int)) = false := decide_eq_false (by omega)
  have hd2 : decide (n1 < q) = false := decide_eq_false (by omega)
  have hcut : ∀ W : World, (Instr.slice 23 (.slice A1 n1 c1) none (some (.int .i64 (q : Int))) none).run Try.prog W = .ok (.slice A1 q c1) W := by
    obtain ⟨i0, hi0, _⟩ := info_parts info4
    exact cut_to (P := Try.prog) 23 4 .i64 Try.underlying23 hi0 A1 n1 c1 q (by omega) (by omega) hn1
  have hn64 : n ≤ 64 := by omega
  have hp64 : p ≤ 64 := by omega
  have hqc : q ≤ c1 := by omega
  have hq1 : 0 < q := by omega
  obtain ⟨ad1, rfl, _⟩ := h1.2.2 hq1
  have H1 := Aside0.mk h1
  clear h0 hD hs hq hn hfew h1 hbl
  go_enter Try.func6, Try.ntmps6
  go_wp2_with (first
    | (go_at_call 17; refine HFEW.out.mono ?_; rintro e_ w1 ⟨A2, c2, rfl, h2, hb2⟩; have H2 := Aside0.mk h2; have HB2 := Aside0.mk hb2; clear h2 hb2)
    | (go_at_call 12; refine (par_ok H2.out HS.out).mono ?_; rintro e_ w3 ⟨A3, c3, rfl, h3, hb3⟩; have H3 := Aside0.mk h3; have H23 := Aside0.mk (H2.out.below hb3); have HB3 := Aside0.mk (below_step HB2.out hb3); clear h3 hb3)
    | ((with_reducible refine gate_dst (N := 26) rfl ?_); refine Kd.R_lit (Kd.raw 1) _ 33 ?hg (N := 26) ?hd (xs := ([] : List (List Value))) (inner := []) (ok := fun _ => True) (okp := fun _ => True) ?hr ?hp (fun _ hk => hk) trivial (Below.refl _ _) (Nat.le_refl _) (by simp) ?_; (case hd => rfl); (case hg => rfl); (case hr => first | (go_simp; done) | (go_simp; rfl)); (case hp => exact (Reps.none _ _)); intro v4 w4 ho4 hb4 hg4 hn4; have HO4 := Aside0.mk ho4; have HB4 := Aside0.mk hb4; clear ho4 hb4 hg4 hn4)
    | ((with_reducible refine gate_builtin (b := .append) (xs := #[.tmp 26, .tmp 27]) rfl ?_); at_builtin; obtain ⟨us, hul, hraw, hrd⟩ := RC_raw H23.out; refine Kd.R_append_rows (Kd.raw 1) (w0 := w3) w3.heap.size rfl (.tmp 26) (.tmp 27) 22 33 (.slice none 0 0) 24 rfl Try.underlying22 info33 rfl (by decide) (by omega) v4 [] (ones us) A2 n c2 (fun _ => True) (fun _ => False) rfl rfl HO4.out (Kd.C_below hraw HB4.out) (fun _ _ h => h) (fun _ h => h.elim) (fun _ _ => trivial) HB4.out HB4.out.size (by simp; omega) ?_; intro v5 w5 ho5 hb5 hg5 hat5; rw [List.nil_append] at ho5; have HO5 := Aside0.mk ho5; have HB5 := Aside0.mk hb5; have HUL := Lib.hid hul; have HRD1 := Aside0.mk hrd; clear ho5 hb5 hg5 hat5 hraw hrd hul)
    | ((with_reducible refine gate_builtin (b := .append) (xs := #[.tmp 28, .tmp 29]) rfl ?_); at_builtin; obtain ⟨us2, hul2, hraw2, hrd2⟩ := RC_raw H3.out; refine Kd.R_append_rows (Kd.raw 1) (w0 := w3) w3.heap.size rfl (.tmp 28) (.tmp 29) 22 33 (.slice none 0 0) 24 rfl Try.underlying22 info33 rfl (by decide) (by omega) v5 (ones us) (ones us2) A3 p c3 (fun _ => True) (fun _ => False) rfl rfl HO5.out (Kd.C_below hraw2 HB5.out) (fun _ _ h => h) (fun _ h => h.elim) (fun _ _ => trivial) HB5.out HB5.out.size (by rw [ones_length, HUL.out]; omega) ?_; intro v6 w6 ho6 hb6 hg6 hat6; obtain ⟨A6, c6, e6⟩ := Kd.R_slice ho6; rw [List.length_append, ones_length, ones_length, HUL.out, hul2, ← HQ.out] at e6; subst e6; have hc6 := (Kd.R_reads' ho6).2; have HRC6 : Aside0 (RC w6 A6 q c6 (allS D p)) := ⟨⟨C_of_raw HALLL.out (us := us ++ us2) (by rw [← ones_append]; (have h_ := hc6.2); rw [List.length_append, ones_length, ones_length, HUL.out, hul2, ← HQ.out] at h_; exact h_) (fun j hj => by { have hq_ := HQ.out; have hul_ := HUL.out; unfold allS; by_cases hjn : j < n; { rw [List.getD_eq_getElem?_getD, List.getElem?_append_left (by omega), ← List.getD_eq_getElem?_getD, List.getD_eq_getElem?_getD (l := D ++ parD D p), List.getElem?_append_left (by rw [HN.out]; exact hjn), ← List.getD_eq_getElem?_getD]; exact (HRD1.out j hjn).below hb6 }; { rw [List.getD_eq_getElem?_getD, List.getElem?_append_right (by omega), ← List.getD_eq_getElem?_getD, List.getD_eq_getElem?_getD (l := D ++ parD D p), List.getElem?_append_right (by rw [HN.out]; omega), ← List.getD_eq_getElem?_getD, hul_, HN.out]; exact (hrd2 (j - n) (by omega)).below hb6 } }), hc6.1⟩⟩; have HB6 := Aside0.mk (below_step HB3.out hb6); clear ho6 hb6 hg6 hat6 hraw2 hrd2 hul2 hc6)
    | (go_at_call 20; refine (chk_c HRC6.out HS.out.all_allB (by rw [HS.out.all_wid]; exact HS.out.wid_) (by rw [HALLL.out]; omega) (p : Int)).mono ?_; rw [HCHK.out]; rintro e_ w7 ⟨rfl, hb7⟩; have HRC7 := Aside0.mk (HRC6.out.below hb7); have HB7 := Aside0.mk (below_step HB6.out hb7); clear hb7))
  obtain ⟨us, hul, hcA, hrA⟩ := C_raw HRC7.out.row
  obtain ⟨ad6, rfl, _⟩ := hcA 0 hq1
  have HCA : Aside0 (∀ j, j < q → w7.cell? (ad6.add j) = some (us.getD j nilV)) := ⟨fun j hj => by obtain ⟨ad, e, h⟩ := hcA j hj; cases e; exact h⟩
  have HRA := Aside0.mk hrA
  have H17 := Aside0.mk (Kd.C_below H1.out HB7.out)
  clear hcA hrA hul HRC6 HB6 HB2 HB3 H2 H23 H3 HFEW
  go_loopg [10, 11, 12] (q + 1) (fun kq v10 v11 v12 W => ∃ (j : Nat) (gs : List Value), Hid (kq + j = q + 1) ∧ j ≤ q ∧ v11 = .int .i64 ((ixK b j).length : Nat) ∧ v12 = .int .i64 (j : Nat) ∧ Hid (gs.length = j) ∧ Aside0 (Kd.R (Kd.raw 1) 33 W w7.heap.size (fun _ => True) v10 (ones gs)) ∧ Aside0 (∀ i, i < j → Kd.V (Kd.int .u8) 5 W 0 (fun k => True ∧ some k ≠ (v10 : Value).ownBlock) (gs.getD i nilV) ((givenL D p lostL b q).getD i [])) ∧ Aside0 (Below w7.heap.size w7 W))
  case atStart => exact ⟨0, [], Lib.hid (by omega), Nat.zero_le _, rfl, rfl, Lib.hid rfl, ⟨Kd.R_nil _ _ _ _ _⟩, ⟨fun i hi => absurd hi (by omega)⟩, ⟨Below.refl _ _⟩⟩
  case round =>
    obtain ⟨j, gs, HK, hjq, rfl, rfl, HGL, HO, HV, HB⟩ := hrel
    by_cases hj : j < q
    · have hj1 : decide ((j : Int) < (q : Int)) = true := decide_eq_true (by omega)
      have hj2 : decide (j < q) = true := decide_eq_true hj
      have hj3 : (j : Int) < (q : Int) := by omega
      obtain ⟨ad, ea, hxb⟩ := Kd.at_bool H17.out (j : Int) (by omega) (by omega)
      injection ea with ea
      subst ea
      rw [rdOf_bool, Int.toNat_natCast] at hxb
      replace hxb := (HB.out.cell (World.block_lt_of_cell? w7 _ hxb)).trans hxb
      have hxa := HCA.out j hj
      replace hxa := (HB.out.cell (World.block_lt_of_cell? w7 _ hxa)).trans hxa
      have hrA := HRA.out j hj
      have hvw := hrA.view
      obtain ⟨As, cs, es, _, _⟩ := hrA
      generalize ((allS D p).getD j []).length = ls at es
      rw [es] at hxa hvw
      have hcl := ixK_length b j
      by_cases hbj : b.getD j false = true
      · rw [hbj] at hxb
        have hgv : (givenL D p lostL b q).getD j [] = (allS D p).getD j [] := by rw [givenL_get hj, hbj, if_pos rfl]
        have hix : (ixK b (j + 1)).length = (ixK b j).length + 1 := by rw [ixK_yes hbj, List.length_append]; rfl
        have HGV := Aside0.mk hgv
        have HIX1 := Lib.hid hix
        have HVW : Aside0 (Kd.V (Kd.int .u8) 5 wr 0 (fun k => k < w7.heap.size) (.slice As ls cs) ((allS D p).getD j [])) := ⟨Kd.V_below hvw HB.out⟩
        clear hgv hix hvw es
        go_wp2_with (first
          | ((with_reducible refine gate_builtin (b := .append) (xs := #[.tmp 78, .tmp 83]) rfl ?_); at_builtin; refine Kd.R_append (Kd.raw 1) (w0 := w7) w7.heap.size rfl (.tmp 78) (.tmp 83) 22 33 (.slice none 0 0) 24 rfl Try.underlying22 info33 rfl (by decide) (by omega) u10 (ones gs) [.slice As ls cs] [.slice As ls cs] (fun _ => True) (fun _ => False) rfl rfl ⟨rfl, rfl, fun x hx => by { rw [List.mem_singleton.1 hx]; rfl }⟩ (fun _ hk => hk.elim) (fun _ _ => trivial) HO.out HB.out HB.out.size (by rw [ones_length, HGL.out]; omega) ?_; intro v5 w5 ho5 hb5 hg5 hat5; rw [ones_snoc] at ho5; have HO5 := Aside0.mk ho5; have HB5 := Aside0.mk hb5; have hv5 := views_snoc (rows := fun i => (givenL D p lostL b q).getD i []) HGL.out HV.out (by { show Kd.V _ _ _ _ _ _ ((givenL D p lostL b q).getD j []); rw [HGV.out]; exact Kd.V_mono HVW.out (fun k hk => ⟨trivial, fun e => by { have := Kd.R_base HO.out k e.symm; omega }⟩) }) hg5 hat5; have HV5 := Aside0.mk hv5; clear hv5; clear ho5 hb5 hg5 hat5))
        go_roundg (q + 1 - (j + 1))
        case measure => have := HK.out; omega
        case rel => exact ⟨j + 1, gs ++ [.slice As ls cs], Lib.hid (by have := HK.out; omega), by omega, by rw [HIX1.out]; go_num, by go_num, Lib.hid (by rw [List.length_append, HGL.out]; rfl), HO5, HV5, HB5⟩
      · have hbf : b.getD j false = false := by simpa using hbj
        rw [hbf] at hxb
        have hgv : (givenL D p lostL b q).getD j [] = lostL := by rw [givenL_get hj, hbf, if_neg (by decide)]
        have hix : (ixK b (j + 1)).length = (ixK b j).length := by rw [ixK_no hbj]
        have HGV := Aside0.mk hgv
        have HIX1 := Lib.hid hix
        have hcv := lost_conv wr
        have hlv := Aside0.mk (lost_view wr)
        have hsz : (wr.alloc (Obj.cells #[.int .u8 108, .int .u8 111, .int .u8 115, .int .u8 116] 5 (4, 5))).heap.size = wr.heap.size + 1 := World.size_alloc _ _
        have HSZ := Lib.hid hsz
        clear hgv hix hvw es hsz hxa
        go_wp2_with (first
          | ((with_reducible refine gate_builtin (b := .append) (xs := #[.tmp 85, .tmp 88]) rfl ?_); at_builtin; refine Kd.R_append (Kd.raw 1) (w0 := w7) w7.heap.size rfl (.tmp 85) (.tmp 88) 22 33 (.slice none 0 0) 24 rfl Try.underlying22 info33 rfl (by decide) (by omega) u10 (ones gs) [.slice (some ⟨wr.heap.size, 0, none⟩) 4 4] [.slice (some ⟨wr.heap.size, 0, none⟩) 4 4] (fun _ => True) (fun _ => False) rfl (by rw [HSZ.out]; rfl) ⟨rfl, rfl, fun x hx => by { rw [List.mem_singleton.1 hx]; rfl }⟩ (fun _ hk => hk.elim) (fun _ _ => trivial) (Kd.R_alloc HO.out _) (below_alloc HB.out _) (by rw [HSZ.out]; have := HB.out.size; omega) (by rw [ones_length, HGL.out]; omega) ?_; intro v5 w5 ho5 hb5 hg5 hat5; rw [ones_snoc] at ho5; have HO5 := Aside0.mk ho5; have HB5 := Aside0.mk hb5; have hv5 := views_snoc (rows := fun i => (givenL D p lostL b q).getD i []) HGL.out (fun i hi => Kd.V_alloc (HV.out i hi) _) (by { show Kd.V _ _ _ _ _ _ ((givenL D p lostL b q).getD j []); rw [HGV.out]; exact Kd.V_mono hlv.out (fun k hk => ⟨trivial, fun e => by { have := Kd.R_lt HO.out k e.symm; omega }⟩) }) hg5 hat5; have HV5 := Aside0.mk hv5; clear hv5; clear ho5 hb5 hg5 hat5))
        go_roundg (q + 1 - (j + 1))
        case measure => have := HK.out; omega
        case rel => exact ⟨j + 1, gs ++ [.slice (some ⟨wr.heap.size, 0, none⟩) 4 4], Lib.hid (by have := HK.out; omega), by omega, by rw [HIX1.out], by go_num, Lib.hid (by rw [List.length_append, HGL.out]; rfl), HO5, HV5, HB5⟩
    · have hj1 : decide ((j : Int) < (q : Int)) = false := decide_eq_false (by omega)
      have hj2 : decide (j < q) = false := decide_eq_false hj
      have hjq2 : q = j := by omega
      subst hjq2
      have hix := HIX.out q rfl
      rw [hix]
      clear hix
      obtain ⟨A10, c10, e10⟩ := Kd.R_slice HO.out
      rw [ones_length, HGL.out] at e10
      subst e10
      have hc10 := (Kd.R_reads' HO.out).2
      rw [ones_length, HGL.out] at hc10
      have hgl := givenL_length D p lostL b q
      have HRCG : Aside0 (RC wr A10 q c10 (givenL D p lostL b q)) := ⟨⟨C_of_raw hgl hc10.2 (fun i hi => view_rd (HV.out i hi)), hc10.1⟩⟩
      have H1r := Aside0.mk (Kd.C_below H17.out HB.out)
      have HRC7' := Aside0.mk (HRC7.out.below HB.out)
      have hqe : D.length + p = q := by rw [HN.out, HQ.out]
      have hGB : AllB (givenL D p lostL b q) := HS.out.given_allB (by decide) b q (by omega)
      have hGR : ∀ r ∈ givenL D p lostL b q, r.length ≤ 1000 := HS.out.given_row (by decide) b q (by omega)
      have HBr := Aside0.mk (below_step HB7.out HB.out)
      by_cases hcnt : (ixs b).length < n
      · have hrec := HS.out.rec_few (lost := lostL) (b := b) (by rw [HBL.out, hqe]) (by rw [HN.out]; exact hcnt)
        rw [hqe] at hrec
        have HREC := Aside0.mk (rec_eq HRCG.out H1r.out hqc hGB hGR (by rw [hgl]; omega) hrec rfl)
        have hc1 : decide (((ixs b).length : Int) < (n : Int)) = true := decide_eq_true (by omega)
        have hc2 : decide ((ixs b).length < n) = true := decide_eq_true hcnt
        clear hrec hGB hGR hgl hc10
        go_wp2_with (first
          | (go_at_call 16; refine HREC.out.mono ?_; rintro e_ w8 ⟨A8, c8, rfl, h8, hb8⟩; have HB8 := Aside0.mk (below_step HBr.out hb8); clear h8 hb8)
          | (go_at_call 22; refine (awake_c _).mono ?_; rintro e_ w9 ⟨rfl, hb9⟩; have HB9 := Aside0.mk (below_step HB8.out hb9); clear hb9))
        go_ret
        exact ⟨rfl, HB9.out⟩
      · have hrec := HS.out.rec_all (lost := lostL) (b := b) (by rw [HBL.out, hqe]) (by rw [HN.out]; exact hcnt)
        rw [hqe] at hrec
        have HREC := Aside0.mk (rec_eq HRCG.out H1r.out hqc hGB hGR (by rw [hgl]; omega) hrec HALLL.out)
        have hc1 : decide (((ixs b).length : Int) < (n : Int)) = false := decide_eq_false (by omega)
        have hc2 : decide ((ixs b).length < n) = false := decide_eq_false hcnt
        clear hrec hGB hGR hgl hc10
        go_wp2_with (first
          | (go_at_call 16; refine HREC.out.mono ?_; rintro e_ w8 ⟨A8, c8, rfl, h8, hb8⟩; have H8 := Aside0.mk h8; have HRC8 := Aside0.mk (HRC7'.out.below hb8); have HB8 := Aside0.mk (below_step HBr.out hb8); clear h8 hb8)
          | (go_at_call 19; refine (same_c H8.out HRC8.out HS.out.all_allB HS.out.all_allB (by rw [HALLL.out]; omega)).mono ?_; rw [decide_eq_true rfl]; rintro e_ w9 ⟨rfl, hb9⟩; have HB9 := Aside0.mk (below_step HB8.out hb9); clear hb9)
          | (go_at_call 22; refine (awake_c _).mono ?_; rintro e_ w10 ⟨rfl, hb10⟩; have HB10 := Aside0.mk (below_step HB9.out hb10); clear hb10))
        go_ret
        exact ⟨rfl, HB10.out⟩
end Go.Proofs.Ytmlfpcnemganbaa.Q
namespace Go.Proofs.Ytmlfpcnemganbaa.Q
open Go.RowKit Go.Proofs.YtmlfpcnemganbaaW.PrintWords Go.Proofs.Ytmlfpcnemganbaa.Evs
def tapearchivelaw06_ErasureRecovers.f (_ : Nat) (l0 : List (List Int)) (_ : Int) (_ : List Bool) : Option Bool := if AllB l0 then some true else none
theorem tapearchivelaw06_ErasureRecovers.calls (k : Nat) (A0 : Option Addr) (c0 : Nat) (l0 : List (List Int)) (a1 : Int) (A2 : Option Addr) (c2 : Nat) (l2 : List Bool) (r : Bool) (w : World) (hr0 : Kd.C (Kd.slice 5 (Kd.int .u8)) w A0 l0.length l0) (hc0 : l0.length ≤ c0) (hr2 : Kd.C Kd.bool w A2 l2.length l2) (hc2 : l2.length ≤ c2) (h : tapearchivelaw06_ErasureRecovers.f k l0 a1 l2 = some r) :
    Calls Try.prog 6 #[.slice A0 l0.length c0, .int .i64 a1, .slice A2 l2.length c2] w fun e w' => e = .returned (.bool r) ∧ Below w.heap.size w w' := by
  unfold tapearchivelaw06_ErasureRecovers.f at h
  by_cases hb : AllB l0
  · rw [if_pos hb] at h
    obtain rfl := Option.some.inj h
    by_cases he : (parR (fewV l0) a1).2 = 0
    · obtain ⟨hs, ha, _⟩ := shards_of (fewV_allB hb) (wid_le (fewV_len (l := l0))) he
      generalize a1.toNat = p at hs ha
      subst ha
      by_cases hlt : l2.length < (fewV l0).length + p
      · exact rcv_short w ⟨hr0, hc0⟩ hs rfl rfl hlt
      · have ht := Kd.C_take (m := (fewV l0).length + p) hr2 (by omega)
        have e : (l2.take ((fewV l0).length + p)).length = (fewV l0).length + p := by rw [List.length_take]; omega
        rw [e] at ht
        exact rcv_walk w ⟨hr0, hc0⟩ hs rfl rfl (by omega) hc2 ht
    · exact rcv_bad a1 w ⟨hr0, hc0⟩ hb he
  · rw [if_neg hb] at h
    exact absurd h (by simp)
end Go.Proofs.Ytmlfpcnemganbaa.Q
namespace Go.Proofs.Ytmlfpcnemganbaa.Pure
open Go.Proofs.Ytmlfpcnemganbaa.Q
theorem ErasureRecovers (l : List (List Int)) (hl : l.length ≤ maxLen) (hw : ∀ r ∈ l, r.length ≤ maxLen ∧ ∀ x ∈ r, (Lit.int .u8 x).wf = true) (p : Int) (hp : (Lit.int .i64 p).wf = true) (h : List Bool) (hh : h.length ≤ maxLen) :
    ∃ k, tapearchivelaw06_ErasureRecovers.f k l p h = some true := ⟨0, by unfold tapearchivelaw06_ErasureRecovers.f; rw [if_pos (allB_wf hw)]⟩
end Go.Proofs.Ytmlfpcnemganbaa.Pure
