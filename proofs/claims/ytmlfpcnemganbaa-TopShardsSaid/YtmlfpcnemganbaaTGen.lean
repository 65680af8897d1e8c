/- tapearchivetop.generator: what it answers. -/
import Derived.Test.YtmlfpcnemganbaaTCod
namespace Go.Proofs.Ytmlfpcnemganbaa.Q
open Go.RowKit Go.Proofs.YtmlfpcnemganbaaW.PrintWords Go.Proofs.YtmlfpcnemganbaaW.PrintLast Go.Proofs.YtmlfpcnemganbaaW.PrintMore
open Go.Proofs.Ytmlfpcnemganbaa.Gf Go.Proofs.Ytmlfpcnemganbaa.Lin Go.Proofs.Ytmlfpcnemganbaa.Evs
set_option linter.unusedVariables false
set_option linter.unnecessarySimpa false
theorem ixK_ext (b : List Bool) (i : Nat) : ∀ k, ∃ r, ixK b (i + k) = ixK b i ++ r
  | 0 => ⟨[], by simp⟩
  | k + 1 => by
    obtain ⟨r, hr⟩ := ixK_ext b i k
    by_cases h : b.getD (i + k) false = true
    · exact ⟨r ++ [i + k], by rw [← Nat.add_assoc, ixK_yes h, hr, List.append_assoc]⟩
    · exact ⟨r, by rw [← Nat.add_assoc, ixK_no h, hr]⟩
theorem ixK_take {b : List Bool} {i n : Nat} (hi : i ≤ b.length) (hL : (ixK b i).length ≤ n) (h : i = b.length ∨ (ixK b i).length = n) : ixK b i = (ixs b).take n := by
  obtain ⟨r, hr⟩ := ixK_ext b i (b.length - i)
  rw [show i + (b.length - i) = b.length by omega] at hr
  unfold ixs
  rcases h with h | h
  · rw [← h, List.take_of_length_le hL]
  · rw [hr, ← h, List.take_left' rfl]
/-- The values of the chosen rows. -/
def genV (usI usC : List Value) (n t : Nat) : Value := if t < n then usI.getD t nilV else usC.getD (t - n) nilV
theorem map_snoc_yes {b : List Bool} {i : Nat} (f : Nat → Value) (h : b.getD i false = true) : ones ((ixK b i).map f) ++ [[f i]] = ones ((ixK b (i + 1)).map f) := by
  rw [ones_snoc, ixK_yes h, List.map_append]
  rfl
set_option maxRecDepth 100000 in
set_option maxHeartbeats 8000000 in
theorem gen_walk {n p q : Nat} (hn1 : 1 ≤ n) (hp1 : 1 ≤ p) (hnp : n + p ≤ 16) (hq : q = n + p) {all : List (List Int)} {b : List Bool} {A0 A1 : Option Addr} {c0 c1 : Nat} (w : World) (h0 : RC w A0 q c0 all) (h1 : Kd.C Kd.bool w A1 q b) (hc1 : q ≤ c1) :
    Calls Try.prog 13 #[.slice A0 q c0, .slice A1 q c1, .int .i64 (n : Nat), .int .i64 (p : Nat)] w fun e w' => ∃ A c A' c', e = .returned (.tuple #[.slice A ((ixs b).take n).length c, .slice A' ((ixs b).take n).length c']) ∧
      RC w' A ((ixs b).take n).length c (rowsL (selM n (ints ((ixs b).take n))) ((ixs b).take n).length n) ∧ RC w' A' ((ixs b).take n).length c' (pickL all (ints ((ixs b).take n))) ∧ Below w.heap.size w w' := by
  obtain ⟨kI, hkI⟩ := Ev.rounds (ident_ev (n : Nat))
  rw [if_pos (by omega), Int.toNat_natCast] at hkI
  obtain ⟨kC, hkC⟩ := Ev.rounds (cauchy_ev (p : Nat) (n : Nat))
  rw [if_pos ⟨⟨by omega, by omega⟩, ⟨by omega, by omega⟩, by omega⟩, Int.toNat_natCast, Int.toNat_natCast] at hkC
  have HKI := Aside0.mk hkI
  have HKC := Aside0.mk hkC
  have hbl : b.length = q := h1.1
  have HBL := Lib.hid hbl
  have HAL := Lib.hid h0.len
  have hq16 : q ≤ 16 := by omega
  have hnq : n < q := by omega
  have HQ := Lib.hid hq
  obtain ⟨ad1, rfl, _⟩ := h1.2.2 (by omega)
  have H0 := Aside0.mk h0
  have H1 := Aside0.mk h1
  clear hkI hkC hbl h0 h1 hq
  go_enter Try.func13, Try.ntmps13
  go_wp2_with (first
    | (go_at_call 36; refine (matrix_Identity.calls kI _ _ _ HKI.out).mono ?_; rintro e_ w2 ⟨v2, rfl, hs2, hb2⟩; obtain ⟨A2, c2, e2, hrc2⟩ := S_rc hs2; rw [rowsL_length] at e2 hrc2; subst e2; have HI2 := Aside0.mk hrc2; have HB2 := Aside0.mk hb2; clear hs2 hb2 hrc2)
    | (go_at_call 37; refine (matrix_Cauchy.calls kC _ _ _ _ _ HKC.out).mono ?_; rintro e_ w3 ⟨v3, rfl, hs3, hb3⟩; obtain ⟨A3, c3, e3, hrc3⟩ := S_rc hs3; rw [rowsL_length] at e3 hrc3; subst e3; have HC3 := Aside0.mk hrc3; have HI3 := Aside0.mk (HI2.out.below hb3); have HB3 := Aside0.mk (below_step HB2.out hb3); clear hs3 hb3 hrc3))
  obtain ⟨usI, _, hcI, hrI⟩ := C_raw HI3.out.row
  obtain ⟨usC, _, hcC, hrC⟩ := C_raw HC3.out.row
  obtain ⟨usA, _, hcA, hrA⟩ := C_raw (H0.out.below HB3.out).row
  obtain ⟨adI, rfl, _⟩ := hcI 0 (by omega)
  obtain ⟨adC, rfl, _⟩ := hcC 0 (by omega)
  obtain ⟨adA, rfl, _⟩ := hcA 0 (by omega)
  have HCI : Aside0 (∀ j, j < n → w3.cell? (adI.add j) = some (usI.getD j nilV)) := ⟨fun j hj => by obtain ⟨ad, e, h⟩ := hcI j hj; cases e; exact h⟩
  have HCC : Aside0 (∀ j, j < p → w3.cell? (adC.add j) = some (usC.getD j nilV)) := ⟨fun j hj => by obtain ⟨ad, e, h⟩ := hcC j hj; cases e; exact h⟩
  have HCA : Aside0 (∀ j, j < q → w3.cell? (adA.add j) = some (usA.getD j nilV)) := ⟨fun j hj => by obtain ⟨ad, e, h⟩ := hcA j hj; cases e; exact h⟩
  have HG : Aside0 (∀ t, t < q → Rd w3 (genV usI usC n t) (rowV (gen n) t n)) := ⟨fun t ht => by
    unfold genV
    by_cases h : t < n
    · rw [if_pos h]
      have h2 := hrI t h
      have e : (rowsL dlt n n).getD t [] = rowV (gen n) t n := by
        rw [List.getD_eq_getElem?_getD, rowsL_get h]
        exact rowV_congr fun c _ => by unfold gen; rw [if_pos h]
      rw [e] at h2
      exact h2
    · rw [if_neg h]
      have htp : t - n < p := by have := HQ.out; omega
      have h2 := hrC (t - n) htp
      have e : (rowsL (cauM n) p n).getD (t - n) [] = rowV (gen n) t n := by
        rw [List.getD_eq_getElem?_getD, rowsL_get htp]
        exact rowV_congr fun c _ => by unfold gen; rw [if_neg h]
      rw [e] at h2
      exact h2⟩
  have HRA := Aside0.mk hrA
  have H13 := Aside0.mk (Kd.C_below H1.out HB3.out)
  clear hcI hcC hcA hrI hrC hrA HI2 HB2 HKI HKC H0 H1
  go_loopg [13, 14, 15] (q + 1) (fun kq v13 v14 v15 W => ∃ i : Nat, Hid (kq + i = q + 1) ∧ i ≤ q ∧ Hid ((ixK b i).length ≤ n) ∧ v15 = .int .i64 (i : Nat) ∧ Aside0 (Kd.R (Kd.raw 1) 33 W w3.heap.size (fun k => some k ≠ (v14 : Value).ownBlock) v13 (ones ((ixK b i).map (genV usI usC n)))) ∧ Aside0 (Kd.R (Kd.raw 1) 33 W w3.heap.size (fun k => some k ≠ (v13 : Value).ownBlock) v14 (ones ((ixK b i).map fun t => usA.getD t nilV))) ∧ Aside0 (Below w3.heap.size w3 W))
  case atStart => exact ⟨0, Lib.hid (by omega), Nat.zero_le _, Lib.hid (Nat.zero_le _), rfl, ⟨Kd.R_nil _ _ _ _ _⟩, ⟨Kd.R_nil _ _ _ _ _⟩, ⟨Below.refl _ _⟩⟩
  case round =>
    obtain ⟨i, HK, hiq, HL, rfl, HO1, HO2, HB⟩ := hrel
    obtain ⟨A13, c13, e13⟩ := Kd.R_slice HO1.out
    obtain ⟨A14, c14, e14⟩ := Kd.R_slice HO2.out
    rw [ones_length, List.length_map] at e13 e14
    subst e13 e14
    obtain ⟨L, hLe⟩ : ∃ L, L = (ixK b i).length := ⟨_, rfl⟩
    have HLE := Lib.hid hLe
    have hLn : L ≤ n := by rw [hLe]; exact HL.out
    rw [← hLe] at HO1 HO2 ⊢
    clear hLe
    by_cases hi : i < q
    · have hi1 : decide ((i : Int) < (q : Int)) = true := decide_eq_true (by omega)
      have hi2 : decide (i < q) = true := decide_eq_true hi
      have hi3 : (i : Int) < (q : Int) := by omega
      have hi4 : decide ((q : Int) ≤ (i : Int)) = false := decide_eq_false (by omega)
      have hi5 : decide (q ≤ i) = false := decide_eq_false (by omega)
      by_cases hl : L < n
      · have hl1 : decide ((L : Int) < (n : Int)) = true := decide_eq_true (by omega)
        have hl2 : decide (L < n) = true := decide_eq_true hl
        obtain ⟨ad, ea, hxb⟩ := Kd.at_bool H13.out (i : Int) (by omega) (by omega)
        injection ea with ea
        subst ea
        rw [rdOf_bool, Int.toNat_natCast] at hxb
        replace hxb := (HB.out.cell (World.block_lt_of_cell? w3 _ hxb)).trans hxb
        by_cases hb : b.getD i false = true
        · rw [hb] at hxb
          have hxA := HCA.out i hi
          obtain ⟨Aa, ca, ea2, _, _⟩ := HRA.out i hi
          generalize (all.getD i []).length = la at ea2
          have hp2 := map_snoc_yes (b := b) (i := i) (fun t => usA.getD t nilV) hb
          have hp1 := map_snoc_yes (b := b) (i := i) (genV usI usC n) hb
          have ea3 : usA.getD i nilV = .slice Aa la ca := ea2
          rw [ea3] at hxA
          have hp2' : ones ((ixK b i).map fun t => usA.getD t nilV) ++ [[.slice Aa la ca]] = ones ((ixK b (i + 1)).map fun t => usA.getD t nilV) := by rw [← ea3]; exact hp2
          have HXA := Aside0.mk hxA
          have HP2 := Lib.hid hp2'
          replace hxA := (HB.out.cell (World.block_lt_of_cell? w3 _ hxA)).trans hxA
          have hL1 : (ixK b (i + 1)).length ≤ n := by rw [ixK_yes hb, List.length_append]; have := HLE.out; show _ + 1 ≤ n; omega
          have HL1 := Lib.hid hL1
          clear hp2 hp2' ea2 ea3 hL1 hb
          by_cases hin : i < n
          · have hn1' : decide ((i : Int) < (n : Int)) = true := decide_eq_true (by omega)
            have hn2' : decide (i < n) = true := decide_eq_true hin
            have hn3' : decide ((n : Int) ≤ (i : Int)) = false := decide_eq_false (by omega)
            have hn4' : decide (n ≤ i) = false := decide_eq_false (by omega)
            have hn5' : (i : Int) < (n : Int) := by omega
            have hxI := HCI.out i hin
            have hg := HG.out i hi
            have hgv : genV usI usC n i = usI.getD i nilV := by unfold genV; rw [if_pos hin]
            obtain ⟨As, cs, es, _, _⟩ := hg
            generalize (rowV (gen n) i n).length = ls at es
            rw [es] at hp1
            rw [← hgv, es] at hxI
            have HP1 := Lib.hid hp1
            replace hxI := (HB.out.cell (World.block_lt_of_cell? w3 _ hxI)).trans hxI
            clear hp1 es hgv
            go_wp2_with (first
            | ((with_reducible refine gate_builtin (b := .append) (xs := #[.tmp 56, .tmp 61]) rfl ?_); at_builtin; refine Kd.R_append (Kd.raw 1) (w0 := w3) w3.heap.size rfl (.tmp 56) (.tmp 61) 22 33 (.slice none 0 0) 24 rfl Try.underlying22 info33 rfl (by decide) (by omega) (.slice A13 L c13) (ones ((ixK b i).map (genV usI usC n))) [.slice As ls cs] [.slice As ls cs] (fun k => some k ≠ (.slice A14 L c14 : Value).ownBlock) (fun _ => False) rfl rfl ⟨rfl, rfl, fun x hx => by { rw [List.mem_singleton.1 hx]; rfl }⟩ (fun _ hk => hk.elim) (Kd.fresh' (Kd.R_lt HO2.out)) HO1.out HB.out HB.out.size (by rw [ones_length, List.length_map, ← HLE.out]; omega) ?_; intro v5 w5 ho5 hb5 hg5 hat5; rw [HP1.out] at ho5; have HO15 := Aside0.mk ho5; have HB5 := Aside0.mk hb5; have HO25 : Aside0 (Kd.R (Kd.raw 1) 33 w5 w3.heap.size (fun k => True ∧ some k ≠ v5.ownBlock) (.slice A14 L c14) (ones ((ixK b i).map fun t => usA.getD t nilV))) := ⟨Kd.R_after (ok := fun _ => True) (Kd.R_mono HO2.out (fun k hk => ⟨trivial, hk⟩)) hg5 hat5⟩; have hx5 := (hb5.cell (World.block_lt_of_cell? w3 _ HXA.out)).trans HXA.out; clear ho5 hb5 hg5 hat5)
            | ((with_reducible refine gate_builtin (b := .append) (xs := #[.tmp 83, .tmp 88]) rfl ?_); at_builtin; refine Kd.R_append (Kd.raw 1) (w0 := w3) w3.heap.size rfl (.tmp 83) (.tmp 88) 22 33 (.slice none 0 0) 24 rfl Try.underlying22 info33 rfl (by decide) (by omega) (.slice A14 L c14) (ones ((ixK b i).map fun t => usA.getD t nilV)) [.slice Aa la ca] [.slice Aa la ca] (fun k => True ∧ some k ≠ (v5 : Value).ownBlock) (fun _ => False) rfl rfl ⟨rfl, rfl, fun x hx => by { rw [List.mem_singleton.1 hx]; rfl }⟩ (fun _ hk => hk.elim) (fun k hk => ⟨trivial, Kd.fresh' (Kd.R_lt HO15.out) k hk⟩) HO25.out HB5.out HB5.out.size (by rw [ones_length, List.length_map, ← HLE.out]; omega) ?_; intro v6 w6 ho6 hb6 hg6 hat6; rw [HP2.out] at ho6; have HO26 := Aside0.mk ho6; have HB6 := Aside0.mk hb6; have HO16 : Aside0 (Kd.R (Kd.raw 1) 33 w6 w3.heap.size (fun k => True ∧ some k ≠ v6.ownBlock) v5 (ones ((ixK b (i + 1)).map (genV usI usC n)))) := ⟨Kd.R_after (ok := fun _ => True) (Kd.R_mono (Kd.R_tight rfl HO15.out) (fun k hk => ⟨trivial, fun e => by { have := HO15.out.1 k hk.symm; exact this e }⟩)) hg6 hat6⟩; clear ho6 hb6 hg6 hat6))
            go_roundg (q + 1 - (i + 1))
            case measure => have := HK.out; omega
            case rel => exact ⟨i + 1, Lib.hid (by have := HK.out; omega), by omega, HL1, by go_num, ⟨Kd.R_mono HO16.out (fun k hk => hk.2)⟩, ⟨Kd.R_mono HO26.out (fun k hk => hk.2)⟩, HB6⟩
          · obtain ⟨d, rfl⟩ : ∃ d, i = n + d := ⟨i - n, by omega⟩
            have hdp : d < p := by have := HQ.out; omega
            have hn1' : decide (((n + d : Nat) : Int) < (n : Int)) = false := decide_eq_false (by omega)
            have hn2' : decide (n + d < n) = false := decide_eq_false hin
            have hn3' : decide ((n : Int) ≤ ((n + d : Nat) : Int)) = true := decide_eq_true (by omega)
            have hn4' : decide (n ≤ n + d) = true := decide_eq_true (by omega)
            have hn5' : (d : Int) < (p : Int) := by omega
            have hn6' : decide ((d : Int) < (p : Int)) = true := decide_eq_true (by omega)
            have hn7' : decide (d < p) = true := decide_eq_true hdp
            have hsub : ((n + d : Nat) : Int) - (n : Int) = (d : Int) := by omega
            have hxC := HCC.out d hdp
            have hg := HG.out (n + d) hi
            have hgv : genV usI usC n (n + d) = usC.getD d nilV := by unfold genV; rw [if_neg hin, Nat.add_sub_cancel_left]
            obtain ⟨As, cs, es, _, _⟩ := hg
            generalize (rowV (gen n) (n + d) n).length = ls at es
            rw [es] at hp1
            rw [← hgv, es] at hxC
            have HP1 := Lib.hid hp1
            replace hxC := (HB.out.cell (World.block_lt_of_cell? w3 _ hxC)).trans hxC
            clear hp1 es hgv
            go_wp2_with (first
            | ((with_reducible refine gate_builtin (b := .append) (xs := #[.tmp 74, .tmp 81]) rfl ?_); at_builtin; refine Kd.R_append (Kd.raw 1) (w0 := w3) w3.heap.size rfl (.tmp 74) (.tmp 81) 22 33 (.slice none 0 0) 24 rfl Try.underlying22 info33 rfl (by decide) (by omega) (.slice A13 L c13) (ones ((ixK b (n + d)).map (genV usI usC n))) [.slice As ls cs] [.slice As ls cs] (fun k => some k ≠ (.slice A14 L c14 : Value).ownBlock) (fun _ => False) rfl rfl ⟨rfl, rfl, fun x hx => by { rw [List.mem_singleton.1 hx]; rfl }⟩ (fun _ hk => hk.elim) (Kd.fresh' (Kd.R_lt HO2.out)) HO1.out HB.out HB.out.size (by rw [ones_length, List.length_map, ← HLE.out]; omega) ?_; intro v5 w5 ho5 hb5 hg5 hat5; rw [HP1.out] at ho5; have HO15 := Aside0.mk ho5; have HB5 := Aside0.mk hb5; have HO25 : Aside0 (Kd.R (Kd.raw 1) 33 w5 w3.heap.size (fun k => True ∧ some k ≠ v5.ownBlock) (.slice A14 L c14) (ones ((ixK b (n + d)).map fun t => usA.getD t nilV))) := ⟨Kd.R_after (ok := fun _ => True) (Kd.R_mono HO2.out (fun k hk => ⟨trivial, hk⟩)) hg5 hat5⟩; have hx5 := (hb5.cell (World.block_lt_of_cell? w3 _ HXA.out)).trans HXA.out; clear ho5 hb5 hg5 hat5)
            | ((with_reducible refine gate_builtin (b := .append) (xs := #[.tmp 83, .tmp 88]) rfl ?_); at_builtin; refine Kd.R_append (Kd.raw 1) (w0 := w3) w3.heap.size rfl (.tmp 83) (.tmp 88) 22 33 (.slice none 0 0) 24 rfl Try.underlying22 info33 rfl (by decide) (by omega) (.slice A14 L c14) (ones ((ixK b (n + d)).map fun t => usA.getD t nilV)) [.slice Aa la ca] [.slice Aa la ca] (fun k => True ∧ some k ≠ (v5 : Value).ownBlock) (fun _ => False) rfl rfl ⟨rfl, rfl, fun x hx => by { rw [List.mem_singleton.1 hx]; rfl }⟩ (fun _ hk => hk.elim) (fun k hk => ⟨trivial, Kd.fresh' (Kd.R_lt HO15.out) k hk⟩) HO25.out HB5.out HB5.out.size (by rw [ones_length, List.length_map, ← HLE.out]; omega) ?_; intro v6 w6 ho6 hb6 hg6 hat6; rw [HP2.out] at ho6; have HO26 := Aside0.mk ho6; have HB6 := Aside0.mk hb6; have HO16 : Aside0 (Kd.R (Kd.raw 1) 33 w6 w3.heap.size (fun k => True ∧ some k ≠ v6.ownBlock) v5 (ones ((ixK b (n + d + 1)).map (genV usI usC n)))) := ⟨Kd.R_after (ok := fun _ => True) (Kd.R_mono (Kd.R_tight rfl HO15.out) (fun k hk => ⟨trivial, fun e => by { have := HO15.out.1 k hk.symm; exact this e }⟩)) hg6 hat6⟩; clear ho6 hb6 hg6 hat6))
            go_roundg (q + 1 - (n + d + 1))
            case measure => have := HK.out; omega
            case rel => exact ⟨n + d + 1, Lib.hid (by have := HK.out; omega), by omega, HL1, by go_num, ⟨Kd.R_mono HO16.out (fun k hk => hk.2)⟩, ⟨Kd.R_mono HO26.out (fun k hk => hk.2)⟩, HB6⟩
        · have hbf : b.getD i false = false := by simpa using hb
          rw [hbf] at hxb
          have HL1 : Hid ((ixK b (i + 1)).length ≤ n) := Lib.hid (by rw [ixK_no hb]; exact HL.out)
          have HN := Lib.hid (ixK_no hb)
          clear hb hbf
          go_wp2
          go_roundg (q + 1 - (i + 1))
          case measure => have := HK.out; omega
          case rel => exact ⟨i + 1, Lib.hid (by have := HK.out; omega), by omega, HL1, by go_num, ⟨by rw [HN.out]; exact HO1.out⟩, ⟨by rw [HN.out]; exact HO2.out⟩, HB⟩
      · have hl1 : decide ((L : Int) < (n : Int)) = false := decide_eq_false (by omega)
        have hl2 : decide (L < n) = false := decide_eq_false hl
        have HF : Aside0 (ixK b i = (ixs b).take n) := ⟨ixK_take (by rw [HBL.out]; exact hiq) HL.out (by rw [HBL.out, ← HLE.out]; omega)⟩
        have h13 := (Kd.R_reads' HO1.out).2
        have h14 := (Kd.R_reads' HO2.out).2
        rw [ones_length, List.length_map, HF.out] at h13 h14
        have hLf : L = ((ixs b).take n).length := by rw [HLE.out, HF.out]
        have hix : ∀ x ∈ (ixs b).take n, x < q := fun x hx => by rw [← HF.out] at hx; have := ixK_lt b i x hx; omega
        have hv : ∀ (f : Nat → Value) (j : Nat), j < ((ixs b).take n).length → (((ixs b).take n).map f).getD j nilV = f (((ixs b).take n).getD j 0) := fun f j hj => by
          rw [List.getD_eq_getElem?_getD, List.getElem?_map, List.getElem?_eq_getElem hj, List.getD_eq_getElem?_getD, List.getElem?_eq_getElem hj]
          rfl
        have hR1 : RC wr A13 ((ixs b).take n).length c13 (rowsL (selM n (ints ((ixs b).take n))) ((ixs b).take n).length n) := ⟨C_of_raw (rowsL_length _ _ _) h13.2 (fun j hj => by
          have hjx : ((ixs b).take n).getD j 0 < q := by
            rw [List.getD_eq_getElem?_getD, List.getElem?_eq_getElem hj]
            exact hix _ (List.getElem_mem hj)
          have e : (rowsL (selM n (ints ((ixs b).take n))) ((ixs b).take n).length n).getD j [] = rowV (gen n) (((ixs b).take n).getD j 0) n := by
            rw [List.getD_eq_getElem?_getD, rowsL_get hj]
            exact rowV_congr fun c _ => by unfold selM; rw [ints_getD]
          rw [e, hv _ j hj]
          exact (HG.out _ hjx).below HB.out), by rw [← hLf]; have := (Kd.R_reads' HO1.out).2.1; exact this⟩
        have hR2 : RC wr A14 ((ixs b).take n).length c14 (pickL all (ints ((ixs b).take n))) := ⟨C_of_raw (pickL_length _ _) h14.2 (fun j hj => by
          have hjx : ((ixs b).take n).getD j 0 < q := by
            rw [List.getD_eq_getElem?_getD, List.getElem?_eq_getElem hj]
            exact hix _ (List.getElem_mem hj)
          have e : (pickL all (ints ((ixs b).take n))).getD j [] = all.getD (((ixs b).take n).getD j 0) [] := by
            unfold pickL
            have hj2 : j < (ints ((ixs b).take n)).length := by rw [ints_length]; exact hj
            rw [List.getD_eq_getElem?_getD, List.getElem?_map, List.getElem?_eq_getElem hj2, Option.map_some, Option.getD_some]
            have e2 : (ints ((ixs b).take n))[j] = ((((ixs b).take n).getD j 0 : Nat) : Int) := by
              rw [List.getD_eq_getElem?_getD, List.getElem?_eq_getElem hj]
              simp [ints]
            rw [e2]
            unfold rd_L1
            rw [Int.toNat_natCast]
          rw [e, hv _ j hj]
          exact (HRA.out _ hjx).below HB.out), by rw [← hLf]; have := (Kd.R_reads' HO2.out).2.1; exact this⟩
        have HR1 := Aside0.mk hR1
        have HR2 := Aside0.mk hR2
        have HLF := Lib.hid hLf
        clear h13 h14 hLf hix hv hR1 hR2
        go_wp2
        go_ret2
        exact ⟨A13, c13, A14, c14, by rw [HLF.out]; rfl, HR1.out, HR2.out, below_step HB3.out HB.out⟩
    · have hi1 : decide ((i : Int) < (q : Int)) = false := decide_eq_false (by omega)
      have hi2 : decide (i < q) = false := decide_eq_false hi
      have HF : Aside0 (ixK b i = (ixs b).take n) := ⟨ixK_take (by rw [HBL.out]; exact hiq) HL.out (by rw [HBL.out, ← HLE.out]; omega)⟩
      have h13 := (Kd.R_reads' HO1.out).2
      have h14 := (Kd.R_reads' HO2.out).2
      rw [ones_length, List.length_map, HF.out] at h13 h14
      have hLf : L = ((ixs b).take n).length := by rw [HLE.out, HF.out]
      have hix : ∀ x ∈ (ixs b).take n, x < q := fun x hx => by rw [← HF.out] at hx; have := ixK_lt b i x hx; omega
      have hv : ∀ (f : Nat → Value) (j : Nat), j < ((ixs b).take n).length → (((ixs b).take n).map f).getD j nilV = f (((ixs b).take n).getD j 0) := fun f j hj => by
        rw [List.getD_eq_getElem?_getD, List.getElem?_map, List.getElem?_eq_getElem hj, List.getD_eq_getElem?_getD, List.getElem?_eq_getElem hj]
        rfl
      have hR1 : RC wr A13 ((ixs b).take n).length c13 (rowsL (selM n (ints ((ixs b).take n))) ((ixs b).take n).length n) := ⟨C_of_raw (rowsL_length _ _ _) h13.2 (fun j hj => by
        have hjx : ((ixs b).take n).getD j 0 < q := by
          rw [List.getD_eq_getElem?_getD, List.getElem?_eq_getElem hj]
          exact hix _ (List.getElem_mem hj)
        have e : (rowsL (selM n (ints ((ixs b).take n))) ((ixs b).take n).length n).getD j [] = rowV (gen n) (((ixs b).take n).getD j 0) n := by
          rw [List.getD_eq_getElem?_getD, rowsL_get hj]
          exact rowV_congr fun c _ => by unfold selM; rw [ints_getD]
        rw [e, hv _ j hj]
        exact (HG.out _ hjx).below HB.out), by rw [← hLf]; have := (Kd.R_reads' HO1.out).2.1; exact this⟩
      have hR2 : RC wr A14 ((ixs b).take n).length c14 (pickL all (ints ((ixs b).take n))) := ⟨C_of_raw (pickL_length _ _) h14.2 (fun j hj => by
        have hjx : ((ixs b).take n).getD j 0 < q := by
          rw [List.getD_eq_getElem?_getD, List.getElem?_eq_getElem hj]
          exact hix _ (List.getElem_mem hj)
        have e : (pickL all (ints ((ixs b).take n))).getD j [] = all.getD (((ixs b).take n).getD j 0) [] := by
          unfold pickL
          have hj2 : j < (ints ((ixs b).take n)).length := by rw [ints_length]; exact hj
          rw [List.getD_eq_getElem?_getD, List.getElem?_map, List.getElem?_eq_getElem hj2, Option.map_some, Option.getD_some]
          have e2 : (ints ((ixs b).take n))[j] = ((((ixs b).take n).getD j 0 : Nat) : Int) := by
            rw [List.getD_eq_getElem?_getD, List.getElem?_eq_getElem hj]
            simp [ints]
          rw [e2]
          unfold rd_L1
          rw [Int.toNat_natCast]
        rw [e, hv _ j hj]
        exact (HRA.out _ hjx).below HB.out), by rw [← hLf]; have := (Kd.R_reads' HO2.out).2.1; exact this⟩
      have HR1 := Aside0.mk hR1
      have HR2 := Aside0.mk hR2
      have HLF := Lib.hid hLf
      clear h13 h14 hLf hix hv hR1 hR2
      go_wp2
      go_ret2
      exact ⟨A13, c13, A14, c14, by rw [HLF.out]; rfl, HR1.out, HR2.out, below_step HB3.out HB.out⟩
end Go.Proofs.Ytmlfpcnemganbaa.Q
