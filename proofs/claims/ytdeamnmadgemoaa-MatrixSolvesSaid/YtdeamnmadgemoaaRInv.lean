/- The reference's Invert. -/
import Derived.Test.YtdeamnmadgemoaaRRank
import Derived.Test.YtdeamnmadgemoaaMInv
namespace Go.Proofs.Ytdeamnmadgemoaa.Q
open Go.RowKit Go.Proofs.YtdeamnmadgemoaaW.PrintWords Go.Proofs.YtdeamnmadgemoaaW.PrintLast Go.Proofs.YtdeamnmadgemoaaW.PrintMore
open Go.Proofs.Ytdeamnmadgemoaa.Gf Go.Proofs.Ytdeamnmadgemoaa.Lin Go.Proofs.Ytdeamnmadgemoaa.Evs
set_option linter.unusedVariables false
set_option linter.unnecessarySimpa false
/-- The first loop: the ones behind the matrix, as far as k. -/
def onesK (n : Nat) (M : Mat) (k : Nat) : Mat := fun i c => if c < n then M i c else if i < k ∧ c = n + i then 1 else 0
theorem onesK_zero (n : Nat) (M : Mat) : onesK n M 0 = padF n M := by
  funext i c
  unfold onesK padF
  by_cases h : c < n
  · rw [if_pos h, if_pos h]
  · rw [if_neg h, if_neg h, if_neg (by omega)]
theorem onesK_step (n : Nat) (M : Mat) (k : Nat) : updM (onesK n M k) k (n + k) 1 = onesK n M (k + 1) := by
  funext i c
  unfold updM onesK
  by_cases h1 : i = k
  · rw [if_pos h1]
    by_cases h2 : c = n + k
    · rw [if_pos h2, if_neg (by omega), if_pos ⟨by omega, by omega⟩]
    · rw [if_neg h2]
      by_cases h3 : c < n
      · rw [if_pos h3, if_pos h3]
      · rw [if_neg h3, if_neg h3, if_neg (by omega), if_neg (by omega)]
  · rw [if_neg h1]
    by_cases h3 : c < n
    · rw [if_pos h3, if_pos h3]
    · rw [if_neg h3, if_neg h3]
      by_cases h4 : i < k ∧ c = n + i
      · rw [if_pos h4, if_pos ⟨by omega, h4.2⟩]
      · rw [if_neg h4, if_neg (by omega)]
theorem onesK_full (n : Nat) (M : Mat) : ∀ i, i < n → ∀ c, c < n + n → onesK n M n i c = augF n M i c := fun i hi c hc => by
  unfold onesK augF dlt
  by_cases h : c < n
  · rw [if_pos h, if_pos h]
  · rw [if_neg h, if_neg h]
    by_cases h2 : c = n + i
    · rw [if_pos ⟨hi, h2⟩, if_pos (by omega)]
    · rw [if_neg (fun h3 => h2 h3.2), if_neg (by omega)]
set_option maxRecDepth 100000 in
set_option maxHeartbeats 4000000 in
theorem rinvert_walk {n : Nat} {M : Mat} (h1 : 1 ≤ n) (h2 : n ≤ 64) (A0 : Option Addr) (c0 : Nat) (w : World) (hC : Kd.C (Kd.slice 5 (Kd.int .u8)) w A0 n (rowsL M n n)) (hc : n ≤ c0) :
    Calls Try.prog 12 #[.slice A0 n c0] w (InvPost n M w) := by
  obtain ⟨ad, A, c, rfl, hx⟩ := first_row h1 A0 w hC
  have HC := Aside0.mk hC
  clear hC
  have hn0 : (0 : Int) < (n : Int) := by omega
  have hn1 : 0 < n := by omega
  go_enter Try.func12, Try.ntmps12
  go_wp2_with (first | (go_at_call 26; refine (rvalid_calls2 h1 h2 h1 h2 _ _ _ HC.out hc).mono ?_; rintro e_ w_ ⟨rfl, nv, rfl⟩) | (go_at_call 29; refine (rcopied_calls h1 h2 h1 h2 h2 _ _ _ (Kd.C_below HC.out (pw_below_drewN (Below.refl _ _) _)) hc).mono ?_; rintro e_ w1 ⟨G, cap, g, cp, rfl, hm, hb⟩; have HM : Aside0 (MatO w1 w.heap.size G cap g cp n (n + n) (onesK n M 0)) := ⟨by rw [onesK_zero]; exact hm⟩; have HB : Aside0 (Below w.heap.size w w1) := ⟨⟨hb.os, hb.tape, hb.output, hb.size, hb.block⟩⟩; clear hm hb))
  go_loopg [6] (n + 1) (fun kq v6 W => ∃ k : Nat, Hid (kq + k = n + 1) ∧ k ≤ n ∧ v6 = .int .i64 (k : Nat) ∧ Aside0 (MatO W w.heap.size G cap g cp n (n + n) (onesK n M k)) ∧ Aside0 (Below w.heap.size w W))
  case atStart => exact ⟨0, Lib.hid (by omega), Nat.zero_le _, rfl, HM, HB⟩
  case round =>
    clear HM HB
    obtain ⟨k, HK, hkn, rfl, HM, HB⟩ := hrel
    by_cases hk : k < n
    · have hk1 : decide ((k : Int) < (n : Int)) = true := decide_eq_true (by omega)
      have hk2 : decide (k < n) = true := decide_eq_true hk
      have hk3 : (k : Int) < (n : Int) := by omega
      have hnk : n + k < n + n := by omega
      have hnk1 : ((n + k : Nat) : Int) < ((n + n : Nat) : Int) := by omega
      have hw : wrap64 ((n : Int) + (k : Int)) = ((n + k : Nat) : Int) := by unfold wrap64; omega
      have HWR := Lib.hid hw
      obtain ⟨e1, e2⟩ := HM.out.outerCell hk
      obtain ⟨e3, e4⟩ := HM.out.elt hk hnk
      clear hw
      go_wp2
      go_roundg (n + 1 - (k + 1))
      case measure => have := HK.out; omega
      case rel =>
        have hm := HM.out.setElt (x := 1) (n + k) hk
        rw [onesK_step] at hm
        exact ⟨k + 1, Lib.hid (by have := HK.out; omega), by omega, by go_num, ⟨hm⟩, ⟨HB.out.setCell (p := ⟨g k, n + k, none⟩) (own_block (HM.out.inner k hk)).1 _⟩⟩
    · have hk1 : decide ((k : Int) < (n : Int)) = false := decide_eq_false (by omega)
      have hk2 : decide (k < n) = false := decide_eq_false hk
      have hkn2 : k = n := by omega
      have HM2 : Aside0 (MatO wr w.heap.size G cap g cp n (n + n) (augF n M)) := ⟨HM.out.agree (by rw [hkn2]; exact onesK_full n M)⟩
      have hrle := (red_spec n n M).1
      clear HM hkn2
      by_cases hr : rankF n n M = n
      · have HR := Lib.hid hr
        have hd1 : decide ((n : Int) < (n : Int)) = false := decide_eq_false (by omega)
        have hd2 : decide (n < n) = false := decide_eq_false (by omega)
        clear hr hrle
        go_wp2_with (first | (go_at_call 30; refine (rreduce_walk (by omega) (by omega) (show n ≤ n + n by omega) (augF n M) _ w.heap.size G cap g cp HM2.out).mono ?_; rintro e_ w4 ⟨he4, g2, cp2, hm2, hb2⟩; rw [rank_aug, HR.out] at he4; subst he4; have HM4 := Aside0.mk hm2; have HB4 : Aside0 (Below w.heap.size w w4) := ⟨HB.out.trans hb2⟩; clear hm2 hb2) | ((with_reducible refine gate_dst (N := 44) rfl ?_); refine Kd.S_lit (Kd.slice 5 (Kd.int .u8)) _ 32 ?hg (N := 44) ?hd (xs := ([] : List (List Int))) (inner := []) (ok := fun _ => True) (okp := fun _ => True) ?hr ?hp (fun _ hk => hk) trivial (Below.refl _ _) (Nat.le_refl _) (by simp) ?_; (case hd => rfl); (case hg => rfl); (case hr => first | (go_simp; done) | (go_simp; rfl)); (case hp => exact (Reps.none _ _)); intro v5 w5 hs5 hb5 hg5 hn5; have HO5 := Aside0.mk hs5; have HB5 := Aside0.mk hb5; clear hs5 hb5 hg5 hn5))
        obtain ⟨i0, hi0, _, hsz0, _⟩ := info_parts info5
        have HM5 : Aside0 (MatO w5 w.heap.size G cap g2 cp2 n (n + n) (formF n n (augF n M))) := ⟨HM4.out.below HB5.out⟩
        have HSM : Aside0 (G < w4.heap.size ∧ ∀ i, i < n → g2 i < w4.heap.size) := ⟨(own_block HM4.out.outer).2.1, fun i hi => (own_block (HM4.out.inner i hi)).2.1⟩
        clear HM4
        go_loopg [7, 8] (n + 1) (fun kq2 v7 v8 W => ∃ k : Nat, Hid (kq2 + k = n + 1) ∧ k ≤ n ∧ v8 = .int .i64 (k : Nat) ∧ Aside0 (Kd.S (Kd.slice 5 (Kd.int .u8)) 32 W w4.heap.size (fun _ => True) v7 (rowsL (invF n M) k n)) ∧ Aside0 (MatO W w.heap.size G cap g2 cp2 n (n + n) (formF n n (augF n M))) ∧ Aside0 (Below w4.heap.size w4 W))
        case atStart => exact ⟨0, Lib.hid (by omega), Nat.zero_le _, rfl, HO5, HM5, HB5⟩
        case round =>
          clear HO5 HM5 HB5
          obtain ⟨k, HK, hkn, rfl, HO, HM, HB5⟩ := hrel
          by_cases hk : k < n
          · have hk1 : decide ((k : Int) < (n : Int)) = true := decide_eq_true (by omega)
            have hk2 : decide (k < n) = true := decide_eq_true hk
            have hk3 : (k : Int) < (n : Int) := by omega
            obtain ⟨e1, e2⟩ := HM.out.outerCell hk
            have hcp := (own_cap (HM.out.inner k hk)).1
            have hcut := cut_from (P := Try.prog) 32 5 .i64 Try.underlying32 hi0 1 hsz0 (some ⟨g2 k, 0, none⟩) (n + n) (cp2 k) (n : Int) (by omega) (by omega)
            rw [Int.toNat_natCast, if_neg (by omega), Option.map_some, Nat.mul_one, add_plain, Nat.add_sub_cancel] at hcut
            have HRW : Aside0 (Kd.C (Kd.int .u8) wr (some ⟨g2 k, n, none⟩) n (rowV (invF n M) k n)) := ⟨by
              have h := HM.out.row hk
              have h5 := Kd.C_drop (m := n) h.1 (by rw [rowV_length]; omega) h.2
              rw [if_neg (by omega), Option.map_some, show n * (Kd.int .u8).sz = n from Nat.mul_one n, add_plain, inv_row, rowV_length] at h5
              exact h5⟩
            have hsz := HB5.out.size
            have HRL := Lib.hid (rowV_length (invF n M) k n)
            have HLL := Lib.hid (rowsL_length (invF n M) k n)
            clear hcp
            go_wp2_with (first
              | ((with_reducible refine gate_dst (N := 51) rfl ?_); refine Kd.R_lit (Kd.int .u8) _ 5 ?hg (N := 51) ?hd (xs := ([] : List Int)) (inner := []) (ok := fun _ => True) (okp := fun _ => True) ?hr ?hp (fun _ hk => hk) trivial (Below.refl _ _) (Nat.le_refl _) (by simp) ?_; (case hd => rfl); (case hg => rfl); (case hr => first | (go_simp; done) | (go_simp; rfl)); (case hp => exact (Reps.none _ _)); intro v6 w6 ho6 hb6 hg6 hn6; have HO7 := Aside0.mk (Kd.S_elder' HO.out (Kd.R_base ho6) hb6); have HB6 : Aside0 (Below w4.heap.size w4 w6) := ⟨HB5.out.trans (hb6.mono hsz)⟩; have HV6 := Aside0.mk (Kd.R_lower ho6 hsz); have HN6 : Aside0 (∀ x, v6.ownBlock = some x → wr.heap.size ≤ x) := ⟨fun x hx => Kd.R_base ho6 x hx⟩; have f1 := pw_cell_below hb6 e1; have HM6 := Aside0.mk (HM.out.below hb6); have HR6 := Aside0.mk (Kd.C_below HRW.out hb6); have hs6 := hb6.size; clear ho6 hb6 hg6 hn6)
              | ((with_reducible refine gate_builtin (b := .append) (xs := #[.tmp 51, .tmp 57]) rfl ?_); at_builtin; refine Kd.R_append_rows (Kd.int .u8) (w0 := w4) w4.heap.size rfl (.tmp 51) (.tmp 57) 32 5 (.int .u8 0) 1 rfl Try.underlying32 info5 rfl (by decide) (by omega) v6 [] (rowV (invF n M) k n) _ _ _ (fun _ => True) (fun _ => False) rfl rfl ?aO ?aR (fun _ _ h => h) (fun _ h => h.elim) ?aF ?aB ?aS ?aL ?_; (case aR => exact HR6.out); (case aB => exact HB6.out); (case aF => exact (fun _ _ => trivial)); (case aO => exact HV6.out); (case aS => exact HB6.out.size); (case aL => have := HRL.out; simp; omega); intro v7 w7 ho7 hb7 hg7 hat7; rw [List.nil_append] at ho7; have HO8 := Aside0.mk (Kd.S_after (ok := (fun _ => True)) HO7.out hg7 hat7); have HB7 := Aside0.mk hb7; have HM7 : Aside0 (MatO w7 w.heap.size G cap g2 cp2 n (n + n) (formF n n (augF n M))) := ⟨HM6.out.step (hg7.block G (by have := HSM.out.1; omega) (fun e => by { have := HN6.out G e.symm; have := HSM.out.1; omega })) (fun i hi => hg7.block (g2 i) (by have := HSM.out.2 i hi; omega) (fun e => by { have := HN6.out (g2 i) e.symm; have := HSM.out.2 i hi; omega }))⟩; obtain ⟨Ao, co, eo⟩ := Kd.R_slice ho7; subst eo; have HV7 := Aside0.mk ho7; clear ho7 hb7 hg7 hat7)
              | ((with_reducible refine gate_builtin (b := .append) (xs := #[.tmp 50, .tmp 59]) rfl ?_); at_builtin; refine Kd.S_append (Kd.slice 5 (Kd.int .u8)) (w0 := w4) w4.heap.size rfl (.tmp 50) (.tmp 59) 22 32 (.slice none 0 0) 24 rfl Try.underlying22 info32 rfl (by decide) (by omega) u7 (rowsL (invF n M) k n) (rowV (invF n M) k n) [.slice Ao (rowV (invF n M) k n).length co] (fun _ => True) (fun k_ => some k_ = (.slice Ao (rowV (invF n M) k n).length co : Value).ownBlock) rfl rfl ?aP (fun k_ hk_ => ((Kd.R_mono (ok' := fun k_ => ((fun _ => True)) k_ ∧ some k_ ≠ (u7 : Value).ownBlock) (Kd.R_apart' (HV7.out) (Kd.S_typed HO8.out) (by decide)) (fun k_ hk => ⟨trivial, hk.2⟩))).1 k_ hk_.symm) ?aF ?aO ?aB ?aS ?aL ?_; (case aP => exact Kd.M_row (Kd.R_mono (Kd.R_tight rfl (Kd.R_mono (ok' := fun k_ => ((fun _ => True)) k_ ∧ some k_ ≠ (u7 : Value).ownBlock) (Kd.R_apart' (HV7.out) (Kd.S_typed HO8.out) (by decide)) (fun k_ hk => ⟨trivial, hk.2⟩))) (fun _ h_ => h_))); (case aB => exact HB7.out); (case aF => exact (fun _ _ => trivial)); (case aO => exact Kd.S_mono HO8.out (fun k_ hk => ⟨trivial, fun e_ => hk.2 e_⟩)); (case aS => exact HB7.out.size); (case aL => have := HLL.out; omega); intro v9 w9 ho9 hb9 hg9 hat9; have HM9 : Aside0 (MatO w9 w.heap.size G cap g2 cp2 n (n + n) (formF n n (augF n M))) := ⟨HM7.out.step (hg9.block G (by have := HSM.out.1; have := HB7.out.size; omega) (fun e => by { have := Kd.S_base HO8.out G e.symm; have := HSM.out.1; omega })) (fun i hi => hg9.block (g2 i) (by have := HSM.out.2 i hi; have := HB7.out.size; omega) (fun e => by { have := Kd.S_base HO8.out (g2 i) e.symm; have := HSM.out.2 i hi; omega }))⟩; have HB9 := Aside0.mk hb9; rw [snoc_] at ho9; have HO9 := Aside0.mk ho9; clear ho9 hb9 hg9 hat9))
            go_roundg (n + 1 - (k + 1))
            case measure => have := HK.out; omega
            case rel => exact ⟨k + 1, Lib.hid (by have := HK.out; omega), by omega, by go_num, HO9, HM9, HB9⟩
          · have hk1 : decide ((k : Int) < (n : Int)) = false := decide_eq_false (by omega)
            have hk2 : decide (k < n) = false := decide_eq_false hk
            have hkn2 : k = n := by omega
            subst hkn2
            go_wp2
            go_ret2
            exact ⟨by rw [if_pos HR.out]; exact ⟨_, rfl, Kd.S_lower HO.out HB4.out.size⟩, HB4.out.trans (HB5.out.mono HB4.out.size)⟩
      · have hd1 : decide (((rankF n n M : Nat) : Int) < (n : Int)) = true := decide_eq_true (by omega)
        have hd2 : decide (rankF n n M < n) = true := decide_eq_true (by omega)
        have HR := Lib.hid hr
        clear hr hrle
        go_wp2_with (first | (go_at_call 30; refine (rreduce_walk (by omega) (by omega) (show n ≤ n + n by omega) (augF n M) _ w.heap.size G cap g cp HM2.out).mono ?_; rintro e_ w4 ⟨he4, g2, cp2, hm2, hb2⟩; rw [rank_aug] at he4; subst he4; have HB4 : Aside0 (Below w.heap.size w w4) := ⟨HB.out.trans hb2⟩; clear hm2 hb2))
        go_ret2
        exact ⟨by rw [if_neg HR.out]; rfl, HB4.out⟩
set_option maxRecDepth 100000 in
set_option maxHeartbeats 4000000 in
theorem rinvert_bad {l : List (List Int)} (hv : ¬ isV l) (A0 : Option Addr) (c0 : Nat) (w : World) (hC : Kd.C (Kd.slice 5 (Kd.int .u8)) w A0 l.length l) (hc : l.length ≤ c0) :
    Calls Try.prog 12 #[.slice A0 l.length c0] w fun e w' => e = .returned (.tuple #[.slice none 0 0, .bool false]) ∧ Below w.heap.size w w' := by
  have HV := rvalid_calls A0 c0 l w hC hc
  rw [decide_eq_false hv] at HV
  have HVA := Aside0.mk HV
  clear hC HV hv
  go_enter Try.func12, Try.ntmps12
  go_wp2_with (first | (go_at_call 26; refine HVA.out.mono ?_; rintro e_ w_ ⟨rfl, nv, rfl⟩))
  go_ret2
  exact ⟨rfl, pw_below_drewN (Below.refl _ _) _⟩
set_option maxRecDepth 100000 in
set_option maxHeartbeats 4000000 in
theorem rinvert_rect {N C : Nat} {M : Mat} (h1 : 1 ≤ N) (h2 : N ≤ 64) (h3 : 1 ≤ C) (h4 : C ≤ 64) (hne : N ≠ C) (A0 : Option Addr) (c0 : Nat) (w : World) (hC : Kd.C (Kd.slice 5 (Kd.int .u8)) w A0 N (rowsL M N C)) (hc : N ≤ c0) :
    Calls Try.prog 12 #[.slice A0 N c0] w fun e w' => e = .returned (.tuple #[.slice none 0 0, .bool false]) ∧ Below w.heap.size w w' := by
  obtain ⟨ad, A, c, rfl, hx⟩ := first_row h1 A0 w hC
  have HC := Aside0.mk hC
  clear hC
  have hn0 : (0 : Int) < (N : Int) := by omega
  have hn1 : 0 < N := by omega
  have hx1 : ((N : Int) == (C : Int)) = false := beq_eq_false_iff_ne.2 (by omega)
  have hx2 : ((N : Int) != (C : Int)) = true := bne_iff_ne.2 (by omega)
  have hx3 : (N == C) = false := beq_eq_false_iff_ne.2 hne
  have hx4 : (N != C) = true := bne_iff_ne.2 hne
  clear hne
  go_enter Try.func12, Try.ntmps12
  go_wp2_with (first | (go_at_call 26; refine (rvalid_calls2 h1 h2 h3 h4 _ _ _ HC.out hc).mono ?_; rintro e_ w_ ⟨rfl, nv, rfl⟩))
  go_ret2
  exact ⟨rfl, pw_below_drewN (Below.refl _ _) _⟩
def tapearchiveref05_Invert.f (l : List (List Int)) : Option (List (List Int) × Bool) := if AllB l then some (invR l) else none
theorem tapearchiveref05_Invert.calls (A0 : Option Addr) (c0 : Nat) (l0 : List (List Int)) (r1 : List (List Int)) (r2 : Bool) (w : World) (hr0 : Kd.C (Kd.slice 5 (Kd.int .u8)) w A0 l0.length l0) (hc0 : l0.length ≤ c0) (h : tapearchiveref05_Invert.f l0 = some (r1, r2)) :
    Calls Try.prog 12 #[.slice A0 l0.length c0] w fun e w' => ∃ v0_ : Value, e = .returned (.tuple #[v0_, .bool r2]) ∧ Kd.S (Kd.slice 5 (Kd.int .u8)) 32 w' w.heap.size (fun _ => True) v0_ r1 ∧ Below w.heap.size w w' := by
  unfold tapearchiveref05_Invert.f at h
  by_cases hb : AllB l0
  · rw [if_pos hb] at h
    have h := Option.some.inj h
    unfold invR at h
    by_cases hv : isV l0
    · by_cases hsq : l0.length = wid l0
      · have hW := rinvert_walk (n := l0.length) (M := toM l0) hv.1.1 hv.1.2 A0 c0 w (by rw [← toM_rows hb (fun r hr => by rw [hv.2.2 r hr, hsq])]; exact hr0) hc0
        by_cases hr : rankF l0.length l0.length (toM l0) = l0.length
        · rw [if_pos ⟨hv, hsq, hr⟩] at h
          obtain ⟨rfl, rfl⟩ := Prod.mk.inj h
          refine hW.mono fun e w' ⟨hp, hbel⟩ => ?_
          rw [if_pos hr] at hp
          obtain ⟨v, he, hS⟩ := hp
          exact ⟨v, he, hS, hbel⟩
        · rw [if_neg (fun hh => hr hh.2.2)] at h
          obtain ⟨rfl, rfl⟩ := Prod.mk.inj h
          refine hW.mono fun e w' ⟨hp, hbel⟩ => ?_
          rw [if_neg hr] at hp
          exact ⟨_, hp, Kd.S_nil _ _ _ _ _, hbel⟩
      · rw [if_neg (fun hh => hsq hh.2.1)] at h
        obtain ⟨rfl, rfl⟩ := Prod.mk.inj h
        refine (rinvert_rect (M := toM l0) hv.1.1 hv.1.2 hv.2.1.1 hv.2.1.2 hsq A0 c0 w (by rw [← toM_rows hb hv.2.2]; exact hr0) hc0).mono fun e w' ⟨he, hbel⟩ => ⟨_, he, Kd.S_nil _ _ _ _ _, hbel⟩
    · rw [if_neg (fun hh => hv hh.1)] at h
      obtain ⟨rfl, rfl⟩ := Prod.mk.inj h
      exact (rinvert_bad hv A0 c0 w hr0 hc0).mono fun e w' ⟨he, hbel⟩ => ⟨_, he, Kd.S_nil _ _ _ _ _, hbel⟩
  · rw [if_neg hb] at h
    exact absurd h (by simp)
end Go.Proofs.Ytdeamnmadgemoaa.Q
