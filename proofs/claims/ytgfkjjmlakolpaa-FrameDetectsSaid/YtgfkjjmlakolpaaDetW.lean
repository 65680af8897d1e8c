/- FrameDetects: the walk. -/
import Derived.Test.YtgfkjjmlakolpaaFDet
namespace Go.Proofs.Ytgfkjjmlakolpaa.Q
open Go.RowKit Go.Proofs.YtgfkjjmlakolpaaW.PrintWords Go.Proofs.YtgfkjjmlakolpaaW.PrintLast Go.Proofs.YtgfkjjmlakolpaaW.PrintMore
open Go.Proofs.Ytgfkjjmlakolpaa.Cr Go.Proofs.Ytgfkjjmlakolpaa.Evs Go.Proofs.Ytgfkjjmlakolpaa.Pure
set_option linter.unusedVariables false
set_option maxRecDepth 100000 in
set_option maxHeartbeats 2000000 in
theorem det_walk (A0 : Option Addr) (c0 : Nat) (p : List Nat) (hp : ∀ x ∈ p, x < 256) (a1 : Int) (d : Nat) (hd : d < 256) (w : World) (hr0 : Kd.C (Kd.int .u8) w A0 (ints p).length (ints p)) (hc0 : (ints p).length ≤ c0) :
    Calls Try.prog 5 #[.slice A0 (ints p).length c0, .int .i64 a1, .int .u8 d] w fun e w' => e = .returned (.bool true) ∧ Below w.heap.size w w' := by
  have hlen := ints_length p
  obtain ⟨i0, hi0, _, hsz, _⟩ := info_parts info5
  obtain ⟨q, hq⟩ : ∃ q, q = p.take 60 := ⟨_, rfl⟩
  have hqb : ∀ x ∈ q, x < 256 := fun x hx => hp x (List.mem_of_mem_take (hq ▸ hx))
  have hql : q.length ≤ 60 := by rw [hq, List.length_take]; omega
  have hqL := ints_length q
  have HRq : Aside0 (Kd.C (Kd.int .u8) w A0 (ints q).length (ints q)) := Aside0.mk (by
    have h := Kd.C_take hr0 (m := (ints q).length) (by rw [hqL, hq, List.length_take, hlen]; omega)
    have e : (ints p).take (ints q).length = ints q := by
      rw [hqL, hq, ints_take, List.length_take]
      congr 1
      rcases Nat.lt_or_ge 60 p.length with h | h
      · rw [Nat.min_eq_left (by omega)]
      · rw [Nat.min_eq_right h, List.take_of_length_le h, List.take_of_length_le (Nat.le_refl _)]
    rwa [e] at h)
  have hcq : (ints q).length ≤ c0 := by rw [hqL, hq, List.length_take]; omega
  have HA := Lib.hid (app_ev (l := []) hqb (by simp) (by omega))
  obtain ⟨L, hL⟩ : ∃ L, L = (ints q).length := ⟨_, rfl⟩
  obtain ⟨b, hb⟩ : ∃ b, b = frm q := ⟨_, rfl⟩
  have hbl : (ints b).length = L + 10 := by rw [ints_length, hb, frm_shape, hL, hqL]; simp [four] <;> omega
  have hbb : ∀ x ∈ b, x < 256 := by
    rw [hb, frm_shape]
    intro x hx
    simp only [List.mem_append] at hx
    rcases hx with ((h | h) | h) | h
    · simp at h; rcases h with rfl | rfl <;> omega
    · exact four_lt _ x h
    · exact four_lt _ x h
    · exact hqb x h
  rw [List.nil_append, ← hb] at HA
  obtain ⟨M, hM⟩ : ∃ M, M = (ints b).length := ⟨_, rfl⟩
  have hLq : L ≤ 60 := by omega
  have hLqq : q.length = L := by omega
  have hql' := hql
  have hML : M = L + 10 := hM.trans hbl
  have hw1 : IntKind.i64.wrap ((L : Int) + 10) = (M : Int) := by rw [i64_w, wrap64]; omega
  have HW1 := Lib.hid hw1
  clear hw1
  have HAC : Hid (∀ W : World, Below w.heap.size w W → Calls Try.prog 10 #[.slice none 0 0, .slice A0 L c0] W fun e w' => ∃ v0_ : Value, e = .returned (.tuple #[v0_, .int .i64 0]) ∧ Kd.R (Kd.int .u8) 5 w' W.heap.size (fun _ => True) v0_ (ints b) ∧ Below W.heap.size W w') := Lib.hid (fun W hW => by
    have := frame_Append.calls none 0 [] A0 c0 (ints q) (ints b) 0 W (Kd.C_nil _ _) (Nat.le_refl _) (Kd.C_below HRq.out hW) hcq HA.out
    rw [← hL] at this
    exact this)
  have HMb := Lib.hid hM
  have start : ∃ f : Bool, decide ((60 : Int) < ((ints p).length : Int)) = f ∧ decide (60 < (ints p).length) = f ∧ (f = false → (ints p).length = L) ∧ (f = true → ∀ W : World, (Instr.slice 22 (.slice A0 (ints p).length c0) none (some (.int .i64 60)) none).run Try.prog W = .ok (.slice A0 L c0) W) := by
    by_cases h : 60 < (ints p).length
    · refine ⟨true, decide_eq_true (by omega), decide_eq_true h, fun h => by simp at h, fun _ => ?_⟩
      have := cut_to (P := Try.prog) 22 5 .i64 Try.underlying22 hi0 A0 (ints p).length c0 60 (by omega) (by omega) hc0
      rw [show (60 : Int).toNat = L by rw [hL, hqL, hq, List.length_take, Nat.min_eq_left (by omega)]; rfl] at this
      exact this
    · refine ⟨false, decide_eq_false (by omega), decide_eq_false h, fun _ => ?_, fun h => by simp at h⟩
      rw [hL, hqL, hq, List.length_take, hlen, Nat.min_eq_right (by omega)]
  obtain ⟨f, f1, f2, f3, f4⟩ := start
  obtain ⟨P0, hP0⟩ : ∃ n, n = (ints p).length := ⟨_, rfl⟩
  rw [← hP0] at f1 f2 f3 f4 ⊢
  clear hP0 hr0 hc0 hlen hq hql hqL hcq hL hM hbl
  have HML := Lib.hid hML
  have HLq := Lib.hid hLq
  have HLp := Lib.hid (show q.length = L ∧ q.length ≤ 60 from ⟨hLqq, hql'⟩)
  clear hML hLq
  have HB0 := Aside0.mk (Below.refl w.heap.size w)
  cases f
  · have e := f3 rfl
    subst e
    clear f3 f4
    have hw1 := HW1.out
    by_cases x1 : a1 < 6
    · have x1b : decide (a1 < 6) = true := decide_eq_true x1
      clear x1
      go_enter Try.func5, Try.ntmps5
      go_wp2_with (first | (go_at_call 10; (with_reducible refine (HAC.out _ HB0.out).mono ?_); rintro e1 w1 ⟨v0, rfl, ho1, HB1⟩; obtain ⟨g, cap, rfl, hg1, hg2, hg3⟩ := Kd.R_form ho1 (by rw [← HMb.out, HML.out]; omega); rw [← HMb.out] at ho1 ⊢; have HO1 := Aside0.mk ho1; have HB := Aside0.mk (below_step HB0.out HB1); clear ho1 HB1) | (go_at_call 14; (refine (tapearchivelaw03_awake.calls true _ rfl).mono ?_); rintro e2 w2 ⟨rfl, HB2⟩; have HBf := Aside0.mk (below_step HB.out HB2); clear HB2))
      go_ret
      exact ⟨rfl, HBf.out⟩
    have x1b : decide (a1 < 6) = false := decide_eq_false x1
    by_cases x2 : (M : Int) ≤ a1
    · have x2b : decide ((M : Int) ≤ a1) = true := decide_eq_true x2
      clear x1 x2
      go_enter Try.func5, Try.ntmps5
      go_wp2_with (first | (go_at_call 10; (with_reducible refine (HAC.out _ HB0.out).mono ?_); rintro e1 w1 ⟨v0, rfl, ho1, HB1⟩; obtain ⟨g, cap, rfl, hg1, hg2, hg3⟩ := Kd.R_form ho1 (by rw [← HMb.out, HML.out]; omega); rw [← HMb.out] at ho1 ⊢; have HO1 := Aside0.mk ho1; have HB := Aside0.mk (below_step HB0.out HB1); clear ho1 HB1) | (go_at_call 14; (refine (tapearchivelaw03_awake.calls true _ rfl).mono ?_); rintro e2 w2 ⟨rfl, HB2⟩; have HBf := Aside0.mk (below_step HB.out HB2); clear HB2))
      go_ret
      exact ⟨rfl, HBf.out⟩
    have x2b : decide ((M : Int) ≤ a1) = false := decide_eq_false x2
    by_cases x3 : d = 0
    · have x3b : ((d : Int) == 0) = true := beq_iff_eq.2 (by omega)
      clear x1 x2 x3
      go_enter Try.func5, Try.ntmps5
      go_wp2_with (first | (go_at_call 10; (with_reducible refine (HAC.out _ HB0.out).mono ?_); rintro e1 w1 ⟨v0, rfl, ho1, HB1⟩; obtain ⟨g, cap, rfl, hg1, hg2, hg3⟩ := Kd.R_form ho1 (by rw [← HMb.out, HML.out]; omega); rw [← HMb.out] at ho1 ⊢; have HO1 := Aside0.mk ho1; have HB := Aside0.mk (below_step HB0.out HB1); clear ho1 HB1) | (go_at_call 14; (refine (tapearchivelaw03_awake.calls true _ rfl).mono ?_); rintro e2 w2 ⟨rfl, HB2⟩; have HBf := Aside0.mk (below_step HB.out HB2); clear HB2))
      go_ret
      exact ⟨rfl, HBf.out⟩
    · have x3b : ((d : Int) == 0) = false := beq_eq_false_iff_ne.2 (by omega)
      obtain ⟨a, rfl⟩ := Int.eq_ofNat_of_zero_le (show 0 ≤ a1 by omega)
      have HAM : Hid (6 ≤ a ∧ a < M) := Lib.hid (by omega)
      obtain ⟨y, hy⟩ : ∃ y, y = b.getD a 0 := ⟨_, rfl⟩
      have hyb : y < 256 := hy ▸ getD_lt hbb a
      have HRD : Hid (rdOf (0 : Int) (ints b) (a : Int) = (y : Int)) := Lib.hid (by
        have h := ints_rd b a
        rw [← hy] at h
        exact h)
      obtain ⟨z, hz⟩ : ∃ z, z = y ^^^ d := ⟨_, rfl⟩
      have ex : Go.bits .xor .u8 (y : Int) (d : Int) = (z : Int) := by rw [hz]; exact xor_u8 hyb hd
      have hset : (ints b).set a (z : Int) = ints (b.set a z) := by unfold ints; rw [List.map_set]
      have hsb : ∀ x ∈ b.set a z, x < 256 := fun x hx => by
        rcases List.mem_or_eq_of_mem_set hx with h | h
        · exact hbb x h
        · rw [h, hz]; exact xor_lt256 hyb hd
      have HN : Hid (frame_Next.f (ints (b.set a z)) 0 = some ([], 0, 4)) := Lib.hid (by
        rw [Next_ev hsb (by rw [List.length_set]; have := ints_length b; have := HMb.out; have := HML.out; have := HLq.out; omega), hz, hy, hb]
        rw [det_ev hqb (by have := HLp.out; omega) HAM.out.1 (by have := HAM.out.2; have := HML.out; have := HLp.out; omega) hd x3]
        rfl)
      have HNC : Hid (∀ (g cap : Nat) (W : World), Kd.C (Kd.int .u8) W (some ⟨g, 0, none⟩) M (ints (b.set a z)) → M ≤ cap → Calls Try.prog 15 #[.slice (some ⟨g, 0, none⟩) M cap, .int .i64 0] W fun e w' => (∃ v0_ : Value, e = .returned (.tuple #[v0_, .int .i64 0, .int .i64 4])) ∧ Below W.heap.size W w') := Lib.hid (fun g cap W hC hc => by
        have hl : (ints (b.set a z)).length = M := by rw [← hset, List.length_set, ← HMb.out]
        have := frame_Next.calls (some ⟨g, 0, none⟩) cap (ints (b.set a z)) 0 [] 0 4 W (by rw [hl]; exact hC) (by rw [hl]; exact hc) HN.out
        rw [hl] at this
        exact this.mono fun e w' ⟨v, h1, _, h3⟩ => ⟨⟨v, h1⟩, h3⟩)
      obtain ⟨y0, hy0⟩ : ∃ y : List Int, y = [] := ⟨_, rfl⟩
      obtain ⟨y1, hy1⟩ : ∃ l : List Int, l = y0 ++ ints b := ⟨_, rfl⟩
      have E1 : Hid (y1 = ints b) := Lib.hid (by rw [hy1, hy0]; rfl)
      have N0 := Aside0.mk hy0
      have N1 := Aside0.mk hy1
      have HSET := Lib.hid hset
      have i1 : (0 : Int) ≤ (a : Int) := by omega
      have i2 : (a : Int) < (M : Int) := by omega
      have i3 : a < M := by omega
      clear x1 x2 x3 hy hyb hz hset hsb hy0 hy1 hbb hb hqb hp hd
      go_enter Try.func5, Try.ntmps5
      go_wp2_with (first | (go_at_call 10; (with_reducible refine (HAC.out _ HB0.out).mono ?_); rintro e1 w1 ⟨v0, rfl, ho1, HB1⟩; obtain ⟨g, cap, rfl, hg1, hg2, hg3⟩ := Kd.R_form ho1 (by rw [← HMb.out, HML.out]; omega); rw [← HMb.out] at ho1 ⊢; have HO1 := Aside0.mk ho1; have HB := Aside0.mk (below_step HB0.out HB1); clear ho1 HB1) | ((with_reducible refine gate_dst (N := 46) rfl ?_); (try (refine gate_guard (by rfl) ?_; dsimp only)); refine Kd.R_lit (Kd.int .u8) _ 5 ?hg (N := 46) ?hd (xs := ([] : List Int)) (inner := []) (ok := fun _ => True) (okp := fun _ => True) ?hr ?hp (fun _ hk => hk) trivial (Below.refl _ _) (Nat.le_refl _) (by simp) ?_; (case hd => rfl); (case hg => rfl); (case hr => first | (go_simp; done) | (go_simp; rfl)); (case hp => exact (Reps.none _ _)); intro v2 w2 ho2 hb2 hg_ hnew_; clear hg_ hnew_; rw [← N0.out] at ho2; have HO2 := Aside0.mk (Kd.R_lower ho2 (below_size HB.out)); have HC2 := Aside0.mk (Kd.C_below (Kd.R_reads' HO1.out).2.2 hb2); have HBb := Aside0.mk (below_step HB.out hb2); clear hb2 ho2) | ((with_reducible refine gate_builtin (b := .append) (xs := #[.tmp 46, .tmp 47]) rfl ?_); (try (refine gate_guard (by rfl) ?_; dsimp only)); at_builtin; refine Kd.R_append_rows (Kd.int .u8) (w0 := w) w.heap.size rfl (.tmp 46) (.tmp 47) 22 5 (.int .u8 0) 1 rfl Try.underlying22 info5 rfl (by decide) (by omega) v2 y0 (ints b) _ M _ (fun _ => True) (fun _ => False) rfl rfl ?aO ?aR (fun _ _ h => h) (fun _ h => h.elim) ?aF ?aB ?aS ?aL ?_; (case aR => rw [HMb.out]; exact HC2.out); (case aB => exact HBb.out); (case aF => exact (fun _ _ => trivial)); (case aO => exact HO2.out); (case aS => exact below_size HBb.out); (case aL => have := HML.out; have := HLq.out; rw [N0.out, List.length_nil]; omega); intro v3 w3 ho3 hb3 hg hat; clear hg hat; rw [← N1.out, E1.out] at ho3; obtain ⟨g3, cap3, rfl, hb3g, _, _⟩ := Kd.R_form ho3 (by rw [← HMb.out, HML.out]; omega); have hce := Kd.R_cell (0 : Int) ho3 (a : Int) (by omega) (by rw [← HMb.out]; have := HAM.out; omega); obtain ⟨k1, k2⟩ := hce; rw [HRD.out, Int.toNat_natCast] at k1; rw [Int.toNat_natCast] at k2; have HP3 := Aside0.mk (Kd.R_put ho3 (a : Int) (z : Int)).1; rw [Int.toNat_natCast, HSET.out] at HP3; rw [← HMb.out] at HP3 ⊢; have HB3 := Aside0.mk (hb3.setCell (p := ⟨g3, a, none⟩) hb3g (.int .u8 (z : Int))); clear ho3 hb3) | (go_at_call 15; (with_reducible refine (HNC.out g3 cap3 _ ?nx1 ?nx2).mono ?_); (case nx1 => have h_ := (Kd.R_reads' HP3.out).2.2; rw [← (Kd.R_reads' HP3.out).1] at h_; exact h_); (case nx2 => exact (Kd.R_reads' HP3.out).2.1); rintro e4 w4 ⟨⟨v4, rfl⟩, HB4⟩; have HB5 := Aside0.mk (below_step HB3.out HB4); clear HB4) | (go_at_call 14; (refine (tapearchivelaw03_awake.calls true _ rfl).mono ?_); rintro e5 w5 ⟨rfl, HB6⟩; have HBf := Aside0.mk (below_step HB5.out HB6); clear HB6))
      go_ret
      exact ⟨rfl, HBf.out⟩
  · have hcut := f4 rfl
    clear f3 f4
    have hw1 := HW1.out
    by_cases x1 : a1 < 6
    · have x1b : decide (a1 < 6) = true := decide_eq_true x1
      clear x1
      go_enter Try.func5, Try.ntmps5
      go_wp2_with (first | (go_at_call 10; (with_reducible refine (HAC.out _ HB0.out).mono ?_); rintro e1 w1 ⟨v0, rfl, ho1, HB1⟩; obtain ⟨g, cap, rfl, hg1, hg2, hg3⟩ := Kd.R_form ho1 (by rw [← HMb.out, HML.out]; omega); rw [← HMb.out] at ho1 ⊢; have HO1 := Aside0.mk ho1; have HB := Aside0.mk (below_step HB0.out HB1); clear ho1 HB1) | (go_at_call 14; (refine (tapearchivelaw03_awake.calls true _ rfl).mono ?_); rintro e2 w2 ⟨rfl, HB2⟩; have HBf := Aside0.mk (below_step HB.out HB2); clear HB2))
      go_ret
      exact ⟨rfl, HBf.out⟩
    have x1b : decide (a1 < 6) = false := decide_eq_false x1
    by_cases x2 : (M : Int) ≤ a1
    · have x2b : decide ((M : Int) ≤ a1) = true := decide_eq_true x2
      clear x1 x2
      go_enter Try.func5, Try.ntmps5
      go_wp2_with (first | (go_at_call 10; (with_reducible refine (HAC.out _ HB0.out).mono ?_); rintro e1 w1 ⟨v0, rfl, ho1, HB1⟩; obtain ⟨g, cap, rfl, hg1, hg2, hg3⟩ := Kd.R_form ho1 (by rw [← HMb.out, HML.out]; omega); rw [← HMb.out] at ho1 ⊢; have HO1 := Aside0.mk ho1; have HB := Aside0.mk (below_step HB0.out HB1); clear ho1 HB1) | (go_at_call 14; (refine (tapearchivelaw03_awake.calls true _ rfl).mono ?_); rintro e2 w2 ⟨rfl, HB2⟩; have HBf := Aside0.mk (below_step HB.out HB2); clear HB2))
      go_ret
      exact ⟨rfl, HBf.out⟩
    have x2b : decide ((M : Int) ≤ a1) = false := decide_eq_false x2
    by_cases x3 : d = 0
    · have x3b : ((d : Int) == 0) = true := beq_iff_eq.2 (by omega)
      clear x1 x2 x3
      go_enter Try.func5, Try.ntmps5
      go_wp2_with (first | (go_at_call 10; (with_reducible refine (HAC.out _ HB0.out).mono ?_); rintro e1 w1 ⟨v0, rfl, ho1, HB1⟩; obtain ⟨g, cap, rfl, hg1, hg2, hg3⟩ := Kd.R_form ho1 (by rw [← HMb.out, HML.out]; omega); rw [← HMb.out] at ho1 ⊢; have HO1 := Aside0.mk ho1; have HB := Aside0.mk (below_step HB0.out HB1); clear ho1 HB1) | (go_at_call 14; (refine (tapearchivelaw03_awake.calls true _ rfl).mono ?_); rintro e2 w2 ⟨rfl, HB2⟩; have HBf := Aside0.mk (below_step HB.out HB2); clear HB2))
      go_ret
      exact ⟨rfl, HBf.out⟩
    · have x3b : ((d : Int) == 0) = false := beq_eq_false_iff_ne.2 (by omega)
      obtain ⟨a, rfl⟩ := Int.eq_ofNat_of_zero_le (show 0 ≤ a1 by omega)
      have HAM : Hid (6 ≤ a ∧ a < M) := Lib.hid (by omega)
      obtain ⟨y, hy⟩ : ∃ y, y = b.getD a 0 := ⟨_, rfl⟩
      have hyb : y < 256 := hy ▸ getD_lt hbb a
      have HRD : Hid (rdOf (0 : Int) (ints b) (a : Int) = (y : Int)) := Lib.hid (by
        have h := ints_rd b a
        rw [← hy] at h
        exact h)
      obtain ⟨z, hz⟩ : ∃ z, z = y ^^^ d := ⟨_, rfl⟩
      have ex : Go.bits .xor .u8 (y : Int) (d : Int) = (z : Int) := by rw [hz]; exact xor_u8 hyb hd
      have hset : (ints b).set a (z : Int) = ints (b.set a z) := by unfold ints; rw [List.map_set]
      have hsb : ∀ x ∈ b.set a z, x < 256 := fun x hx => by
        rcases List.mem_or_eq_of_mem_set hx with h | h
        · exact hbb x h
        · rw [h, hz]; exact xor_lt256 hyb hd
      have HN : Hid (frame_Next.f (ints (b.set a z)) 0 = some ([], 0, 4)) := Lib.hid (by
        rw [Next_ev hsb (by rw [List.length_set]; have := ints_length b; have := HMb.out; have := HML.out; have := HLq.out; omega), hz, hy, hb]
        rw [det_ev hqb (by have := HLp.out; omega) HAM.out.1 (by have := HAM.out.2; have := HML.out; have := HLp.out; omega) hd x3]
        rfl)
      have HNC : Hid (∀ (g cap : Nat) (W : World), Kd.C (Kd.int .u8) W (some ⟨g, 0, none⟩) M (ints (b.set a z)) → M ≤ cap → Calls Try.prog 15 #[.slice (some ⟨g, 0, none⟩) M cap, .int .i64 0] W fun e w' => (∃ v0_ : Value, e = .returned (.tuple #[v0_, .int .i64 0, .int .i64 4])) ∧ Below W.heap.size W w') := Lib.hid (fun g cap W hC hc => by
        have hl : (ints (b.set a z)).length = M := by rw [← hset, List.length_set, ← HMb.out]
        have := frame_Next.calls (some ⟨g, 0, none⟩) cap (ints (b.set a z)) 0 [] 0 4 W (by rw [hl]; exact hC) (by rw [hl]; exact hc) HN.out
        rw [hl] at this
        exact this.mono fun e w' ⟨v, h1, _, h3⟩ => ⟨⟨v, h1⟩, h3⟩)
      obtain ⟨y0, hy0⟩ : ∃ y : List Int, y = [] := ⟨_, rfl⟩
      obtain ⟨y1, hy1⟩ : ∃ l : List Int, l = y0 ++ ints b := ⟨_, rfl⟩
      have E1 : Hid (y1 = ints b) := Lib.hid (by rw [hy1, hy0]; rfl)
      have N0 := Aside0.mk hy0
      have N1 := Aside0.mk hy1
      have HSET := Lib.hid hset
      have i1 : (0 : Int) ≤ (a : Int) := by omega
      have i2 : (a : Int) < (M : Int) := by omega
      have i3 : a < M := by omega
      clear x1 x2 x3 hy hyb hz hset hsb hy0 hy1 hbb hb hqb hp hd
      go_enter Try.func5, Try.ntmps5
      go_wp2_with (first | (go_at_call 10; (with_reducible refine (HAC.out _ HB0.out).mono ?_); rintro e1 w1 ⟨v0, rfl, ho1, HB1⟩; obtain ⟨g, cap, rfl, hg1, hg2, hg3⟩ := Kd.R_form ho1 (by rw [← HMb.out, HML.out]; omega); rw [← HMb.out] at ho1 ⊢; have HO1 := Aside0.mk ho1; have HB := Aside0.mk (below_step HB0.out HB1); clear ho1 HB1) | ((with_reducible refine gate_dst (N := 46) rfl ?_); (try (refine gate_guard (by rfl) ?_; dsimp only)); refine Kd.R_lit (Kd.int .u8) _ 5 ?hg (N := 46) ?hd (xs := ([] : List Int)) (inner := []) (ok := fun _ => True) (okp := fun _ => True) ?hr ?hp (fun _ hk => hk) trivial (Below.refl _ _) (Nat.le_refl _) (by simp) ?_; (case hd => rfl); (case hg => rfl); (case hr => first | (go_simp; done) | (go_simp; rfl)); (case hp => exact (Reps.none _ _)); intro v2 w2 ho2 hb2 hg_ hnew_; clear hg_ hnew_; rw [← N0.out] at ho2; have HO2 := Aside0.mk (Kd.R_lower ho2 (below_size HB.out)); have HC2 := Aside0.mk (Kd.C_below (Kd.R_reads' HO1.out).2.2 hb2); have HBb := Aside0.mk (below_step HB.out hb2); clear hb2 ho2) | ((with_reducible refine gate_builtin (b := .append) (xs := #[.tmp 46, .tmp 47]) rfl ?_); (try (refine gate_guard (by rfl) ?_; dsimp only)); at_builtin; refine Kd.R_append_rows (Kd.int .u8) (w0 := w) w.heap.size rfl (.tmp 46) (.tmp 47) 22 5 (.int .u8 0) 1 rfl Try.underlying22 info5 rfl (by decide) (by omega) v2 y0 (ints b) _ M _ (fun _ => True) (fun _ => False) rfl rfl ?aO ?aR (fun _ _ h => h) (fun _ h => h.elim) ?aF ?aB ?aS ?aL ?_; (case aR => rw [HMb.out]; exact HC2.out); (case aB => exact HBb.out); (case aF => exact (fun _ _ => trivial)); (case aO => exact HO2.out); (case aS => exact below_size HBb.out); (case aL => have := HML.out; have := HLq.out; rw [N0.out, List.length_nil]; omega); intro v3 w3 ho3 hb3 hg hat; clear hg hat; rw [← N1.out, E1.out] at ho3; obtain ⟨g3, cap3, rfl, hb3g, _, _⟩ := Kd.R_form ho3 (by rw [← HMb.out, HML.out]; omega); have hce := Kd.R_cell (0 : Int) ho3 (a : Int) (by omega) (by rw [← HMb.out]; have := HAM.out; omega); obtain ⟨k1, k2⟩ := hce; rw [HRD.out, Int.toNat_natCast] at k1; rw [Int.toNat_natCast] at k2; have HP3 := Aside0.mk (Kd.R_put ho3 (a : Int) (z : Int)).1; rw [Int.toNat_natCast, HSET.out] at HP3; rw [← HMb.out] at HP3 ⊢; have HB3 := Aside0.mk (hb3.setCell (p := ⟨g3, a, none⟩) hb3g (.int .u8 (z : Int))); clear ho3 hb3) | (go_at_call 15; (with_reducible refine (HNC.out g3 cap3 _ ?nx1 ?nx2).mono ?_); (case nx1 => have h_ := (Kd.R_reads' HP3.out).2.2; rw [← (Kd.R_reads' HP3.out).1] at h_; exact h_); (case nx2 => exact (Kd.R_reads' HP3.out).2.1); rintro e4 w4 ⟨⟨v4, rfl⟩, HB4⟩; have HB5 := Aside0.mk (below_step HB3.out HB4); clear HB4) | (go_at_call 14; (refine (tapearchivelaw03_awake.calls true _ rfl).mono ?_); rintro e5 w5 ⟨rfl, HB6⟩; have HBf := Aside0.mk (below_step HB5.out HB6); clear HB6))
      go_ret
      exact ⟨rfl, HBf.out⟩
end Go.Proofs.Ytgfkjjmlakolpaa.Q
