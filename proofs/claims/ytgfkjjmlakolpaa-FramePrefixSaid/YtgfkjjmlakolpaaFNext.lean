/- frame.next: what it answers. -/
import Derived.Test.YtgfkjjmlakolpaaFFour
import Derived.Test.YtgfkjjmlakolpaaQ4
import Derived.Deep.MidRow
import Derived.Deep.RegionHeld3
import Derived.Laws.BitsAllLaws
import Derived.Laws.Cover3
import Derived.ChangeKeysEq
namespace Go.Proofs.Ytgfkjjmlakolpaa.Q
open Go.RowKit Go.Proofs.YtgfkjjmlakolpaaW.PrintWords Go.Proofs.YtgfkjjmlakolpaaW.PrintLast Go.Proofs.YtgfkjjmlakolpaaW.PrintMore
open Go.Proofs.Ytgfkjjmlakolpaa.Cr Go.Proofs.Ytgfkjjmlakolpaa.Evs Go.Proofs.Ytgfkjjmlakolpaa.Pure
set_option linter.unusedVariables false
/-- Four bytes as a number; a part of a list; what 'next' answers. -/
def num (p : List Nat) : Nat := p.getD 0 0 * 16777216 + p.getD 1 0 * 65536 + p.getD 2 0 * 256 + p.getD 3 0
def mid (p : List Nat) (lo hi : Nat) : List Nat := (p.take hi).drop lo
def fnextR (r : List Nat) (a : Int) : List Nat × Int × Int :=
  if r.length < 10 then ([], 0, 2)
  else if ¬ (r.getD 0 0 = 167 ∧ r.getD 1 0 = 60) then ([], 0, 1)
  else if 65536 < num (mid r 2 6) then ([], 0, 6)
  else if r.length < 10 + num (mid r 2 6) then ([], 0, 2)
  else if cup (csum (mid r 2 6)) (mid r 10 (10 + num (mid r 2 6))) ≠ num (mid r 6 10) then ([], 0, 4)
  else (mid r 10 (10 + num (mid r 2 6)), a + (10 + num (mid r 2 6) : Nat), 0)
def fnext (p : List Nat) (a : Int) : List Nat × Int × Int :=
  if a < 0 ∨ (p.length : Int) < a then ([], 0, 7) else fnextR (p.drop a.toNat) a
theorem mid_length {p : List Nat} {lo hi : Nat} (h : hi ≤ p.length) : (mid p lo hi).length = hi - lo := by
  unfold mid; rw [List.length_drop, List.length_take]; omega
theorem mid_lt {p : List Nat} (hp : ∀ x ∈ p, x < 256) (lo hi : Nat) : ∀ x ∈ mid p lo hi, x < 256 := fun x hx => hp x (List.mem_of_mem_take (List.mem_of_mem_drop hx))
theorem mid_ints (p : List Nat) (lo hi : Nat) : ((ints p).take hi).drop lo = ints (mid p lo hi) := by
  unfold ints mid; rw [← List.map_take, ← List.map_drop]
theorem num_lt {p : List Nat} (hp : ∀ x ∈ p, x < 256) : num p < 4294967296 := by
  have h0 := getD_lt hp 0
  have h1 := getD_lt hp 1
  have h2 := getD_lt hp 2
  have h3 := getD_lt hp 3
  unfold num; omega
theorem number_ev {p : List Nat} (hp : ∀ x ∈ p, x < 256) (hl : p.length = 4) : frame_number.f (ints p) = some ((num p : Nat) : Int) := by
  have h0 := getD_lt hp 0
  have h1 := getD_lt hp 1
  have h2 := getD_lt hp 2
  have h3 := getD_lt hp 3
  have r0 := ints_rd p 0
  have r1 := ints_rd p 1
  have r2 := ints_rd p 2
  have r3 := ints_rd p 3
  unfold frame_number.f
  rw [ints_length, hl, if_pos (by decide), if_pos (by decide), if_pos (by decide), if_pos (by decide)]
  simp only [Int.cast_ofNat_Int] at r0 r1 r2 r3
  rw [r0, r1, r2, r3]
  unfold num
  generalize p.getD 0 0 = a at h0 ⊢
  generalize p.getD 1 0 = b at h1 ⊢
  generalize p.getD 2 0 = c at h2 ⊢
  generalize p.getD 3 0 = d at h3 ⊢
  clear r0 r1 r2 r3
  rw [show (((a : Int) % 4294967296) * 16777216) % 4294967296 = ((a * 16777216 : Nat) : Int) by omega, show (((b : Int) % 4294967296) * 65536) % 4294967296 = ((b * 65536 : Nat) : Int) by omega, show (((c : Int) % 4294967296) * 256) % 4294967296 = ((c * 256 : Nat) : Int) by omega, show (d : Int) % 4294967296 = (d : Int) by omega]
  rw [u32_or_nat _ _ (by omega) (by omega), nat_join 24 _ _ (by omega) (by omega), u32_or_nat _ _ (by omega) (by omega), nat_join 16 _ _ (by omega) (by omega), u32_or_nat _ _ (by omega) (by omega), nat_join 8 _ _ (by omega) (by omega)]

theorem eq2 (a b c d : Int) (W : World) : (Op.equalIn 10000 43 (.agg #[.int .u8 a, .int .u8 b]) (.agg #[.int .u8 c, .int .u8 d])).run Try.prog W = .ok (a == c && b == d) W := by
  obtain ⟨i0, hi0, _, hsz, _⟩ := info_parts info5
  have hc : Try.prog.cellsOf 5 = 1 := by kernel_rfl
  rw [run_equalIn_array (w := W) 9999 _ _ Try.underlying43 hi0, hc]
  have e5 : ∀ x y : Int, (Op.equalIn 9999 5 (.int .u8 x) (.int .u8 y)).run Try.prog W = .ok (x == y) W := fun x y => run_equalIn_int W 9998 5 .u8 .u8 x y Try.underlying5
  have h0 : ∀ x y : Int, (part 5 #[.int .u8 x, .int .u8 y] (0 * 1)).run Try.prog W = .ok (.int .u8 x) W := fun x y => by simp [part, isAgg, run_underlying Try.underlying5]
  have h1 : ∀ x y : Int, (part 5 #[.int .u8 x, .int .u8 y] (1 * 1)).run Try.prog W = .ok (.int .u8 y) W := fun x y => by simp [part, isAgg, run_underlying Try.underlying5]
  simp only [show List.range 2 = [0, 1] from rfl, Op.eqItems, Sem.run_bind, h0, Result.andThen_ok, e5]
  cases (a == c)
  · simp
  · simp only [Bool.not_true, Bool.false_eq_true, if_false, Sem.run_bind, h1, Result.andThen_ok, e5, Bool.true_and]
    cases (b == d) <;> simp
theorem eq2self : (((167 : Int) == 167) && ((60 : Int) == 60)) = true := by decide
/-- A part of a list of bytes, cut out of a slice. -/
theorem cutS {w : World} {ok : Nat → Prop} {ad : Addr} {c : Nat} {r : List Nat} (lo hi : Nat) (lo' hi' : Int) (el : lo' = (lo : Int)) (eh : hi' = (hi : Int)) (h1 : 0 < lo) (h2 : lo ≤ hi) (h3 : hi ≤ r.length) (h4 : lo < c) (hc : (ints r).length ≤ c) (hF : Kd.F (Kd.int .u8) w ok (some ad) (ints r).length (ints r)) :
    (∀ W : World, (Instr.slice 22 (.slice (some ad) (ints r).length c) (some (.int .i64 lo')) (some (.int .i64 hi')) none).run Try.prog W = .ok (.slice (some ⟨ad.block, ad.off + lo, none⟩) (ints (mid r lo hi)).length (c - lo)) W) ∧
      Kd.F (Kd.int .u8) w ok (some ⟨ad.block, ad.off + lo, none⟩) (ints (mid r lo hi)).length (ints (mid r lo hi)) := by
  subst el eh
  obtain ⟨i0, hi0, _, hsz, _⟩ := info_parts info5
  have hl2 := ints_length r
  have h := cut_mid (P := Try.prog) 22 5 .i64 .i64 Try.underlying22 hi0 1 hsz (some ad) (ints r).length c (lo : Int) (hi : Int) (by omega) (by omega) (by omega) hc
  have hf := Kd.F_mid hF h2 (by omega) hc
  rw [mid_ints, show (Kd.int .u8).sz = 1 from rfl] at hf
  rw [Int.toNat_natCast, Int.toNat_natCast] at h
  have ea : (if c = lo then some ad else (some ad).map (·.add (lo * 1))) = some ⟨ad.block, ad.off + lo, none⟩ := by
    rw [if_neg (by omega), Option.map_some, Nat.mul_one]
    unfold Addr.add
    rw [if_neg (by omega)]
  rw [ea] at h hf
  rw [show hi - lo = (ints (mid r lo hi)).length by rw [ints_length, mid_length h3]] at h
  exact ⟨h, hf⟩
/-- The same with a capacity. -/
theorem cutM {w : World} {ok : Nat → Prop} {ad : Addr} {c : Nat} {r : List Nat} (lo hi : Nat) (lo' hi' : Int) (el : lo' = (lo : Int)) (eh : hi' = (hi : Int)) (h2 : lo ≤ hi) (h3 : hi ≤ r.length) (hc : (ints r).length ≤ c) (hF : Kd.F (Kd.int .u8) w ok (some ad) (ints r).length (ints r)) :
    ∃ A, (∀ W : World, (Instr.slice 22 (.slice (some ad) (ints r).length c) (some (.int .i64 lo')) (some (.int .i64 hi')) (some (.int .i64 hi'))).run Try.prog W = .ok (.slice A (ints (mid r lo hi)).length (hi - lo)) W) ∧
      Kd.F (Kd.int .u8) w ok A (ints (mid r lo hi)).length (ints (mid r lo hi)) := by
  subst el eh
  obtain ⟨i0, hi0, _, hsz, _⟩ := info_parts info5
  have hl2 := ints_length r
  have hel : Try.prog.elem 22 = 5 := by simp [Program.elem, Try.underlying22]
  have hu : Try.prog.underlying 22 = some (.slice (Try.prog.elem 22)) := by rw [hel]; exact Try.underlying22
  have hf := Kd.F_cut (Kd.F_take hF (m := hi) (by omega)) (m := lo) (c := hi) (by rw [List.length_take]; omega) (by rw [List.length_take]; omega)
  rw [mid_ints, show (Kd.int .u8).sz = 1 from rfl] at hf
  refine ⟨_, fun W => ?_, hf⟩
  rw [run_slice_lhm W 22 (some ad) (ints r).length c hu .i64 .i64 .i64 (lo : Int) (hi : Int) (hi : Int) (by omega) (by omega) (by omega) (by omega), hel]
  simp [sizeOf, typeInfo, hi0, hsz, sliced, Result.andThen, ints_length, mid_length h3]
theorem eq4cells {p : List Nat} (h : p.length = 4) : p = [p.getD 0 0, p.getD 1 0, p.getD 2 0, p.getD 3 0] := by
  match p, h with
  | [a, b, c, d], _ => rfl
theorem held4_below {w w1 w2 : World} {a b c d : Addr} {u v x y : Value} (h : w1.cell? a = some u ∧ w1.cell? b = some v ∧ w1.cell? c = some x ∧ w1.cell? d = some y ∧ Below w.heap.size w w1) (hb : Below w1.heap.size w1 w2) : w2.cell? a = some u ∧ w2.cell? b = some v ∧ w2.cell? c = some x ∧ w2.cell? d = some y ∧ Below w.heap.size w w2 :=
  ⟨pw_cell_below hb h.1, pw_cell_below hb h.2.1, pw_cell_below hb h.2.2.1, pw_cell_below hb h.2.2.2.1, below_step h.2.2.2.2 hb⟩
theorem held4_B {n : Nat} {w W : World} {p1 p2 p3 p4 : Prop} (h : p1 ∧ p2 ∧ p3 ∧ p4 ∧ Below n w W) : Below n w W := h.2.2.2.2
theorem held2_below {w w1 : World} {a b : Addr} {u v : Value} (h : w.cell? a = some u ∧ w.cell? b = some v) (hb : Below w.heap.size w w1) : w1.cell? a = some u ∧ w1.cell? b = some v :=
  ⟨pw_cell_below hb h.1, pw_cell_below hb h.2⟩
set_option maxRecDepth 100000 in
set_option maxHeartbeats 1000000 in
theorem next_walk (P0_ : Nat → Prop) (A0 : Option Addr) (c0 : Nat) (p : List Nat) (hp : ∀ x ∈ p, x < 256) (a1 : Int) (w : World) (hs0 : Kd.V (Kd.int .u8) 5 w w.heap.size P0_ (.slice A0 (ints p).length c0) (ints p)) :
    Calls Try.prog 30 #[.slice A0 (ints p).length c0, .int .i64 a1] w fun e w' => ∃ v0_ : Value, e = .returned (.tuple #[v0_, .int .i64 (fnext p a1).2.1, .int .i64 (fnext p a1).2.2]) ∧ Kd.V (Kd.int .u8) 5 w' w.heap.size (fun k_ => P0_ k_ ∨ w.heap.size ≤ k_) v0_ (ints (fnext p a1).1) ∧ Below w.heap.size w w' := by
  obtain ⟨_, hn, hf⟩ := Kd.V_at hs0
  have HF := Aside0.mk hf
  clear hs0 hf
  have hlen := ints_length p
  have hmax := Kd.F_max HF.out
  by_cases c1 : a1 < 0
  · have e : fnext p a1 = ([], 0, 7) := if_pos (.inl c1)
    rw [e]
    have c1b : decide (a1 < 0) = true := decide_eq_true c1
    clear e c1 hlen hmax hn
    go_enter Try.func30, Try.ntmps30
    go_wp2
    go_ret3
    exact ⟨_, rfl, Kd.V_nil _ _ _ _ _, Below.refl _ _⟩
  by_cases c2 : (p.length : Int) < a1
  · have e : fnext p a1 = ([], 0, 7) := if_pos (.inr c2)
    rw [e]
    have c1b : decide (a1 < 0) = false := decide_eq_false c1
    rw [← hlen] at c2
    have c2b : decide (((ints p).length : Int) < a1) = true := decide_eq_true c2
    clear e c1 c2 hlen hmax hn
    go_enter Try.func30, Try.ntmps30
    go_wp2
    go_ret3
    exact ⟨_, rfl, Kd.V_nil _ _ _ _ _, Below.refl _ _⟩
  obtain ⟨i, rfl⟩ := Int.eq_ofNat_of_zero_le (show 0 ≤ a1 by omega)
  have hi : i ≤ p.length := by omega
  have e : fnext p (i : Int) = fnextR (p.drop i) (i : Int) := if_neg (by omega)
  rw [e]
  clear e
  have c1b : decide ((i : Int) < 0) = false := decide_eq_false c1
  have c2b : decide (((ints p).length : Int) < (i : Int)) = false := decide_eq_false (by rw [hlen]; exact c2)
  have c2d : decide ((ints p).length < i) = false := decide_eq_false (by rw [hlen]; omega)
  obtain ⟨i0, hi0, _, hsz, _⟩ := info_parts info5
  have hcut := cut_from (P := Try.prog) 22 5 .i64 Try.underlying22 hi0 1 hsz A0 (ints p).length c0 (i : Int) (by omega) (by rw [hlen]; omega)
  have hF1 := Kd.F_cut HF.out (m := i) (c := c0) (by rw [hlen]; exact hi) hn
  have hdr : (ints p).drop i = ints (p.drop i) := by unfold ints; rw [List.map_drop]
  rw [hdr, show (Kd.int .u8).sz = 1 from rfl] at hF1
  rw [Int.toNat_natCast] at hcut
  obtain ⟨A1, hA1⟩ : ∃ A1, A1 = (if c0 = i then A0 else A0.map (·.add (i * 1))) := ⟨_, rfl⟩
  rw [← hA1] at hcut hF1
  clear hA1 HF hdr
  have hrl : (ints p).length - i = (ints (p.drop i)).length := by rw [hlen, ints_length, List.length_drop]
  rw [hrl] at hcut
  obtain ⟨r, hr⟩ : ∃ r, r = p.drop i := ⟨_, rfl⟩
  have hrb : ∀ x ∈ r, x < 256 := fun x hx => hp x (List.mem_of_mem_drop (hr ▸ hx))
  have hrn : r.length = p.length - i := by rw [hr, List.length_drop]
  have hc1 : (ints r).length ≤ c0 - i := by rw [ints_length, hrn, ← hlen]; omega
  rw [← hr] at hcut hF1 ⊢
  have HR := Lib.hid hr
  clear hr hrl c1 c2
  obtain ⟨c, hc⟩ : ∃ c, c = c0 - i := ⟨_, rfl⟩
  rw [← hc] at hcut hc1
  clear hc
  have HF1 := Aside0.mk hF1
  clear hF1
  have hl2 := ints_length r
  by_cases c3 : r.length < 10
  · have e : fnextR r (i : Int) = ([], 0, 2) := if_pos c3
    rw [e]
    have c3b : decide (((ints r).length : Int) < 10) = true := decide_eq_true (by rw [hl2]; omega)
    have c3c : decide ((ints r).length < 10) = true := decide_eq_true (by rw [hl2]; omega)
    clear e c3 hl2 hlen hmax hn
    go_enter Try.func30, Try.ntmps30
    go_wp2
    go_ret3
    exact ⟨_, rfl, Kd.V_nil _ _ _ _ _, Below.refl _ _⟩
  have c3b : decide (((ints r).length : Int) < 10) = false := decide_eq_false (by rw [hl2]; omega)
  have c3c : decide ((ints r).length < 10) = false := decide_eq_false (by rw [hl2]; omega)
  obtain ⟨ad, rfl, hy0⟩ := Kd.at_int (Kd.F_now HF1.out) ((0 : Nat) : Int) (by omega) (by rw [hl2]; omega)
  obtain ⟨_, hx, hy1⟩ := Kd.at_int (Kd.F_now HF1.out) ((1 : Nat) : Int) (by omega) (by rw [hl2]; omega)
  obtain rfl := Option.some.inj hx
  rw [ints_rd, Int.toNat_natCast] at hy0 hy1
  have b0 := getD_lt hrb 0
  have b1 := getD_lt hrb 1
  obtain ⟨x0, hx0⟩ : ∃ x, x = r.getD 0 0 := ⟨_, rfl⟩
  obtain ⟨x1, hx1⟩ : ∃ x, x = r.getD 1 0 := ⟨_, rfl⟩
  rw [← hx0] at hy0 b0
  rw [← hx1] at hy1 b1
  replace hy1 : w.cell? ⟨ad.block, ad.off + 1, none⟩ = some (.int .u8 (x1 : Int)) := hy1
  replace hy0 : w.cell? ad = some (.int .u8 (x0 : Int)) := hy0
  have hcut2 := cut_to (P := Try.prog) 22 5 .i64 Try.underlying22 hi0 (some ad) (ints r).length c 2 (by omega) (by rw [hl2]; omega) hc1
  have hat2 : ∀ W : World, (Instr.arrayAt 43 (.slice (some ad) 2 c)).run Try.prog W = .ok (.pointer (some ad)) W := fun W => run_arrayAt W _ 5 2 _ _ _ Try.underlying43 (Nat.le_refl _)
  by_cases c4 : ¬ (x0 = 167 ∧ x1 = 60)
  · have e : fnextR r (i : Int) = ([], 0, 1) := by
      unfold fnextR
      rw [if_neg c3, ← hx0, ← hx1, if_pos c4]
    rw [e]
    have heq := eq2 (x0 : Int) (x1 : Int) 167 60
    have c4b : (((x0 : Int) == 167) && ((x1 : Int) == 60)) = false := by
      rw [Bool.and_eq_false_iff]
      rcases Nat.decEq x0 167 with h | h
      · exact .inl (beq_eq_false_iff_ne.2 (by omega))
      · exact .inr (beq_eq_false_iff_ne.2 (by omega))
    rw [c4b] at heq
    clear e hlen hmax hn hl2 c3 hx0 hx1 c4b
    go_enter Try.func30, Try.ntmps30
    go_wp2_with fail
    go_region_held3 (fun w' => w'.cell? ad = some (.int .u8 (x0 : Int)) ∧ w'.cell? ⟨ad.block, ad.off + 1, none⟩ = some (.int .u8 (x1 : Int))) (first | assumption | exact ⟨hy0, hy1⟩ | exact held2_below (by assumption) (by assumption)) (first | (go_at_call 25; refine (magic_calls _).mono ?_; rintro e w' ⟨rfl, HB0⟩))
    all_goals (
      go_wp2
      go_ret3
      exact ⟨_, rfl, Kd.V_nil _ _ _ _ _, ⟨HB0.os, HB0.tape, HB0.output, HB0.size, HB0.block⟩⟩)
  obtain ⟨rfl, rfl⟩ := Classical.not_not.1 c4
  clear c4
  have heq := eq2 167 60 167 60
  rw [eq2self] at heq
  replace hy0 : w.cell? ad = some (.int .u8 167) := hy0
  replace hy1 : w.cell? ⟨ad.block, ad.off + 1, none⟩ = some (.int .u8 60) := hy1
  have e1 : fnextR r (i : Int) = if 65536 < num (mid r 2 6) then ([], 0, 6) else if r.length < 10 + num (mid r 2 6) then ([], 0, 2) else if cup (csum (mid r 2 6)) (mid r 10 (10 + num (mid r 2 6))) ≠ num (mid r 6 10) then ([], 0, 4) else (mid r 10 (10 + num (mid r 2 6)), (i : Int) + (10 + num (mid r 2 6) : Nat), 0) := by
    unfold fnextR
    rw [if_neg c3, ← hx0, ← hx1, if_neg (by decide)]
  rw [e1]
  clear e1 hx0 hx1
  obtain ⟨hcA, hfA⟩ := cutS 2 6 2 6 rfl rfl (by omega) (by omega) (by omega) (by omega) hc1 HF1.out
  have hbA := mid_lt hrb 2 6
  have hlA : (mid r 2 6).length = 4 := mid_length (by omega)
  have HNA := Lib.hid (number_ev hbA hlA)
  have hnA := num_lt hbA
  have hCA := Aside0.mk (Kd.F_now hfA)
  have hcapA : (ints (mid r 2 6)).length ≤ c - 2 := by rw [ints_length, hlA]; omega
  obtain ⟨n, hn1⟩ : ∃ n, n = num (mid r 2 6) := ⟨_, rfl⟩
  rw [← hn1] at HNA hnA ⊢
  have HN1 := Lib.hid hn1
  clear hn1
  clear hfA
  have hw0 : ∀ w' : World, Below w.drew.heap.size w.drew w' → Below w.heap.size w w' := fun w' HB0 => ⟨HB0.os, HB0.tape, HB0.output, HB0.size, HB0.block⟩
  by_cases c5 : 65536 < n
  · rw [if_pos c5]
    have c5b : decide ((65536 : Int) < (n : Int)) = true := decide_eq_true (by omega)
    have c5c : decide (65536 < n) = true := decide_eq_true (by omega)
    clear hlen hmax hn hl2 c3 c5 hnA
    go_enter Try.func30, Try.ntmps30
    go_wp2_with fail
    go_region_held3 (fun w' => w'.cell? ad = some (.int .u8 167) ∧ w'.cell? ⟨ad.block, ad.off + 1, none⟩ = some (.int .u8 60)) (first | assumption | exact ⟨hy0, hy1⟩ | exact held2_below (by assumption) (by assumption)) (first | (go_at_call 25; refine (magic_calls _).mono ?_; rintro e w' ⟨rfl, HB0⟩))
    all_goals (
      have HB := hw0 _ HB0
      go_wp2_with (first | (go_at_call 37; refine (frame_number.calls _ _ (ints (mid r 2 6)) _ _ (Kd.C_below hCA.out HB) hcapA HNA.out).mono ?_; rintro e w2 ⟨rfl, ⟨nd, rfl⟩⟩))
      go_ret3
      exact ⟨_, rfl, Kd.V_nil _ _ _ _ _, pw_below_drewN HB _⟩)
  rw [if_neg c5]
  have c5b : decide ((65536 : Int) < (n : Int)) = false := decide_eq_false (by omega)
  have c5c : decide (65536 < n) = false := decide_eq_false (by omega)
  obtain ⟨m, hm⟩ : ∃ m, m = 10 + n := ⟨_, rfl⟩
  rw [← hm]
  have hwn : IntKind.i64.wrap (n : Int) = (n : Int) := by rw [i64_w]; unfold wrap64; omega
  have hwm : IntKind.i64.wrap (10 + (n : Int)) = (m : Int) := by clear hwn; rw [i64_w]; unfold wrap64; omega
  have HWN := Lib.hid hwn
  have HWM := Lib.hid hwm
  clear hwn hwm
  by_cases c6 : r.length < m
  · rw [if_pos c6]
    have c6b : decide (((ints r).length : Int) < (m : Int)) = true := decide_eq_true (by omega)
    have c6c : decide ((ints r).length < m) = true := decide_eq_true (by omega)
    clear hlen hmax hn hl2 c3 c5 c6 hnA hm
    have hwn := HWN.out
    have hwm := HWM.out
    go_enter Try.func30, Try.ntmps30
    go_wp2_with fail
    go_region_held3 (fun w' => w'.cell? ad = some (.int .u8 167) ∧ w'.cell? ⟨ad.block, ad.off + 1, none⟩ = some (.int .u8 60)) (first | assumption | exact ⟨hy0, hy1⟩ | exact held2_below (by assumption) (by assumption)) (first | (go_at_call 25; refine (magic_calls _).mono ?_; rintro e w' ⟨rfl, HB0⟩))
    all_goals (
      have HB := hw0 _ HB0
      go_wp2_with (first | (go_at_call 37; refine (frame_number.calls _ _ (ints (mid r 2 6)) _ _ (Kd.C_below hCA.out HB) hcapA HNA.out).mono ?_; rintro e w2 ⟨rfl, ⟨nd, rfl⟩⟩))
      go_ret3
      exact ⟨_, rfl, Kd.V_nil _ _ _ _ _, pw_below_drewN HB _⟩)
  rw [if_neg c6]
  have c6b : decide (((ints r).length : Int) < (m : Int)) = false := decide_eq_false (by omega)
  have c6c : decide ((ints r).length < m) = false := decide_eq_false (by omega)
  obtain ⟨A3, hcM, hfM⟩ := cutM (hi' := (m : Int)) 10 m 10 rfl rfl (by omega) (by omega) hc1 HF1.out
  obtain ⟨hcB, hfB⟩ := cutS 6 10 6 10 rfl rfl (by omega) (by omega) (by omega) (by omega) hc1 HF1.out
  have hbB := mid_lt hrb 6 10
  have hlB : (mid r 6 10).length = 4 := mid_length (by omega)
  have HNB := Lib.hid (number_ev hbB hlB)
  have hCB := Aside0.mk (Kd.F_now hfB)
  have hFM := Aside0.mk hfM
  have hcapB : (ints (mid r 6 10)).length ≤ c - 6 := by rw [ints_length, hlB]; omega
  have hlM : (ints (mid r 10 m)).length ≤ m - 10 := by rw [ints_length, mid_length (by omega)]; omega
  have hbM := bytes_ints (mid_lt hrb 10 m)
  have hbl : (ints (mid r 10 m)).length ≤ 4611686018427387904 := by omega
  clear hfM hfB
  have h4 := eq4cells hlA
  have g0 := getD_lt hbA 0
  have g1 := getD_lt hbA 1
  have g2 := getD_lt hbA 2
  have g3 := getD_lt hbA 3
  obtain ⟨_, hz, hz0⟩ := Kd.at_int hCA.out ((0 : Nat) : Int) (by omega) (by rw [ints_length]; omega)
  obtain rfl := Option.some.inj hz
  obtain ⟨_, hz, hz1⟩ := Kd.at_int hCA.out ((1 : Nat) : Int) (by omega) (by rw [ints_length]; omega)
  obtain rfl := Option.some.inj hz
  obtain ⟨_, hz, hz2⟩ := Kd.at_int hCA.out ((2 : Nat) : Int) (by omega) (by rw [ints_length]; omega)
  obtain rfl := Option.some.inj hz
  obtain ⟨_, hz, hz3⟩ := Kd.at_int hCA.out ((3 : Nat) : Int) (by omega) (by rw [ints_length]; omega)
  obtain rfl := Option.some.inj hz
  rw [ints_rd, Int.toNat_natCast] at hz0 hz1 hz2 hz3
  obtain ⟨y0, hy0'⟩ : ∃ y, y = (mid r 2 6).getD 0 0 := ⟨_, rfl⟩
  obtain ⟨y1, hy1'⟩ : ∃ y, y = (mid r 2 6).getD 1 0 := ⟨_, rfl⟩
  obtain ⟨y2, hy2'⟩ : ∃ y, y = (mid r 2 6).getD 2 0 := ⟨_, rfl⟩
  obtain ⟨y3, hy3'⟩ : ∃ y, y = (mid r 2 6).getD 3 0 := ⟨_, rfl⟩
  rw [← hy0'] at hz0 g0 h4
  rw [← hy1'] at hz1 g1 h4
  rw [← hy2'] at hz2 g2 h4
  rw [← hy3'] at hz3 g3 h4
  clear hy0' hy1' hy2' hy3'
  replace hz0 : w.cell? ⟨ad.block, ad.off + 2, none⟩ = some (.int .u8 (y0 : Int)) := hz0
  replace hz1 : w.cell? ⟨ad.block, ad.off + 2 + 1, none⟩ = some (.int .u8 (y1 : Int)) := hz1
  replace hz2 : w.cell? ⟨ad.block, ad.off + 2 + 2, none⟩ = some (.int .u8 (y2 : Int)) := hz2
  replace hz3 : w.cell? ⟨ad.block, ad.off + 2 + 3, none⟩ = some (.int .u8 (y3 : Int)) := hz3
  have hat4 : ∀ W : World, (Instr.arrayAt 45 (.slice (some ⟨ad.block, ad.off + 2, none⟩) (ints (mid r 2 6)).length (c - 2))).run Try.prog W = .ok (.pointer (some ⟨ad.block, ad.off + 2, none⟩)) W := fun W => run_arrayAt W _ 5 4 _ _ _ Try.underlying45 (by rw [ints_length]; omega)
  have HH4 := Lib.hid h4
  obtain ⟨z, hzz⟩ : ∃ z, z = num (mid r 6 10) := ⟨_, rfl⟩
  obtain ⟨s, hss⟩ : ∃ s, s = cup (csum (mid r 2 6)) (mid r 10 m) := ⟨_, rfl⟩
  have HS : Hid (s = cup (csum [y0, y1, y2, y3]) (nats (ints (mid r 10 m)))) := Lib.hid (by rw [hss, nats_ints, ← h4])
  rw [← hzz] at HNB ⊢
  rw [← hss]
  clear h4 hzz hss
  by_cases c7 : s ≠ z
  · rw [if_pos c7]
    have c7b : ((s : Int) == (z : Int)) = false := beq_eq_false_iff_ne.2 (by omega)
    have c7c : (s == z) = false := beq_eq_false_iff_ne.2 c7
    clear hlen hmax hn hl2 c3 c5 c6 hnA hm c7
    have hwn := HWN.out
    have hwm := HWM.out
    go_enter Try.func30, Try.ntmps30
    go_wp2_with fail
    go_region_held3 (fun w' => w'.cell? ad = some (.int .u8 167) ∧ w'.cell? ⟨ad.block, ad.off + 1, none⟩ = some (.int .u8 60)) (first | assumption | exact ⟨hy0, hy1⟩ | exact held2_below (by assumption) (by assumption)) (first | (go_at_call 25; refine (magic_calls _).mono ?_; rintro e w' ⟨rfl, HB0⟩))
    all_goals (
      have HB := hw0 _ HB0
      go_wp2_with (first | (go_at_call 37; refine (frame_number.calls _ _ (ints (mid r 2 6)) _ _ (Kd.C_below hCA.out HB) hcapA HNA.out).mono ?_; rintro e w2 ⟨rfl, ⟨nd, rfl⟩⟩))
      have HB2 := Aside0.mk (pw_below_drewN HB nd)
      have HF2 := Aside0.mk (Kd.F_below hFM.out HB2.out)
      generalize w'.drewN nd = W1 at HB2 HF2 ⊢
      have k0 := pw_cell_below HB2.out hz0
      have k1 := pw_cell_below HB2.out hz1
      have k2 := pw_cell_below HB2.out hz2
      have k3 := pw_cell_below HB2.out hz3
      clear HB HB0 hy0 hy1 hz0 hz1 hz2 hz3
      go_region_held3 (fun w' => w'.cell? ⟨ad.block, ad.off + 2, none⟩ = some (.int .u8 (y0 : Int)) ∧ w'.cell? ⟨ad.block, ad.off + 2 + 1, none⟩ = some (.int .u8 (y1 : Int)) ∧ w'.cell? ⟨ad.block, ad.off + 2 + 2, none⟩ = some (.int .u8 (y2 : Int)) ∧ w'.cell? ⟨ad.block, ad.off + 2 + 3, none⟩ = some (.int .u8 (y3 : Int)) ∧ Below w.heap.size w w') (first | assumption | exact ⟨k0, k1, k2, k3, HB2.out⟩ | exact ⟨k0, k1, k2, k3, below_drew1 HB2.out⟩ | exact held4_below (by assumption) (by assumption) | exact held4_below (by assumption) (pw_below_drewN (Below.refl _ _) _)) (first | (go_at_call 27; refine (fsum_calls y0 y1 y2 y3 A3 (m - 10) (ints (mid r 10 m)) _ (Kd.C_below (Kd.F_now hFM.out) (‹_ ∧ _ ∧ _ ∧ _ ∧ Below w.heap.size w _›).2.2.2.2) hlM hbM hbl g0 g1 g2 g3).mono ?_; rintro e w' ⟨he, HB3⟩; rw [← HS.out] at he; subst he) | (go_at_call 37; refine (frame_number.calls _ _ (ints (mid r 6 10)) _ _ (Kd.C_below hCB.out (‹_ ∧ _ ∧ _ ∧ _ ∧ Below w.heap.size w _›).2.2.2.2) hcapB HNB.out).mono ?_; rintro e w2 ⟨rfl, ⟨nd, rfl⟩⟩))
      all_goals (
        go_wp2
        go_ret3
        exact ⟨_, rfl, Kd.V_nil _ _ _ _ _, held4_B (by assumption)⟩))
  rw [if_neg c7]
  have c7b : ((s : Int) == (z : Int)) = true := beq_iff_eq.2 (by rw [Classical.not_not.1 c7])
  have c7c : (s == z) = true := beq_iff_eq.2 (Classical.not_not.1 c7)
  have hwe : IntKind.i64.wrap ((i : Int) + (m : Int)) = (i : Int) + (m : Nat) := by rw [i64_w]; unfold wrap64; omega
  have HWE := Lib.hid hwe
  clear hwe
  clear hlen hmax hn hl2 c3 c5 c6 hnA hm c7
  have hwe := HWE.out
  have hwn := HWN.out
  have hwm := HWM.out
  go_enter Try.func30, Try.ntmps30
  go_wp2_with fail
  go_region_held3 (fun w' => w'.cell? ad = some (.int .u8 167) ∧ w'.cell? ⟨ad.block, ad.off + 1, none⟩ = some (.int .u8 60)) (first | assumption | exact ⟨hy0, hy1⟩ | exact held2_below (by assumption) (by assumption)) (first | (go_at_call 25; refine (magic_calls _).mono ?_; rintro e w' ⟨rfl, HB0⟩))
  all_goals (
    have HB := hw0 _ HB0
    go_wp2_with (first | (go_at_call 37; refine (frame_number.calls _ _ (ints (mid r 2 6)) _ _ (Kd.C_below hCA.out HB) hcapA HNA.out).mono ?_; rintro e w2 ⟨rfl, ⟨nd, rfl⟩⟩))
    have HB2 := Aside0.mk (pw_below_drewN HB nd)
    have HF2 := Aside0.mk (Kd.F_below hFM.out HB2.out)
    generalize w'.drewN nd = W1 at HB2 HF2 ⊢
    have k0 := pw_cell_below HB2.out hz0
    have k1 := pw_cell_below HB2.out hz1
    have k2 := pw_cell_below HB2.out hz2
    have k3 := pw_cell_below HB2.out hz3
    clear HB HB0 hy0 hy1 hz0 hz1 hz2 hz3
    go_region_held3 (fun w' => w'.cell? ⟨ad.block, ad.off + 2, none⟩ = some (.int .u8 (y0 : Int)) ∧ w'.cell? ⟨ad.block, ad.off + 2 + 1, none⟩ = some (.int .u8 (y1 : Int)) ∧ w'.cell? ⟨ad.block, ad.off + 2 + 2, none⟩ = some (.int .u8 (y2 : Int)) ∧ w'.cell? ⟨ad.block, ad.off + 2 + 3, none⟩ = some (.int .u8 (y3 : Int)) ∧ Below w.heap.size w w') (first | assumption | exact ⟨k0, k1, k2, k3, HB2.out⟩ | exact ⟨k0, k1, k2, k3, below_drew1 HB2.out⟩ | exact held4_below (by assumption) (by assumption) | exact held4_below (by assumption) (pw_below_drewN (Below.refl _ _) _)) (first | (go_at_call 27; refine (fsum_calls y0 y1 y2 y3 A3 (m - 10) (ints (mid r 10 m)) _ (Kd.C_below (Kd.F_now hFM.out) (‹_ ∧ _ ∧ _ ∧ _ ∧ Below w.heap.size w _›).2.2.2.2) hlM hbM hbl g0 g1 g2 g3).mono ?_; rintro e w' ⟨he, HB3⟩; rw [← HS.out] at he; subst he) | (go_at_call 37; refine (frame_number.calls _ _ (ints (mid r 6 10)) _ _ (Kd.C_below hCB.out (‹_ ∧ _ ∧ _ ∧ _ ∧ Below w.heap.size w _›).2.2.2.2) hcapB HNB.out).mono ?_; rintro e w2 ⟨rfl, ⟨nd, rfl⟩⟩))
    all_goals (
      go_wp2
      go_ret3
      exact ⟨_, rfl, Kd.V_mk hlM (Kd.F_mono (Kd.F_below hFM.out (held4_B (by assumption))) (fun k hk => .inl hk)), held4_B (by assumption)⟩))

theorem ints_nats {l : List Int} (h : Bytes l) : ints (nats l) = l := by
  unfold ints nats
  rw [List.map_map]
  conv => rhs; rw [← List.map_id l]
  apply List.map_congr_left
  intro x hx
  have := h x hx
  simp only [Function.comp, id]
  omega
def frame_next.f (l0 : List Int) (a1 : Int) : Option (List Int × Int × Int) := if Bytes l0 then some (ints (fnext (nats l0) a1).1, (fnext (nats l0) a1).2.1, (fnext (nats l0) a1).2.2) else none
theorem frame_next.calls (P0_ : Nat → Prop) (A0 : Option Addr) (c0 : Nat) (l0 : List Int) (a1 : Int) (r1 : List Int) (r2 : Int) (r3 : Int) (w : World) (hs0 : Kd.V (Kd.int .u8) 5 w w.heap.size (fun k_ => P0_ k_) (.slice A0 l0.length c0) l0) (h : frame_next.f l0 a1 = some (r1, r2, r3)) :
    Calls Try.prog 30 #[.slice A0 l0.length c0, .int .i64 a1] w fun e w' => ∃ v0_ : Value, e = .returned (.tuple #[v0_, .int .i64 r2, .int .i64 r3]) ∧ Kd.V (Kd.int .u8) 5 w' w.heap.size (fun k_ => (P0_ k_ ∨ w.heap.size ≤ k_)) v0_ r1 ∧ Below w.heap.size w w' := by
  unfold frame_next.f at h
  by_cases hb : Bytes l0
  · rw [if_pos hb] at h
    obtain ⟨rfl, rfl, rfl⟩ : ints (fnext (nats l0) a1).1 = r1 ∧ (fnext (nats l0) a1).2.1 = r2 ∧ (fnext (nats l0) a1).2.2 = r3 := by simpa using h
    have := next_walk P0_ A0 c0 (nats l0) (nats_lt hb) a1 w (by rw [ints_nats hb]; exact hs0)
    rw [ints_nats hb] at this
    exact this
  · rw [if_neg hb] at h
    exact absurd h (by simp)
end Go.Proofs.Ytgfkjjmlakolpaa.Q
