/- What the reference's plain functions answer (layer 5): product, inverse, sameness, identity, Cauchy. -/
import Derived.Test.YtmlfpcnemganbaaQ8
import Derived.Test.YtmlfpcnemganbaaQ12
import Derived.Test.YtmlfpcnemganbaaGM
namespace Go.Proofs.Ytmlfpcnemganbaa.Gf
/-- Carry-less multiplication, and its reduction. -/
def cl (a b : Nat) : Nat → Nat
  | 0 => 0
  | n + 1 => if b.testBit n then cl a b n ^^^ a * 2 ^ n else cl a b n
def red : Nat → Nat → Nat
  | 0, p => p
  | n + 1, p => red n (if p.testBit (n + 8) then p ^^^ 285 * 2 ^ n else p)
def rm (a b : Nat) : Nat := red 8 (cl a b 8) % 256
theorem xor4 (a b x : Nat) : (a ^^^ x) ^^^ (b ^^^ x) = a ^^^ b := by
  rw [Nat.xor_assoc, Nat.xor_comm b x, ← Nat.xor_assoc x x b, Nat.xor_self, Nat.zero_xor]
theorem cl_xor (a b c : Nat) : ∀ n, cl a (b ^^^ c) n = cl a b n ^^^ cl a c n
  | 0 => (Nat.xor_self 0).symm
  | n + 1 => by
    unfold cl
    rw [cl_xor a b c n, Nat.testBit_xor]
    cases b.testBit n <;> cases c.testBit n <;> simp only [Bool.xor_false, Bool.xor_true, Bool.not_true, Bool.not_false, Bool.false_eq_true, if_true, if_false]
    · exact Nat.xor_assoc _ _ _
    · rw [Nat.xor_assoc, Nat.xor_comm (cl a c n), ← Nat.xor_assoc]
    · exact (xor4 _ _ _).symm
theorem red_xor : ∀ n p q, red n (p ^^^ q) = red n p ^^^ red n q
  | 0, _, _ => rfl
  | n + 1, p, q => by
    unfold red
    rw [← red_xor n, Nat.testBit_xor]
    congr 1
    cases p.testBit (n + 8) <;> cases q.testBit (n + 8) <;> simp only [Bool.xor_false, Bool.xor_true, Bool.not_true, Bool.not_false, Bool.false_eq_true, if_true, if_false]
    · exact Nat.xor_assoc _ _ _
    · rw [Nat.xor_assoc, Nat.xor_comm q, ← Nat.xor_assoc]
    · exact (xor4 _ _ _).symm
theorem rm_xor (a b c : Nat) : rm a (b ^^^ c) = rm a b ^^^ rm a c := by
  unfold rm
  rw [cl_xor, red_xor]
  exact Nat.xor_mod_two_pow (n := 8)
theorem rm_chk : (List.range 256).all (fun a => rm a 0 == 0 && (List.range 8).all fun i => rm a (2 ^ i) == gmul a (2 ^ i)) = true := by decide +kernel
theorem rm_eq {a b : Nat} (ha : a < 256) (hb : b < 256) : rm a b = gmul a b := by
  have h := List.all_eq_true.1 rm_chk a (List.mem_range.2 ha)
  rw [Bool.and_eq_true] at h
  have h2 := List.all_eq_true.1 h.2
  refine bits_of b hb (fun x => rm a x = gmul a x) ?_ (fun i hi => ?_) (fun x y hx hy e1 e2 => ?_)
  · rw [gmul_zero]; simpa using h.1
  · simpa using h2 i (List.mem_range.2 hi)
  · rw [rm_xor, gmul_xor, e1, e2]
end Go.Proofs.Ytmlfpcnemganbaa.Gf
namespace Go.Proofs.Ytmlfpcnemganbaa.Q
open Go.RowKit Go.Proofs.YtmlfpcnemganbaaW.PrintWords Go.Proofs.YtmlfpcnemganbaaW.PrintLast Go.Proofs.YtmlfpcnemganbaaW.PrintMore
open Go.Proofs.Ytmlfpcnemganbaa.Gf Go.Proofs.Ytmlfpcnemganbaa.Lin Go.Proofs.Ytmlfpcnemganbaa.Evs
set_option linter.unusedVariables false
set_option linter.unnecessarySimpa false
theorem and1_i64 {a : Nat} (ha : a < 9223372036854775808) : Go.bits .and .i64 (a : Int) 1 = ((a % 2 : Nat) : Int) := by
  show IntKind.i64.wrap ((BitVec.ofInt 64 (a : Int) &&& BitVec.ofInt 64 ((1 : Nat) : Int)).toNat : Int) = _
  rw [BitVec.toNat_and, ofInt_u64 a (by omega), ofInt_u64 1 (by omega), IntKind.wrap_i64, Nat.and_one_is_mod]
  omega
theorem shr_nat {a n : Nat} (hn : n ≤ 64) : shr .i64 (a : Int) (n : Int) = ((a / 2 ^ n : Nat) : Int) := by
  unfold shr
  rw [Int.toNat_natCast, Nat.min_eq_left (by show n ≤ 64; exact hn)]
  push_cast
  rfl
theorem shl_nat {a n : Nat} (hn : n ≤ 64) (h : a * 2 ^ n < 9223372036854775808) : shl .i64 (a : Int) (n : Int) = ((a * 2 ^ n : Nat) : Int) := by
  unfold shl
  rw [Int.toNat_natCast, Nat.min_eq_left (by show n ≤ 64; exact hn), show ((a : Int) * 2 ^ n) = ((a * 2 ^ n : Nat) : Int) by push_cast; rfl, IntKind.wrap_i64]
  generalize a * 2 ^ n = m at h ⊢
  omega
theorem bit_test {a n : Nat} (ha : a < 9223372036854775808) (hn : n ≤ 64) : (Go.bits .and .i64 (shr .i64 (a : Int) (n : Int)) 1 = 1) = (a.testBit n = true) := by
  have h2 : a / 2 ^ n ≤ a := Nat.div_le_self _ _
  rw [shr_nat hn, and1_i64 (by omega), Nat.testBit_eq_decide_div_mod_eq, decide_eq_true_eq]
  generalize a / 2 ^ n % 2 = m
  exact propext ⟨fun h => by omega, fun h => by omega⟩
theorem cl_lt {a b : Nat} (ha : a < 256) : ∀ {n : Nat}, n ≤ 8 → cl a b n < 65536
  | 0, _ => by unfold cl; omega
  | n + 1, h => by
    have ih := cl_lt (b := b) ha (n := n) (by omega)
    have h2 : a * 2 ^ n < 65536 := by
      have : 2 ^ n ≤ 2 ^ 7 := Nat.pow_le_pow_right (by omega) (by omega)
      calc a * 2 ^ n ≤ a * 2 ^ 7 := Nat.mul_le_mul_left _ this
        _ < 65536 := by omega
    unfold cl
    split
    · exact Nat.xor_lt_two_pow (n := 16) ih h2
    · exact ih
theorem rmul1_ev : ∀ (n p : Nat), n ≤ 8 → p < 65536 → Ev (fun k => tapearchiveref05_mul.l1 k (p : Int) ((n + 7 : Nat) : Int)) ((red n p % 256 : Nat) : Int)
  | 0, p, _, hp => by
    refine Ev.step (fun k => by simp only [tapearchiveref05_mul.l1]; rfl) (Ev.neg (by omega) (Ev.val ?_))
    unfold red
    congr 1
  | n + 1, p, hn, hp => by
    refine Ev.step (fun k => by simp only [tapearchiveref05_mul.l1]; rfl) (Ev.pos (by omega) (Ev.pos (by omega) ?_))
    have e : ((n + 1 + 7 : Nat) : Int) = ((n + 8 : Nat) : Int) := by omega
    have e2 : wrap64 (((n + 1 + 7 : Nat) : Int) - 1) = ((n + 7 : Nat) : Int) := by unfold wrap64; omega
    have e3 : wrap64 (((n + 1 + 7 : Nat) : Int) - 8) = (n : Int) := by unfold wrap64; omega
    have h2 : 285 * 2 ^ n < 65536 := by
      have : 2 ^ n ≤ 2 ^ 7 := Nat.pow_le_pow_right (by omega) (by omega)
      calc 285 * 2 ^ n ≤ 285 * 2 ^ 7 := Nat.mul_le_mul_left _ this
        _ < 65536 := by omega
    rw [e2, e3, e]
    clear e e2 e3
    unfold red
    by_cases hb : p.testBit (n + 8) = true
    · rw [if_pos hb]
      refine Ev.pos (by rw [bit_test (by omega) (by omega)]; exact hb) (Ev.pos (by omega) ?_)
      rw [show (285 : Int) = ((285 : Nat) : Int) from rfl, shl_nat (by omega) (by omega), i64_xor_nat (by omega) (by omega)]
      exact rmul1_ev n _ (by omega) (Nat.xor_lt_two_pow (n := 16) hp h2)
    · rw [if_neg hb]
      exact Ev.neg (by rw [bit_test (by omega) (by omega)]; exact hb) (rmul1_ev n p (by omega) hp)
theorem rmul0_ev {a b : Nat} (ha : a < 256) (hb : b < 256) : ∀ (d i : Nat), i + d = 8 → Ev (fun k => tapearchiveref05_mul.l0 k (a : Int) (b : Int) ((cl a b i : Nat) : Int) (i : Int)) ((rm a b : Nat) : Int)
  | 0, i, hi => by
    have e : i = 8 := by omega
    subst e
    exact Ev.step (fun k => by simp only [tapearchiveref05_mul.l0]; rfl) (Ev.neg (by omega) (rmul1_ev 8 _ (by omega) (cl_lt ha (by omega))))
  | d + 1, i, hi => by
    refine Ev.step (fun k => by simp only [tapearchiveref05_mul.l0]; rfl) (Ev.pos (by omega) (Ev.pos (by omega) ?_))
    have e2 : wrap64 ((i : Int) + 1) = ((i + 1 : Nat) : Int) := by unfold wrap64; omega
    have h1 := cl_lt (b := b) ha (n := i) (by omega)
    have h2 : a * 2 ^ i < 65536 := by
      have : 2 ^ i ≤ 2 ^ 7 := Nat.pow_le_pow_right (by omega) (by omega)
      calc a * 2 ^ i ≤ a * 2 ^ 7 := Nat.mul_le_mul_left _ this
        _ < 65536 := by omega
    have ih := rmul0_ev ha hb d (i + 1) (by omega)
    rw [e2]
    clear e2
    by_cases hbi : b.testBit i = true
    · refine Ev.pos (by rw [bit_test (by omega) (by omega)]; exact hbi) ?_
      rw [shl_nat (by omega) (by omega), i64_xor_nat (by omega) (by omega)]
      have e : cl a b (i + 1) = cl a b i ^^^ a * 2 ^ i := by show (if b.testBit i then _ else _) = _; rw [if_pos hbi]
      rwa [e] at ih
    · refine Ev.neg (by rw [bit_test (by omega) (by omega)]; exact hbi) ?_
      have e : cl a b (i + 1) = cl a b i := by show (if b.testBit i then _ else _) = _; rw [if_neg hbi]
      rwa [e] at ih
theorem rmul_ev (x y : GF) : Ev (fun k => tapearchiveref05_mul.f k (x.v : Int) (y.v : Int)) ((x * y).v : Int) := by
  have hx := x.h
  have hy := y.h
  unfold tapearchiveref05_mul.f
  have e1 : wrap64 (x.v : Int) = (x.v : Int) := by unfold wrap64; omega
  have e2 : wrap64 (y.v : Int) = (y.v : Int) := by unfold wrap64; omega
  rw [e1, e2]
  clear e1 e2
  have h := rmul0_ev hx hy 8 0 (by omega)
  rw [rm_eq hx hy] at h
  exact h
def powG (x : GF) (n : Nat) : GF := ⟨gpow x.v n, gpow_lt x.h n⟩
theorem rinv_loop (x : GF) : ∀ (d i : Nat), i + d = 254 → Ev (fun k => tapearchiveref05_inverse.l0 k (x.v : Int) ((powG x i).v : Int) (i : Int)) ((powG x 254).v : Int)
  | 0, i, hi => by
    have e : i = 254 := by omega
    subst e
    exact Ev.step (fun k => by simp only [tapearchiveref05_inverse.l0]; rfl) (Ev.neg (by omega) (Ev.now _))
  | d + 1, i, hi => by
    have e2 : wrap64 ((i : Int) + 1) = ((i + 1 : Nat) : Int) := by unfold wrap64; omega
    refine Ev.step (fun k => by simp only [tapearchiveref05_inverse.l0]; rfl) (Ev.pos (by omega) (Ev.bind (rmul_ev (powG x i) x) ?_))
    rw [e2]
    exact rinv_loop x d (i + 1) (by omega)
theorem pow254 {x : GF} (h : x ≠ 0) : powG x 254 = inv x := by
  apply GF.ext_
  rw [inv_v]
  have h0 := ne_v h
  refine ginv_unique x.h (gpow_lt x.h _) h0 ?_
  have h1 : gpow x.v 255 = gmul (gpow x.v 1) (gpow x.v 254) := gpow_add x.h 1 254
  have h2 : gpow x.v 1 = x.v := by
    show gmul 1 x.v = x.v
    exact one_gmul x.h
  rw [h2] at h1
  show gmul x.v (gpow x.v 254) = 1
  rw [← h1, gpow_lg x.h h0, Nat.mod_self, Nat.mul_zero, Nat.zero_mod]
  rfl
theorem rinv_ev {x : GF} (h : x ≠ 0) : Ev (fun k => tapearchiveref05_inverse.f k (x.v : Int)) ((inv x).v : Int) := by
  rw [← pow254 h]
  exact rinv_loop x 254 0 (by omega)
theorem rd_L1_get {l : List (List Int)} {i : Nat} (h : i < l.length) : rd_L1 l (i : Int) = l[i] := by
  unfold rd_L1
  rw [Int.toNat_natCast, List.getD_eq_getElem?_getD, List.getElem?_eq_getElem h]
  rfl
theorem bytes_wf {r : List Int} (h : ∀ x ∈ r, (Lit.int .u8 x).wf = true) : Bytes r := fun x hx => by
  obtain ⟨a, rfl, ha⟩ := byte_of (h x hx)
  exact ⟨by omega, by omega⟩
theorem allB_wf {l : List (List Int)} (h : ∀ r ∈ l, r.length ≤ maxLen ∧ ∀ x ∈ r, (Lit.int .u8 x).wf = true) : AllB l := fun r hr => bytes_wf (h r hr).2
theorem wid_rd (l : List (List Int)) : rd_L1 l 0 = l.getD 0 [] := by
  unfold rd_L1
  rfl
theorem rvalid_loop {l : List (List Int)} (h1 : 1 ≤ l.length) (h2 : l.length ≤ 64) : ∀ (d i : Nat), i + d = l.length → (∀ k (hk : k < l.length), k < i → l[k].length = wid l ∧ 1 ≤ wid l ∧ wid l ≤ 64) → Ev (fun k => tapearchiveref05_Valid.l0 k l (i : Int)) (decide (isV l))
  | 0, i, hi, hn => by
    refine Ev.step (fun k => by simp only [tapearchiveref05_Valid.l0]; rfl) (Ev.neg (by omega) (Ev.val ?_))
    rw [decide_eq_true]
    refine ⟨⟨h1, h2⟩, (hn 0 (by omega) (by omega)).2, fun r hr => ?_⟩
    obtain ⟨k, hk, rfl⟩ := List.getElem_of_mem hr
    exact (hn k hk (by omega)).1
  | d + 1, i, hi, hn => by
    have hil : i < l.length := by omega
    have hw : ((rd_L1 l 0).length : Int) = (wid l : Int) := by rw [wid_rd]; rfl
    refine Ev.step (fun k => by simp only [tapearchiveref05_Valid.l0]; rfl) (Ev.pos (by omega) (Ev.pos (by omega) (Ev.pos (by omega) ?_)))
    rw [rd_L1_get hil, hw]
    by_cases c1 : ((l[i].length : Nat) : Int) = (wid l : Int)
    rotate_left
    · refine Ev.neg c1 (Ev.val ?_)
      rw [decide_eq_false]
      intro hv
      have := hv.2.2 _ (List.getElem_mem hil)
      omega
    refine Ev.pos c1 ?_
    by_cases c2 : ((l[i].length : Nat) : Int) < 1
    · refine Ev.pos c2 (Ev.val ?_)
      rw [decide_eq_false]
      intro hv
      have := hv.2.1.1
      omega
    refine Ev.neg c2 ?_
    by_cases c3 : ((l[i].length : Nat) : Int) > 64
    · refine Ev.pos c3 (Ev.val ?_)
      rw [decide_eq_false]
      intro hv
      have := hv.2.1.2
      omega
    refine Ev.neg c3 ?_
    rw [w_succ (by omega)]
    refine rvalid_loop h1 h2 d (i + 1) (by omega) fun k hk hki => ?_
    by_cases e : k = i
    · subst e; exact ⟨by omega, by omega, by omega⟩
    · exact hn k hk (by omega)
theorem rvalid_ev (l : List (List Int)) : Ev (fun k => tapearchiveref05_Valid.f k l) (decide (isV l)) := by
  have out : ∀ c : Bool, c = true → ¬ isV l → Ev (fun k => tapearchiveref05_Valid.j0 k l c) (decide (isV l)) := fun c hc hv => by
    rw [hc, decide_eq_false hv]
    exact Ev.step (fun k => by simp only [tapearchiveref05_Valid.j0]; rfl) (Ev.pos (by trivial) (Ev.now _))
  unfold tapearchiveref05_Valid.f
  by_cases c1 : ((l.length : Nat) : Int) < 1
  · exact Ev.pos c1 (out true rfl fun hv => by have := hv.1.1; omega)
  refine Ev.neg c1 ?_
  by_cases c2 : ((l.length : Nat) : Int) > 64
  · exact out _ (decide_eq_true c2) fun hv => by have := hv.1.2; omega
  rw [decide_eq_false c2]
  exact Ev.step (fun k => by simp only [tapearchiveref05_Valid.j0]; rfl) (Ev.neg (by decide) (rvalid_loop (by omega) (by omega) l.length 0 (by omega) fun k _ hk => absurd hk (by omega)))
theorem snoc_ (M : Mat) (i C : Nat) : rowsL M i C ++ [rowV M i C] = rowsL M (i + 1) C := by
  unfold rowsL
  rw [List.range_succ, List.map_append]
  rfl
end Go.Proofs.Ytmlfpcnemganbaa.Q
/- The reference's reduce: the same as matrix.reduce. -/
namespace Go.Proofs.Ytmlfpcnemganbaa.Q
open Go.RowKit Go.Proofs.YtmlfpcnemganbaaW.PrintWords Go.Proofs.YtmlfpcnemganbaaW.PrintLast Go.Proofs.YtmlfpcnemganbaaW.PrintMore
open Go.Proofs.Ytmlfpcnemganbaa.Gf Go.Proofs.Ytmlfpcnemganbaa.Lin Go.Proofs.Ytmlfpcnemganbaa.Evs
set_option linter.unusedVariables false
set_option linter.unnecessarySimpa false
theorem rmul_calls (x y : GF) (w : World) : Calls Try.prog 68 #[.int .u8 (x.v : Int), .int .u8 (y.v : Int)] w fun e w' => e = .returned (.int .u8 ((x * y).v : Int)) ∧ ∃ n, w' = w.drewN n := by
  obtain ⟨k, hk⟩ := Ev.rounds (rmul_ev x y)
  exact (tapearchiveref05_mul.calls k _ _ _ w hk).mono fun e w' ⟨he, hd⟩ => ⟨he, hd.out⟩
theorem rinv_calls (x : GF) (h : x ≠ 0) (w : World) : Calls Try.prog 67 #[.int .u8 (x.v : Int)] w fun e w' => e = .returned (.int .u8 ((inv x).v : Int)) ∧ ∃ n, w' = w.drewN n := by
  obtain ⟨k, hk⟩ := Ev.rounds (rinv_ev h)
  exact (tapearchiveref05_inverse.calls k _ _ w hk).mono fun e w' ⟨he, hd⟩ => ⟨he, hd.out⟩
theorem swapF_comm (A : Mat) (r i : Nat) : swapF A i r = swapF A r i := by
  funext k
  unfold swapF
  by_cases h1 : k = i
  · rw [if_pos h1]
    by_cases h2 : k = r
    · rw [if_pos h2, ← h1, h2]
    · rw [if_neg h2, if_pos h1]
  · rw [if_neg h1, if_neg h1]
/-- A row to which a multiple of another one is added, as far as k. -/
def addK (M : Mat) (i r : Nat) (f : GF) (k : Nat) : Mat := fun a c => if a = i ∧ c < k then M a c + f * M r c else M a c
theorem addK_zero (M : Mat) (i r : Nat) (f : GF) : addK M i r f 0 = M := by
  funext a c
  unfold addK
  rw [if_neg (by omega)]
theorem addK_full (M : Mat) (i r : Nat) (f : GF) (N C : Nat) : ∀ a, a < N → ∀ c, c < C → addK M i r f C a c = addM M i r f a c := fun a _ c hc => by
  unfold addK addM
  by_cases h : a = i
  · rw [if_pos h, if_pos ⟨h, hc⟩, h]
  · rw [if_neg h, if_neg (fun h2 => h h2.1)]
theorem addK_src {M : Mat} {i r : Nat} (f : GF) (k : Nat) (h : i ≠ r) (c : Nat) : addK M i r f k r c = M r c := by
  unfold addK
  rw [if_neg (fun h2 => h h2.1.symm)]
theorem addK_at (M : Mat) (i r : Nat) (f : GF) (k : Nat) : addK M i r f k i k = M i k := by
  unfold addK
  rw [if_neg (by omega)]
theorem addK_step (M : Mat) (i r : Nat) (f : GF) (k : Nat) : updM (addK M i r f k) i k (M i k + f * M r k) = addK M i r f (k + 1) := by
  funext a c
  unfold updM addK
  by_cases h1 : a = i
  · rw [if_pos h1]
    by_cases h2 : c = k
    · rw [if_pos h2, if_pos ⟨h1, by omega⟩, h1, h2]
    · rw [if_neg h2]
      by_cases h3 : c < k
      · rw [if_pos ⟨h1, h3⟩, if_pos ⟨h1, by omega⟩]
      · rw [if_neg (by omega), if_neg (by omega)]
  · rw [if_neg h1, if_neg (fun h => h1 h.1), if_neg (fun h => h1 h.1)]
set_option maxRecDepth 100000 in
set_option maxHeartbeats 4000000 in
theorem rreduce_walk {N C cols : Nat} (hN : N ≤ 1000) (hC : C ≤ 1000) (hcols : cols ≤ C) (M : Mat) (w : World) (B G cap : Nat) (g0 cp0 : Nat → Nat) (hM : MatO w B G cap g0 cp0 N C M) :
    Calls Try.prog 65 #[.slice (some ⟨G, 0, none⟩) N cap, .int .i64 (cols : Nat)] w (RedPost B G cap N C cols M w) := by
  have hW0 : Aside0 (Below B w w) := ⟨Below.refl _ _⟩
  have HM0 := Aside0.mk hM
  have hcap := Lib.hid (own_cap hM.outer)
  clear hM
  go_enter Try.func65, Try.ntmps65
  go_wp2
  go_loopg [5, 6] (cols + 1) (fun kq v5 v6 W => ∃ (r j : Nat) (A : Mat) (g cp : Nat → Nat), Hid (kq + j = cols + 1) ∧ j ≤ cols ∧ r ≤ N ∧ v5 = .int .i64 (r : Nat) ∧ v6 = .int .i64 (j : Nat) ∧ Hid (redF N A r j (cols - j) = redF N M 0 0 cols) ∧ Aside0 (MatO W B G cap g cp N C A) ∧ Aside0 (Below B w W))
  case atStart => exact ⟨0, 0, M, g0, cp0, Lib.hid (by omega), by omega, by omega, rfl, rfl, Lib.hid rfl, HM0, hW0⟩
  case round =>
    clear HM0 hW0
    obtain ⟨r, j, A, g, cp, HK, hj, hr, rfl, rfl, HR, HM, HB⟩ := hrel
    by_cases hjc : j < cols
    · have hj1 : decide ((j : Int) < (cols : Int)) = true := decide_eq_true (by omega)
      have hj2 : decide (j < cols) = true := decide_eq_true hjc
      by_cases hrN : r < N
      · have hr1 : decide ((r : Int) < (N : Int)) = true := decide_eq_true (by omega)
        have hr2 : decide (r < N) = true := decide_eq_true hrN
        go_wp2
        go_loopg [7] (N + 1 - r) (fun kq2 v7 W => ∃ i : Nat, Hid (kq2 + i = N + 1) ∧ r ≤ i ∧ i ≤ N ∧ v7 = .int .i64 (i : Nat) ∧ Hid (∀ k, r ≤ k → k < i → A k j = 0) ∧ Aside0 (MatO W B G cap g cp N C A) ∧ Aside0 (Below B w W))
        case atStart => exact ⟨r, Lib.hid (by omega), Nat.le_refl _, hr, rfl, Lib.hid (fun k h1 h2 => absurd h2 (by omega)), HM, HB⟩
        case round =>
          clear HM HB
          obtain ⟨i, HK2, hri, hiN, rfl, HZ, HM, HB⟩ := hrel
          by_cases hi : i < N
          · have hi1 : decide ((i : Int) < (N : Int)) = true := decide_eq_true (by omega)
            have hi2 : decide (i < N) = true := decide_eq_true hi
            have hi3 : ((i : Int) == (N : Int)) = false := beq_eq_false_iff_ne.2 (by omega)
            have hi4 : (i == N) = false := beq_eq_false_iff_ne.2 (by omega)
            have hi5 : (i : Int) < (N : Int) := by omega
            have hr5 : (r : Int) < (N : Int) := by omega
            have hjC : j < C := by omega
            have hjC1 : (j : Int) < (C : Int) := by omega
            obtain ⟨e1, e2⟩ := HM.out.outerCell hi
            obtain ⟨e3, e4⟩ := HM.out.elt hi hjC
            by_cases h0 : A i j = 0
            · rw [h0] at e3
              rw [zero_v] at e3
              have HZ2 : Hid (∀ k, r ≤ k → k < i + 1 → A k j = 0) := Lib.hid fun k h1 h2 => by
                by_cases e : k = i
                · rw [e]; exact h0
                · exact HZ.out k h1 (by omega)
              clear h0
              go_wp2
              go_roundg (N + 1 - (i + 1))
              case measure => have := HK2.out; omega
              case rel => exact ⟨i + 1, Lib.hid (by have := HK2.out; omega), by omega, by omega, by go_num, HZ2, HM, HB⟩
            · have hv := ne_v h0
              have hn1 : (((A i j).v : Int) == 0) = false := beq_eq_false_iff_ne.2 (by omega)
              have hn2 : (((A i j).v : Int) != 0) = true := by simp only [bne, hn1]; rfl
              obtain ⟨e5, e6⟩ := HM.out.outerCell hrN
              have H0 := Lib.hid h0
              have HRI := Lib.hid hri
              have hs1 : (wr.setCell ⟨G, i, none⟩ (.slice (some ⟨g r, 0, none⟩) C (cp r))).cell? ⟨G, r, none⟩ = some (.slice (some ⟨g r, 0, none⟩) C (cp r)) := by
                by_cases e : r = i
                · subst e; exact World.cell?_setCell_same' _ _ _ (by rw [e1]; rfl)
                · rw [World.cell?_setCell_other _ _ _ _ (by simpa using fun h => e h.symm)]; exact e5
              have HM1 : Aside0 (MatO ((wr.setCell ⟨G, i, none⟩ (.slice (some ⟨g r, 0, none⟩) C (cp r))).setCell ⟨G, r, none⟩ (.slice (some ⟨g i, 0, none⟩) C (cp i))) B G cap (swN g i r) (swN cp i r) N C (swapF A r i)) := ⟨by
                rw [← swapF_comm]; exact HM.out.swap hi hrN⟩
              have HB1 : Aside0 (Below B w ((wr.setCell ⟨G, i, none⟩ (.slice (some ⟨g r, 0, none⟩) C (cp r))).setCell ⟨G, r, none⟩ (.slice (some ⟨g i, 0, none⟩) C (cp i)))) :=
                ⟨(HB.out.setCell (p := ⟨G, i, none⟩) (own_block HM.out.outer).1 _).setCell (p := ⟨G, r, none⟩) (own_block HM.out.outer).1 _⟩
              have H1 : Hid (swapF A r i r j ≠ 0) := Lib.hid (by unfold swapF; rw [if_pos rfl]; exact H0.out)
              have HR1 : Hid (redF N (elimF (swapF A r i) r j) (r + 1) (j + 1) (cols - (j + 1)) = redF N M 0 0 cols) := Lib.hid (by
                rw [← HR.out, show cols - j = (cols - (j + 1)) + 1 by omega, redF_some HRI.out hi HZ.out H0.out])
              have hgr : swN g i r r = g i := by unfold swN; rw [if_pos rfl]
              have hcr : swN cp i r r = cp i := by unfold swN; rw [if_pos rfl]
              obtain ⟨x3, x4⟩ := HM1.out.elt hrN hjC
              rw [hgr] at x3 x4
              clear hv h0
              go_wp2_with (first | (go_at_call 67; refine (rinv_calls (swapF A r i r j) H1.out _).mono ?_; rintro e_ W2 ⟨rfl, nd, rfl⟩))
              have HM2 := Aside0.mk (HM1.out.drewN nd)
              have HB2 := Aside0.mk (pw_below_drewN HB1.out nd)
              clear e1 e2 e3 e4 e5 e6 hs1 hn1 hn2 HM HB HR HZ H0 HM1 HB1 x3 x4
              generalize ((wr.setCell ⟨G, i, none⟩ (.slice (some ⟨g r, 0, none⟩) C (cp r))).setCell ⟨G, r, none⟩ (.slice (some ⟨g i, 0, none⟩) C (cp i))).drewN nd = W1 at HM2 HB2 ⊢
              generalize swN g i r = g1 at HM2 hgr
              generalize swN cp i r = cp1 at HM2 hcr
              generalize swapF A r i = A1 at HM2 H1 HR1 ⊢
              generalize g i = p0 at hgr ⊢
              generalize cp i = q0 at hcr ⊢
              go_loopg [10] (C + 1) (fun kq3 v10 W => ∃ k : Nat, Hid (kq3 + k = C + 1) ∧ k ≤ C ∧ v10 = .int .i64 (k : Nat) ∧ Aside0 (MatO W B G cap g1 cp1 N C (scaleK A1 r j k)) ∧ Aside0 (Below B w W))
              case atStart => exact ⟨0, Lib.hid (by omega), Nat.zero_le _, rfl, ⟨HM2.out.agree (fun i _ c _ => by unfold scaleK; rw [if_neg (fun h => absurd h.2 (by omega))])⟩, HB2⟩
              case round =>
                clear HM2 HB2
                obtain ⟨k, HK3, hkC, rfl, HM, HB⟩ := hrel
                by_cases hlt : k < C
                · obtain ⟨e3, e4⟩ := HM.out.elt hrN hlt
                  rw [hgr] at e3 e4
                  have hk1 : decide ((k : Int) < (C : Int)) = true := decide_eq_true (by omega)
                  have hk2 : decide (k < C) = true := decide_eq_true hlt
                  have hk3 : (k : Int) < (C : Int) := by omega
                  go_wp2_with (first | (go_at_call 68; refine (rmul_calls _ _ _).mono ?_; rintro e_ w_ ⟨rfl, nq, rfl⟩))
                  go_roundg (C + 1 - (k + 1))
                  case measure => have := HK3.out; omega
                  case rel =>
                    have hm := (HM.out.setElt k (scaleK A1 r j k r k * inv (A1 r j)) hrN).agree (M' := scaleK A1 r j (k + 1)) (scaleK_step A1 r j k)
                    have hb := HB.out.setCell (p := ⟨g1 r, k, none⟩) (own_block (HM.out.inner r hrN)).1 (.int .u8 ((scaleK A1 r j k r k * inv (A1 r j)).v : Int))
                    rw [hgr] at hm hb
                    exact ⟨k + 1, Lib.hid (by have := HK3.out; omega), by omega, by go_num, ⟨hm.step rfl (fun _ _ => rfl)⟩, ⟨⟨hb.os, hb.tape, hb.output, hb.size, hb.block⟩⟩⟩
                · have hk1 : decide ((k : Int) < (C : Int)) = false := decide_eq_false (by omega)
                  have hk2 : decide (k < C) = false := decide_eq_false hlt
                  have hkC2 : k = C := by omega
                  have HM3 := Aside0.mk (HM.out.agree (M' := clearK A1 r j 0) (by rw [hkC2]; exact clearK_zero A1 r j))
                  clear HM hkC2
                  go_wp2
                  go_loopg [11] (N + 1) (fun kq4 v11 W => ∃ k : Nat, Hid (kq4 + k = N + 1) ∧ k ≤ N ∧ v11 = .int .i64 (k : Nat) ∧ Aside0 (MatO W B G cap g1 cp1 N C (clearK A1 r j k)) ∧ Aside0 (Below B w W))
                  case atStart => exact ⟨0, Lib.hid (by omega), Nat.zero_le _, rfl, HM3, HB⟩
                  case round =>
                    clear HM3 HB
                    obtain ⟨k2, HK4, hkN, rfl, HM, HB⟩ := hrel
                    by_cases hkl : k2 < N
                    · have hl1 : decide ((k2 : Int) < (N : Int)) = true := decide_eq_true (by omega)
                      have hl2 : decide (k2 < N) = true := decide_eq_true hkl
                      have hl3 : (k2 : Int) < (N : Int) := by omega
                      obtain ⟨e1, e2⟩ := HM.out.outerCell hkl
                      obtain ⟨e3, e4⟩ := HM.out.elt hkl hjC
                      by_cases hkr : k2 = r
                      · have hx1 : ((k2 : Int) == (r : Int)) = true := beq_iff_eq.2 (by omega)
                        have hx2 : (k2 == r) = true := beq_iff_eq.2 hkr
                        have HM4 := Aside0.mk (HM.out.agree (clearK_skip A1 r j k2 (.inl hkr)))
                        clear HM hkr
                        go_wp2
                        go_roundg (N + 1 - (k2 + 1))
                        case measure => have := HK4.out; omega
                        case rel => exact ⟨k2 + 1, Lib.hid (by have := HK4.out; omega), by omega, by go_num, HM4, HB⟩
                      have hx1 : ((k2 : Int) == (r : Int)) = false := beq_eq_false_iff_ne.2 (by omega)
                      have hx2 : (k2 == r) = false := beq_eq_false_iff_ne.2 hkr
                      rw [clearK_col A1 r j k2 hkr] at e3
                      by_cases h0 : A1 k2 j = 0
                      · rw [h0, zero_v] at e3
                        have HM4 := Aside0.mk (HM.out.agree (clearK_skip A1 r j k2 (.inr h0)))
                        clear HM hkr h0
                        go_wp2
                        go_roundg (N + 1 - (k2 + 1))
                        case measure => have := HK4.out; omega
                        case rel => exact ⟨k2 + 1, Lib.hid (by have := HK4.out; omega), by omega, by go_num, HM4, HB⟩
                      · have hv := ne_v h0
                        have hn1 : (((A1 k2 j).v : Int) == 0) = false := beq_eq_false_iff_ne.2 (by omega)
                        have HKR := Lib.hid hkr
                        clear hv h0 hkr
                        go_wp2
                        go_loopg [13] (C + 1) (fun kq5 v13 W => ∃ c : Nat, Hid (kq5 + c = C + 1) ∧ c ≤ C ∧ v13 = .int .i64 (c : Nat) ∧ Aside0 (MatO W B G cap g1 cp1 N C (addK (clearK A1 r j k2) k2 r (A1 k2 j) c)) ∧ Aside0 (Below B w W))
                        case atStart => exact ⟨0, Lib.hid (by omega), Nat.zero_le _, rfl, ⟨by rw [addK_zero]; exact HM.out⟩, HB⟩
                        case round =>
                          clear HM HB e1 e2 e3 e4
                          obtain ⟨c, HK5, hcC, rfl, HM, HB⟩ := hrel
                          by_cases hlc : c < C
                          · have hc1 : decide ((c : Int) < (C : Int)) = true := decide_eq_true (by omega)
                            have hc2 : decide (c < C) = true := decide_eq_true hlc
                            have hc3 : (c : Int) < (C : Int) := by omega
                            obtain ⟨e1, e2⟩ := HM.out.outerCell hkl
                            obtain ⟨e3, e4⟩ := HM.out.elt hkl hlc
                            obtain ⟨e5, e6⟩ := HM.out.elt hrN hlc
                            rw [hgr] at e5 e6
                            rw [addK_at] at e3
                            rw [addK_src _ _ HKR.out] at e5
                            go_wp2
                            go_region_law (go_simp; go_at_call 68; refine (rmul_calls (A1 k2 j) (clearK A1 r j k2 r c) _).mono ?_; rintro e_ w_ ⟨rfl, nq, rfl⟩)
                            all_goals (
                              rw [xor_u8 (clearK A1 r j k2 k2 c).h (A1 k2 j * clearK A1 r j k2 r c).h]
                              go_wp2
                              go_roundg (C + 1 - (c + 1))
                              case measure => have := HK5.out; omega
                              case rel =>
                                have hm := HM.out.setElt c (clearK A1 r j k2 k2 c + A1 k2 j * clearK A1 r j k2 r c) hkl
                                have hb := HB.out.setCell (p := ⟨g1 k2, c, none⟩) (own_block (HM.out.inner k2 hkl)).1 (.int .u8 ((clearK A1 r j k2 k2 c + A1 k2 j * clearK A1 r j k2 r c).v : Int))
                                rw [addK_step] at hm
                                exact ⟨c + 1, Lib.hid (by have := HK5.out; omega), by omega, by go_num, ⟨hm.step rfl (fun _ _ => rfl)⟩, ⟨⟨hb.os, hb.tape, hb.output, hb.size, hb.block⟩⟩⟩)
                          · have hc1 : decide ((c : Int) < (C : Int)) = false := decide_eq_false (by omega)
                            have hc2 : decide (c < C) = false := decide_eq_false hlc
                            have hcC2 : c = C := by omega
                            have HM4 := Aside0.mk ((HM.out.agree (by rw [hcC2]; exact addK_full _ _ _ _ N C)).agree (clearK_add A1 r j k2 HKR.out))
                            clear HM hcC2
                            go_wp2
                            go_roundg (N + 1 - (k2 + 1))
                            case measure => have := HK4.out; omega
                            case rel => exact ⟨k2 + 1, Lib.hid (by have := HK4.out; omega), by omega, by go_num, HM4, HB⟩
                    · have hl1 : decide ((k2 : Int) < (N : Int)) = false := decide_eq_false (by omega)
                      have hl2 : decide (k2 < N) = false := decide_eq_false hkl
                      have hkN2 : k2 = N := by omega
                      have HM4 := Aside0.mk (HM.out.agree (M' := elimF A1 r j) (by rw [hkN2]; exact clearK_full A1 r j N))
                      clear HM hkN2
                      go_wp2
                      go_roundg (cols + 1 - (j + 1))
                      case measure => have := HK.out; omega
                      case rel => exact ⟨r + 1, j + 1, _, g1, cp1, Lib.hid (by have := HK.out; omega), by omega, by omega, by go_num, by go_num, HR1, HM4, HB⟩
          · have hi1 : decide ((i : Int) < (N : Int)) = false := decide_eq_false (by omega)
            have hi2 : decide (i < N) = false := decide_eq_false hi
            have hiN2 : i = N := by omega
            have hi3 : ((i : Int) == (N : Int)) = true := beq_iff_eq.2 (by omega)
            have hi4 : (i == N) = true := beq_iff_eq.2 hiN2
            have HIN := Lib.hid hiN2
            clear hiN2
            go_wp2
            go_roundg (cols + 1 - (j + 1))
            case measure => have := HK.out; omega
            case rel =>
              have hi := HIN.out
              refine ⟨r, j + 1, A, g, cp, Lib.hid (by have := HK.out; omega), by omega, hr, rfl, by go_num, Lib.hid ?_, HM, HB⟩
              rw [← HR.out, show cols - j = (cols - (j + 1)) + 1 by omega, redF_none (by omega) (fun k h1 h2 => HZ.out k h1 (by omega))]
      · have hr1 : decide ((r : Int) < (N : Int)) = false := decide_eq_false (by omega)
        have hr2 : decide (r < N) = false := decide_eq_false hrN
        go_wp2
        go_ret
        have hrn : r = N := by omega
        subst hrn
        have e := HR.out
        rw [redF_full] at e
        have e1 : rankF r cols M = r := by unfold rankF; rw [← e]
        have e2 : formF r cols M = A := by unfold formF; rw [← e]
        exact ⟨by rw [e1]; rfl, g, cp, by rw [e2]; exact HM.out, HB.out⟩
    · have hj1 : decide ((j : Int) < (cols : Int)) = false := decide_eq_false (by omega)
      have hj2 : decide (j < cols) = false := decide_eq_false hjc
      go_wp2
      go_ret
      have e : j = cols := by omega
      subst e
      have e := HR.out
      rw [Nat.sub_self, redF_zero] at e
      have e1 : rankF N j M = r := by unfold rankF; rw [← e]
      have e2 : formF N j M = A := by unfold formF; rw [← e]
      exact ⟨by rw [e1]; rfl, g, cp, by rw [e2]; exact HM.out, HB.out⟩
end Go.Proofs.Ytmlfpcnemganbaa.Q
/- The reference's Rank. -/
namespace Go.Proofs.Ytmlfpcnemganbaa.Q
open Go.RowKit Go.Proofs.YtmlfpcnemganbaaW.PrintWords Go.Proofs.YtmlfpcnemganbaaW.PrintLast Go.Proofs.YtmlfpcnemganbaaW.PrintMore
open Go.Proofs.Ytmlfpcnemganbaa.Gf Go.Proofs.Ytmlfpcnemganbaa.Lin Go.Proofs.Ytmlfpcnemganbaa.Evs
set_option linter.unusedVariables false
set_option linter.unnecessarySimpa false
def padF (C : Nat) (M : Mat) : Mat := fun i c => if c < C then M i c else 0
theorem pad_row (M : Mat) (i C m : Nat) : rowV M i C ++ List.replicate m 0 = rowV (padF C M) i (C + m) := by
  apply List.ext_getElem?
  intro c
  by_cases hc : c < C
  · rw [List.getElem?_append_left (by rw [rowV_length]; exact hc)]
    unfold rowV padF
    rw [List.getElem?_map, List.getElem?_range hc, List.getElem?_map, List.getElem?_range (by omega), Option.map_some, Option.map_some, if_pos hc]
  · rw [List.getElem?_append_right (by rw [rowV_length]; omega), rowV_length]
    by_cases hc2 : c < C + m
    · unfold rowV padF
      rw [List.getElem?_replicate, if_pos (by omega), List.getElem?_map, List.getElem?_range hc2, Option.map_some, if_neg hc, zero_v]
      rfl
    · rw [List.getElem?_eq_none (by simp; omega), List.getElem?_eq_none (by rw [rowV_length]; omega)]
theorem rcopied_loop {N C m : Nat} {M : Mat} (hN : N ≤ 64) (hC : C ≤ 64) (hm : m ≤ 64) : ∀ (d i : Nat), i + d = N → Ev (fun k => tapearchiveref05_copied.l0 k (rowsL M N C) (m : Int) (rowsL (padF C M) i (C + m)) (i : Int)) (rowsL (padF C M) N (C + m))
  | 0, i, hi => by
    have ha := rowsL_length M N C
    have e : i = N := by omega
    subst e
    exact Ev.step (fun k => by simp only [tapearchiveref05_copied.l0]; rfl) (Ev.neg (by omega) (Ev.now _))
  | d + 1, i, hi => by
    have ha := rowsL_length M N C
    have hb := rowsL_length (padF C M) i (C + m)
    have hr := rowV_length M i C
    have e1 : rd_L1 (rowsL M N C) (i : Int) = rowV M i C := rd_rows (by omega)
    refine Ev.step (fun k => by simp only [tapearchiveref05_copied.l0]; rfl) (Ev.pos (by omega) (Ev.call rfl (Ev.pos (by omega) ?_)))
    rw [e1]
    refine Ev.pos (by rw [List.length_nil]; omega) (Ev.call rfl (Ev.pos (by omega) (Ev.pos (by rw [List.nil_append]; omega) (Ev.pos (by omega) ?_))))
    rw [Int.toNat_natCast, List.nil_append, pad_row, snoc_, w_succ (by omega)]
    exact rcopied_loop hN hC hm d (i + 1) (by omega)
theorem rcopied_calls {N C m : Nat} {M : Mat} (h1 : 1 ≤ N) (h2 : N ≤ 64) (h3 : 1 ≤ C) (h4 : C ≤ 64) (hm : m ≤ 64) (A0 : Option Addr) (c0 : Nat) (w : World) (hC : Kd.C (Kd.slice 5 (Kd.int .u8)) w A0 N (rowsL M N C)) (hc : N ≤ c0) :
    Calls Try.prog 64 #[.slice A0 N c0, .int .i64 (m : Nat)] w fun e w' => ∃ (G cap : Nat) (g cp : Nat → Nat), e = .returned (.slice (some ⟨G, 0, none⟩) N cap) ∧ MatO w' w.heap.size G cap g cp N (C + m) (padF C M) ∧ Below w.heap.size w w' := by
  obtain ⟨k, hk⟩ := Ev.rounds (rcopied_loop (M := M) h2 h4 hm N 0 (by omega))
  have h := tapearchiveref05_copied.calls k A0 c0 (rowsL M N C) (m : Int) _ w (by rw [rowsL_length]; exact hC) (by rw [rowsL_length]; exact hc) hk
  rw [rowsL_length] at h
  refine h.mono fun e w' ⟨v, he, hS, hb⟩ => ?_
  obtain ⟨G, cap, g, cp, rfl, hm⟩ := MatO.of_S hS (by omega) (by omega)
  exact ⟨G, cap, g, cp, he, hm, hb⟩
theorem rvalid_calls (A0 : Option Addr) (c0 : Nat) (l : List (List Int)) (w : World) (hC : Kd.C (Kd.slice 5 (Kd.int .u8)) w A0 l.length l) (hc : l.length ≤ c0) :
    Calls Try.prog 63 #[.slice A0 l.length c0] w fun e w' => e = .returned (.bool (decide (isV l))) ∧ ∃ n, w' = w.drewN n := by
  obtain ⟨k, hk⟩ := Ev.rounds (rvalid_ev l)
  exact (tapearchiveref05_Valid.calls k A0 c0 l _ w hC hc hk).mono fun e w' ⟨he, hd⟩ => ⟨he, hd.out⟩
theorem rvalid_calls2 {N C : Nat} {M : Mat} (h1 : 1 ≤ N) (h2 : N ≤ 64) (h3 : 1 ≤ C) (h4 : C ≤ 64) (A0 : Option Addr) (c0 : Nat) (w : World) (hC : Kd.C (Kd.slice 5 (Kd.int .u8)) w A0 N (rowsL M N C)) (hc : N ≤ c0) :
    Calls Try.prog 63 #[.slice A0 N c0] w fun e w' => e = .returned (.bool true) ∧ ∃ n, w' = w.drewN n := by
  have h := rvalid_calls A0 c0 (rowsL M N C) w (by rw [rowsL_length]; exact hC) (by rw [rowsL_length]; exact hc)
  rw [rowsL_length, decide_eq_true (isV_rowsL h1 h2 h3 h4)] at h
  exact h
end Go.Proofs.Ytmlfpcnemganbaa.Q
/- The reference's Invert. -/
namespace Go.Proofs.Ytmlfpcnemganbaa.Q
open Go.RowKit Go.Proofs.YtmlfpcnemganbaaW.PrintWords Go.Proofs.YtmlfpcnemganbaaW.PrintLast Go.Proofs.YtmlfpcnemganbaaW.PrintMore
open Go.Proofs.Ytmlfpcnemganbaa.Gf Go.Proofs.Ytmlfpcnemganbaa.Lin Go.Proofs.Ytmlfpcnemganbaa.Evs
set_option linter.unusedVariables false
set_option linter.unnecessarySimpa false
/-- The first loop: the ones behind the matrix, as far as k. -/
def onesK (n : Nat) (M : Mat) (k : Nat) : Mat := fun i c => if c < n then M i c else if i < k ∧ c = n + i then 1 else 0
theorem onesK_zero (n : Nat) (M : Mat) : onesK n M 0 = padF n M := by
  funext i c
  unfold onesK padF
  by_cases h : c < n
  · rw [if_pos h, if_pos h]
  · rw [if_neg h, if_neg h, if_neg (by omega)]
theorem onesK_step (n : Nat) (M : Mat) (k : Nat) : updM (onesK n M k) k (n + k) 1 = onesK n M (k + 1) := by
  funext i c
  unfold updM onesK
  by_cases h1 : i = k
  · rw [if_pos h1]
    by_cases h2 : c = n + k
    · rw [if_pos h2, if_neg (by omega), if_pos ⟨by omega, by omega⟩]
    · rw [if_neg h2]
      by_cases h3 : c < n
      · rw [if_pos h3, if_pos h3]
      · rw [if_neg h3, if_neg h3, if_neg (by omega), if_neg (by omega)]
  · rw [if_neg h1]
    by_cases h3 : c < n
    · rw [if_pos h3, if_pos h3]
    · rw [if_neg h3, if_neg h3]
      by_cases h4 : i < k ∧ c = n + i
      · rw [if_pos h4, if_pos ⟨by omega, h4.2⟩]
      · rw [if_neg h4, if_neg (by omega)]
theorem onesK_full (n : Nat) (M : Mat) : ∀ i, i < n → ∀ c, c < n + n → onesK n M n i c = augF n M i c := fun i hi c hc => by
  unfold onesK augF dlt
  by_cases h : c < n
  · rw [if_pos h, if_pos h]
  · rw [if_neg h, if_neg h]
    by_cases h2 : c = n + i
    · rw [if_pos ⟨hi, h2⟩, if_pos (by omega)]
    · rw [if_neg (fun h3 => h2 h3.2), if_neg (by omega)]
set_option maxRecDepth 100000 in
set_option maxHeartbeats 4000000 in
theorem rinvert_walk {n : Nat} {M : Mat} (h1 : 1 ≤ n) (h2 : n ≤ 64) (A0 : Option Addr) (c0 : Nat) (w : World) (hC : Kd.C (Kd.slice 5 (Kd.int .u8)) w A0 n (rowsL M n n)) (hc : n ≤ c0) :
    Calls Try.prog 50 #[.slice A0 n c0] w (InvPost n M w) := by
  obtain ⟨ad, A, c, rfl, hx⟩ := first_row h1 A0 w hC
  have HC := Aside0.mk hC
  clear hC
  have hn0 : (0 : Int) < (n : Int) := by omega
  have hn1 : 0 < n := by omega
  go_enter Try.func50, Try.ntmps50
  go_wp2_with (first | (go_at_call 63; refine (rvalid_calls2 h1 h2 h1 h2 _ _ _ HC.out hc).mono ?_; rintro e_ w_ ⟨rfl, nv, rfl⟩) | (go_at_call 64; refine (rcopied_calls h1 h2 h1 h2 h2 _ _ _ (Kd.C_below HC.out (pw_below_drewN (Below.refl _ _) _)) hc).mono ?_; rintro e_ w1 ⟨G, cap, g, cp, rfl, hm, hb⟩; have HM : Aside0 (MatO w1 w.heap.size G cap g cp n (n + n) (onesK n M 0)) := ⟨by rw [onesK_zero]; exact hm⟩; have HB : Aside0 (Below w.heap.size w w1) := ⟨⟨hb.os, hb.tape, hb.output, hb.size, hb.block⟩⟩; clear hm hb))
  go_loopg [6] (n + 1) (fun kq v6 W => ∃ k : Nat, Hid (kq + k = n + 1) ∧ k ≤ n ∧ v6 = .int .i64 (k : Nat) ∧ Aside0 (MatO W w.heap.size G cap g cp n (n + n) (onesK n M k)) ∧ Aside0 (Below w.heap.size w W))
  case atStart => exact ⟨0, Lib.hid (by omega), Nat.zero_le _, rfl, HM, HB⟩
  case round =>
    clear HM HB
    obtain ⟨k, HK, hkn, rfl, HM, HB⟩ := hrel
    by_cases hk : k < n
    · have hk1 : decide ((k : Int) < (n : Int)) = true := decide_eq_true (by omega)
      have hk2 : decide (k < n) = true := decide_eq_true hk
      have hk3 : (k : Int) < (n : Int) := by omega
      have hnk : n + k < n + n := by omega
      have hnk1 : ((n + k : Nat) : Int) < ((n + n : Nat) : Int) := by omega
      have hw : wrap64 ((n : Int) + (k : Int)) = ((n + k : Nat) : Int) := by unfold wrap64; omega
      have HWR := Lib.hid hw
      obtain ⟨e1, e2⟩ := HM.out.outerCell hk
      obtain ⟨e3, e4⟩ := HM.out.elt hk hnk
      clear hw
      go_wp2
      go_roundg (n + 1 - (k + 1))
      case measure => have := HK.out; omega
      case rel =>
        have hm := HM.out.setElt (x := 1) (n + k) hk
        rw [onesK_step] at hm
        exact ⟨k + 1, Lib.hid (by have := HK.out; omega), by omega, by go_num, ⟨hm⟩, ⟨HB.out.setCell (p := ⟨g k, n + k, none⟩) (own_block (HM.out.inner k hk)).1 _⟩⟩
    · have hk1 : decide ((k : Int) < (n : Int)) = false := decide_eq_false (by omega)
      have hk2 : decide (k < n) = false := decide_eq_false hk
      have hkn2 : k = n := by omega
      have HM2 : Aside0 (MatO wr w.heap.size G cap g cp n (n + n) (augF n M)) := ⟨HM.out.agree (by rw [hkn2]; exact onesK_full n M)⟩
      have hrle := (red_spec n n M).1
      clear HM hkn2
      by_cases hr : rankF n n M = n
      · have HR := Lib.hid hr
        have hd1 : decide ((n : Int) < (n : Int)) = false := decide_eq_false (by omega)
        have hd2 : decide (n < n) = false := decide_eq_false (by omega)
        clear hr hrle
        go_wp2_with (first | (go_at_call 65; refine (rreduce_walk (by omega) (by omega) (show n ≤ n + n by omega) (augF n M) _ w.heap.size G cap g cp HM2.out).mono ?_; rintro e_ w4 ⟨he4, g2, cp2, hm2, hb2⟩; rw [rank_aug, HR.out] at he4; subst he4; have HM4 := Aside0.mk hm2; have HB4 : Aside0 (Below w.heap.size w w4) := ⟨HB.out.trans hb2⟩; clear hm2 hb2) | ((with_reducible refine gate_dst (N := 44) rfl ?_); refine Kd.S_lit (Kd.slice 5 (Kd.int .u8)) _ 33 ?hg (N := 44) ?hd (xs := ([] : List (List Int))) (inner := []) (ok := fun _ => True) (okp := fun _ => True) ?hr ?hp (fun _ hk => hk) trivial (Below.refl _ _) (Nat.le_refl _) (by simp) ?_; (case hd => rfl); (case hg => rfl); (case hr => first | (go_simp; done) | (go_simp; rfl)); (case hp => exact (Reps.none _ _)); intro v5 w5 hs5 hb5 hg5 hn5; have HO5 := Aside0.mk hs5; have HB5 := Aside0.mk hb5; clear hs5 hb5 hg5 hn5))
        obtain ⟨i0, hi0, _, hsz0, _⟩ := info_parts info5
        have HM5 : Aside0 (MatO w5 w.heap.size G cap g2 cp2 n (n + n) (formF n n (augF n M))) := ⟨HM4.out.below HB5.out⟩
        have HSM : Aside0 (G < w4.heap.size ∧ ∀ i, i < n → g2 i < w4.heap.size) := ⟨(own_block HM4.out.outer).2.1, fun i hi => (own_block (HM4.out.inner i hi)).2.1⟩
        clear HM4
        go_loopg [7, 8] (n + 1) (fun kq2 v7 v8 W => ∃ k : Nat, Hid (kq2 + k = n + 1) ∧ k ≤ n ∧ v8 = .int .i64 (k : Nat) ∧ Aside0 (Kd.S (Kd.slice 5 (Kd.int .u8)) 33 W w4.heap.size (fun _ => True) v7 (rowsL (invF n M) k n)) ∧ Aside0 (MatO W w.heap.size G cap g2 cp2 n (n + n) (formF n n (augF n M))) ∧ Aside0 (Below w4.heap.size w4 W))
        case atStart => exact ⟨0, Lib.hid (by omega), Nat.zero_le _, rfl, HO5, HM5, HB5⟩
        case round =>
          clear HO5 HM5 HB5
          obtain ⟨k, HK, hkn, rfl, HO, HM, HB5⟩ := hrel
          by_cases hk : k < n
          · have hk1 : decide ((k : Int) < (n : Int)) = true := decide_eq_true (by omega)
            have hk2 : decide (k < n) = true := decide_eq_true hk
            have hk3 : (k : Int) < (n : Int) := by omega
            obtain ⟨e1, e2⟩ := HM.out.outerCell hk
            have hcp := (own_cap (HM.out.inner k hk)).1
            have hcut := cut_from (P := Try.prog) 33 5 .i64 Try.underlying33 hi0 1 hsz0 (some ⟨g2 k, 0, none⟩) (n + n) (cp2 k) (n : Int) (by omega) (by omega)
            rw [Int.toNat_natCast, if_neg (by omega), Option.map_some, Nat.mul_one, add_plain, Nat.add_sub_cancel] at hcut
            have HRW : Aside0 (Kd.C (Kd.int .u8) wr (some ⟨g2 k, n, none⟩) n (rowV (invF n M) k n)) := ⟨by
              have h := HM.out.row hk
              have h5 := Kd.C_drop (m := n) h.1 (by rw [rowV_length]; omega) h.2
              rw [if_neg (by omega), Option.map_some, show n * (Kd.int .u8).sz = n from Nat.mul_one n, add_plain, inv_row, rowV_length] at h5
              exact h5⟩
            have hsz := HB5.out.size
            have HRL := Lib.hid (rowV_length (invF n M) k n)
            have HLL := Lib.hid (rowsL_length (invF n M) k n)
            clear hcp
            go_wp2_with (first
              | ((with_reducible refine gate_dst (N := 51) rfl ?_); refine Kd.R_lit (Kd.int .u8) _ 5 ?hg (N := 51) ?hd (xs := ([] : List Int)) (inner := []) (ok := fun _ => True) (okp := fun _ => True) ?hr ?hp (fun _ hk => hk) trivial (Below.refl _ _) (Nat.le_refl _) (by simp) ?_; (case hd => rfl); (case hg => rfl); (case hr => first | (go_simp; done) | (go_simp; rfl)); (case hp => exact (Reps.none _ _)); intro v6 w6 ho6 hb6 hg6 hn6; have HO7 := Aside0.mk (Kd.S_elder' HO.out (Kd.R_base ho6) hb6); have HB6 : Aside0 (Below w4.heap.size w4 w6) := ⟨HB5.out.trans (hb6.mono hsz)⟩; have HV6 := Aside0.mk (Kd.R_lower ho6 hsz); have HN6 : Aside0 (∀ x, v6.ownBlock = some x → wr.heap.size ≤ x) := ⟨fun x hx => Kd.R_base ho6 x hx⟩; have f1 := pw_cell_below hb6 e1; have HM6 := Aside0.mk (HM.out.below hb6); have HR6 := Aside0.mk (Kd.C_below HRW.out hb6); have hs6 := hb6.size; clear ho6 hb6 hg6 hn6)
              | ((with_reducible refine gate_builtin (b := .append) (xs := #[.tmp 51, .tmp 57]) rfl ?_); at_builtin; refine Kd.R_append_rows (Kd.int .u8) (w0 := w4) w4.heap.size rfl (.tmp 51) (.tmp 57) 33 5 (.int .u8 0) 1 rfl Try.underlying33 info5 rfl (by decide) (by omega) v6 [] (rowV (invF n M) k n) _ _ _ (fun _ => True) (fun _ => False) rfl rfl ?aO ?aR (fun _ _ h => h) (fun _ h => h.elim) ?aF ?aB ?aS ?aL ?_; (case aR => exact HR6.out); (case aB => exact HB6.out); (case aF => exact (fun _ _ => trivial)); (case aO => exact HV6.out); (case aS => exact HB6.out.size); (case aL => have := HRL.out; simp; omega); intro v7 w7 ho7 hb7 hg7 hat7; rw [List.nil_append] at ho7; have HO8 := Aside0.mk (Kd.S_after (ok := (fun _ => True)) HO7.out hg7 hat7); have HB7 := Aside0.mk hb7; have HM7 : Aside0 (MatO w7 w.heap.size G cap g2 cp2 n (n + n) (formF n n (augF n M))) := ⟨HM6.out.step (hg7.block G (by have := HSM.out.1; omega) (fun e => by { have := HN6.out G e.symm; have := HSM.out.1; omega })) (fun i hi => hg7.block (g2 i) (by have := HSM.out.2 i hi; omega) (fun e => by { have := HN6.out (g2 i) e.symm; have := HSM.out.2 i hi; omega }))⟩; obtain ⟨Ao, co, eo⟩ := Kd.R_slice ho7; subst eo; have HV7 := Aside0.mk ho7; clear ho7 hb7 hg7 hat7)
              | ((with_reducible refine gate_builtin (b := .append) (xs := #[.tmp 50, .tmp 59]) rfl ?_); at_builtin; refine Kd.S_append (Kd.slice 5 (Kd.int .u8)) (w0 := w4) w4.heap.size rfl (.tmp 50) (.tmp 59) 22 33 (.slice none 0 0) 24 rfl Try.underlying22 info33 rfl (by decide) (by omega) u7 (rowsL (invF n M) k n) (rowV (invF n M) k n) [.slice Ao (rowV (invF n M) k n).length co] (fun _ => True) (fun k_ => some k_ = (.slice Ao (rowV (invF n M) k n).length co : Value).ownBlock) rfl rfl ?aP (fun k_ hk_ => ((Kd.R_mono (ok' := fun k_ => ((fun _ => True)) k_ ∧ some k_ ≠ (u7 : Value).ownBlock) (Kd.R_apart' (HV7.out) (Kd.S_typed HO8.out) (by decide)) (fun k_ hk => ⟨trivial, hk.2⟩))).1 k_ hk_.symm) ?aF ?aO ?aB ?aS ?aL ?_; (case aP => exact Kd.M_row (Kd.R_mono (Kd.R_tight rfl (Kd.R_mono (ok' := fun k_ => ((fun _ => True)) k_ ∧ some k_ ≠ (u7 : Value).ownBlock) (Kd.R_apart' (HV7.out) (Kd.S_typed HO8.out) (by decide)) (fun k_ hk => ⟨trivial, hk.2⟩))) (fun _ h_ => h_))); (case aB => exact HB7.out); (case aF => exact (fun _ _ => trivial)); (case aO => exact Kd.S_mono HO8.out (fun k_ hk => ⟨trivial, fun e_ => hk.2 e_⟩)); (case aS => exact HB7.out.size); (case aL => have := HLL.out; omega); intro v9 w9 ho9 hb9 hg9 hat9; have HM9 : Aside0 (MatO w9 w.heap.size G cap g2 cp2 n (n + n) (formF n n (augF n M))) := ⟨HM7.out.step (hg9.block G (by have := HSM.out.1; have := HB7.out.size; omega) (fun e => by { have := Kd.S_base HO8.out G e.symm; have := HSM.out.1; omega })) (fun i hi => hg9.block (g2 i) (by have := HSM.out.2 i hi; have := HB7.out.size; omega) (fun e => by { have := Kd.S_base HO8.out (g2 i) e.symm; have := HSM.out.2 i hi; omega }))⟩; have HB9 := Aside0.mk hb9; rw [snoc_] at ho9; have HO9 := Aside0.mk ho9; clear ho9 hb9 hg9 hat9))
            go_roundg (n + 1 - (k + 1))
            case measure => have := HK.out; omega
            case rel => exact ⟨k + 1, Lib.hid (by have := HK.out; omega), by omega, by go_num, HO9, HM9, HB9⟩
          · have hk1 : decide ((k : Int) < (n : Int)) = false := decide_eq_false (by omega)
            have hk2 : decide (k < n) = false := decide_eq_false hk
            have hkn2 : k = n := by omega
            subst hkn2
            go_wp2
            go_ret2
            exact ⟨by rw [if_pos HR.out]; exact ⟨_, rfl, Kd.S_lower HO.out HB4.out.size⟩, HB4.out.trans (HB5.out.mono HB4.out.size)⟩
      · have hd1 : decide (((rankF n n M : Nat) : Int) < (n : Int)) = true := decide_eq_true (by omega)
        have hd2 : decide (rankF n n M < n) = true := decide_eq_true (by omega)
        have HR := Lib.hid hr
        clear hr hrle
        go_wp2_with (first | (go_at_call 65; refine (rreduce_walk (by omega) (by omega) (show n ≤ n + n by omega) (augF n M) _ w.heap.size G cap g cp HM2.out).mono ?_; rintro e_ w4 ⟨he4, g2, cp2, hm2, hb2⟩; rw [rank_aug] at he4; subst he4; have HB4 : Aside0 (Below w.heap.size w w4) := ⟨HB.out.trans hb2⟩; clear hm2 hb2))
        go_ret2
        exact ⟨by rw [if_neg HR.out]; rfl, HB4.out⟩
set_option maxRecDepth 100000 in
set_option maxHeartbeats 4000000 in
theorem rinvert_bad {l : List (List Int)} (hv : ¬ isV l) (A0 : Option Addr) (c0 : Nat) (w : World) (hC : Kd.C (Kd.slice 5 (Kd.int .u8)) w A0 l.length l) (hc : l.length ≤ c0) :
    Calls Try.prog 50 #[.slice A0 l.length c0] w fun e w' => e = .returned (.tuple #[.slice none 0 0, .bool false]) ∧ Below w.heap.size w w' := by
  have HV := rvalid_calls A0 c0 l w hC hc
  rw [decide_eq_false hv] at HV
  have HVA := Aside0.mk HV
  clear hC HV hv
  go_enter Try.func50, Try.ntmps50
  go_wp2_with (first | (go_at_call 63; refine HVA.out.mono ?_; rintro e_ w_ ⟨rfl, nv, rfl⟩))
  go_ret2
  exact ⟨rfl, pw_below_drewN (Below.refl _ _) _⟩
set_option maxRecDepth 100000 in
set_option maxHeartbeats 4000000 in
theorem rinvert_rect {N C : Nat} {M : Mat} (h1 : 1 ≤ N) (h2 : N ≤ 64) (h3 : 1 ≤ C) (h4 : C ≤ 64) (hne : N ≠ C) (A0 : Option Addr) (c0 : Nat) (w : World) (hC : Kd.C (Kd.slice 5 (Kd.int .u8)) w A0 N (rowsL M N C)) (hc : N ≤ c0) :
    Calls Try.prog 50 #[.slice A0 N c0] w fun e w' => e = .returned (.tuple #[.slice none 0 0, .bool false]) ∧ Below w.heap.size w w' := by
  obtain ⟨ad, A, c, rfl, hx⟩ := first_row h1 A0 w hC
  have HC := Aside0.mk hC
  clear hC
  have hn0 : (0 : Int) < (N : Int) := by omega
  have hn1 : 0 < N := by omega
  have hx1 : ((N : Int) == (C : Int)) = false := beq_eq_false_iff_ne.2 (by omega)
  have hx2 : ((N : Int) != (C : Int)) = true := bne_iff_ne.2 (by omega)
  have hx3 : (N == C) = false := beq_eq_false_iff_ne.2 hne
  have hx4 : (N != C) = true := bne_iff_ne.2 hne
  clear hne
  go_enter Try.func50, Try.ntmps50
  go_wp2_with (first | (go_at_call 63; refine (rvalid_calls2 h1 h2 h3 h4 _ _ _ HC.out hc).mono ?_; rintro e_ w_ ⟨rfl, nv, rfl⟩))
  go_ret2
  exact ⟨rfl, pw_below_drewN (Below.refl _ _) _⟩
def tapearchiveref05_Invert.f (l : List (List Int)) : Option (List (List Int) × Bool) := if AllB l then some (invR l) else none
theorem tapearchiveref05_Invert.calls (A0 : Option Addr) (c0 : Nat) (l0 : List (List Int)) (r1 : List (List Int)) (r2 : Bool) (w : World) (hr0 : Kd.C (Kd.slice 5 (Kd.int .u8)) w A0 l0.length l0) (hc0 : l0.length ≤ c0) (h : tapearchiveref05_Invert.f l0 = some (r1, r2)) :
    Calls Try.prog 50 #[.slice A0 l0.length c0] w fun e w' => ∃ v0_ : Value, e = .returned (.tuple #[v0_, .bool r2]) ∧ Kd.S (Kd.slice 5 (Kd.int .u8)) 33 w' w.heap.size (fun _ => True) v0_ r1 ∧ Below w.heap.size w w' := by
  unfold tapearchiveref05_Invert.f at h
  by_cases hb : AllB l0
  · rw [if_pos hb] at h
    have h := Option.some.inj h
    unfold invR at h
    by_cases hv : isV l0
    · by_cases hsq : l0.length = wid l0
      · have hW := rinvert_walk (n := l0.length) (M := toM l0) hv.1.1 hv.1.2 A0 c0 w (by rw [← toM_rows hb (fun r hr => by rw [hv.2.2 r hr, hsq])]; exact hr0) hc0
        by_cases hr : rankF l0.length l0.length (toM l0) = l0.length
        · rw [if_pos ⟨hv, hsq, hr⟩] at h
          obtain ⟨rfl, rfl⟩ := Prod.mk.inj h
          refine hW.mono fun e w' ⟨hp, hbel⟩ => ?_
          rw [if_pos hr] at hp
          obtain ⟨v, he, hS⟩ := hp
          exact ⟨v, he, hS, hbel⟩
        · rw [if_neg (fun hh => hr hh.2.2)] at h
          obtain ⟨rfl, rfl⟩ := Prod.mk.inj h
          refine hW.mono fun e w' ⟨hp, hbel⟩ => ?_
          rw [if_neg hr] at hp
          exact ⟨_, hp, Kd.S_nil _ _ _ _ _, hbel⟩
      · rw [if_neg (fun hh => hsq hh.2.1)] at h
        obtain ⟨rfl, rfl⟩ := Prod.mk.inj h
        refine (rinvert_rect (M := toM l0) hv.1.1 hv.1.2 hv.2.1.1 hv.2.1.2 hsq A0 c0 w (by rw [← toM_rows hb hv.2.2]; exact hr0) hc0).mono fun e w' ⟨he, hbel⟩ => ⟨_, he, Kd.S_nil _ _ _ _ _, hbel⟩
    · rw [if_neg (fun hh => hv hh.1)] at h
      obtain ⟨rfl, rfl⟩ := Prod.mk.inj h
      exact (rinvert_bad hv A0 c0 w hr0 hc0).mono fun e w' ⟨he, hbel⟩ => ⟨_, he, Kd.S_nil _ _ _ _ _, hbel⟩
  · rw [if_neg hb] at h
    exact absurd h (by simp)
end Go.Proofs.Ytmlfpcnemganbaa.Q
