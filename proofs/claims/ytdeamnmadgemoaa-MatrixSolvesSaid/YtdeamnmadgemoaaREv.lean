/- What the reference's plain functions answer (layer 5): product, inverse, sameness, identity, Cauchy. -/
import Derived.Test.YtdeamnmadgemoaaQ5
import Derived.Test.YtdeamnmadgemoaaQ6
import Derived.Test.YtdeamnmadgemoaaQ4
import Derived.Test.YtdeamnmadgemoaaMEv
namespace Go.Proofs.Ytdeamnmadgemoaa.Gf
/-- Carry-less multiplication, and its reduction. -/
def cl (a b : Nat) : Nat → Nat
  | 0 => 0
  | n + 1 => if b.testBit n then cl a b n ^^^ a * 2 ^ n else cl a b n
def red : Nat → Nat → Nat
  | 0, p => p
  | n + 1, p => red n (if p.testBit (n + 8) then p ^^^ 285 * 2 ^ n else p)
def rm (a b : Nat) : Nat := red 8 (cl a b 8) % 256
theorem xor4 (a b x : Nat) : (a ^^^ x) ^^^ (b ^^^ x) = a ^^^ b := by
  rw [Nat.xor_assoc, Nat.xor_comm b x, ← Nat.xor_assoc x x b, Nat.xor_self, Nat.zero_xor]
theorem cl_xor (a b c : Nat) : ∀ n, cl a (b ^^^ c) n = cl a b n ^^^ cl a c n
  | 0 => (Nat.xor_self 0).symm
  | n + 1 => by
    unfold cl
    rw [cl_xor a b c n, Nat.testBit_xor]
    cases b.testBit n <;> cases c.testBit n <;> simp only [Bool.xor_false, Bool.xor_true, Bool.not_true, Bool.not_false, Bool.false_eq_true, if_true, if_false]
    · exact Nat.xor_assoc _ _ _
    · rw [Nat.xor_assoc, Nat.xor_comm (cl a c n), ← Nat.xor_assoc]
    · exact (xor4 _ _ _).symm
theorem red_xor : ∀ n p q, red n (p ^^^ q) = red n p ^^^ red n q
  | 0, _, _ => rfl
  | n + 1, p, q => by
    unfold red
    rw [← red_xor n, Nat.testBit_xor]
    congr 1
    cases p.testBit (n + 8) <;> cases q.testBit (n + 8) <;> simp only [Bool.xor_false, Bool.xor_true, Bool.not_true, Bool.not_false, Bool.false_eq_true, if_true, if_false]
    · exact Nat.xor_assoc _ _ _
    · rw [Nat.xor_assoc, Nat.xor_comm q, ← Nat.xor_assoc]
    · exact (xor4 _ _ _).symm
theorem rm_xor (a b c : Nat) : rm a (b ^^^ c) = rm a b ^^^ rm a c := by
  unfold rm
  rw [cl_xor, red_xor]
  exact Nat.xor_mod_two_pow (n := 8)
theorem rm_chk : (List.range 256).all (fun a => rm a 0 == 0 && (List.range 8).all fun i => rm a (2 ^ i) == gmul a (2 ^ i)) = true := by decide +kernel
theorem rm_eq {a b : Nat} (ha : a < 256) (hb : b < 256) : rm a b = gmul a b := by
  have h := List.all_eq_true.1 rm_chk a (List.mem_range.2 ha)
  rw [Bool.and_eq_true] at h
  have h2 := List.all_eq_true.1 h.2
  refine bits_of b hb (fun x => rm a x = gmul a x) ?_ (fun i hi => ?_) (fun x y hx hy e1 e2 => ?_)
  · rw [gmul_zero]; simpa using h.1
  · simpa using h2 i (List.mem_range.2 hi)
  · rw [rm_xor, gmul_xor, e1, e2]
end Go.Proofs.Ytdeamnmadgemoaa.Gf
namespace Go.Proofs.Ytdeamnmadgemoaa.Q
open Go.RowKit Go.Proofs.YtdeamnmadgemoaaW.PrintWords Go.Proofs.YtdeamnmadgemoaaW.PrintLast Go.Proofs.YtdeamnmadgemoaaW.PrintMore
open Go.Proofs.Ytdeamnmadgemoaa.Gf Go.Proofs.Ytdeamnmadgemoaa.Lin Go.Proofs.Ytdeamnmadgemoaa.Evs
set_option linter.unusedVariables false
set_option linter.unnecessarySimpa false
theorem and1_i64 {a : Nat} (ha : a < 9223372036854775808) : Go.bits .and .i64 (a : Int) 1 = ((a % 2 : Nat) : Int) := by
  show IntKind.i64.wrap ((BitVec.ofInt 64 (a : Int) &&& BitVec.ofInt 64 ((1 : Nat) : Int)).toNat : Int) = _
  rw [BitVec.toNat_and, ofInt_u64 a (by omega), ofInt_u64 1 (by omega), IntKind.wrap_i64, Nat.and_one_is_mod]
  omega
theorem shr_nat {a n : Nat} (hn : n ≤ 64) : shr .i64 (a : Int) (n : Int) = ((a / 2 ^ n : Nat) : Int) := by
  unfold shr
  rw [Int.toNat_natCast, Nat.min_eq_left (by show n ≤ 64; exact hn)]
  push_cast
  rfl
theorem shl_nat {a n : Nat} (hn : n ≤ 64) (h : a * 2 ^ n < 9223372036854775808) : shl .i64 (a : Int) (n : Int) = ((a * 2 ^ n : Nat) : Int) := by
  unfold shl
  rw [Int.toNat_natCast, Nat.min_eq_left (by show n ≤ 64; exact hn), show ((a : Int) * 2 ^ n) = ((a * 2 ^ n : Nat) : Int) by push_cast; rfl, IntKind.wrap_i64]
  generalize a * 2 ^ n = m at h ⊢
  omega
theorem bit_test {a n : Nat} (ha : a < 9223372036854775808) (hn : n ≤ 64) : (Go.bits .and .i64 (shr .i64 (a : Int) (n : Int)) 1 = 1) = (a.testBit n = true) := by
  have h2 : a / 2 ^ n ≤ a := Nat.div_le_self _ _
  rw [shr_nat hn, and1_i64 (by omega), Nat.testBit_eq_decide_div_mod_eq, decide_eq_true_eq]
  generalize a / 2 ^ n % 2 = m
  exact propext ⟨fun h => by omega, fun h => by omega⟩
theorem cl_lt {a b : Nat} (ha : a < 256) : ∀ {n : Nat}, n ≤ 8 → cl a b n < 65536
  | 0, _ => by unfold cl; omega
  | n + 1, h => by
    have ih := cl_lt (b := b) ha (n := n) (by omega)
    have h2 : a * 2 ^ n < 65536 := by
      have : 2 ^ n ≤ 2 ^ 7 := Nat.pow_le_pow_right (by omega) (by omega)
      calc a * 2 ^ n ≤ a * 2 ^ 7 := Nat.mul_le_mul_left _ this
        _ < 65536 := by omega
    unfold cl
    split
    · exact Nat.xor_lt_two_pow (n := 16) ih h2
    · exact ih
theorem rmul1_ev : ∀ (n p : Nat), n ≤ 8 → p < 65536 → Ev (fun k => tapearchiveref05_mul.l1 k (p : Int) ((n + 7 : Nat) : Int)) ((red n p % 256 : Nat) : Int)
  | 0, p, _, hp => by
    refine Ev.step (fun k => by simp only [tapearchiveref05_mul.l1]; rfl) (Ev.neg (by omega) (Ev.val ?_))
    unfold red
    congr 1
  | n + 1, p, hn, hp => by
    refine Ev.step (fun k => by simp only [tapearchiveref05_mul.l1]; rfl) (Ev.pos (by omega) (Ev.pos (by omega) ?_))
    have e : ((n + 1 + 7 : Nat) : Int) = ((n + 8 : Nat) : Int) := by omega
    have e2 : wrap64 (((n + 1 + 7 : Nat) : Int) - 1) = ((n + 7 : Nat) : Int) := by unfold wrap64; omega
    have e3 : wrap64 (((n + 1 + 7 : Nat) : Int) - 8) = (n : Int) := by unfold wrap64; omega
    have h2 : 285 * 2 ^ n < 65536 := by
      have : 2 ^ n ≤ 2 ^ 7 := Nat.pow_le_pow_right (by omega) (by omega)
      calc 285 * 2 ^ n ≤ 285 * 2 ^ 7 := Nat.mul_le_mul_left _ this
        _ < 65536 := by omega
    rw [e2, e3, e]
    clear e e2 e3
    unfold red
    by_cases hb : p.testBit (n + 8) = true
    · rw [if_pos hb]
      refine Ev.pos (by rw [bit_test (by omega) (by omega)]; exact hb) (Ev.pos (by omega) ?_)
      rw [show (285 : Int) = ((285 : Nat) : Int) from rfl, shl_nat (by omega) (by omega), i64_xor_nat (by omega) (by omega)]
      exact rmul1_ev n _ (by omega) (Nat.xor_lt_two_pow (n := 16) hp h2)
    · rw [if_neg hb]
      exact Ev.neg (by rw [bit_test (by omega) (by omega)]; exact hb) (rmul1_ev n p (by omega) hp)
theorem rmul0_ev {a b : Nat} (ha : a < 256) (hb : b < 256) : ∀ (d i : Nat), i + d = 8 → Ev (fun k => tapearchiveref05_mul.l0 k (a : Int) (b : Int) ((cl a b i : Nat) : Int) (i : Int)) ((rm a b : Nat) : Int)
  | 0, i, hi => by
    have e : i = 8 := by omega
    subst e
    exact Ev.step (fun k => by simp only [tapearchiveref05_mul.l0]; rfl) (Ev.neg (by omega) (rmul1_ev 8 _ (by omega) (cl_lt ha (by omega))))
  | d + 1, i, hi => by
    refine Ev.step (fun k => by simp only [tapearchiveref05_mul.l0]; rfl) (Ev.pos (by omega) (Ev.pos (by omega) ?_))
    have e2 : wrap64 ((i : Int) + 1) = ((i + 1 : Nat) : Int) := by unfold wrap64; omega
    have h1 := cl_lt (b := b) ha (n := i) (by omega)
    have h2 : a * 2 ^ i < 65536 := by
      have : 2 ^ i ≤ 2 ^ 7 := Nat.pow_le_pow_right (by omega) (by omega)
      calc a * 2 ^ i ≤ a * 2 ^ 7 := Nat.mul_le_mul_left _ this
        _ < 65536 := by omega
    have ih := rmul0_ev ha hb d (i + 1) (by omega)
    rw [e2]
    clear e2
    by_cases hbi : b.testBit i = true
    · refine Ev.pos (by rw [bit_test (by omega) (by omega)]; exact hbi) ?_
      rw [shl_nat (by omega) (by omega), i64_xor_nat (by omega) (by omega)]
      have e : cl a b (i + 1) = cl a b i ^^^ a * 2 ^ i := by show (if b.testBit i then _ else _) = _; rw [if_pos hbi]
      rwa [e] at ih
    · refine Ev.neg (by rw [bit_test (by omega) (by omega)]; exact hbi) ?_
      have e : cl a b (i + 1) = cl a b i := by show (if b.testBit i then _ else _) = _; rw [if_neg hbi]
      rwa [e] at ih
theorem rmul_ev (x y : GF) : Ev (fun k => tapearchiveref05_mul.f k (x.v : Int) (y.v : Int)) ((x * y).v : Int) := by
  have hx := x.h
  have hy := y.h
  unfold tapearchiveref05_mul.f
  have e1 : wrap64 (x.v : Int) = (x.v : Int) := by unfold wrap64; omega
  have e2 : wrap64 (y.v : Int) = (y.v : Int) := by unfold wrap64; omega
  rw [e1, e2]
  clear e1 e2
  have h := rmul0_ev hx hy 8 0 (by omega)
  rw [rm_eq hx hy] at h
  exact h
def powG (x : GF) (n : Nat) : GF := ⟨gpow x.v n, gpow_lt x.h n⟩
theorem rinv_loop (x : GF) : ∀ (d i : Nat), i + d = 254 → Ev (fun k => tapearchiveref05_inverse.l0 k (x.v : Int) ((powG x i).v : Int) (i : Int)) ((powG x 254).v : Int)
  | 0, i, hi => by
    have e : i = 254 := by omega
    subst e
    exact Ev.step (fun k => by simp only [tapearchiveref05_inverse.l0]; rfl) (Ev.neg (by omega) (Ev.now _))
  | d + 1, i, hi => by
    have e2 : wrap64 ((i : Int) + 1) = ((i + 1 : Nat) : Int) := by unfold wrap64; omega
    refine Ev.step (fun k => by simp only [tapearchiveref05_inverse.l0]; rfl) (Ev.pos (by omega) (Ev.bind (rmul_ev (powG x i) x) ?_))
    rw [e2]
    exact rinv_loop x d (i + 1) (by omega)
theorem pow254 {x : GF} (h : x ≠ 0) : powG x 254 = inv x := by
  apply GF.ext_
  rw [inv_v]
  have h0 := ne_v h
  refine ginv_unique x.h (gpow_lt x.h _) h0 ?_
  have h1 : gpow x.v 255 = gmul (gpow x.v 1) (gpow x.v 254) := gpow_add x.h 1 254
  have h2 : gpow x.v 1 = x.v := by
    show gmul 1 x.v = x.v
    exact one_gmul x.h
  rw [h2] at h1
  show gmul x.v (gpow x.v 254) = 1
  rw [← h1, gpow_lg x.h h0, Nat.mod_self, Nat.mul_zero, Nat.zero_mod]
  rfl
theorem rinv_ev {x : GF} (h : x ≠ 0) : Ev (fun k => tapearchiveref05_inverse.f k (x.v : Int)) ((inv x).v : Int) := by
  rw [← pow254 h]
  exact rinv_loop x 254 0 (by omega)
/-- Sameness of a list and itself. -/
theorem same_loop {l : List (List Int)} (hl : l.length < 1000) : ∀ (d i : Nat), i + d = l.length → Ev (fun k => tapearchiveref05_Same.l0 k l l (i : Int)) true
  | 0, i, hi => Ev.step (fun k => by simp only [tapearchiveref05_Same.l0]; rfl) (Ev.neg (by omega) (Ev.now _))
  | d + 1, i, hi => by
    have e2 : wrap64 ((i : Int) + 1) = ((i + 1 : Nat) : Int) := by unfold wrap64; omega
    refine Ev.step (fun k => by simp only [tapearchiveref05_Same.l0]; rfl) (Ev.pos (by omega) (Ev.pos (by omega) (Ev.pos (by omega) (Ev.pos (by trivial) ?_))))
    rw [e2]
    exact same_loop hl d (i + 1) (by omega)
theorem same_ev {l : List (List Int)} (hl : l.length < 1000) : Ev (fun k => tapearchiveref05_Same.f k l l) true := by
  unfold tapearchiveref05_Same.f
  exact Ev.pos (by trivial) (same_loop hl l.length 0 (by omega))
def FewM (l : List (List Int)) : Prop := l.length ≤ 70 ∧ ∀ r ∈ l, r.length ≤ 70
instance (l : List (List Int)) : Decidable (FewM l) := inferInstanceAs (Decidable (_ ∧ ∀ r ∈ l, r.length ≤ 70))
theorem rd_L1_get {l : List (List Int)} {i : Nat} (h : i < l.length) : rd_L1 l (i : Int) = l[i] := by
  unfold rd_L1
  rw [Int.toNat_natCast, List.getD_eq_getElem?_getD, List.getElem?_eq_getElem h]
  rfl
theorem few_loop {l : List (List Int)} (hl : l.length ≤ 70) : ∀ (d i : Nat), i + d = l.length → (∀ k (hk : k < l.length), k < i → l[k].length ≤ 70) → Ev (fun k => tapearchivelaw05_few.l0 k l (i : Int)) (decide (FewM l))
  | 0, i, hi, hn => by
    refine Ev.step (fun k => by simp only [tapearchivelaw05_few.l0]; rfl) (Ev.neg (by omega) (Ev.val ?_))
    rw [decide_eq_true]
    refine ⟨hl, fun r hr => ?_⟩
    obtain ⟨k, hk, rfl⟩ := List.getElem_of_mem hr
    exact hn k hk (by omega)
  | d + 1, i, hi, hn => by
    have hil : i < l.length := by omega
    refine Ev.step (fun k => by simp only [tapearchivelaw05_few.l0]; rfl) (Ev.pos (by omega) (Ev.pos (by omega) ?_))
    rw [rd_L1_get hil]
    by_cases h : ((l[i].length : Nat) : Int) > 70
    · refine Ev.pos h (Ev.val ?_)
      rw [decide_eq_false]
      intro hf
      have := hf.2 _ (List.getElem_mem hil)
      omega
    · refine Ev.neg h ?_
      rw [w_succ (by omega)]
      refine few_loop hl d (i + 1) (by omega) fun k hk hki => ?_
      by_cases e : k = i
      · subst e; omega
      · exact hn k hk (by omega)
theorem few_ev (l : List (List Int)) : Ev (fun k => tapearchivelaw05_few.f k l) (decide (FewM l)) := by
  unfold tapearchivelaw05_few.f
  by_cases h : (l.length : Int) > 70
  · refine Ev.pos h (Ev.val ?_)
    rw [decide_eq_false]
    intro hf
    have := hf.1
    omega
  · exact Ev.neg h (few_loop (by omega) l.length 0 (by omega) fun k _ hk => absurd hk (by omega))
theorem bytes_wf {r : List Int} (h : ∀ x ∈ r, (Lit.int .u8 x).wf = true) : Bytes r := fun x hx => by
  obtain ⟨a, rfl, ha⟩ := byte_of (h x hx)
  exact ⟨by omega, by omega⟩
theorem allB_wf {l : List (List Int)} (h : ∀ r ∈ l, r.length ≤ maxLen ∧ ∀ x ∈ r, (Lit.int .u8 x).wf = true) : AllB l := fun r hr => bytes_wf (h r hr).2
theorem wid_rd (l : List (List Int)) : rd_L1 l 0 = l.getD 0 [] := by
  unfold rd_L1
  rfl
theorem rvalid_loop {l : List (List Int)} (h1 : 1 ≤ l.length) (h2 : l.length ≤ 64) : ∀ (d i : Nat), i + d = l.length → (∀ k (hk : k < l.length), k < i → l[k].length = wid l ∧ 1 ≤ wid l ∧ wid l ≤ 64) → Ev (fun k => tapearchiveref05_Valid.l0 k l (i : Int)) (decide (isV l))
  | 0, i, hi, hn => by
    refine Ev.step (fun k => by simp only [tapearchiveref05_Valid.l0]; rfl) (Ev.neg (by omega) (Ev.val ?_))
    rw [decide_eq_true]
    refine ⟨⟨h1, h2⟩, (hn 0 (by omega) (by omega)).2, fun r hr => ?_⟩
    obtain ⟨k, hk, rfl⟩ := List.getElem_of_mem hr
    exact (hn k hk (by omega)).1
  | d + 1, i, hi, hn => by
    have hil : i < l.length := by omega
    have hw : ((rd_L1 l 0).length : Int) = (wid l : Int) := by rw [wid_rd]; rfl
    refine Ev.step (fun k => by simp only [tapearchiveref05_Valid.l0]; rfl) (Ev.pos (by omega) (Ev.pos (by omega) (Ev.pos (by omega) ?_)))
    rw [rd_L1_get hil, hw]
    by_cases c1 : ((l[i].length : Nat) : Int) = (wid l : Int)
    rotate_left
    · refine Ev.neg c1 (Ev.val ?_)
      rw [decide_eq_false]
      intro hv
      have := hv.2.2 _ (List.getElem_mem hil)
      omega
    refine Ev.pos c1 ?_
    by_cases c2 : ((l[i].length : Nat) : Int) < 1
    · refine Ev.pos c2 (Ev.val ?_)
      rw [decide_eq_false]
      intro hv
      have := hv.2.1.1
      omega
    refine Ev.neg c2 ?_
    by_cases c3 : ((l[i].length : Nat) : Int) > 64
    · refine Ev.pos c3 (Ev.val ?_)
      rw [decide_eq_false]
      intro hv
      have := hv.2.1.2
      omega
    refine Ev.neg c3 ?_
    rw [w_succ (by omega)]
    refine rvalid_loop h1 h2 d (i + 1) (by omega) fun k hk hki => ?_
    by_cases e : k = i
    · subst e; exact ⟨by omega, by omega, by omega⟩
    · exact hn k hk (by omega)
theorem rvalid_ev (l : List (List Int)) : Ev (fun k => tapearchiveref05_Valid.f k l) (decide (isV l)) := by
  have out : ∀ c : Bool, c = true → ¬ isV l → Ev (fun k => tapearchiveref05_Valid.j0 k l c) (decide (isV l)) := fun c hc hv => by
    rw [hc, decide_eq_false hv]
    exact Ev.step (fun k => by simp only [tapearchiveref05_Valid.j0]; rfl) (Ev.pos (by trivial) (Ev.now _))
  unfold tapearchiveref05_Valid.f
  by_cases c1 : ((l.length : Nat) : Int) < 1
  · exact Ev.pos c1 (out true rfl fun hv => by have := hv.1.1; omega)
  refine Ev.neg c1 ?_
  by_cases c2 : ((l.length : Nat) : Int) > 64
  · exact out _ (decide_eq_true c2) fun hv => by have := hv.1.2; omega
  rw [decide_eq_false c2]
  exact Ev.step (fun k => by simp only [tapearchiveref05_Valid.j0]; rfl) (Ev.neg (by decide) (rvalid_loop (by omega) (by omega) l.length 0 (by omega) fun k _ hk => absurd hk (by omega)))
theorem snoc_ (M : Mat) (i C : Nat) : rowsL M i C ++ [rowV M i C] = rowsL M (i + 1) C := by
  unfold rowsL
  rw [List.range_succ, List.map_append]
  rfl
end Go.Proofs.Ytdeamnmadgemoaa.Q
