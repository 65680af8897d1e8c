/- The reference's identity and Cauchy matrices. -/
import Derived.Test.YtmlfpcnemganbaaQ8
import Derived.Test.YtmlfpcnemganbaaQ9
import Derived.Test.YtmlfpcnemganbaaES
import Derived.Test.YtmlfpcnemganbaaGR
import Derived.Test.YtmlfpcnemganbaaQ10
import Derived.Lib.Bytes
namespace Go.Proofs.Ytmlfpcnemganbaa.Q
open Go.RowKit Go.Proofs.YtmlfpcnemganbaaW.PrintWords Go.Proofs.YtmlfpcnemganbaaW.PrintLast Go.Proofs.YtmlfpcnemganbaaW.PrintMore
open Go.Proofs.Ytmlfpcnemganbaa.Gf Go.Proofs.Ytmlfpcnemganbaa.Lin Go.Proofs.Ytmlfpcnemganbaa.Evs
set_option linter.unusedVariables false
set_option linter.unnecessarySimpa false
theorem zrow (i m : Nat) : List.replicate m (0 : Int) = rowV (fun _ _ => (0 : GF)) i m := by
  apply List.ext_getElem?
  intro c
  unfold rowV
  by_cases hc : c < m
  · rw [List.getElem?_replicate, if_pos hc, List.getElem?_map, List.getElem?_range hc, Option.map_some, zero_v]
    rfl
  · rw [List.getElem?_eq_none (by simp; omega), List.getElem?_eq_none (by simp; omega)]
theorem rident_loop {m : Nat} (hm : m ≤ 64) : ∀ (d i : Nat), i + d = m → Ev (fun k => tapearchiveref05_Identity.l0 k (m : Int) (rowsL dlt i m) (i : Int)) (rowsL dlt m m)
  | 0, i, h => by
    have e : i = m := by omega
    subst e
    exact Ev.step (fun k => by simp only [tapearchiveref05_Identity.l0]; rfl) (Ev.neg (by omega) (Ev.now _))
  | d + 1, i, h => by
    have hlen := rowsL_length dlt i m
    refine Ev.step (fun k => by simp only [tapearchiveref05_Identity.l0]; rfl) (Ev.pos (by omega) (Ev.pos (by omega) (Ev.pos (by omega) (Ev.call rfl (Ev.pos (by omega) (Ev.pos (by rw [List.length_replicate]; omega) (Ev.pos (by omega) ?_)))))))
    rw [Int.toNat_natCast, Int.toNat_natCast, zrow i m, w_succ (by omega), show (1 : Int) = ((1 : GF).v : Int) from rfl, rowV_set]
    have e : rowV (updM (fun _ _ => 0) i i 1) i m = rowV dlt i m := rowV_congr fun c _ => by
      unfold updM dlt
      rw [if_pos rfl]
      by_cases h1 : c = i
      · rw [if_pos h1, if_pos h1.symm]
      · rw [if_neg h1, if_neg (fun h => h1 h.symm)]
    rw [e, rowsL_snoc]
    exact rident_loop hm d (i + 1) (by omega)
theorem rident_ev (n : Int) : Ev (fun k => tapearchiveref05_Identity.f k n) (if 1 ≤ n ∧ n ≤ 64 then rowsL dlt n.toNat n.toNat else []) := by
  unfold tapearchiveref05_Identity.f
  by_cases h : 1 ≤ n ∧ n ≤ 64
  · rw [if_pos h]
    obtain ⟨m, rfl⟩ := Int.eq_ofNat_of_zero_le (show 0 ≤ n by omega)
    refine Ev.neg (by omega) ?_
    rw [decide_eq_false (by omega), Int.toNat_natCast]
    exact Ev.step (fun k => by simp only [tapearchiveref05_Identity.j0]; rfl) (Ev.neg (by decide) (rident_loop (by omega) m 0 (by omega)))
  · rw [if_neg h]
    have out : Ev (fun k => tapearchiveref05_Identity.j0 k n true) [] := Ev.step (fun k => by simp only [tapearchiveref05_Identity.j0]; rfl) (Ev.pos (by trivial) (Ev.now _))
    by_cases h1 : n < 1
    · exact Ev.pos h1 out
    · refine Ev.neg h1 ?_
      rw [decide_eq_true (by omega)]
      exact out
theorem rcau_arg {C i j : Nat} (h : C + i ≤ 64) (hj : j < C) : (Go.bits .xor .i64 (wrap64 ((C : Int) + (i : Int))) ((j : Nat) : Int)) % 256 = ((ofN (C + i) + ofN j).v : Int) := by
  have e : wrap64 ((C : Int) + (i : Int)) = ((C + i : Nat) : Int) := by unfold wrap64; omega
  have hx : (C + i) ^^^ j < 256 := xor_lt (by omega) (by omega)
  rw [e, i64_xor_nat (by omega) (by omega), add_v, ofN_v (by omega), ofN_v (by omega)]
  omega
theorem rcau_row {N C : Nat} (hNC : N + C ≤ 64) : ∀ (d j i : Nat), j + d = C → i < N → ∀ {r : List (List Int) × Bool}, Ev (fun k => tapearchiveref05_Cauchy.l0 k (N : Int) (C : Int) (rowsL (cauM C) (i + 1) C) ((i + 1 : Nat) : Int)) r →
    Ev (fun k => tapearchiveref05_Cauchy.l1 k (N : Int) (C : Int) (rowsL (cauM C) i C) (i : Int) (rowV (cauK C i j) i C) (j : Int)) r
  | 0, j, i, h, hi, r, hr => by
    have hlen := rowsL_length (cauM C) i C
    refine Ev.step (fun k => by simp only [tapearchiveref05_Cauchy.l1]; rfl) (Ev.neg (by omega) (Ev.pos (by omega) ?_))
    rw [w_succ (by omega), show rowV (cauK C i j) i C = rowV (cauM C) i C from rowV_congr fun c hc => by unfold cauK; rw [if_pos (by omega)], rowsL_snoc]
    exact hr
  | d + 1, j, i, h, hi, r, hr => by
    have hrl := rowV_length (cauK C i j) i C
    refine Ev.step (fun k => by simp only [tapearchiveref05_Cauchy.l1]; rfl) (Ev.pos (by omega) ?_)
    rw [rcau_arg (by omega) (by omega)]
    refine Ev.bind (rinv_ev (cau_ne (by omega) (by omega))) (Ev.pos (by omega) (Ev.pos (by omega) ?_))
    rw [Int.toNat_natCast, rowV_set, w_succ (by omega)]
    have e : rowV (updM (cauK C i j) i j (inv (ofN (C + i) + ofN j))) i C = rowV (cauK C i (j + 1)) i C := rowV_congr fun c _ => by
      unfold updM
      rw [if_pos rfl]
      unfold cauK
      by_cases h2 : c = j
      · rw [if_pos h2, if_pos (by omega), h2]; rfl
      · rw [if_neg h2]
        by_cases h3 : c < j
        · rw [if_pos (by omega), if_pos (by omega)]
        · rw [if_neg (by omega), if_neg (by omega)]
    rw [e]
    exact rcau_row hNC d (j + 1) i (by omega) hi hr
theorem rcau_loop {N C : Nat} (hNC : N + C ≤ 64) : ∀ (d i : Nat), i + d = N → Ev (fun k => tapearchiveref05_Cauchy.l0 k (N : Int) (C : Int) (rowsL (cauM C) i C) (i : Int)) (rowsL (cauM C) N C, true)
  | 0, i, h => by
    have e : i = N := by omega
    subst e
    exact Ev.step (fun k => by simp only [tapearchiveref05_Cauchy.l0]; rfl) (Ev.neg (by omega) (Ev.now _))
  | d + 1, i, h => by
    refine Ev.step (fun k => by simp only [tapearchiveref05_Cauchy.l0]; rfl) (Ev.pos (by omega) (Ev.pos (by omega) (Ev.pos (by omega) ?_)))
    rw [Int.toNat_natCast, zrow i C, show rowV (fun _ _ => (0 : GF)) i C = rowV (cauK C i 0) i C from rowV_congr fun c _ => by unfold cauK; rw [if_neg (by omega)]]
    exact rcau_row hNC C 0 i (by omega) (by omega) (rcau_loop hNC d (i + 1) (by omega))
theorem rcauchy_ev {n m : Int} (hn : -9223372036854775808 ≤ n ∧ n ≤ 9223372036854775807) (hm : -9223372036854775808 ≤ m ∧ m ≤ 9223372036854775807) : Ev (fun k => tapearchiveref05_Cauchy.f k n m) (if cauOk n m then (rowsL (cauM m.toNat) n.toNat m.toNat, true) else ([], false)) := by
  unfold tapearchiveref05_Cauchy.f
  have out : ∀ b : Bool, b = true → ¬ cauOk n m → Ev (fun k => tapearchiveref05_Cauchy.j0 k n m b) (if cauOk n m then (rowsL (cauM m.toNat) n.toNat m.toNat, true) else ([], false)) := fun b hb hc => by
    rw [if_neg hc, hb]
    exact Ev.step (fun k => by simp only [tapearchiveref05_Cauchy.j0]; rfl) (Ev.pos (by trivial) (Ev.now _))
  by_cases h1 : n < 1
  · exact Ev.pos h1 (out true rfl (fun h => by have := h.1; omega))
  refine Ev.neg h1 ?_
  by_cases h2 : m < 1
  · exact Ev.pos h2 (out true rfl (fun h => by have := h.2.1; omega))
  refine Ev.neg h2 ?_
  by_cases h3 : n > 64
  · exact Ev.pos h3 (out true rfl (fun h => by have := h.1; omega))
  refine Ev.neg h3 ?_
  by_cases h4 : m > 64
  · exact Ev.pos h4 (out true rfl (fun h => by have := h.2.1; omega))
  refine Ev.neg h4 ?_
  have e : wrap64 (n + m) = n + m := by unfold wrap64; omega
  rw [e]
  clear e
  by_cases h5 : n + m > 64
  · exact out _ (decide_eq_true h5) (fun h => by have := h.2.2; omega)
  have hc : cauOk n m := ⟨by omega, by omega, by omega⟩
  rw [decide_eq_false h5, if_pos hc]
  obtain ⟨N, rfl⟩ := Int.eq_ofNat_of_zero_le (show 0 ≤ n by omega)
  obtain ⟨C, rfl⟩ := Int.eq_ofNat_of_zero_le (show 0 ≤ m by omega)
  rw [Int.toNat_natCast, Int.toNat_natCast]
  exact Ev.step (fun k => by simp only [tapearchiveref05_Cauchy.j0]; rfl) (Ev.neg (by decide) (rcau_loop (by omega) N 0 (by omega)))
/-! ### the reference's product, and its powers -/
theorem mulr_zero : ∀ n a p, mulr n a 0 p = p := by
  intro n
  induction n with
  | zero => intro a p; rfl
  | succ n ih => intro a p; unfold mulr; simpa using ih (dbl a) p
theorem refmul_loop : ∀ (n a b p : Nat), a < 256 → p < 256 → b < 2 ^ n → b < 256 → Ev (fun k => tapearchiveref04_Mul.l0 k (a : Int) (b : Int) (p : Int)) ((mulr n a b p : Nat) : Int)
  | n, a, 0, p, _, hp, _, _ => by
    rw [mulr_zero]
    refine Ev.step (f := fun _ => some (p : Int)) (fun k => ?_) (Ev.now _)
    simp only [tapearchiveref04_Mul.l0]
    rw [if_neg (by omega)]
    congr 1
    omega
  | 0, a, b + 1, p, _, _, hb, _ => by omega
  | n + 1, a, b + 1, p, ha, hp, hb, hb2 => by
    have hb' : (b + 1) / 2 < 2 ^ n := by rw [Nat.pow_succ] at hb; omega
    have e1 : Int.tmod ((b + 1 : Nat) : Int) 2 = (((b + 1) % 2 : Nat) : Int) := by rw [Int.tmod_eq_emod_of_nonneg (by omega)]; omega
    have e2 : wrap64 (Int.tdiv ((b + 1 : Nat) : Int) 2) = (((b + 1) / 2 : Nat) : Int) := by rw [Int.tdiv_eq_ediv_of_nonneg (by omega)]; unfold wrap64; omega
    have e3 : wrap64 ((a : Int) * 2) = ((a * 2 : Nat) : Int) := by unfold wrap64; omega
    have hd : Go.bits .xor .i64 ((a * 2 : Nat) : Int) 285 = (((a * 2) ^^^ 285 : Nat) : Int) := by
      rw [show (285 : Int) = ((285 : Nat) : Int) from rfl, i64_xor_nat (by omega) (by omega)]
    have hx : Go.bits .xor .i64 (p : Int) (a : Int) = ((p ^^^ a : Nat) : Int) := i64_xor_nat (by omega) (by omega)
    unfold mulr
    refine Ev.step (f := fun k => tapearchiveref04_Mul.l0 k ((dbl a : Nat) : Int) (((b + 1) / 2 : Nat) : Int) ((if (b + 1) % 2 = 1 then p ^^^ a else p : Nat) : Int)) (fun k => ?_) (refmul_loop n _ _ _ (dbl_lt ha) (by split; exact xor_lt hp ha; exact hp) hb' (by omega))
    simp only [tapearchiveref04_Mul.l0]
    rw [if_pos (by omega), e1, e2, e3, hd, hx]
    unfold dbl
    by_cases h1 : (b + 1) % 2 = 1
    · rw [if_pos (by omega), if_pos h1]
      by_cases h2 : a < 128
      · rw [if_neg (by omega), if_pos h2]
      · rw [if_pos (by omega), if_neg h2]
    · rw [if_neg (by omega), if_neg h1]
      by_cases h2 : a < 128
      · rw [if_neg (by omega), if_pos h2]
      · rw [if_pos (by omega), if_neg h2]
theorem wrap_byte {a : Nat} (ha : a < 256) : wrap64 (a : Int) = (a : Int) := by unfold wrap64; omega
theorem refmul_ev {a b : Nat} (ha : a < 256) (hb : b < 256) : Ev (fun k => tapearchiveref04_Mul.f k (a : Int) (b : Int)) ((gmul a b : Nat) : Int) := by
  unfold tapearchiveref04_Mul.f
  rw [wrap_byte ha, wrap_byte hb]
  exact refmul_loop 8 a b 0 ha (by omega) (by simpa using hb) hb
end Go.Proofs.Ytmlfpcnemganbaa.Q
/- What the functions of layer 6 and of its reference answer. -/
namespace Go.Proofs.Ytmlfpcnemganbaa.Q
open Go.RowKit Go.Proofs.YtmlfpcnemganbaaW.PrintWords Go.Proofs.YtmlfpcnemganbaaW.PrintLast Go.Proofs.YtmlfpcnemganbaaW.PrintMore
open Go.Proofs.Ytmlfpcnemganbaa.Gf Go.Proofs.Ytmlfpcnemganbaa.Lin Go.Proofs.Ytmlfpcnemganbaa.Evs
set_option linter.unusedVariables false
set_option linter.unnecessarySimpa false
def cOk (n p : Int) : Prop := 1 ≤ n ∧ 0 ≤ p ∧ p ≤ 16 ∧ n + p ≤ 16
instance (n p : Int) : Decidable (cOk n p) := inferInstanceAs (Decidable (_ ∧ _ ∧ _ ∧ _))
theorem counts_ev (n p : Int) : erasure_counts.f n p = some (decide (cOk n p)) := by
  unfold erasure_counts.f
  by_cases h1 : 1 ≤ n
  · rw [if_pos (by omega)]
    by_cases h2 : 0 ≤ p
    · rw [if_pos (by omega)]
      by_cases h3 : p ≤ 16
      · rw [if_pos h3]
        have e : wrap64 (16 - p) = 16 - p := by unfold wrap64; omega
        rw [e]
        clear e
        refine congrArg some (decide_eq_decide.2 ?_)
        unfold cOk
        omega
      · rw [if_neg h3, decide_eq_false (fun h : cOk n p => by unfold cOk at h; omega)]
    · rw [if_neg (by omega), decide_eq_false (fun h : cOk n p => by unfold cOk at h; omega)]
  · rw [if_neg (by omega), decide_eq_false (fun h : cOk n p => by unfold cOk at h; omega)]
theorem rvalid6_ev (n p : Int) : tapearchiveref06_valid.f n p = some (decide (cOk n p)) := by
  unfold tapearchiveref06_valid.f
  by_cases h1 : 1 ≤ n
  · rw [if_pos (by omega)]
    by_cases h4 : n ≤ 16
    · rw [if_pos h4]
      by_cases h2 : 0 ≤ p
      · rw [if_pos (by omega)]
        by_cases h3 : p ≤ 16
        · rw [if_pos h3]
          have e : wrap64 (n + p) = n + p := by unfold wrap64; omega
          rw [e]
          clear e
          refine congrArg some (decide_eq_decide.2 ?_)
          unfold cOk
          omega
        · rw [if_neg h3, decide_eq_false (fun h : cOk n p => by unfold cOk at h; omega)]
      · rw [if_neg (by omega), decide_eq_false (fun h : cOk n p => by unfold cOk at h; omega)]
    · rw [if_neg h4, decide_eq_false (fun h : cOk n p => by unfold cOk at h; omega)]
  · rw [if_neg (by omega), decide_eq_false (fun h : cOk n p => by unfold cOk at h; omega)]
/-- All of the first one's length. -/
def evenP (l : List (List Int)) : Prop := ∀ r ∈ l, r.length = wid l
instance (l : List (List Int)) : Decidable (evenP l) := inferInstanceAs (Decidable (∀ r ∈ l, r.length = wid l))
theorem rdL_get {l : List (List Int)} {i : Nat} (hi : i < l.length) : rd_L1 l (i : Int) = l[i] := by unfold rd_L1; rw [Int.toNat_natCast, List.getD_eq_getElem?_getD, List.getElem?_eq_getElem hi]; rfl
def evD (l : List (List Int)) (i : Nat) : Bool := decide (∀ r ∈ l.drop i, r.length = wid l)
theorem even_step {l : List (List Int)} {i : Nat} (hi : i < l.length) : evD l i = (decide (l[i].length = wid l) && evD l (i + 1)) := by
  unfold evD
  rw [List.drop_eq_getElem_cons hi]
  by_cases hc : l[i].length = wid l
  · rw [decide_eq_true hc, Bool.true_and, decide_eq_decide]
    exact ⟨fun h r hr => h r (List.mem_cons_of_mem _ hr), fun h r hr => by rcases List.mem_cons.1 hr with rfl | hr; exact hc; exact h r hr⟩
  · rw [decide_eq_false hc, Bool.false_and]
    exact decide_eq_false (fun h => hc (h _ List.mem_cons_self))
theorem even_loop {l : List (List Int)} (hl : l.length ≤ 1000) : ∀ (d i : Nat), i + d = l.length → Ev (fun k => erasure_even.l0 k l l (l.length : Int) (i : Int)) (evD l i)
  | 0, i, h => by
    refine Ev.step (fun k => by simp only [erasure_even.l0]; rfl) (Ev.neg (by omega) ?_)
    unfold evD
    rw [List.drop_of_length_le (by omega), decide_eq_true (fun r hr => absurd hr (by simp))]
    exact Ev.now _
  | d + 1, i, h => by
    have hi : i < l.length := by omega
    refine Ev.step (fun k => by simp only [erasure_even.l0]; rfl) (Ev.pos (by omega) (Ev.pos (by omega) (Ev.pos (by omega) (Ev.pos (by omega) ?_))))
    rw [rdL_get hi, wid_rd, w_succ (by omega), even_step hi]
    refine Ev.pick (fun c => ?_) (fun c => ?_)
    · rw [decide_eq_true (show l[i].length = wid l by unfold wid; omega), Bool.true_and]
      exact even_loop hl d (i + 1) (by omega)
    · rw [decide_eq_false (show ¬ l[i].length = wid l by unfold wid; omega), Bool.false_and]
      exact Ev.now _
theorem even_ev {l : List (List Int)} (hl : l.length ≤ 1000) : Ev (fun k => erasure_even.f k l) (decide (evenP l)) := even_loop hl l.length 0 (by omega)
theorem equal_loop {l : List (List Int)} (hl : l.length ≤ 1000) : ∀ (d i : Nat), i + d = l.length → Ev (fun k => tapearchiveref06_equal.l0 k l (i : Int)) (evD l i)
  | 0, i, h => by
    refine Ev.step (fun k => by simp only [tapearchiveref06_equal.l0]; rfl) (Ev.neg (by omega) ?_)
    unfold evD
    rw [List.drop_of_length_le (by omega), decide_eq_true (fun r hr => absurd hr (by simp))]
    exact Ev.now _
  | d + 1, i, h => by
    have hi : i < l.length := by omega
    refine Ev.step (fun k => by simp only [tapearchiveref06_equal.l0]; rfl) (Ev.pos (by omega) (Ev.pos (by omega) (Ev.pos (by omega) ?_)))
    rw [rdL_get hi, wid_rd, w_succ (by omega), even_step hi]
    refine Ev.pick (fun c => ?_) (fun c => ?_)
    · rw [decide_eq_true (show l[i].length = wid l by unfold wid; omega), Bool.true_and]
      exact equal_loop hl d (i + 1) (by omega)
    · rw [decide_eq_false (show ¬ l[i].length = wid l by unfold wid; omega), Bool.false_and]
      exact Ev.now _
theorem equal_ev {l : List (List Int)} (hl : l.length ≤ 1000) : Ev (fun k => tapearchiveref06_equal.f k l) (decide (evenP l)) := equal_loop hl l.length 0 (by omega)
/-- The parity shards. -/
def parD (l : List (List Int)) (p : Nat) : List (List Int) := rowsL (mulF l.length (cauM l.length) (toM l)) p (wid l)
def parR (l : List (List Int)) (p : Int) : List (List Int) × Int := if cOk l.length p then (if evenP l then (parD l p.toNat, 0) else ([], 8)) else ([], 7)
theorem parD_ev {l : List (List Int)} (hb : AllB l) (hw : wid l ≤ 1000) (he : evenP l) (h1 : 1 ≤ l.length) {p : Nat} (hp : l.length + p ≤ 64) : Ev (fun k => erasure_parities.f k l (p : Int)) (parD l p) := by
  have h := par_ev (toM l) (n := l.length) (p := p) (C := wid l) h1 hp hw
  rw [← toM_rows hb he] at h
  exact h
theorem parity_ev {l : List (List Int)} (hb : AllB l) (hw : wid l ≤ 1000) (hl : l.length ≤ 1000) (p : Int) : Ev (fun k => erasure_Parity.f k l p) (parR l p) := by
  unfold erasure_Parity.f parR
  refine Ev.call (counts_ev _ _) ?_
  by_cases hc : cOk l.length p
  · rw [decide_eq_true hc, if_pos hc]
    refine Ev.pos (by trivial) (Ev.bind (even_ev hl) ?_)
    by_cases he : evenP l
    · rw [decide_eq_true he, if_pos he]
      obtain ⟨q, rfl⟩ := Int.eq_ofNat_of_zero_le hc.2.1
      refine Ev.pos (by trivial) (Ev.bind (parD_ev hb hw he (by have := hc.1; omega) (by have := hc.2.2.2; omega)) ?_)
      exact Ev.now _
    · rw [decide_eq_false he, if_neg he]
      exact Ev.neg (by decide) (Ev.now _)
  · rw [decide_eq_false hc, if_neg hc]
    exact Ev.neg (by decide) (Ev.now _)
/-! The reference. -/
theorem gen_rows (n p : Nat) : rowsL dlt n n ++ rowsL (cauM n) p n = rowsL (gen n) (n + p) n := by
  apply List.ext_getElem?
  intro j
  by_cases hj : j < n + p
  · have h := gen_get (n := n) (p := p) hj
    rw [List.getD_eq_getElem?_getD, List.getElem?_eq_getElem (by rw [List.length_append, rowsL_length, rowsL_length]; exact hj), Option.getD_some] at h
    rw [List.getElem?_eq_getElem (by rw [List.length_append, rowsL_length, rowsL_length]; exact hj), h, rowsL_get hj]
  · rw [List.getElem?_eq_none (by rw [List.length_append, rowsL_length, rowsL_length]; omega), List.getElem?_eq_none (by rw [rowsL_length]; omega)]
theorem rrows_ev {n p : Nat} (h1 : 1 ≤ n) (hp : n + p ≤ 64) : Ev (fun k => tapearchiveref06_rows.f k (n : Int) (p : Int)) (rowsL (gen n) (n + p) n) := by
  unfold tapearchiveref06_rows.f
  have hi := rident_ev (n : Int)
  rw [if_pos (by omega), Int.toNat_natCast] at hi
  refine Ev.bind hi (Ev.bind (rcauchy_ev (n := (p : Int)) (m := (n : Int)) (by omega) (by omega)) ?_)
  have e : (if cauOk (p : Int) (n : Int) then (rowsL (cauM (n : Int).toNat) (p : Int).toNat (n : Int).toNat, true) else ([], false)).1 = rowsL (cauM n) p n := by
    by_cases hq : 1 ≤ p
    · rw [if_pos ⟨⟨by omega, by omega⟩, ⟨by omega, by omega⟩, by omega⟩, Int.toNat_natCast, Int.toNat_natCast]
    · rw [if_neg (fun h => by have := h.1.1; omega), show p = 0 by omega]
      rfl
  rw [e]
  have h1 := rowsL_length dlt n n
  have h2 := rowsL_length (cauM n) p n
  refine Ev.pos (by omega) ?_
  rw [gen_rows]
  exact Ev.now _
theorem rowV_snoc_ (M : Mat) (i j : Nat) : rowV M i j ++ [((M i j).v : Int)] = rowV M i (j + 1) := by
  unfold rowV
  rw [List.range_succ, List.map_append]
  rfl
theorem times_in {R D : Mat} {i n C c : Nat} (hn : n ≤ 1000) (hC : C ≤ 1000) (hc : c < C) {r : List Int} (hr : Ev (fun k => tapearchiveref06_times.l0 k (rowV R i n) (rowsL D n C) (rowV (mulF n R D) i (c + 1)) ((c + 1 : Nat) : Int)) r) :
    ∀ (d j : Nat), j + d = n → Ev (fun k => tapearchiveref06_times.l1 k (rowV R i n) (rowsL D n C) (rowV (mulF n R D) i c) (c : Int) (((mulF j R D i c).v : Nat) : Int) (j : Int)) r
  | 0, j, h => by
    have hl := rowsL_length D n C
    have hl2 := rowV_length (mulF n R D) i c
    refine Ev.step (fun k => by simp only [tapearchiveref06_times.l1]; rfl) (Ev.neg (by omega) (Ev.pos (by omega) ?_))
    rw [show j = n by omega, rowV_snoc_, w_succ (by omega)]
    exact hr
  | d + 1, j, h => by
    have hl := rowsL_length D n C
    have hl2 := rowV_length R i n
    have hl3 := rowV_length D j C
    refine Ev.step (fun k => by simp only [tapearchiveref06_times.l1]; rfl) (Ev.pos (by omega) (Ev.pos (by omega) (Ev.pos (by omega) (Ev.pos (by omega) ?_))))
    rw [rd_rows (by omega)]
    refine Ev.pos (by omega) ?_
    rw [rowV_rd (by omega), rowV_rd (by omega), w_succ (by omega)]
    refine Ev.bind (refmul_ev (R i j).h (D j c).h) ?_
    rw [xor_u8 (mulF j R D i c).h (gmul_lt (R i j).h)]
    have e : (mulF j R D i c).v ^^^ gmul (R i j).v (D j c).v = (mulF (j + 1) R D i c).v := rfl
    rw [e]
    exact times_in hn hC hc hr d (j + 1) (by omega)
theorem times_loop {R D : Mat} {i n C : Nat} (h1 : 1 ≤ n) (hn : n ≤ 1000) (hC : C ≤ 1000) : ∀ (d c : Nat), c + d = C → Ev (fun k => tapearchiveref06_times.l0 k (rowV R i n) (rowsL D n C) (rowV (mulF n R D) i c) (c : Int)) (rowV (mulF n R D) i C)
  | 0, c, h => by
    have hl := rowsL_length D n C
    have hl3 := rowV_length D 0 C
    refine Ev.step (fun k => by simp only [tapearchiveref06_times.l0]; rfl) (Ev.pos (by omega) ?_)
    rw [show rd_L1 (rowsL D n C) 0 = rowV D 0 C from rd_rows (i := 0) (by omega)]
    refine Ev.neg (by omega) ?_
    rw [show c = C by omega]
    exact Ev.now _
  | d + 1, c, h => by
    have hl := rowsL_length D n C
    have hl3 := rowV_length D 0 C
    refine Ev.step (fun k => by simp only [tapearchiveref06_times.l0]; rfl) (Ev.pos (by omega) ?_)
    rw [show rd_L1 (rowsL D n C) 0 = rowV D 0 C from rd_rows (i := 0) (by omega)]
    exact Ev.pos (by omega) (times_in hn hC (by omega) (times_loop h1 hn hC d (c + 1) (by omega)) n 0 (by omega))
theorem times_ev (R D : Mat) (i : Nat) {n C : Nat} (h1 : 1 ≤ n) (hn : n ≤ 1000) (hC : C ≤ 1000) : Ev (fun k => tapearchiveref06_times.f k (rowV R i n) (rowsL D n C)) (rowV (mulF n R D) i C) :=
  times_loop h1 hn hC C 0 (by omega)
theorem gen_low {n i : Nat} (D : Mat) (c : Nat) (h : i < n) : mulF n (gen n) D i c = D i c := by
  unfold mulF
  rw [sum_one h (fun k hk hne => by unfold gen dlt; rw [if_pos h, if_neg (Ne.symm hne), zero_mul_])]
  unfold gen dlt
  rw [if_pos h, if_pos rfl, one_mul_]
theorem gen_high (n i : Nat) (D : Mat) (c : Nat) : mulF n (gen n) D (n + i) c = mulF n (cauM n) D i c := by
  unfold mulF
  refine sum_congr fun k _ => ?_
  unfold gen
  rw [if_neg (by omega), Nat.add_sub_cancel_left]
theorem rpar_loop {D : Mat} {n p C : Nat} (h1 : 1 ≤ n) (hnp : n + p ≤ 64) (hC : C ≤ 1000) : ∀ (d i : Nat), i + d = p → Ev (fun k => tapearchiveref06_Parity.l0 k (rowsL D n C) (p : Int) (rowsL (gen n) (n + p) n) (rowsL (mulF n (cauM n) D) i C) (i : Int)) (rowsL (mulF n (cauM n) D) p C, 0)
  | 0, i, h => by
    refine Ev.step (fun k => by simp only [tapearchiveref06_Parity.l0]; rfl) (Ev.neg (by omega) ?_)
    rw [show i = p by omega]
    exact Ev.now _
  | d + 1, i, h => by
    have hl := rowsL_length D n C
    have hl2 := rowsL_length (gen n) (n + p) n
    have hl3 := rowsL_length (mulF n (cauM n) D) i C
    have e : wrap64 (((rowsL D n C).length : Int) + (i : Int)) = ((n + i : Nat) : Int) := by rw [hl]; unfold wrap64; omega
    refine Ev.step (fun k => by simp only [tapearchiveref06_Parity.l0]; rfl) (Ev.pos (by omega) ?_)
    rw [e, rd_rows (by omega)]
    clear e
    refine Ev.pos (by omega) (Ev.pos (by omega) (Ev.bind (times_ev (gen n) D (n + i) h1 (by omega) hC) (Ev.pos (by omega) ?_)))
    rw [w_succ (by omega), show rowV (mulF n (gen n) D) (n + i) C = rowV (mulF n (cauM n) D) i C from rowV_congr fun c _ => gen_high n i D c, rowsL_snoc]
    exact rpar_loop h1 hnp hC d (i + 1) (by omega)
theorem rparity_ev {l : List (List Int)} (hb : AllB l) (hw : wid l ≤ 1000) (hl : l.length ≤ 1000) (p : Int) : Ev (fun k => tapearchiveref06_Parity.f k l p) (parR l p) := by
  unfold tapearchiveref06_Parity.f parR
  refine Ev.call (rvalid6_ev _ _) ?_
  by_cases hc : cOk l.length p
  · rw [decide_eq_true hc, if_pos hc]
    refine Ev.pos (by trivial) (Ev.bind (equal_ev hl) ?_)
    by_cases he : evenP l
    · rw [decide_eq_true he, if_pos he]
      obtain ⟨q, rfl⟩ := Int.eq_ofNat_of_zero_le hc.2.1
      have h1 : 1 ≤ l.length := by have := hc.1; omega
      have h2 : l.length + q ≤ 64 := by have := hc.2.2.2; omega
      refine Ev.pos (by trivial) (Ev.bind (rrows_ev h1 h2) ?_)
      have h := rpar_loop (D := toM l) (C := wid l) h1 h2 hw q 0 (by omega)
      rw [← toM_rows hb he] at h
      exact h
    · rw [decide_eq_false he, if_neg he]
      exact Ev.neg (by decide) (Ev.now _)
  · rw [decide_eq_false hc, if_neg hc]
    exact Ev.neg (by decide) (Ev.now _)
/-! Sameness. -/
theorem str_eq {a b : List Nat} (ha : ∀ x ∈ a, x < 256) (hb : ∀ x ∈ b, x < 256) : (strOfNums (ints a)).toList = (strOfNums (ints b)).toList ↔ a = b := by
  refine ⟨fun h => ?_, fun h => by rw [h]⟩
  rw [Lib.strOfNums_toList, Lib.strOfNums_toList] at h
  induction a generalizing b with
  | nil => cases b with
    | nil => rfl
    | cons y b => simp [Lib.bytesOf, ints] at h
  | cons x a ih => cases b with
    | nil => simp [Lib.bytesOf, ints] at h
    | cons y b =>
      simp only [Lib.bytesOf, ints, List.map_cons, List.cons.injEq] at h
      have hx := ha x (by simp)
      have hy := hb y (by simp)
      have e : x = y := by
        have := congrArg UInt8.toNat h.1
        simp at this
        omega
      rw [e, ih (fun z hz => ha z (List.mem_cons_of_mem _ hz)) (fun z hz => hb z (List.mem_cons_of_mem _ hz)) (by simpa [Lib.bytesOf, ints] using h.2)]
theorem bytes_ints {l : List Int} (h : Bytes l) : ∃ m : List Nat, l = ints m ∧ ∀ x ∈ m, x < 256 := by
  induction l with
  | nil => exact ⟨[], rfl, by simp⟩
  | cons x l ih =>
    have hx := h x List.mem_cons_self
    obtain ⟨a, rfl⟩ := Int.eq_ofNat_of_zero_le hx.1
    obtain ⟨m, rfl, hm⟩ := ih (fun y hy => h y (List.mem_cons_of_mem _ hy))
    exact ⟨a :: m, rfl, fun y hy => by rcases List.mem_cons.1 hy with rfl | hy; omega; exact hm y hy⟩
theorem str_bytes {a b : List Int} (ha : Bytes a) (hb : Bytes b) : (strOfNums a).toList = (strOfNums b).toList ↔ a = b := by
  obtain ⟨m, rfl, hm⟩ := bytes_ints ha
  obtain ⟨q, rfl, hq⟩ := bytes_ints hb
  exact ⟨fun h => by rw [(str_eq hm hq).1 h], fun h => by rw [h]⟩
theorem AllB.get {l : List (List Int)} (h : AllB l) {i : Nat} (hi : i < l.length) : Bytes l[i] := h _ (List.getElem_mem hi)
theorem same6_loop {a b : List (List Int)} (ha : AllB a) (hb : AllB b) (hl : a.length = b.length) (hs : a.length ≤ 1000) : ∀ (d i : Nat), i + d = a.length → Ev (fun k => tapearchiveref06_Same.l0 k a b (i : Int)) (decide (a.drop i = b.drop i))
  | 0, i, h => by
    refine Ev.step (fun k => by simp only [tapearchiveref06_Same.l0]; rfl) (Ev.neg (by omega) ?_)
    rw [List.drop_of_length_le (by omega), List.drop_of_length_le (by omega), decide_eq_true rfl]
    exact Ev.now _
  | d + 1, i, h => by
    have hi : i < a.length := by omega
    have hi2 : i < b.length := by omega
    refine Ev.step (fun k => by simp only [tapearchiveref06_Same.l0]; rfl) (Ev.pos (by omega) (Ev.pos (by omega) (Ev.pos (by omega) ?_)))
    rw [rdL_get hi, rdL_get hi2, w_succ (by omega), List.drop_eq_getElem_cons hi, List.drop_eq_getElem_cons hi2]
    refine Ev.pick (fun c => ?_) (fun c => ?_)
    · rw [(str_bytes (ha.get hi) (hb.get hi2)).1 c]
      refine Ev.eq (same6_loop ha hb hl hs d (i + 1) (by omega)) (decide_eq_decide.2 ?_)
      exact ⟨fun h => by rw [h], fun h => (List.cons.inj h).2⟩
    · rw [decide_eq_false (fun h => c ((str_bytes (ha.get hi) (hb.get hi2)).2 (List.cons.inj h).1))]
      exact Ev.now _
theorem same6_ev {a b : List (List Int)} (ha : AllB a) (hb : AllB b) (hs : a.length ≤ 1000) : Ev (fun k => tapearchiveref06_Same.f k a b) (decide (a = b)) := by
  unfold tapearchiveref06_Same.f
  by_cases hl : a.length = b.length
  · exact Ev.pos (by omega) (same6_loop ha hb hl hs a.length 0 (by omega))
  · rw [decide_eq_false (fun h => hl (by rw [h]))]
    exact Ev.neg (by omega) (Ev.now _)
/-! Check. -/
theorem parD_allB (l : List (List Int)) (p : Nat) : AllB (parD l p) := rowsL_allB _ _ _
theorem parD_length (l : List (List Int)) (p : Nat) : (parD l p).length = p := rowsL_length _ _ _
theorem check_loop {l par : List (List Int)} (hb : AllB l) (hp : AllB par) {q : Nat} (hl : q + par.length = l.length) (hs : l.length ≤ 1000) : ∀ (d i : Nat), i + d = par.length → Ev (fun k => erasure_Check.l0 k l (q : Int) par (par.length : Int) (i : Int)) (decide (par.drop i = l.drop (q + i)))
  | 0, i, h => by
    refine Ev.step (fun k => by simp only [erasure_Check.l0]; rfl) (Ev.neg (by omega) ?_)
    rw [List.drop_of_length_le (by omega), List.drop_of_length_le (by omega), decide_eq_true rfl]
    exact Ev.now _
  | d + 1, i, h => by
    have hi : i < par.length := by omega
    have hi2 : q + i < l.length := by omega
    have e : wrap64 ((q : Int) + (i : Int)) = ((q + i : Nat) : Int) := by unfold wrap64; omega
    refine Ev.step (fun k => by simp only [erasure_Check.l0]; rfl) (Ev.pos (by omega) (Ev.pos (by omega) (Ev.pos (by omega) ?_)))
    rw [e, rdL_get hi, rdL_get hi2, w_succ (by omega), List.drop_eq_getElem_cons hi, List.drop_eq_getElem_cons hi2]
    clear e
    refine Ev.pos (by omega) (Ev.pos (by omega) (Ev.call rfl ?_))
    refine Ev.pick (fun c => ?_) (fun c => ?_)
    · have c' := (str_bytes (hp.get hi) (hb.get hi2)).1 (eq_of_beq c)
      rw [c']
      refine Ev.eq (check_loop hb hp hl hs d (i + 1) (by omega)) (decide_eq_decide.2 ?_)
      exact ⟨fun h => by rw [h]; rfl, fun h => (List.cons.inj h).2⟩
    · rw [decide_eq_false (fun h => c (beq_iff_eq.2 ((str_bytes (hp.get hi) (hb.get hi2)).2 (List.cons.inj h).1)))]
      exact Ev.now _
def chkR (l : List (List Int)) (p : Int) : Bool := decide (cOk ((l.length : Int) - p) p ∧ evenP l ∧ parD (l.take (l.length - p.toNat)) p.toNat = l.drop (l.length - p.toNat))
theorem wid_take {l : List (List Int)} {q : Nat} (hq : 1 ≤ q) : wid (l.take q) = wid l := by
  unfold wid
  rw [List.getD_eq_getElem?_getD, List.getD_eq_getElem?_getD, List.getElem?_take, if_pos (by omega)]
theorem even_take {l : List (List Int)} {q : Nat} (hq : 1 ≤ q) (h : evenP l) : evenP (l.take q) := fun r hr => by
  rw [wid_take hq]
  exact h r (List.mem_of_mem_take hr)
theorem AllB.take_ {l : List (List Int)} (h : AllB l) (q : Nat) : AllB (l.take q) := fun r hr => h r (List.mem_of_mem_take hr)
theorem AllB.drop_ {l : List (List Int)} (h : AllB l) (q : Nat) : AllB (l.drop q) := fun r hr => h r (List.mem_of_mem_drop hr)
theorem check_ev {l : List (List Int)} (hb : AllB l) (hw : wid l ≤ 1000) (hl : l.length ≤ 1000) (p : Int) : Ev (fun k => erasure_Check.f k l p) (chkR l p) := by
  unfold erasure_Check.f
  have out : ∀ (z : Int) (b : Bool), b = true → ¬ (cOk ((l.length : Int) - p) p ∧ evenP l) → Ev (fun k => erasure_Check.j0 k l p z b) (chkR l p) := fun z b hb hn => by
    subst hb
    unfold chkR
    rw [decide_eq_false (fun h => hn ⟨h.1, h.2.1⟩)]
    exact Ev.step (fun k => by simp only [erasure_Check.j0]; rfl) (Ev.pos (by trivial) (Ev.now _))
  by_cases h0 : p < 0
  · exact Ev.pos h0 (out _ _ rfl (fun h => by have := h.1.2.1; omega))
  refine Ev.neg h0 ?_
  by_cases h1 : (l.length : Int) ≤ p
  · exact Ev.pos h1 (out _ _ rfl (fun h => by have := h.1.1; omega))
  refine Ev.neg (by omega) ?_
  have e : wrap64 ((l.length : Int) - p) = (l.length : Int) - p := by unfold wrap64; omega
  rw [e]
  clear e
  refine Ev.call (counts_ev _ _) ?_
  by_cases hc : cOk ((l.length : Int) - p) p
  · rw [decide_eq_true hc]
    refine Ev.pos (by trivial) (Ev.bind (even_ev hl) ?_)
    by_cases he : evenP l
    · rw [decide_eq_true he]
      obtain ⟨q, rfl⟩ := Int.eq_ofNat_of_zero_le hc.2.1
      have hq : ((l.length : Int) - (q : Int)) = ((l.length - q : Nat) : Int) := by omega
      have hq1 : 1 ≤ l.length - q := by have := hc.1; omega
      rw [hq]
      refine Ev.step (fun k => by simp only [erasure_Check.j0]; rfl) (Ev.neg (by decide) (Ev.pos (by omega) (Ev.pos (by omega) ?_)))
      rw [Int.toNat_natCast]
      have hlen : (l.take (l.length - q)).length = l.length - q := by rw [List.length_take]; omega
      refine Ev.bind (parD_ev (hb.take_ _) (by rw [wid_take hq1]; exact hw) (even_take hq1 he) (by omega) (by have := hc.2.2.2; omega)) ?_
      refine Ev.eq (check_loop hb (parD_allB _ _) (by rw [parD_length]; omega) hl (parD (l.take (l.length - q)) q).length 0 (by omega)) ?_
      unfold chkR
      rw [List.drop_zero, Nat.add_zero, Int.toNat_natCast]
      refine decide_eq_decide.2 ⟨fun h => ⟨hc, he, h⟩, fun h => h.2.2⟩
    · rw [decide_eq_false he]
      exact out _ _ rfl (fun h => he h.2)
  · rw [decide_eq_false hc]
    exact Ev.neg (by decide) (out _ _ rfl (fun h => hc h.1))
end Go.Proofs.Ytmlfpcnemganbaa.Q
