/- Polynomials: values, and the reference's product. -/
import Derived.Test.YtgabffpjddccjaaLawA
import Derived.Test.YtgabffpjddccjaaQ5
namespace Go.Proofs.Ytgabffpjddccjaa.Q
open Go.RowKit Go.Proofs.YtgabffpjddccjaaW.PrintWords Go.Proofs.YtgabffpjddccjaaW.PrintLast Go.Proofs.YtgabffpjddccjaaW.PrintMore
open Go.Proofs.Ytgabffpjddccjaa.Gf Go.Proofs.Ytgabffpjddccjaa.Evs
set_option linter.unusedVariables false

/-- The value of a polynomial. -/
def val : List Nat → Nat → Nat
  | [], _ => 0
  | a :: p, x => a ^^^ gmul (val p x) x
theorem val_lt {x : Nat} : ∀ {p : List Nat}, (∀ y ∈ p, y < 256) → val p x < 256
  | [], _ => (by decide : 0 < 256)
  | a :: p, h => xor_lt (h a List.mem_cons_self) (gmul_lt (val_lt (fun y hy => h y (List.mem_cons_of_mem _ hy))))
theorem gpow_succ' {x : Nat} (hx : x < 256) (c n : Nat) (hc : c < 256) : gmul (gmul c (gpow x n)) x = gmul c (gpow x (n + 1)) := by
  rw [gmul_assoc hc (gpow_lt hx _) hx]
  rfl
theorem val_snoc {x : Nat} (hx : x < 256) {c : Nat} (hc : c < 256) : ∀ {p : List Nat}, (∀ y ∈ p, y < 256) → val (p ++ [c]) x = val p x ^^^ gmul c (gpow x p.length)
  | [], _ => by
    show c ^^^ gmul 0 x = 0 ^^^ gmul c 1
    rw [zero_gmul, gmul_one, Nat.xor_zero, Nat.zero_xor]
  | a :: p, h => by
    have hp := fun y hy => h y (List.mem_cons_of_mem _ hy)
    show a ^^^ gmul (val (p ++ [c]) x) x = (a ^^^ gmul (val p x) x) ^^^ gmul c (gpow x (p.length + 1))
    rw [val_snoc hx hc hp, xor_gmul (val_lt hp) (gmul_lt hc), gpow_succ' hx c _ hc, Nat.xor_assoc]
theorem val_set {x : Nat} (hx : x < 256) {c : Nat} (hc : c < 256) : ∀ {p : List Nat} (j : Nat), (∀ y ∈ p, y < 256) → j < p.length → val (p.set j (p.getD j 0 ^^^ c)) x = val p x ^^^ gmul c (gpow x j)
  | [], j, _, hj => by simp at hj
  | a :: p, 0, h, _ => by
    show (a ^^^ c) ^^^ gmul (val p x) x = (a ^^^ gmul (val p x) x) ^^^ gmul c 1
    rw [gmul_one, Nat.xor_assoc, Nat.xor_assoc, Nat.xor_comm c]
  | a :: p, j + 1, h, hj => by
    have hp := fun y hy => h y (List.mem_cons_of_mem _ hy)
    have hj' : j < p.length := by simpa using hj
    show a ^^^ gmul (val (p.set j (p.getD j 0 ^^^ c)) x) x = (a ^^^ gmul (val p x) x) ^^^ gmul c (gpow x (j + 1))
    rw [val_set hx hc j hp hj', xor_gmul (val_lt hp) (gmul_lt hc), gpow_succ' hx c _ hc, Nat.xor_assoc]
theorem evalr_val {p : List Nat} (hp : ∀ y ∈ p, y < 256) {x : Nat} (hx : x < 256) : ∀ (i y : Nat), i ≤ p.length → y < 256 → evalr p x i y = val (p.take i) x ^^^ gmul y (gpow x i)
  | 0, y, _, _ => by
    show y = 0 ^^^ gmul y 1
    rw [gmul_one, Nat.zero_xor]
  | i + 1, y, hi, hy => by
    have ht : p.take (i + 1) = p.take i ++ [p.getD i 0] := by
      rw [List.take_add_one, List.getD_eq_getElem?_getD, List.getElem?_eq_getElem (by omega)]
      rfl
    have hpt : ∀ z ∈ p.take i, z < 256 := fun z hz => hp z (List.mem_of_mem_take hz)
    show evalr p x i (gmul y x ^^^ p.getD i 0) = _
    rw [evalr_val hp hx i _ (by omega) (xor_lt (gmul_lt hy) (getD_lt hp i)), ht, val_snoc hx (getD_lt hp i) hpt, xor_gmul (gmul_lt hy) (getD_lt hp i), List.length_take, Nat.min_eq_left (by omega)]
    have e : gmul (gmul y x) (gpow x i) = gmul y (gpow x (i + 1)) := by
      rw [gmul_assoc hy hx (gpow_lt hx _), gmul_comm hx (gpow_lt hx _)]
      rfl
    rw [e, Nat.xor_assoc, Nat.xor_comm (gmul (p.getD i 0) (gpow x i))]
theorem geval_val {p : List Nat} (hp : ∀ y ∈ p, y < 256) {x : Nat} (hx : x < 256) : geval p x = val p x := by
  unfold geval
  rw [evalr_val hp hx _ _ (Nat.le_refl _) (by omega), List.take_length, zero_gmul, Nat.xor_zero]

theorem set_lt {p : List Nat} (hp : ∀ y ∈ p, y < 256) {j v : Nat} (hv : v < 256) : ∀ y ∈ p.set j v, y < 256 := by
  intro y hy
  rcases List.mem_or_eq_of_mem_set hy with h | h
  · exact hp y h
  · omega
theorem val_drop {q : List Nat} {k x : Nat} (hk : k < q.length) : val (q.drop k) x = q.getD k 0 ^^^ gmul (val (q.drop (k + 1)) x) x := by
  rw [List.drop_eq_getElem_cons hk, List.getD_eq_getElem?_getD, List.getElem?_eq_getElem hk]
  rfl
theorem drop_lt {q : List Nat} (hq : ∀ y ∈ q, y < 256) (k : Nat) : ∀ y ∈ q.drop k, y < 256 := fun y hy => hq y (List.mem_of_mem_drop hy)

theorem shift1 {c v x g : Nat} (hc : c < 256) (hv : v < 256) (hx : x < 256) (hg : g < 256) : gmul (gmul c v) (gmul g x) = gmul (gmul c (gmul v x)) g := by
  rw [← gmul_assoc hc hv hx, gmul_assoc (gmul_lt hc) hx hg, gmul_comm hx hg]
theorem shift2 {v w x g : Nat} (hv : v < 256) (hw : w < 256) (hx : x < 256) (hg : g < 256) : gmul (gmul v w) (gmul g x) = gmul (gmul (gmul v x) w) g := by
  rw [gmul_assoc hv hx hw, gmul_comm hx hw, ← gmul_assoc hv hw hx, gmul_assoc (gmul_lt hv) hx hg, gmul_comm hx hg]
theorem times_row {p q : List Nat} (hp : ∀ y ∈ p, y < 256) (hq : ∀ y ∈ q, y < 256) (lp : p.length ≤ 1000) (lq : q.length ≤ 1000) {i : Nat} (hi : i < p.length) : ∀ (d k : Nat) (out : List Nat), k + d = q.length → (∀ y ∈ out, y < 256) → out.length + 1 = p.length + q.length →
    ∃ out' : List Nat, (∀ y ∈ out', y < 256) ∧ out'.length = out.length ∧ (∀ x, x < 256 → val out' x = val out x ^^^ gmul (gmul (p.getD i 0) (val (q.drop k) x)) (gpow x (i + k))) ∧
      ∀ r, Ev (fun n => tapearchiveref04_Times.l0 n (ints p) (ints q) (ints out') ((i + 1 : Nat) : Int)) r → Ev (fun n => tapearchiveref04_Times.l1 n (ints p) (ints q) (ints out) (i : Int) (k : Int)) r
  | 0, k, out, hd, ho, hl => by
    have hk : k = q.length := by omega
    subst hk
    refine ⟨out, ho, rfl, fun x hx => ?_, fun r hr => ?_⟩
    · rw [List.drop_length, show val [] x = 0 from rfl, gmul_zero, zero_gmul, Nat.xor_zero]
    · refine Ev.step (fun n => ?_) hr
      simp only [tapearchiveref04_Times.l1]
      rw [if_neg (by rw [ints_length]; omega), show wrap64 ((i : Int) + 1) = ((i + 1 : Nat) : Int) by unfold wrap64; omega]
  | d + 1, k, out, hd, ho, hl => by
    have hk : k < q.length := by omega
    have hpi := getD_lt hp i
    have hqk := getD_lt hq k
    have hc := gmul_lt (b := q.getD k 0) hpi
    obtain ⟨out', h1, h2, h3, h4⟩ := times_row hp hq lp lq hi d (k + 1) (out.set (i + k) (out.getD (i + k) 0 ^^^ gmul (p.getD i 0) (q.getD k 0))) (by omega) (set_lt ho (xor_lt (getD_lt ho _) hc)) (by rw [List.length_set]; exact hl)
    refine ⟨out', h1, by rw [h2, List.length_set], fun x hx => ?_, fun r hr => ?_⟩
    · have hv := val_lt (x := x) (drop_lt hq (k + 1))
      have e := shift1 hpi hv hx (gpow_lt hx (i + k))
      rw [h3 x hx, val_set hx hc (i + k) ho (by omega), val_drop hk, gmul_xor, xor_gmul hc (gmul_lt hpi), Nat.xor_assoc, ← e]
      rfl
    · refine Ev.step (f := fun n => (tapearchiveref04_Mul.f n ((p.getD i 0 : Nat) : Int) ((q.getD k 0 : Nat) : Int)).bind fun t => tapearchiveref04_Times.l1 n (ints p) (ints q) ((ints out).set (i + k) (Go.bits .xor .u8 ((out.getD (i + k) 0 : Nat) : Int) t)) (i : Int) ((k + 1 : Nat) : Int)) (fun n => ?_) (Ev.bind (refmul_ev hpi hqk) ?_)
      · simp only [tapearchiveref04_Times.l1]
        have c1 : (k : Int) < ((ints q).length : Int) := by rw [ints_length]; omega
        have c2 : ((i + k : Nat) : Int) < ((ints out).length : Int) := by rw [ints_length]; omega
        have c3 : (i : Int) < ((ints p).length : Int) := by rw [ints_length]; omega
        have e1 : wrap64 ((i : Int) + (k : Int)) = ((i + k : Nat) : Int) := by unfold wrap64; omega
        have e2 : wrap64 ((k : Int) + 1) = ((k + 1 : Nat) : Int) := by clear e1; unfold wrap64; omega
        rw [if_pos c1, e1, e2, if_pos (Int.natCast_nonneg _), if_pos c2, if_pos (Int.natCast_nonneg _), if_pos c3, if_pos (Int.natCast_nonneg _), ints_rd, ints_rd, ints_rd, Int.toNat_natCast]
      · rw [xor_u8 (getD_lt ho _) hc]
        have es : (ints out).set (i + k) ((out.getD (i + k) 0 ^^^ gmul (p.getD i 0) (q.getD k 0) : Nat) : Int) = ints (out.set (i + k) (out.getD (i + k) 0 ^^^ gmul (p.getD i 0) (q.getD k 0))) := by
          unfold ints
          rw [List.map_set]
        rw [es]
        exact h4 r hr
theorem times_rows {p q : List Nat} (hp : ∀ y ∈ p, y < 256) (hq : ∀ y ∈ q, y < 256) (lp : p.length ≤ 1000) (lq : q.length ≤ 1000) : ∀ (d i : Nat) (out : List Nat), i + d = p.length → (∀ y ∈ out, y < 256) → out.length + 1 = p.length + q.length →
    ∃ r : List Nat, (∀ y ∈ r, y < 256) ∧ r.length = out.length ∧ (∀ x, x < 256 → val r x = val out x ^^^ gmul (gmul (val (p.drop i) x) (val q x)) (gpow x i)) ∧
      Ev (fun n => tapearchiveref04_Times.l0 n (ints p) (ints q) (ints out) (i : Int)) (ints r)
  | 0, i, out, hd, ho, hl => by
    have hk : i = p.length := by omega
    subst hk
    refine ⟨out, ho, rfl, fun x hx => ?_, ?_⟩
    · rw [List.drop_length, show val [] x = 0 from rfl, zero_gmul, zero_gmul, Nat.xor_zero]
    · refine Ev.step (f := fun _ => some (ints out)) (fun n => ?_) (Ev.now _)
      simp only [tapearchiveref04_Times.l0]
      rw [if_neg (by rw [ints_length]; omega)]
  | d + 1, i, out, hd, ho, hl => by
    obtain ⟨out', h1, h2, h3, h4⟩ := times_row hp hq lp lq (show i < p.length by omega) q.length 0 out (by omega) ho hl
    obtain ⟨r, g1, g2, g3, g4⟩ := times_rows hp hq lp lq d (i + 1) out' (by omega) h1 (by omega)
    refine ⟨r, g1, by omega, fun x hx => ?_, ?_⟩
    · have hv := val_lt (x := x) (drop_lt hp (i + 1))
      have hw := val_lt (x := x) hq
      have hpi := getD_lt hp i
      have e := shift2 hv hw hx (gpow_lt hx i)
      rw [g3 x hx, h3 x hx, List.drop_zero, Nat.add_zero, val_drop (show i < p.length by omega), xor_gmul hpi (gmul_lt hv), xor_gmul (gmul_lt hpi) (gmul_lt (gmul_lt hv)), Nat.xor_assoc, ← e]
      rfl
    · refine Ev.step (fun n => ?_) (h4 _ g4)
      simp only [tapearchiveref04_Times.l0]
      rw [if_pos (by rw [ints_length]; omega)]
      rfl
theorem val_zeros (n x : Nat) : val (List.replicate n 0) x = 0 := by
  induction n with
  | zero => rfl
  | succ n ih =>
    rw [List.replicate_succ]
    show 0 ^^^ gmul (val (List.replicate n 0) x) x = 0
    rw [ih, zero_gmul, Nat.xor_self]
theorem times_ev {p q : List Nat} (hp : ∀ y ∈ p, y < 256) (hq : ∀ y ∈ q, y < 256) (lp : p.length ≤ 1000) (lq : q.length ≤ 1000) :
    ∃ r : List Nat, (∀ y ∈ r, y < 256) ∧ r.length ≤ p.length + q.length - 1 ∧ (∀ x, x < 256 → val r x = gmul (val p x) (val q x)) ∧ Ev (fun n => tapearchiveref04_Times.f n (ints p) (ints q)) (ints r) := by
  unfold tapearchiveref04_Times.f
  have hnil : Ev (fun n => tapearchiveref04_Times.j0 n (ints p) (ints q) true) (ints []) := by
    refine Ev.step (f := fun _ => some []) (fun n => ?_) (Ev.now _)
    simp only [tapearchiveref04_Times.j0]
    rw [if_pos (by simp)]
  by_cases c1 : p.length = 0
  · have e : p = [] := List.eq_nil_of_length_eq_zero c1
    refine ⟨[], by simp, by simp, fun x hx => ?_, Ev.pos (by rw [ints_length]; omega) hnil⟩
    rw [e, show val [] x = 0 from rfl, zero_gmul]
  · by_cases c2 : q.length = 0
    · have e : q = [] := List.eq_nil_of_length_eq_zero c2
      refine ⟨[], by simp, by simp, fun x hx => ?_, Ev.neg (by rw [ints_length]; omega) ?_⟩
      · rw [e, show val [] x = 0 from rfl, gmul_zero]
      · rw [show (((ints q).length : Int) == 0) = true by rw [ints_length, c2]; rfl]
        exact hnil
    · obtain ⟨r, g1, g2, g3, g4⟩ := times_rows hp hq lp lq p.length 0 (List.replicate (p.length + q.length - 1) 0) (by omega) (by intro y hy; rw [List.eq_of_mem_replicate hy]; omega) (by rw [List.length_replicate]; omega)
      refine ⟨r, g1, by rw [g2, List.length_replicate]; exact Nat.le_refl _, fun x hx => ?_, Ev.neg (by rw [ints_length]; omega) ?_⟩
      · rw [g3 x hx, val_zeros, List.drop_zero, show gpow x 0 = 1 from rfl, gmul_one, Nat.zero_xor]
      · rw [show (((ints q).length : Int) == 0) = false from beq_eq_false_iff_ne.2 (by rw [ints_length]; omega)]
        have e : wrap64 ((wrap64 (((ints p).length : Int) + ((ints q).length : Int))) - 1) = ((p.length + q.length - 1 : Nat) : Int) := by rw [ints_length, ints_length]; unfold wrap64; omega
        refine Ev.step (fun n => ?_) g4
        simp only [tapearchiveref04_Times.j0]
        rw [if_neg (by simp), e, if_pos (Int.natCast_nonneg _), Int.toNat_natCast, if_pos (by clear e; omega)]
        unfold ints
        rw [List.map_replicate]
        rfl
/-! ### the reference's value -/
theorem refeval_loop {p : List Nat} (hp : ∀ x ∈ p, x < 256) (hl : p.length < 9223372036854775808) {x : Nat} (hx : x < 256) : ∀ (i y : Nat), i ≤ p.length → y < 256 →
    Ev (fun k => tapearchiveref04_Eval.l0 k (ints p) (x : Int) (y : Int) ((i : Int) - 1)) ((evalr p x i y : Nat) : Int)
  | 0, y, _, hy => by
    refine Ev.step (f := fun _ => some (y : Int)) (fun k => ?_) (Ev.now _)
    simp only [tapearchiveref04_Eval.l0]
    rw [if_neg (by omega)]
  | i + 1, y, hi, hy => by
    have e : ((i + 1 : Nat) : Int) - 1 = (i : Int) := by omega
    rw [e]
    refine Ev.step (f := fun k => (tapearchiveref04_Mul.f k (y : Int) (x : Int)).bind fun t => tapearchiveref04_Eval.l0 k (ints p) (x : Int) (Go.bits .xor .u8 t ((p.getD i 0 : Nat) : Int)) ((i : Int) - 1)) (fun k => ?_) ?_
    · simp only [tapearchiveref04_Eval.l0]
      rw [if_pos (by omega)]
      congr 1
      funext t
      rw [if_pos (by omega), if_pos (by rw [ints_length]; omega), ints_rd]
      congr 1
      unfold wrap64
      omega
    · refine Ev.bind (refmul_ev hy hx) ?_
      rw [xor_u8 (gmul_lt hy) (getD_lt hp i)]
      exact refeval_loop hp hl hx i _ (by omega) (xor_lt (gmul_lt hy) (getD_lt hp i))
theorem refeval_ev {p : List Nat} (hp : ∀ x ∈ p, x < 256) (hl : p.length < 9223372036854775808) {x : Nat} (hx : x < 256) :
    Ev (fun k => tapearchiveref04_Eval.f k (ints p) (x : Int)) ((geval p x : Nat) : Int) := by
  unfold tapearchiveref04_Eval.f
  have e : wrap64 (((ints p).length : Int) - 1) = (p.length : Int) - 1 := by rw [ints_length]; unfold wrap64; omega
  rw [e]
  exact refeval_loop hp hl hx p.length 0 (Nat.le_refl _) (by omega)
end Go.Proofs.Ytgabffpjddccjaa.Q
