/- Matrices over the field with 256 elements: reduction, rank, inverse, products, Cauchy matrices. Plain Lean, no program in sight. -/
import Derived.Test.YtdeamnmadgemoaaGf
namespace Go.Proofs.Ytdeamnmadgemoaa.Lin
open Go.Proofs.Ytdeamnmadgemoaa.Gf
set_option linter.unusedVariables false
/-- An element. -/
structure GF where
  v : Nat
  h : v < 256
theorem GF.ext_ : ∀ {a b : GF}, a.v = b.v → a = b
  | ⟨_, _⟩, ⟨_, _⟩, rfl => rfl
instance : DecidableEq GF := fun a b => if h : a.v = b.v then isTrue (GF.ext_ h) else isFalse (fun e => h (by rw [e]))
instance : Add GF := ⟨fun a b => ⟨a.v ^^^ b.v, xor_lt a.h b.h⟩⟩
instance : Mul GF := ⟨fun a b => ⟨gmul a.v b.v, gmul_lt a.h⟩⟩
instance : OfNat GF 0 := ⟨⟨0, by omega⟩⟩
instance : OfNat GF 1 := ⟨⟨1, by omega⟩⟩
def inv (a : GF) : GF := ⟨ginv a.v, ginv_lt _⟩
section
variable (a b c : GF)
theorem add_v : (a + b).v = a.v ^^^ b.v := rfl
theorem mul_v : (a * b).v = gmul a.v b.v := rfl
theorem zero_v : (0 : GF).v = 0 := rfl
theorem one_v : (1 : GF).v = 1 := rfl
theorem inv_v : (inv a).v = ginv a.v := by unfold inv; simp only []
theorem add_comm_ : a + b = b + a := GF.ext_ (Nat.xor_comm _ _)
theorem add_assoc_ : a + b + c = a + (b + c) := GF.ext_ (Nat.xor_assoc _ _ _)
theorem add_zero_ : a + 0 = a := GF.ext_ (Nat.xor_zero _)
theorem zero_add_ : 0 + a = a := GF.ext_ (Nat.zero_xor _)
theorem add_self_ : a + a = 0 := GF.ext_ (Nat.xor_self _)
theorem mul_comm_ : a * b = b * a := GF.ext_ (gmul_comm a.h b.h)
theorem mul_assoc_ : a * b * c = a * (b * c) := GF.ext_ (gmul_assoc a.h b.h c.h)
theorem mul_one_ : a * 1 = a := GF.ext_ gmul_one
theorem one_mul_ : 1 * a = a := GF.ext_ (one_gmul a.h)
theorem mul_zero_ : a * 0 = 0 := GF.ext_ (gmul_zero a.v)
theorem zero_mul_ : 0 * a = 0 := GF.ext_ (zero_gmul a.v)
theorem mul_add_ : a * (b + c) = a * b + a * c := GF.ext_ (gmul_xor _ _ _)
theorem add_mul_ : (a + b) * c = a * c + b * c := GF.ext_ (xor_gmul a.h b.h)
end
instance : Std.Commutative (α := GF) (· + ·) := ⟨add_comm_⟩
instance : Std.Associative (α := GF) (· + ·) := ⟨add_assoc_⟩
instance : Std.Commutative (α := GF) (· * ·) := ⟨mul_comm_⟩
instance : Std.Associative (α := GF) (· * ·) := ⟨mul_assoc_⟩
theorem ne_v {a : GF} (h : a ≠ 0) : a.v ≠ 0 := fun e => h (GF.ext_ e)
theorem mul_inv_ {a : GF} (h : a ≠ 0) : a * inv a = 1 := GF.ext_ (by rw [mul_v, inv_v, one_v]; exact gmul_ginv a.h (ne_v h))
theorem inv_mul_ {a : GF} (h : a ≠ 0) : inv a * a = 1 := by rw [mul_comm_, mul_inv_ h]
theorem one_ne : (1 : GF) ≠ 0 := fun h => absurd (congrArg GF.v h) (by decide)
theorem inv_ne {a : GF} (h : a ≠ 0) : inv a ≠ 0 := fun e => by have := mul_inv_ h; rw [e, mul_zero_] at this; exact one_ne this.symm
theorem mul_eq_zero_ {a b : GF} (h : a * b = 0) : a = 0 ∨ b = 0 := by
  rcases gmul_eq_zero a.h b.h (congrArg GF.v h) with h | h
  · exact .inl (GF.ext_ h)
  · exact .inr (GF.ext_ h)
theorem mul_ne_ {a b : GF} (ha : a ≠ 0) (hb : b ≠ 0) : a * b ≠ 0 := fun h => (mul_eq_zero_ h).elim ha hb
theorem add_eq_zero_ {a b : GF} (h : a + b = 0) : a = b := by
  have : a + b + b = 0 + b := by rw [h]
  rwa [add_assoc_, add_self_, add_zero_, zero_add_] at this
theorem add_ne_ {a b : GF} (h : a ≠ b) : a + b ≠ 0 := fun e => h (add_eq_zero_ e)
theorem add_cancel_ (a b : GF) : a + b + b = a := by rw [add_assoc_, add_self_, add_zero_]
theorem mix1 (a b c d e : GF) : (a + b * (c * d)) * e = a * e + b * (c * (d * e)) := by rw [add_mul_, mul_assoc_, mul_assoc_]
theorem mix2 (x y p : GF) : x + y = (x + p) + (p + y) := by rw [add_assoc_, ← add_assoc_ p, add_self_, zero_add_]
theorem mix3 (a b c : GF) : a * (b * c) = b * a * c := by rw [← mul_assoc_, mul_comm_ a b]
theorem mix4 (x p x0 : GF) : x + p + (x0 + p) = x + x0 := by rw [add_comm_ x0, add_assoc_, ← add_assoc_ p, add_self_, zero_add_]
theorem mix5 (s a i0 i1 : GF) : s * (a * i0 * i1) = a * (s * (i1 * i0)) := by ac_rfl

/-- Sums. -/
def sum : Nat → (Nat → GF) → GF
  | 0, _ => 0
  | n + 1, f => sum n f + f n
theorem sum_congr {f g : Nat → GF} : ∀ {n : Nat}, (∀ i, i < n → f i = g i) → sum n f = sum n g
  | 0, _ => rfl
  | n + 1, h => by unfold sum; rw [sum_congr (fun i hi => h i (by omega)), h n (by omega)]
theorem sum_add (f g : Nat → GF) : ∀ n, sum n (fun i => f i + g i) = sum n f + sum n g
  | 0 => (add_zero_ 0).symm
  | n + 1 => by
    show sum n (fun i => f i + g i) + (f n + g n) = sum n f + f n + (sum n g + g n)
    rw [sum_add f g n]; ac_rfl
theorem sum_mul (c : GF) (f : Nat → GF) : ∀ n, sum n (fun i => c * f i) = c * sum n f
  | 0 => (mul_zero_ c).symm
  | n + 1 => by unfold sum; rw [sum_mul c f n, mul_add_]
theorem sum_mul' (c : GF) (f : Nat → GF) (n : Nat) : sum n (fun i => f i * c) = sum n f * c := by
  rw [mul_comm_, ← sum_mul]; exact sum_congr fun i _ => mul_comm_ _ _
theorem sum_none {f : Nat → GF} : ∀ {n : Nat}, (∀ i, i < n → f i = 0) → sum n f = 0
  | 0, _ => rfl
  | n + 1, h => by unfold sum; rw [sum_none (fun i hi => h i (by omega)), h n (by omega), add_zero_]
theorem sum_one {f : Nat → GF} {k : Nat} : ∀ {n : Nat}, k < n → (∀ i, i < n → i ≠ k → f i = 0) → sum n f = f k
  | 0, h, _ => absurd h (by omega)
  | n + 1, h, hf => by
    unfold sum
    by_cases e : k = n
    · subst e
      rw [sum_none (fun i hi => hf i (by omega) (by omega)), zero_add_]
    · rw [sum_one (by omega) (fun i hi hk => hf i (by omega) hk), hf n (by omega) (fun h => e h.symm), add_zero_]
theorem sum_swap (f : Nat → Nat → GF) (m : Nat) : ∀ n, sum n (fun i => sum m (fun j => f i j)) = sum m (fun j => sum n (fun i => f i j))
  | 0 => (sum_none (fun _ _ => rfl)).symm
  | n + 1 => by
    have h := sum_add (fun j => sum n (fun i => f i j)) (fun j => f n j) m
    show sum n (fun i => sum m (fun j => f i j)) + sum m (fun j => f n j) = sum m (fun j => sum n (fun i => f i j) + f n j)
    rw [h, sum_swap f m n]
theorem sum_split (f : Nat → GF) (n : Nat) : ∀ m, sum (n + m) f = sum n f + sum m (fun i => f (n + i))
  | 0 => (add_zero_ _).symm
  | m + 1 => by show sum (n + m) f + f (n + m) = _; rw [sum_split f n m]; exact add_assoc_ _ _ _
/-- One summand taken out: the last one steps into its place. -/
theorem sum_out (f : Nat → GF) {c n : Nat} (hc : c < n + 1) : sum (n + 1) f = f c + sum n (fun k => f (if k = c then n else k)) := by
  by_cases e : c = n
  · subst e
    show sum c f + f c = _
    rw [add_comm_, sum_congr (n := c) (f := fun k => f (if k = c then c else k)) (g := f) (fun i hi => by show f (if i = c then c else i) = f i; rw [if_neg (by omega)])]
  · have h : ∀ m, c < m → m ≤ n → sum m (fun k => f (if k = c then n else k)) + f c = sum m f + f n := by
      intro m
      induction m with
      | zero => intro h; omega
      | succ m ih =>
        intro h1 h2
        show sum m (fun k => f (if k = c then n else k)) + f (if m = c then n else m) + f c = sum m f + f m + f n
        by_cases e2 : m = c
        · subst e2
          rw [if_pos rfl, sum_congr (f := fun k => f (if k = m then n else k)) (g := f) (fun i hi => by show f (if i = m then n else i) = f i; rw [if_neg (by omega)])]
          ac_rfl
        · rw [if_neg e2]
          have := ih (by omega) (by omega)
          calc _ = (sum m (fun k => f (if k = c then n else k)) + f c) + f m := by ac_rfl
            _ = (sum m f + f n) + f m := by rw [this]
            _ = _ := by ac_rfl
    show sum n f + f n = _
    rw [← h n (by omega) (Nat.le_refl n), add_comm_]

/-! Rows, matrices: functions. -/
abbrev Row := Nat → GF
abbrev Mat := Nat → Row
def dlt (i k : Nat) : GF := if i = k then 1 else 0
/-- v is a combination of the first N rows of B. -/
def LC (N : Nat) (B : Mat) (v : Row) : Prop := ∃ c : Row, ∀ j, v j = sum N (fun k => c k * B k j)
theorem LC.row {N : Nat} (B : Mat) {i : Nat} (hi : i < N) : LC N B (B i) := ⟨dlt i, fun j => by
  rw [sum_one hi (fun k _ hk => by show dlt i k * B k j = 0; unfold dlt; rw [if_neg (Ne.symm hk), zero_mul_])]
  show B i j = dlt i i * B i j
  unfold dlt; rw [if_pos rfl, one_mul_]⟩
theorem LC.add {N : Nat} {B : Mat} {u v : Row} : LC N B u → LC N B v → LC N B (fun j => u j + v j)
  | ⟨c, hc⟩, ⟨d, hd⟩ => ⟨fun k => c k + d k, fun j => by show u j + v j = _; rw [hc, hd, ← sum_add]; exact sum_congr fun k _ => (add_mul_ _ _ _).symm⟩
theorem LC.smul {N : Nat} {B : Mat} {u : Row} (x : GF) : LC N B u → LC N B (fun j => x * u j)
  | ⟨c, hc⟩ => ⟨fun k => x * c k, fun j => by show x * u j = _; rw [hc, ← sum_mul]; exact sum_congr fun k _ => (mul_assoc_ _ _ _).symm⟩
theorem LC.eq {N : Nat} {B : Mat} {u v : Row} (h : LC N B u) (e : ∀ j, v j = u j) : LC N B v := by
  obtain ⟨c, hc⟩ := h
  exact ⟨c, fun j => by rw [e, hc]⟩
def RowSub (N : Nat) (A B : Mat) : Prop := ∀ i, i < N → LC N B (A i)
theorem RowSub.mat {N : Nat} {A B : Mat} (h : RowSub N A B) : ∃ P : Mat, ∀ i, i < N → ∀ j, A i j = sum N (fun k => P i k * B k j) := by
  classical
  exact ⟨fun i => if hi : i < N then Classical.choose (h i hi) else fun _ => 0, fun i hi j => by
    show A i j = sum N (fun k => (if hi : i < N then Classical.choose (h i hi) else fun _ => 0) k * B k j)
    rw [dif_pos hi]; exact Classical.choose_spec (h i hi) j⟩
theorem LC.trans {N : Nat} {A B : Mat} {v : Row} (h : LC N A v) (hs : RowSub N A B) : LC N B v := by
  obtain ⟨c, hc⟩ := h
  obtain ⟨P, hP⟩ := hs.mat
  refine ⟨fun k => sum N (fun i => c i * P i k), fun j => ?_⟩
  rw [hc, sum_congr (g := fun i => sum N (fun k => c i * P i k * B k j)) (fun i hi => by
    show c i * A i j = _
    rw [hP i hi j, ← sum_mul]; exact sum_congr fun k _ => (mul_assoc_ _ _ _).symm), sum_swap]
  exact sum_congr fun k _ => sum_mul' _ _ _
theorem RowSub.trans {N : Nat} {A B C : Mat} (h : RowSub N A B) (k : RowSub N B C) : RowSub N A C := fun i hi => (h i hi).trans k
theorem RowSub.refl (N : Nat) (A : Mat) : RowSub N A A := fun i hi => LC.row A hi
/-- The reduction. -/
def swapF (A : Mat) (r i : Nat) : Mat := fun k => if k = r then A i else if k = i then A r else A k
def scaleF (A : Mat) (r j : Nat) : Row := fun c => A r c * inv (A r j)
def elimF (A : Mat) (r j : Nat) : Mat := fun i => if i = r then scaleF A r j else fun c => A i c + A i j * scaleF A r j c
/-- The first row from r on, of n, with something in column j; r + n if there is none. -/
def pivF (A : Mat) (j : Nat) : Nat → Nat → Nat
  | r, 0 => r
  | r, n + 1 => if A r j = 0 then pivF A j (r + 1) n else r
theorem pivF_spec (A : Mat) (j : Nat) : ∀ (n r : Nat), r ≤ pivF A j r n ∧ pivF A j r n ≤ r + n ∧ (∀ i, r ≤ i → i < pivF A j r n → A i j = 0) ∧ (pivF A j r n < r + n → A (pivF A j r n) j ≠ 0)
  | 0, r => ⟨Nat.le_refl _, Nat.le_refl _, fun i h1 h2 => absurd h2 (by show ¬ i < r; omega), fun h => absurd h (by show ¬ r < r + 0; omega)⟩
  | n + 1, r => by
    unfold pivF
    by_cases h : A r j = 0
    · rw [if_pos h]
      obtain ⟨h1, h2, h3, h4⟩ := pivF_spec A j n (r + 1)
      refine ⟨by omega, by omega, fun i hi hi2 => ?_, fun hl => h4 (by omega)⟩
      by_cases e : i = r
      · rw [e, h]
      · exact h3 i (by omega) hi2
    · rw [if_neg h]
      exact ⟨by omega, by omega, fun i h1 h2 => absurd h2 (by omega), fun _ => h⟩
def redF (N : Nat) : Mat → Nat → Nat → Nat → Mat × Nat
  | A, r, _, 0 => (A, r)
  | A, r, j, d + 1 => if r = N then (A, r) else
    if pivF A j r (N - r) = N then redF N A r (j + 1) d else redF N (elimF (swapF A r (pivF A j r (N - r))) r j) (r + 1) (j + 1) d
theorem swap_sub {N : Nat} (A : Mat) {r i : Nat} (hr : r < N) (hi : i < N) : RowSub N (swapF A r i) A := fun k hk => by
  unfold swapF
  by_cases h1 : k = r
  · rw [if_pos h1]; exact LC.row A hi
  · rw [if_neg h1]
    by_cases h2 : k = i
    · rw [if_pos h2]; exact LC.row A hr
    · rw [if_neg h2]; exact LC.row A hk
theorem swap_swap (A : Mat) (r i : Nat) : swapF (swapF A r i) r i = A := by
  funext k
  unfold swapF
  by_cases h1 : k = r
  · subst h1
    by_cases h3 : i = k
    · rw [if_pos rfl, if_pos h3, h3]
    · rw [if_pos rfl, if_neg h3, if_pos rfl]
  · rw [if_neg h1]
    by_cases h2 : k = i
    · subst h2; rw [if_pos rfl, if_pos rfl]
    · rw [if_neg h2, if_neg h1, if_neg h2]
theorem swap_bus {N : Nat} (A : Mat) {r i : Nat} (hr : r < N) (hi : i < N) : RowSub N A (swapF A r i) := by
  have := swap_sub (N := N) (swapF A r i) hr hi
  rwa [swap_swap] at this
theorem elim_sub {N : Nat} (A : Mat) {r : Nat} (j : Nat) (hr : r < N) : RowSub N (elimF A r j) A := fun i hi => by
  have hrow : LC N A (scaleF A r j) := (LC.smul (inv (A r j)) (LC.row A hr)).eq fun c => mul_comm_ _ _
  unfold elimF
  by_cases h : i = r
  · rw [if_pos h]; exact hrow
  · rw [if_neg h]
    exact (LC.row A hi).add (hrow.smul _)
theorem elim_bus {N : Nat} (A : Mat) {r : Nat} (j : Nat) (hr : r < N) (h0 : A r j ≠ 0) : RowSub N A (elimF A r j) := fun i hi => by
  have hrr : elimF A r j r = scaleF A r j := by unfold elimF; rw [if_pos rfl]
  have hrow : LC N (elimF A r j) (scaleF A r j) := by rw [← hrr]; exact LC.row _ hr
  by_cases h : i = r
  · subst h
    refine (hrow.smul (A i j)).eq fun c => ?_
    unfold scaleF
    rw [mul_comm_ (A i c), ← mul_assoc_, mul_inv_ h0, one_mul_]
  · refine ((LC.row (elimF A r j) hi).add (hrow.smul (A i j))).eq fun c => ?_
    have : elimF A r j i c = A i c + A i j * scaleF A r j c := by unfold elimF; rw [if_neg h]
    rw [this, add_cancel_]
structure Inv (N : Nat) (A0 A : Mat) (r j : Nat) : Prop where
  le : r ≤ j
  leN : r ≤ N
  sub : RowSub N A A0
  bus : RowSub N A0 A
  piv : ∃ p : Nat → Nat, (∀ k, k < r → p k < j ∧ ∀ i, i < N → A i (p k) = dlt i k) ∧ (r = j → ∀ k, k < r → p k = k)
  zero : ∀ i, r ≤ i → i < N → ∀ c, c < j → A i c = 0
theorem elim_other {A : Mat} {r j i c : Nat} (h0 : A r c = 0) : elimF A r j i c = A i c := by
  unfold elimF
  have hs : scaleF A r j c = 0 := by unfold scaleF; rw [h0, zero_mul_]
  by_cases h : i = r
  · rw [if_pos h, hs, h, h0]
  · rw [if_neg h]; show A i c + A i j * scaleF A r j c = A i c; rw [hs, mul_zero_, add_zero_]
theorem elim_col {A : Mat} {r j i : Nat} (h0 : A r j ≠ 0) : elimF A r j i j = dlt i r := by
  unfold elimF dlt
  have hs : scaleF A r j j = 1 := mul_inv_ h0
  by_cases h : i = r
  · rw [if_pos h, if_pos h, hs]
  · rw [if_neg h, if_neg h]; show A i j + A i j * scaleF A r j j = 0; rw [hs, mul_one_, add_self_]
theorem redF_inv (N : Nat) (A0 : Mat) : ∀ (d : Nat) (A : Mat) (r j : Nat), Inv N A0 A r j → ∃ j', j' ≤ j + d ∧ Inv N A0 (redF N A r j d).1 (redF N A r j d).2 j' ∧ (j' = j + d ∨ (redF N A r j d).2 = N)
  | 0, A, r, j, h => ⟨j, Nat.le_refl _, h, .inl rfl⟩
  | d + 1, A, r, j, h => by
    unfold redF
    by_cases hN : r = N
    · rw [if_pos hN]; exact ⟨j, by omega, h, .inr hN⟩
    · rw [if_neg hN]
      have hlt : r < N := by have := h.leN; omega
      obtain ⟨s1, s2, s3, s4⟩ := pivF_spec A j (N - r) r
      generalize pivF A j r (N - r) = i at s1 s2 s3 s4 ⊢
      by_cases hi : i = N
      · rw [if_pos hi]
        obtain ⟨j', a, b, c⟩ := redF_inv N A0 d A r (j + 1) ⟨by have := h.le; omega, h.leN, h.sub, h.bus, by
          obtain ⟨p, hp, _⟩ := h.piv
          exact ⟨p, fun k hk => ⟨by have := (hp k hk).1; omega, (hp k hk).2⟩, fun e => absurd e (by have := h.le; omega)⟩, fun i' h1 h2 c hc => by
          by_cases e : c = j
          · rw [e]; exact s3 i' h1 (by omega)
          · exact h.zero i' h1 h2 c (by omega)⟩
        exact ⟨j', by omega, b, c.imp (fun h => by omega) id⟩
      · rw [if_neg hi]
        have hiN : i < N := by omega
        have h0 : swapF A r i r j ≠ 0 := by unfold swapF; rw [if_pos rfl]; exact s4 (by omega)
        have hz : ∀ c, c < j → swapF A r i r c = 0 := fun c hc => by unfold swapF; rw [if_pos rfl]; exact h.zero i s1 hiN c hc
        obtain ⟨j', a, b, c⟩ := redF_inv N A0 d (elimF (swapF A r i) r j) (r + 1) (j + 1) ⟨by have := h.le; omega, by omega, ((elim_sub _ j hlt).trans (swap_sub A hlt hiN)).trans h.sub, h.bus.trans ((swap_bus A hlt hiN).trans (elim_bus _ j hlt h0)), by
          obtain ⟨p, hp, hid⟩ := h.piv
          refine ⟨fun k => if k = r then j else p k, fun k hk => ?_, fun e k hk => ?_⟩
          · show (if k = r then j else p k) < j + 1 ∧ ∀ i', i' < N → elimF (swapF A r i) r j i' (if k = r then j else p k) = dlt i' k
            by_cases e : k = r
            · rw [if_pos e, e]
              exact ⟨by omega, fun i' _ => elim_col h0⟩
            · rw [if_neg e]
              obtain ⟨h1, h2⟩ := hp k (by omega)
              refine ⟨by omega, fun i' hi' => ?_⟩
              rw [elim_other (hz _ h1)]
              unfold swapF
              by_cases e1 : i' = r
              · rw [if_pos e1, h2 i hiN, e1]
                unfold dlt; rw [if_neg (by omega), if_neg (by omega)]
              · rw [if_neg e1]
                by_cases e2 : i' = i
                · rw [if_pos e2, h2 r hlt, e2]
                  unfold dlt; rw [if_neg (by omega), if_neg (by omega)]
                · rw [if_neg e2]; exact h2 i' hi'
          · show (if k = r then j else p k) = k
            by_cases e1 : k = r
            · rw [if_pos e1]; omega
            · rw [if_neg e1]; exact hid (by omega) k (by omega), fun i' h1 h2 c hc => by
          by_cases e : c = j
          · rw [e, elim_col h0]; unfold dlt; rw [if_neg (by omega)]
          · rw [elim_other (hz c (by omega))]
            unfold swapF
            rw [if_neg (by omega)]
            by_cases e2 : i' = i
            · rw [if_pos e2]; exact h.zero r (Nat.le_refl _) hlt c (by omega)
            · rw [if_neg e2]; exact h.zero i' (by omega) h2 c (by omega)⟩
        exact ⟨j', by omega, b, c.imp (fun h => by omega) id⟩
def rankF (N C : Nat) (A : Mat) : Nat := (redF N A 0 0 C).2
def formF (N C : Nat) (A : Mat) : Mat := (redF N A 0 0 C).1
theorem red_spec (N C : Nat) (A : Mat) : rankF N C A ≤ N ∧ rankF N C A ≤ C ∧ RowSub N (formF N C A) A ∧ RowSub N A (formF N C A) ∧ (∃ p : Nat → Nat, (∀ k, k < rankF N C A → p k < C ∧ ∀ i, i < N → formF N C A i (p k) = dlt i k) ∧ (rankF N C A = C → ∀ k, k < C → p k = k)) ∧
    ∀ i, rankF N C A ≤ i → i < N → ∀ c, c < C → formF N C A i c = 0 := by
  obtain ⟨j', h1, h2, h3⟩ := redF_inv N A C A 0 0 ⟨Nat.le_refl _, Nat.zero_le _, RowSub.refl _ _, RowSub.refl _ _, ⟨fun k => k, fun k hk => absurd hk (by omega), fun _ k hk => absurd hk (by omega)⟩, fun _ _ _ c hc => absurd hc (by omega)⟩
  rw [show (redF N A 0 0 C).1 = formF N C A from rfl, show (redF N A 0 0 C).2 = rankF N C A from rfl] at *
  generalize rankF N C A = s at *
  have := h2.le
  refine ⟨h2.leN, by omega, h2.sub, h2.bus, ?_, fun i hi hiN c hc => ?_⟩
  · obtain ⟨p, hp, hid⟩ := h2.piv
    exact ⟨p, fun k hk => ⟨by have := (hp k hk).1; omega, (hp k hk).2⟩, fun e k hk => hid (by omega) k (by omega)⟩
  · rcases h3 with h3 | h3
    · exact h2.zero i hi hiN c (by omega)
    · omega

/-- More unknowns than equations. -/
theorem kernel : ∀ (t s : Nat) (Y : Mat), t < s → ∃ v : Row, (∃ k, k < s ∧ v k ≠ 0) ∧ ∀ i, i < t → sum s (fun k => Y i k * v k) = 0
  | 0, s, Y, h => ⟨fun _ => 1, ⟨0, h, one_ne⟩, fun i hi => absurd hi (by omega)⟩
  | t + 1, s, Y, h => by
    by_cases hz : ∀ k, k < s → Y t k = 0
    · obtain ⟨v, hv, hs⟩ := kernel t s Y (by omega)
      refine ⟨v, hv, fun i hi => ?_⟩
      by_cases e : i = t
      · rw [e]; exact sum_none fun k hk => by rw [hz k hk, zero_mul_]
      · exact hs i (by omega)
    · obtain ⟨c, hc, h0⟩ : ∃ c, c < s ∧ Y t c ≠ 0 := by
        apply Classical.byContradiction
        intro hn
        exact hz fun k hk => Classical.byContradiction fun h => hn ⟨k, hk, h⟩
      obtain ⟨m, rfl⟩ : ∃ m, s = m + 1 := ⟨s - 1, by omega⟩
      obtain ⟨g, hg⟩ : ∃ g : Nat → Nat, g = fun k => if k = c then m else k := ⟨_, rfl⟩
      have gc : ∀ k, k < m → g k < m + 1 ∧ g k ≠ c := fun k hk => by
        rw [hg]
        show (if k = c then m else k) < m + 1 ∧ (if k = c then m else k) ≠ c
        by_cases e : k = c
        · rw [if_pos e]; omega
        · rw [if_neg e]; omega
      have gi : ∀ k, k < m → (if g k = m then c else g k) = k := fun k hk => by
        rw [hg]
        show (if (if k = c then m else k) = m then c else (if k = c then m else k)) = k
        by_cases e : k = c
        · rw [if_pos e, if_pos rfl, e]
        · rw [if_neg e, if_neg (by omega)]
      obtain ⟨v, ⟨k0, hk0, hv⟩, hs⟩ := kernel t m (fun i k => Y i (g k) + Y i c * (inv (Y t c) * Y t (g k))) (by omega)
      obtain ⟨q, hq⟩ : ∃ q, q = inv (Y t c) := ⟨_, rfl⟩
      have hqq : Y t c * q = 1 := by rw [hq]; exact mul_inv_ h0
      rw [← hq] at hs
      clear hq
      obtain ⟨w, wc, wg⟩ : ∃ w : Row, w c = q * sum m (fun k => Y t (g k) * v k) ∧ ∀ k, k < m → w (g k) = v k :=
        ⟨fun k => if k = c then q * sum m (fun k => Y t (g k) * v k) else v (if k = m then c else k), if_pos rfl, fun k hk => by
          show (if g k = c then _ else v (if g k = m then c else g k)) = v k
          rw [if_neg (gc k hk).2, gi k hk]⟩
      have hsum : ∀ i, sum (m + 1) (fun k => Y i k * w k) = Y i c * (q * sum m (fun k => Y t (g k) * v k)) + sum m (fun k => Y i (g k) * v k) := fun i => by
        have e0 : sum (m + 1) (fun k => Y i k * w k) = Y i c * w c + sum m (fun k => Y i (if k = c then m else k) * w (if k = c then m else k)) := sum_out (fun k => Y i k * w k) hc
        have e1 : sum m (fun k => Y i (if k = c then m else k) * w (if k = c then m else k)) = sum m (fun k => Y i (g k) * v k) := sum_congr fun k hk => by
          have h1 := wg k hk
          have h2 : (if k = c then m else k) = g k := by rw [hg]
          rw [h2, h1]
        rw [e0, wc, e1]
      refine ⟨w, ⟨g k0, (gc k0 hk0).1, by rw [wg k0 hk0]; exact hv⟩, fun i hi => ?_⟩
      rw [hsum]
      by_cases e : i = t
      · rw [e, ← mul_assoc_, hqq, one_mul_, add_self_]
      · have h1 := hs i (by omega)
        rw [sum_congr (g := fun k => Y i (g k) * v k + Y i c * (q * (Y t (g k) * v k))) (fun k _ => mix1 _ _ _ _ _), sum_add, sum_mul, sum_mul] at h1
        rw [add_comm_]; exact h1
/-- The identity of size s is no product over fewer than s. -/
theorem ibn {s t : Nat} {X Y : Mat} (h : ∀ i k, i < s → k < s → sum t (fun a => X i a * Y a k) = dlt i k) : s ≤ t := by
  apply Classical.byContradiction
  intro hn
  obtain ⟨v, ⟨k0, hk0, hv⟩, hs⟩ := kernel t s Y (by omega)
  apply hv
  have h1 : sum s (fun k => dlt k0 k * v k) = v k0 := by
    rw [sum_one hk0 (fun k _ hk => by show dlt k0 k * v k = 0; unfold dlt; rw [if_neg (Ne.symm hk), zero_mul_])]
    show dlt k0 k0 * v k0 = v k0
    unfold dlt; rw [if_pos rfl, one_mul_]
  rw [← h1, sum_congr (g := fun k => sum t (fun a => X k0 a * (Y a k * v k))) (fun k hk => by
    show dlt k0 k * v k = _
    rw [← h k0 k hk0 hk, ← sum_mul']; exact sum_congr fun a _ => mul_assoc_ _ _ _), sum_swap]
  exact sum_none fun a ha => by rw [sum_mul, hs a ha, mul_zero_]
/-- M, of N rows and C columns, is a product over s. -/
def Fac (N C : Nat) (M : Mat) (s : Nat) : Prop := ∃ Q R : Mat, ∀ i, i < N → ∀ j, j < C → M i j = sum s (fun k => Q i k * R k j)
theorem rank_fac (N C : Nat) (A : Mat) : Fac N C A (rankF N C A) := by
  obtain ⟨h1, h2, h3, h4, h5, h6⟩ := red_spec N C A
  obtain ⟨Q, hQ⟩ := h4.mat
  refine ⟨Q, formF N C A, fun i hi j hj => ?_⟩
  rw [hQ i hi j]
  have hsp := sum_split (fun k => Q i k * formF N C A k j) (rankF N C A) (N - rankF N C A)
  rw [show rankF N C A + (N - rankF N C A) = N by omega] at hsp
  rw [hsp, sum_none (n := N - rankF N C A) (fun k hk => by rw [h6 _ (by omega) (by omega) j hj, mul_zero_]), add_zero_]
theorem rank_le {N C t : Nat} {A : Mat} (h : Fac N C A t) : rankF N C A ≤ t := by
  obtain ⟨h1, h2, h3, h4, ⟨p, hp, _⟩, h6⟩ := red_spec N C A
  obtain ⟨P, hP⟩ := h3.mat
  obtain ⟨Q, R, hQ⟩ := h
  refine ibn (X := fun i a => sum N (fun k => P i k * Q k a)) (Y := fun a k => R a (p k)) fun i k hi hk => ?_
  obtain ⟨hp1, hp2⟩ := hp k hk
  rw [← hp2 i (by omega), hP i (by omega), sum_congr (n := N) (g := fun b => sum t (fun a => P i b * (Q b a * R a (p k)))) (fun b hb => by rw [hQ b hb _ hp1, ← sum_mul]), sum_swap]
  exact sum_congr fun a _ => by rw [← sum_mul']; exact sum_congr fun b _ => mul_assoc_ _ _ _
def mulF (K : Nat) (A B : Mat) : Mat := fun i j => sum K (fun k => A i k * B k j)
theorem rank_mul_left (N K C : Nat) (A B : Mat) : rankF N C (mulF K A B) ≤ rankF N K A := by
  obtain ⟨Q, R, h⟩ := rank_fac N K A
  refine rank_le ⟨Q, fun a j => sum K (fun k => R a k * B k j), fun i hi j hj => ?_⟩
  show sum K (fun k => A i k * B k j) = _
  rw [sum_congr (g := fun k => sum (rankF N K A) (fun a => Q i a * (R a k * B k j))) (fun k hk => by
    rw [h i hi k hk, ← sum_mul']; exact sum_congr fun a _ => mul_assoc_ _ _ _), sum_swap]
  exact sum_congr fun a _ => sum_mul _ _ _
theorem rank_mul_right (N K C : Nat) (A B : Mat) : rankF N C (mulF K A B) ≤ rankF K C B := by
  obtain ⟨Q, R, h⟩ := rank_fac K C B
  refine rank_le ⟨fun i a => sum K (fun k => A i k * Q k a), R, fun i hi j hj => ?_⟩
  show sum K (fun k => A i k * B k j) = _
  rw [sum_congr (g := fun k => sum (rankF K C B) (fun a => A i k * (Q k a * R a j))) (fun k hk => by rw [h k hk j hj, ← sum_mul]), sum_swap]
  exact sum_congr fun a _ => by rw [← sum_mul']; exact sum_congr fun k _ => (mul_assoc_ _ _ _).symm
theorem mul_assoc_F (K L : Nat) (A B C : Mat) (i j : Nat) : mulF L (mulF K A B) C i j = mulF K A (mulF L B C) i j := by
  show sum L (fun l => sum K (fun k => A i k * B k l) * C l j) = sum K (fun k => A i k * sum L (fun l => B k l * C l j))
  rw [sum_congr (g := fun l => sum K (fun k => A i k * (B k l * C l j))) (fun l _ => by rw [← sum_mul']; exact sum_congr fun k _ => mul_assoc_ _ _ _), sum_swap]
  exact sum_congr fun k _ => sum_mul _ _ _
/-- Only the first columns matter. -/
theorem red_agree (N C : Nat) : ∀ (d : Nat) (A B : Mat) (r j : Nat), r ≤ N → j + d ≤ C → (∀ i, i < N → ∀ c, c < C → A i c = B i c) → (redF N A r j d).2 = (redF N B r j d).2 ∧ ∀ i, i < N → ∀ c, c < C → (redF N A r j d).1 i c = (redF N B r j d).1 i c
  | 0, A, B, r, j, _, _, h => ⟨rfl, h⟩
  | d + 1, A, B, r, j, hrN, hj, h => by
    have hpiv : ∀ n r, r + n ≤ N → pivF A j r n = pivF B j r n := by
      intro n
      induction n with
      | zero => intro r _; rfl
      | succ n ih => intro r hr; unfold pivF; rw [h r (by omega) j (by omega), ih (r + 1) (by omega)]
    unfold redF
    by_cases hN : r = N
    · rw [if_pos hN, if_pos hN]; exact ⟨rfl, h⟩
    · rw [if_neg hN, if_neg hN, hpiv _ _ (by omega)]
      obtain ⟨s1, s2, _, _⟩ := pivF_spec B j (N - r) r
      generalize pivF B j r (N - r) = i at s1 s2 ⊢
      by_cases hi : i = N
      · rw [if_pos hi, if_pos hi]; exact red_agree N C d A B r (j + 1) hrN (by omega) h
      · rw [if_neg hi, if_neg hi]
        have hsw : ∀ k, k < N → ∀ c, c < C → swapF A r i k c = swapF B r i k c := fun k hk c hc => by
          unfold swapF
          by_cases h1 : k = r
          · rw [if_pos h1, if_pos h1]; exact h i (by omega) c hc
          · rw [if_neg h1, if_neg h1]
            by_cases h2 : k = i
            · rw [if_pos h2, if_pos h2]; exact h r (by omega) c hc
            · rw [if_neg h2, if_neg h2]; exact h k hk c hc
        refine red_agree N C d _ _ (r + 1) (j + 1) (by omega) (by omega) fun k hk c hc => ?_
        have hsc : ∀ c, c < C → scaleF (swapF A r i) r j c = scaleF (swapF B r i) r j c := fun c hc => by unfold scaleF; rw [hsw r (by omega) c hc, hsw r (by omega) j (by omega)]
        unfold elimF
        by_cases h1 : k = r
        · rw [if_pos h1, if_pos h1]; exact hsc c hc
        · rw [if_neg h1, if_neg h1]
          show swapF A r i k c + swapF A r i k j * scaleF (swapF A r i) r j c = _
          rw [hsw k hk c hc, hsw k hk j (by omega), hsc c hc]
/-- A matrix and, to its right, the identity. -/
def augF (n : Nat) (A : Mat) : Mat := fun i j => if j < n then A i j else dlt (i + n) j
def invF (n : Nat) (A : Mat) : Mat := fun i j => formF n n (augF n A) i (n + j)
theorem rank_aug (n : Nat) (A : Mat) : rankF n n (augF n A) = rankF n n A :=
  (red_agree n n n (augF n A) A 0 0 (Nat.zero_le _) (by omega) (fun i _ c hc => by unfold augF; rw [if_pos hc])).1
theorem inv_spec {n : Nat} {A : Mat} (h : rankF n n A = n) : (∀ i j, i < n → j < n → mulF n (invF n A) A i j = dlt i j) ∧ ∀ i j, i < n → j < n → mulF n A (invF n A) i j = dlt i j := by
  obtain ⟨h1, h2, h3, h4, ⟨p, hp, hid⟩, h6⟩ := red_spec n n (augF n A)
  rw [rank_aug, h] at hp hid
  obtain ⟨P, hP⟩ := h3.mat
  obtain ⟨Q, hQ⟩ := h4.mat
  have hone : ∀ i j, i < n → j < n → formF n n (augF n A) i j = dlt i j := fun i j hi hj => by have := (hp j hj).2 i hi; rwa [hid rfl j hj] at this
  have hPn : ∀ i j, i < n → j < n → invF n A i j = P i j := fun i j hi hj => by
    show formF n n (augF n A) i (n + j) = _
    rw [hP i hi, sum_one hj (fun k _ hk => by show P i k * augF n A k (n + j) = 0; unfold augF dlt; rw [if_neg (by omega), if_neg (by omega), mul_zero_])]
    show P i j * augF n A j (n + j) = _
    unfold augF dlt; rw [if_neg (by omega), if_pos (by omega), mul_one_]
  have hQn : ∀ i j, i < n → j < n → A i j = Q i j := fun i j hi hj => by
    have := hQ i hi j
    rw [sum_one hj (fun k hk hkj => by rw [hone k j hk hj]; unfold dlt; rw [if_neg hkj, mul_zero_]), hone j j hj hj] at this
    unfold dlt augF at this
    rwa [if_pos hj, if_pos rfl, mul_one_] at this
  refine ⟨fun i j hi hj => ?_, fun i j hi hj => ?_⟩
  · rw [← hone i j hi hj, hP i hi j]
    exact sum_congr fun k hk => by rw [hPn i k hi hk]; unfold augF; rw [if_pos hj]
  · have := hQ i hi (n + j)
    unfold augF at this
    rw [if_neg (by omega)] at this
    show sum n (fun k => A i k * invF n A k j) = _
    rw [sum_congr (g := fun k => Q i k * formF n n (augF n A) k (n + j)) (fun k hk => by rw [hQn i k hi hk]; rfl)]
    refine Eq.trans this.symm ?_
    unfold dlt
    by_cases e : i = j
    · rw [if_pos (by omega), if_pos e]
    · rw [if_neg (by omega), if_neg e]
/-- A matrix with a left (right) inverse has full rank; one that has no kernel too. -/
theorem rank_full {n : Nat} {A B : Mat} (h : ∀ i j, i < n → j < n → mulF n A B i j = dlt i j) : rankF n n A = n := by
  have h1 := (red_spec n n A).1
  obtain ⟨Q, R, hf⟩ := rank_fac n n A
  have h2 : n ≤ rankF n n A := ibn (X := Q) (Y := fun a k => sum n (fun b => R a b * B b k)) fun i k hi hk => by
    rw [← h i k hi hk]
    show _ = sum n (fun b => A i b * B b k)
    rw [sum_congr (n := n) (g := fun b => sum (rankF n n A) (fun a => Q i a * (R a b * B b k))) (fun b hb => by rw [hf i hi b hb, ← sum_mul']; exact sum_congr fun a _ => mul_assoc_ _ _ _), sum_swap]
    exact sum_congr fun a _ => (sum_mul _ _ _).symm
  omega
theorem rank_ker {n : Nat} {A : Mat} (h : ∀ v : Row, (∀ i, i < n → sum n (fun k => A i k * v k) = 0) → ∀ k, k < n → v k = 0) : rankF n n A = n := by
  have h1 := (red_spec n n A).1
  apply Classical.byContradiction
  intro hn
  obtain ⟨Q, R, hf⟩ := rank_fac n n A
  obtain ⟨v, ⟨k0, hk0, hv⟩, hs⟩ := kernel (rankF n n A) n R (by omega)
  refine hv (h v (fun i hi => ?_) k0 hk0)
  rw [sum_congr (g := fun k => sum (rankF n n A) (fun a => Q i a * (R a k * v k))) (fun k hk => by rw [hf i hi k hk, ← sum_mul']; exact sum_congr fun a _ => mul_assoc_ _ _ _), sum_swap]
  exact sum_none fun a ha => by rw [sum_mul, hs a ha, mul_zero_]
/-- The inverse's inverse. -/
theorem inv_inv_ {n : Nat} {A : Mat} (h : rankF n n A = n) : rankF n n (invF n A) = n ∧ ∀ i j, i < n → j < n → invF n (invF n A) i j = A i j := by
  obtain ⟨h1, h2⟩ := inv_spec h
  have hr : rankF n n (invF n A) = n := rank_full h1
  obtain ⟨g1, g2⟩ := inv_spec hr
  refine ⟨hr, fun i j hi hj => ?_⟩
  have e1 : mulF n (mulF n (invF n (invF n A)) (invF n A)) A i j = A i j := by
    show sum n (fun k => mulF n (invF n (invF n A)) (invF n A) i k * A k j) = _
    rw [sum_one hi (fun k hk hki => by rw [g1 i k hi hk]; unfold dlt; rw [if_neg (Ne.symm hki), zero_mul_]), g1 i i hi hi]
    unfold dlt; rw [if_pos rfl, one_mul_]
  have e2 : mulF n (invF n (invF n A)) (mulF n (invF n A) A) i j = invF n (invF n A) i j := by
    show sum n (fun k => invF n (invF n A) i k * mulF n (invF n A) A k j) = _
    rw [sum_one hj (fun k hk hkj => by rw [h1 k j hk hj]; unfold dlt; rw [if_neg hkj, mul_zero_]), h1 j j hj hj]
    unfold dlt; rw [if_pos rfl, mul_one_]
  rw [← e2, ← mul_assoc_F, e1]
/-- If a product with A is known, so is the other factor. -/
theorem inv_apply {n : Nat} {A : Mat} (h : rankF n n A = n) {u v : Row} (he : ∀ i, i < n → u i = sum n (fun k => A i k * v k)) : ∀ i, i < n → sum n (fun k => invF n A i k * u k) = v i := fun i hi => by
  obtain ⟨h1, _⟩ := inv_spec h
  have := mul_assoc_F n n (invF n A) A (fun k _ => v k) i 0
  rw [sum_congr (g := fun k => invF n A i k * sum n (fun l => A k l * v l)) (fun k hk => by rw [he k hk])]
  refine Eq.trans this.symm ?_
  show sum n (fun l => mulF n (invF n A) A i l * v l) = v i
  rw [sum_one hi (fun k hk hki => by rw [h1 i k hi hk]; unfold dlt; rw [if_neg (Ne.symm hki), zero_mul_]), h1 i i hi hi]
  unfold dlt; rw [if_pos rfl, one_mul_]

/-! Cauchy matrices. -/
def lsum {α : Type} (f : α → GF) : List α → GF
  | [] => 0
  | a :: l => f a + lsum f l
theorem lsum_congr {α : Type} {f g : α → GF} : ∀ {l : List α}, (∀ a, a ∈ l → f a = g a) → lsum f l = lsum g l
  | [], _ => rfl
  | a :: l, h => by unfold lsum; rw [h a List.mem_cons_self, lsum_congr fun b hb => h b (List.mem_cons_of_mem _ hb)]
theorem lsum_add {α : Type} (f g : α → GF) : ∀ l : List α, lsum (fun a => f a + g a) l = lsum f l + lsum g l
  | [] => (add_zero_ 0).symm
  | a :: l => by unfold lsum; rw [lsum_add f g l]; ac_rfl
theorem lsum_mul {α : Type} (c : GF) (f : α → GF) : ∀ l : List α, lsum (fun a => c * f a) l = c * lsum f l
  | [] => (mul_zero_ c).symm
  | a :: l => by unfold lsum; rw [lsum_mul c f l, mul_add_]
theorem lsum_map {α β : Type} (f : β → GF) (g : α → β) : ∀ l : List α, lsum f (l.map g) = lsum (fun a => f (g a)) l
  | [] => rfl
  | a :: l => by unfold lsum; rw [← lsum_map f g l]; rfl
theorem lsum_append {α : Type} (f : α → GF) : ∀ l m : List α, lsum f (l ++ m) = lsum f l + lsum f m
  | [], m => (zero_add_ _).symm
  | a :: l, m => by show f a + lsum f (l ++ m) = f a + lsum f l + lsum f m; rw [lsum_append f l m, add_assoc_]
theorem lsum_none {α : Type} {f : α → GF} : ∀ {l : List α}, (∀ a, a ∈ l → f a = 0) → lsum f l = 0
  | [], _ => rfl
  | a :: l, h => by unfold lsum; rw [h a List.mem_cons_self, zero_add_]; exact lsum_none fun b hb => h b (List.mem_cons_of_mem _ hb)
theorem lsum_range (f : Nat → GF) : ∀ n, lsum f (List.range n) = sum n f
  | 0 => rfl
  | n + 1 => by rw [List.range_succ, lsum_append, lsum_range f n]; show sum n f + (f n + 0) = sum n f + f n; rw [add_zero_]
theorem inv_add {a b : GF} (ha : a ≠ 0) (hb : b ≠ 0) : inv a + inv b = (a + b) * (inv a * inv b) := by
  rw [add_mul_, ← mul_assoc_ a, mul_inv_ ha, one_mul_, mul_comm_ (inv a), ← mul_assoc_ b, mul_inv_ hb, one_mul_, add_comm_]
theorem cauchyL : ∀ (ys : List (GF × GF)) (xs : List GF), ys.length ≤ xs.length → xs.Nodup → (ys.map Prod.fst).Nodup → (∀ x, x ∈ xs → ∀ p, p ∈ ys → x ≠ p.1) → (∀ x, x ∈ xs → lsum (fun p : GF × GF => p.2 * inv (x + p.1)) ys = 0) → ∀ p, p ∈ ys → p.2 = 0
  | [], _, _, _, _, _, _ => fun p hp => absurd hp (by simp)
  | q :: t, [], hl, _, _, _, _ => absurd hl (by simp)
  | q :: t, x0 :: xs, hl, hx, hy, hne, h => by
    obtain ⟨y, v⟩ := q
    have hx' := List.nodup_cons.1 hx
    rw [List.map_cons] at hy
    have hy' := List.nodup_cons.1 hy
    have hyne : ∀ p, p ∈ t → p.1 + y ≠ 0 := fun p hp => add_ne_ fun e => hy'.1 (by rw [show (y, v).1 = p.1 from e.symm]; exact List.mem_map_of_mem hp)
    have hn : ∀ x, x ∈ x0 :: xs → ∀ p, p ∈ t → x + p.1 ≠ 0 := fun x hx p hp => add_ne_ (hne x hx p (List.mem_cons_of_mem _ hp))
    have hny : ∀ x, x ∈ x0 :: xs → x + y ≠ 0 := fun x hx => add_ne_ (hne x hx (y, v) List.mem_cons_self)
    -- times (x + y)
    have h2 : ∀ x, x ∈ x0 :: xs → v + lsum (fun p : GF × GF => p.2) t + lsum (fun p : GF × GF => p.2 * (p.1 + y) * inv (x + p.1)) t = 0 := fun x hx => by
      have h1 : (x + y) * (v * inv (x + y) + lsum (fun p : GF × GF => p.2 * inv (x + p.1)) t) = 0 := by
        have : v * inv (x + y) + lsum (fun p : GF × GF => p.2 * inv (x + p.1)) t = 0 := h x hx
        rw [this, mul_zero_]
      rw [mul_add_, ← lsum_mul] at h1
      have e1 : (x + y) * (v * inv (x + y)) = v := by
        rw [mul_comm_ v, ← mul_assoc_, mul_inv_ (hny x hx), one_mul_]
      rw [e1, lsum_congr (g := fun p : GF × GF => p.2 + p.2 * (p.1 + y) * inv (x + p.1)) (fun p hp => by
        have hnx := hn x hx p hp
        show (x + y) * (p.2 * inv (x + p.1)) = p.2 + p.2 * (p.1 + y) * inv (x + p.1)
        rw [mix2 x y p.1]
        generalize x + p.1 = a at hnx ⊢
        generalize p.1 + y = b
        rw [add_mul_, mix3 b, mix3 a, mul_assoc_ p.2 a, mul_inv_ hnx, mul_one_]), lsum_add, ← add_assoc_] at h1
      exact h1
    have h3 : ∀ x, x ∈ xs → lsum (fun p : GF × GF => p.2 * inv (x + p.1)) (t.map fun p => (p.1, p.2 * (p.1 + y) * inv (x0 + p.1))) = 0 := fun x hx => by
      rw [lsum_map]
      have a1 := h2 x0 List.mem_cons_self
      have a2 := h2 x (List.mem_cons_of_mem _ hx)
      have hxx : x + x0 ≠ 0 := add_ne_ fun e => hx'.1 (e ▸ hx)
      have a3 : (x + x0) * lsum (fun p : GF × GF => p.2 * (p.1 + y) * inv (x0 + p.1) * inv (x + p.1)) t = 0 := by
        rw [← lsum_mul, lsum_congr (g := fun p : GF × GF => p.2 * (p.1 + y) * inv (x + p.1) + p.2 * (p.1 + y) * inv (x0 + p.1)) (fun p hp => by
          have n1 := hn x (List.mem_cons_of_mem _ hx) p hp
          have n0 := hn x0 List.mem_cons_self p hp
          show (x + x0) * (p.2 * (p.1 + y) * inv (x0 + p.1) * inv (x + p.1)) = p.2 * (p.1 + y) * inv (x + p.1) + p.2 * (p.1 + y) * inv (x0 + p.1)
          rw [← mul_add_, inv_add n1 n0, mix4]
          exact mix5 _ _ _ _), lsum_add]
        generalize lsum (fun p : GF × GF => p.2 * (p.1 + y) * inv (x0 + p.1)) t = z0 at a1 ⊢
        generalize lsum (fun p : GF × GF => p.2 * (p.1 + y) * inv (x + p.1)) t = z1 at a2 ⊢
        generalize v + lsum (fun p : GF × GF => p.2) t = z at a1 a2
        rw [← add_eq_zero_ a1, ← add_eq_zero_ a2, add_self_]
      exact (mul_eq_zero_ a3).elim (fun e => absurd e hxx) id
    have ih := cauchyL (t.map fun p => (p.1, p.2 * (p.1 + y) * inv (x0 + p.1))) xs (by simpa using hl) hx'.2 (by
      rw [List.map_map]; exact hy'.2) (fun x hx p hp => by
        obtain ⟨q, hq, rfl⟩ := List.mem_map.1 hp
        exact hne x (List.mem_cons_of_mem _ hx) q (List.mem_cons_of_mem _ hq)) h3
    have ht : ∀ p, p ∈ t → p.2 = 0 := fun p hp => by
      have := ih _ (List.mem_map_of_mem (f := fun p : GF × GF => (p.1, p.2 * (p.1 + y) * inv (x0 + p.1))) hp)
      rcases mul_eq_zero_ this with h | h
      · exact (mul_eq_zero_ h).elim id fun e => absurd e (hyne p hp)
      · exact absurd h (inv_ne (hn x0 List.mem_cons_self p hp))
    intro p hp
    rcases List.mem_cons.1 hp with rfl | hp
    · have := h x0 List.mem_cons_self
      have e : lsum (fun p : GF × GF => p.2 * inv (x0 + p.1)) t = 0 := lsum_none fun p hp => by rw [ht p hp, zero_mul_]
      have h1 : v * inv (x0 + y) + lsum (fun p : GF × GF => p.2 * inv (x0 + p.1)) t = 0 := this
      rw [e, add_zero_] at h1
      exact (mul_eq_zero_ h1).elim id fun e => absurd e (inv_ne (hny x0 List.mem_cons_self))
    · exact ht p hp
end Go.Proofs.Ytdeamnmadgemoaa.Lin
