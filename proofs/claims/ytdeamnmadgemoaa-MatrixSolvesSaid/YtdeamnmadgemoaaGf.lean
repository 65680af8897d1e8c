/- The field with 256 elements, in plain numbers. No program in sight. -/
namespace Go.Proofs.Ytdeamnmadgemoaa.Gf

/-- The product of an element and 2. -/
def dbl (a : Nat) : Nat := if a < 128 then a * 2 else (a * 2) ^^^ 285
/-- n rounds of the product. -/
def mulr : Nat → Nat → Nat → Nat → Nat
  | 0, _, _, p => p
  | n + 1, a, b, p => mulr n (dbl a) (b / 2) (if b % 2 = 1 then p ^^^ a else p)
/-- The product. -/
def gmul (a b : Nat) : Nat := mulr 8 a b 0
/-- The powers of 2. -/
def pw : Nat → Nat
  | 0 => 1
  | n + 1 => dbl (pw n)
/-- The least exponent (below n + 1) with this power. -/
def lgr (x : Nat) : Nat → Nat
  | 0 => 0
  | n + 1 => if pw n = x then n else lgr x n

theorem dbl_lt {a : Nat} (h : a < 256) : dbl a < 256 := by
  unfold dbl
  split
  · omega
  · have := (show ∀ a : Fin 256, ¬ a.1 < 128 → (a.1 * 2) ^^^ 285 < 256 by decide +kernel) ⟨a, h⟩
    exact this ‹_›
theorem xor_lt {a b : Nat} (ha : a < 256) (hb : b < 256) : a ^^^ b < 256 := Nat.xor_lt_two_pow (n := 8) ha hb
theorem mulr_lt : ∀ (n a b p : Nat), a < 256 → p < 256 → mulr n a b p < 256
  | 0, _, _, _, _, hp => hp
  | n + 1, a, b, p, ha, hp => by
    unfold mulr
    exact mulr_lt n _ _ _ (dbl_lt ha) (by
      split
      · exact xor_lt hp ha
      · exact hp)
theorem gmul_lt {a b : Nat} (ha : a < 256) : gmul a b < 256 := mulr_lt 8 a b 0 ha (by omega)

/-- all products, by rows: row a's products with 0, 1, .., 255 -/
def chk (f : Nat → Nat → Bool) : Bool := (List.range 256).all fun a => (List.range 256).all fun b => f a b
theorem of_chk {f : Nat → Nat → Bool} (h : chk f = true) {a b : Nat} (ha : a < 256) (hb : b < 256) : f a b = true := by
  unfold chk at h
  rw [List.all_eq_true] at h
  have := h a (List.mem_range.2 ha)
  rw [List.all_eq_true] at this
  exact this b (List.mem_range.2 hb)
theorem dbl_chk2 : chk (fun a b => dbl (a ^^^ b) == dbl a ^^^ dbl b) = true := by decide +kernel
theorem dbl_xor {a b : Nat} (ha : a < 256) (hb : b < 256) : dbl (a ^^^ b) = dbl a ^^^ dbl b := by simpa using of_chk dbl_chk2 ha hb
theorem mulr_xor_left : ∀ (n a b c p q : Nat), a < 256 → b < 256 → mulr n (a ^^^ b) c (p ^^^ q) = mulr n a c p ^^^ mulr n b c q
  | 0, _, _, _, _, _, _, _ => rfl
  | n + 1, a, b, c, p, q, ha, hb => by
    unfold mulr
    rw [dbl_xor ha hb, ← mulr_xor_left n _ _ _ _ _ (dbl_lt ha) (dbl_lt hb)]
    congr 1
    split
    · rw [Nat.xor_assoc, Nat.xor_assoc, ← Nat.xor_assoc q, Nat.xor_comm q a, Nat.xor_assoc a]
    · rfl
theorem xor_gmul {a b c : Nat} (ha : a < 256) (hb : b < 256) : gmul (a ^^^ b) c = gmul a c ^^^ gmul b c := by
  have := mulr_xor_left 8 a b c 0 0 ha hb
  simpa [gmul] using this
theorem div_xor (b c : Nat) : (b ^^^ c) / 2 = b / 2 ^^^ c / 2 := by
  simpa using Nat.xor_div_two_pow (a := b) (b := c) (n := 1)
theorem mod_xor (b c : Nat) : (b ^^^ c) % 2 = b % 2 ^^^ c % 2 := by
  simpa using Nat.xor_mod_two_pow (a := b) (b := c) (n := 1)
theorem mulr_xor : ∀ (n a b c p q : Nat), mulr n a (b ^^^ c) (p ^^^ q) = mulr n a b p ^^^ mulr n a c q
  | 0, _, _, _, _, _ => rfl
  | n + 1, a, b, c, p, q => by
    unfold mulr
    rw [div_xor, ← mulr_xor n]
    congr 1
    rw [mod_xor]
    rcases Nat.mod_two_eq_zero_or_one b with hb | hb <;> rcases Nat.mod_two_eq_zero_or_one c with hc | hc <;> rw [hb, hc] <;> simp
    · rw [Nat.xor_assoc]
    · rw [Nat.xor_assoc, Nat.xor_comm q a, ← Nat.xor_assoc]
    · rw [Nat.xor_assoc, ← Nat.xor_assoc a q, Nat.xor_comm a q, Nat.xor_assoc q, Nat.xor_self, Nat.xor_zero]
theorem gmul_xor (a b c : Nat) : gmul a (b ^^^ c) = gmul a b ^^^ gmul a c := by
  have := mulr_xor 8 a b c 0 0
  simpa [gmul] using this
theorem gmul_zero (a : Nat) : gmul a 0 = 0 := by
  have : ∀ n a, mulr n a 0 0 = 0 := by
    intro n
    induction n with
    | zero => intro a; rfl
    | succ n ih => intro a; unfold mulr; simpa using ih (dbl a)
  exact this 8 a
theorem zero_gmul (a : Nat) : gmul 0 a = 0 := by
  have : ∀ n a, mulr n 0 a 0 = 0 := by
    intro n
    induction n with
    | zero => intro a; rfl
    | succ n ih => intro a; unfold mulr; simpa [show dbl 0 = 0 from rfl] using ih (a / 2)
  exact this 8 a
theorem gmul_one {a : Nat} : gmul a 1 = a := by
  have : ∀ n a p, mulr n a 0 p = p := by
    intro n
    induction n with
    | zero => intro a p; rfl
    | succ n ih => intro a p; unfold mulr; simpa using ih (dbl a) p
  unfold gmul mulr
  simp [this]
/-! ### associativity: both sides are linear in the third factor; a check at the eight bits -/
theorem bits_of (x : Nat) (hx : x < 256) (P : Nat → Prop) (h0 : P 0) (hb : ∀ i, i < 8 → P (2 ^ i)) (hx' : ∀ a b, a < 256 → b < 256 → P a → P b → P (a ^^^ b)) : P x := by
  have key : ∀ n, n ≤ 8 → ∀ x, x < 2 ^ n → P x := by
    intro n
    induction n with
    | zero => intro _ x hx; have : x = 0 := by omega
              rw [this]; exact h0
    | succ n ih =>
      intro hn x hx
      by_cases hlt : x < 2 ^ n
      · exact ih (by omega) x hlt
      · have e : x = (x - 2 ^ n) ^^^ 2 ^ n := by
          have h1 : x - 2 ^ n < 2 ^ n := by rw [Nat.pow_succ] at hx; omega
          have := Nat.two_pow_add_eq_or_of_lt h1 1
          rw [Nat.mul_one] at this
          have h2 : x = 2 ^ n + (x - 2 ^ n) := by omega
          apply Nat.eq_of_testBit_eq
          intro i
          rw [Nat.testBit_xor, Nat.testBit_two_pow]
          conv => lhs; rw [h2]
          by_cases hi : n = i
          · subst hi
            rw [Nat.testBit_two_pow_add_eq, Nat.testBit_lt_two_pow h1]
            simp
          · rw [this, Nat.testBit_or, Nat.testBit_two_pow]
            simp [hi]
        have h256 : (2 : Nat) ^ n ≤ 128 := by
          have := Nat.pow_le_pow_right (n := 2) (by omega) (show n ≤ 7 by omega)
          simpa using this
        have h1 : x - 2 ^ n < 2 ^ n := by rw [Nat.pow_succ] at hx; omega
        rw [e]
        exact hx' _ _ (by omega) (by omega) (ih (by omega) _ h1) (hb n (by omega))
  exact key 8 (by omega) x (by simpa using hx)
theorem comm_chk : (List.range 8).all (fun i => (List.range 8).all fun j => gmul (2 ^ i) (2 ^ j) == gmul (2 ^ j) (2 ^ i)) = true := by decide +kernel
theorem two_pow_lt {k : Nat} (hk : k < 8) : 2 ^ k < 256 := by
  have := Nat.pow_lt_pow_right (a := 2) (by omega) hk
  simpa using this
theorem gmul_comm {a b : Nat} (ha : a < 256) (hb : b < 256) : gmul a b = gmul b a := by
  refine bits_of b hb (fun b => gmul a b = gmul b a) (by simp [gmul_zero, zero_gmul]) ?_ (fun x y hx hy h1 h2 => by
    show _ = _
    rw [gmul_xor, xor_gmul hx hy, h1, h2])
  intro j hj
  refine bits_of a ha (fun a => gmul a (2 ^ j) = gmul (2 ^ j) a) (by simp [gmul_zero, zero_gmul]) ?_ (fun x y hx hy h1 h2 => by
    show _ = _
    rw [gmul_xor, xor_gmul hx hy, h1, h2])
  intro i hi
  have := comm_chk
  rw [List.all_eq_true] at this
  have := this i (List.mem_range.2 hi)
  rw [List.all_eq_true] at this
  simpa using this j (List.mem_range.2 hj)
theorem one_gmul {a : Nat} (ha : a < 256) : gmul 1 a = a := by rw [gmul_comm (by omega) ha, gmul_one]
theorem assoc_chk : (List.range 8).all (fun i => (List.range 8).all fun j => (List.range 8).all fun k => gmul (gmul (2 ^ i) (2 ^ j)) (2 ^ k) == gmul (2 ^ i) (gmul (2 ^ j) (2 ^ k))) = true := by decide +kernel
theorem gmul_assoc {a b c : Nat} (ha : a < 256) (hb : b < 256) (hc : c < 256) : gmul (gmul a b) c = gmul a (gmul b c) := by
  refine bits_of c hc (fun c => gmul (gmul a b) c = gmul a (gmul b c)) (by simp [gmul_zero]) ?_ (fun x y _ _ h1 h2 => by rw [gmul_xor, h1, h2, gmul_xor b, gmul_xor a])
  intro k hk
  refine bits_of b hb (fun b => gmul (gmul a b) (2 ^ k) = gmul a (gmul b (2 ^ k))) (by simp [gmul_zero, zero_gmul]) ?_ (fun x y hx hy h1 h2 => by
    show _ = _
    rw [gmul_xor, xor_gmul (gmul_lt ha) (gmul_lt ha), h1, h2, xor_gmul hx hy, gmul_xor])
  intro j hj
  refine bits_of a ha (fun a => gmul (gmul a (2 ^ j)) (2 ^ k) = gmul a (gmul (2 ^ j) (2 ^ k))) (by simp [zero_gmul, zero_gmul, zero_gmul]) ?_ (fun x y hx hy h1 h2 => by
    show _ = _
    rw [xor_gmul hx hy, xor_gmul (gmul_lt hx) (gmul_lt hy), h1, h2, xor_gmul hx hy])
  intro i hi
  have := assoc_chk
  rw [List.all_eq_true] at this
  have := this i (List.mem_range.2 hi)
  rw [List.all_eq_true] at this
  have := this j (List.mem_range.2 hj)
  rw [List.all_eq_true] at this
  simpa using this k (List.mem_range.2 hk)

/-! ### powers and logarithms -/
def lg (x : Nat) : Nat := lgr x 255
theorem pw_lt : ∀ n, pw n < 256
  | 0 => by decide
  | n + 1 => dbl_lt (pw_lt n)
theorem dbl_chk : (List.range 256).all (fun a => dbl a == gmul a 2) = true := by decide +kernel
theorem dbl_eq {a : Nat} (ha : a < 256) : dbl a = gmul a 2 := by
  have := dbl_chk
  rw [List.all_eq_true] at this
  simpa using this a (List.mem_range.2 ha)
theorem pw_add (a : Nat) : ∀ b, pw (a + b) = gmul (pw a) (pw b)
  | 0 => by rw [Nat.add_zero]; exact gmul_one.symm
  | b + 1 => by
    show dbl (pw (a + b)) = gmul (pw a) (dbl (pw b))
    rw [dbl_eq (pw_lt _), dbl_eq (pw_lt _), pw_add a b, gmul_assoc (pw_lt _) (pw_lt _) (by omega)]
theorem pw_255 : pw 255 = 1 := by decide +kernel
theorem pw_mod (n : Nat) : pw (n % 255) = pw n := by
  have h : ∀ m k, pw (k + 255 * m) = pw k := by
    intro m
    induction m with
    | zero => intro k; rfl
    | succ m ih => intro k; rw [show k + 255 * (m + 1) = (k + 255 * m) + 255 by omega, pw_add, pw_255, gmul_one, ih]
  conv => rhs; rw [← Nat.mod_add_div n 255]
  exact (h _ _).symm
theorem lg_chk : (List.range 256).all (fun a => a == 0 || (pw (lg a) == a && decide (lg a < 255))) = true := by decide +kernel
theorem pw_lg {a : Nat} (ha : a < 256) (h0 : a ≠ 0) : pw (lg a) = a ∧ lg a < 255 := by
  have := lg_chk
  rw [List.all_eq_true] at this
  have := this a (List.mem_range.2 ha)
  simp only [Bool.or_eq_true, beq_iff_eq, Bool.and_eq_true, decide_eq_true_eq] at this
  rcases this with h | h
  · exact absurd h h0
  · exact h
theorem pw_ne (n : Nat) : pw n ≠ 0 := by
  intro h
  have h1 : gmul (pw n) (pw (255 - n % 255)) = 1 := by
    rw [← pw_add, ← pw_mod, show (n + (255 - n % 255)) % 255 = 0 by omega]
    rfl
  rw [h, zero_gmul] at h1
  exact absurd h1 (by decide)
/-- The inverse. -/
def ginv (a : Nat) : Nat := pw ((255 - lg a) % 255)
theorem ginv_lt (a : Nat) : ginv a < 256 := pw_lt _
theorem gmul_ginv {a : Nat} (ha : a < 256) (h0 : a ≠ 0) : gmul a (ginv a) = 1 := by
  obtain ⟨h1, h2⟩ := pw_lg ha h0
  have e : gmul a (ginv a) = gmul (pw (lg a)) (pw ((255 - lg a) % 255)) := by rw [h1]; rfl
  rw [e, ← pw_add, ← pw_mod, show (lg a + (255 - lg a) % 255) % 255 = 0 by omega]
  rfl
theorem gmul_eq_zero {a b : Nat} (ha : a < 256) (hb : b < 256) (h : gmul a b = 0) : a = 0 ∨ b = 0 := by
  by_cases h0 : a = 0
  · exact .inl h0
  · right
    have h1 := gmul_ginv ha h0
    have h2 : gmul (ginv a) (gmul a b) = b := by
      rw [← gmul_assoc (ginv_lt _) ha hb, gmul_comm (ginv_lt _) ha, h1, one_gmul hb]
    rw [h, gmul_zero] at h2
    exact h2.symm
theorem gmul_inj {a b c : Nat} (ha : a < 256) (hb : b < 256) (hc : c < 256) (h0 : a ≠ 0) (h : gmul a b = gmul a c) : b = c := by
  have h1 : ∀ x, x < 256 → gmul (ginv a) (gmul a x) = x := fun x hx => by
    rw [← gmul_assoc (ginv_lt _) ha hx, gmul_comm (ginv_lt _) ha, gmul_ginv ha h0, one_gmul hx]
  rw [← h1 b hb, h, h1 c hc]
theorem ginv_unique {a x : Nat} (ha : a < 256) (hx : x < 256) (h0 : a ≠ 0) (h : gmul a x = 1) : x = ginv a :=
  gmul_inj ha hx (ginv_lt _) h0 (h.trans (gmul_ginv ha h0).symm)
/-- The power of an element. -/
def gpow (a : Nat) : Nat → Nat
  | 0 => 1
  | n + 1 => gmul (gpow a n) a
theorem gpow_lt {a : Nat} (ha : a < 256) : ∀ n, gpow a n < 256
  | 0 => (by decide : 1 < 256)
  | n + 1 => gmul_lt (gpow_lt ha n)
theorem gpow_add {a : Nat} (ha : a < 256) (m : Nat) : ∀ n, gpow a (m + n) = gmul (gpow a m) (gpow a n)
  | 0 => gmul_one.symm
  | n + 1 => by
    show gmul (gpow a (m + n)) a = gmul (gpow a m) (gmul (gpow a n) a)
    rw [gpow_add ha m n, gmul_assoc (gpow_lt ha _) (gpow_lt ha _) ha]
theorem gpow_pw (i : Nat) : ∀ n, gpow (pw i) n = pw (i * n)
  | 0 => rfl
  | n + 1 => by
    show gmul (gpow (pw i) n) (pw i) = _
    rw [gpow_pw i n, ← pw_add, Nat.mul_succ]
theorem gpow_lg {a : Nat} (ha : a < 256) (h0 : a ≠ 0) (n : Nat) : gpow a n = pw (lg a * (n % 255) % 255) := by
  obtain ⟨h1, _⟩ := pw_lg ha h0
  conv => lhs; rw [← h1]
  rw [gpow_pw, pw_mod, ← pw_mod, ← pw_mod (lg a * (n % 255)), Nat.mul_mod, Nat.mul_mod (lg a) (n % 255), Nat.mod_mod]
theorem zero_gpow : ∀ {n : Nat}, n ≠ 0 → gpow 0 n = 0
  | 0, h => absurd rfl h
  | _ + 1, _ => gmul_zero _

end Go.Proofs.Ytdeamnmadgemoaa.Gf
