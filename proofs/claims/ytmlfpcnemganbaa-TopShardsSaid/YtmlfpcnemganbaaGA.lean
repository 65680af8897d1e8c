/- The field with 256 elements, in plain numbers. No program in sight. -/
import Derived.Test.YtmlfpcnemganbaaWWords
import Derived.Test.YtmlfpcnemganbaaQ1
import Derived.Laws.BitsAllLaws
namespace Go.Proofs.Ytmlfpcnemganbaa.Gf

/-- The product of an element and 2. -/
def dbl (a : Nat) : Nat := if a < 128 then a * 2 else (a * 2) ^^^ 285
/-- n rounds of the product. -/
def mulr : Nat → Nat → Nat → Nat → Nat
  | 0, _, _, p => p
  | n + 1, a, b, p => mulr n (dbl a) (b / 2) (if b % 2 = 1 then p ^^^ a else p)
/-- The product. -/
def gmul (a b : Nat) : Nat := mulr 8 a b 0
/-- The powers of 2. -/
def pw : Nat → Nat
  | 0 => 1
  | n + 1 => dbl (pw n)
/-- The least exponent (below n + 1) with this power. -/
def lgr (x : Nat) : Nat → Nat
  | 0 => 0
  | n + 1 => if pw n = x then n else lgr x n

theorem dbl_lt {a : Nat} (h : a < 256) : dbl a < 256 := by
  unfold dbl
  split
  · omega
  · have := (show ∀ a : Fin 256, ¬ a.1 < 128 → (a.1 * 2) ^^^ 285 < 256 by decide +kernel) ⟨a, h⟩
    exact this ‹_›
theorem xor_lt {a b : Nat} (ha : a < 256) (hb : b < 256) : a ^^^ b < 256 := Nat.xor_lt_two_pow (n := 8) ha hb
theorem mulr_lt : ∀ (n a b p : Nat), a < 256 → p < 256 → mulr n a b p < 256
  | 0, _, _, _, _, hp => hp
  | n + 1, a, b, p, ha, hp => by
    unfold mulr
    exact mulr_lt n _ _ _ (dbl_lt ha) (by
      split
      · exact xor_lt hp ha
      · exact hp)
theorem gmul_lt {a b : Nat} (ha : a < 256) : gmul a b < 256 := mulr_lt 8 a b 0 ha (by omega)

/-- all products, by rows: row a's products with 0, 1, .., 255 -/
def chk (f : Nat → Nat → Bool) : Bool := (List.range 256).all fun a => (List.range 256).all fun b => f a b
theorem of_chk {f : Nat → Nat → Bool} (h : chk f = true) {a b : Nat} (ha : a < 256) (hb : b < 256) : f a b = true := by
  unfold chk at h
  rw [List.all_eq_true] at h
  have := h a (List.mem_range.2 ha)
  rw [List.all_eq_true] at this
  exact this b (List.mem_range.2 hb)
theorem dbl_chk2 : chk (fun a b => dbl (a ^^^ b) == dbl a ^^^ dbl b) = true := by decide +kernel
theorem dbl_xor {a b : Nat} (ha : a < 256) (hb : b < 256) : dbl (a ^^^ b) = dbl a ^^^ dbl b := by simpa using of_chk dbl_chk2 ha hb
theorem mulr_xor_left : ∀ (n a b c p q : Nat), a < 256 → b < 256 → mulr n (a ^^^ b) c (p ^^^ q) = mulr n a c p ^^^ mulr n b c q
  | 0, _, _, _, _, _, _, _ => rfl
  | n + 1, a, b, c, p, q, ha, hb => by
    unfold mulr
    rw [dbl_xor ha hb, ← mulr_xor_left n _ _ _ _ _ (dbl_lt ha) (dbl_lt hb)]
    congr 1
    split
    · rw [Nat.xor_assoc, Nat.xor_assoc, ← Nat.xor_assoc q, Nat.xor_comm q a, Nat.xor_assoc a]
    · rfl
theorem xor_gmul {a b c : Nat} (ha : a < 256) (hb : b < 256) : gmul (a ^^^ b) c = gmul a c ^^^ gmul b c := by
  have := mulr_xor_left 8 a b c 0 0 ha hb
  simpa [gmul] using this
theorem div_xor (b c : Nat) : (b ^^^ c) / 2 = b / 2 ^^^ c / 2 := by
  simpa using Nat.xor_div_two_pow (a := b) (b := c) (n := 1)
theorem mod_xor (b c : Nat) : (b ^^^ c) % 2 = b % 2 ^^^ c % 2 := by
  simpa using Nat.xor_mod_two_pow (a := b) (b := c) (n := 1)
theorem mulr_xor : ∀ (n a b c p q : Nat), mulr n a (b ^^^ c) (p ^^^ q) = mulr n a b p ^^^ mulr n a c q
  | 0, _, _, _, _, _ => rfl
  | n + 1, a, b, c, p, q => by
    unfold mulr
    rw [div_xor, ← mulr_xor n]
    congr 1
    rw [mod_xor]
    rcases Nat.mod_two_eq_zero_or_one b with hb | hb <;> rcases Nat.mod_two_eq_zero_or_one c with hc | hc <;> rw [hb, hc] <;> simp
    · rw [Nat.xor_assoc]
    · rw [Nat.xor_assoc, Nat.xor_comm q a, ← Nat.xor_assoc]
    · rw [Nat.xor_assoc, ← Nat.xor_assoc a q, Nat.xor_comm a q, Nat.xor_assoc q, Nat.xor_self, Nat.xor_zero]
theorem gmul_xor (a b c : Nat) : gmul a (b ^^^ c) = gmul a b ^^^ gmul a c := by
  have := mulr_xor 8 a b c 0 0
  simpa [gmul] using this
theorem gmul_zero (a : Nat) : gmul a 0 = 0 := by
  have : ∀ n a, mulr n a 0 0 = 0 := by
    intro n
    induction n with
    | zero => intro a; rfl
    | succ n ih => intro a; unfold mulr; simpa using ih (dbl a)
  exact this 8 a
theorem zero_gmul (a : Nat) : gmul 0 a = 0 := by
  have : ∀ n a, mulr n 0 a 0 = 0 := by
    intro n
    induction n with
    | zero => intro a; rfl
    | succ n ih => intro a; unfold mulr; simpa [show dbl 0 = 0 from rfl] using ih (a / 2)
  exact this 8 a
theorem gmul_one {a : Nat} : gmul a 1 = a := by
  have : ∀ n a p, mulr n a 0 p = p := by
    intro n
    induction n with
    | zero => intro a p; rfl
    | succ n ih => intro a p; unfold mulr; simpa using ih (dbl a) p
  unfold gmul mulr
  simp [this]
/-! ### associativity: both sides are linear in the third factor; a check at the eight bits -/
theorem bits_of (x : Nat) (hx : x < 256) (P : Nat → Prop) (h0 : P 0) (hb : ∀ i, i < 8 → P (2 ^ i)) (hx' : ∀ a b, a < 256 → b < 256 → P a → P b → P (a ^^^ b)) : P x := by
  have key : ∀ n, n ≤ 8 → ∀ x, x < 2 ^ n → P x := by
    intro n
    induction n with
    | zero => intro _ x hx; have : x = 0 := by omega
              rw [this]; exact h0
    | succ n ih =>
      intro hn x hx
      by_cases hlt : x < 2 ^ n
      · exact ih (by omega) x hlt
      · have e : x = (x - 2 ^ n) ^^^ 2 ^ n := by
          have h1 : x - 2 ^ n < 2 ^ n := by rw [Nat.pow_succ] at hx; omega
          have := Nat.two_pow_add_eq_or_of_lt h1 1
          rw [Nat.mul_one] at this
          have h2 : x = 2 ^ n + (x - 2 ^ n) := by omega
          apply Nat.eq_of_testBit_eq
          intro i
          rw [Nat.testBit_xor, Nat.testBit_two_pow]
          conv => lhs; rw [h2]
          by_cases hi : n = i
          · subst hi
            rw [Nat.testBit_two_pow_add_eq, Nat.testBit_lt_two_pow h1]
            simp
          · rw [this, Nat.testBit_or, Nat.testBit_two_pow]
            simp [hi]
        have h256 : (2 : Nat) ^ n ≤ 128 := by
          have := Nat.pow_le_pow_right (n := 2) (by omega) (show n ≤ 7 by omega)
          simpa using this
        have h1 : x - 2 ^ n < 2 ^ n := by rw [Nat.pow_succ] at hx; omega
        rw [e]
        exact hx' _ _ (by omega) (by omega) (ih (by omega) _ h1) (hb n (by omega))
  exact key 8 (by omega) x (by simpa using hx)
theorem comm_chk : (List.range 8).all (fun i => (List.range 8).all fun j => gmul (2 ^ i) (2 ^ j) == gmul (2 ^ j) (2 ^ i)) = true := by decide +kernel
theorem two_pow_lt {k : Nat} (hk : k < 8) : 2 ^ k < 256 := by
  have := Nat.pow_lt_pow_right (a := 2) (by omega) hk
  simpa using this
theorem gmul_comm {a b : Nat} (ha : a < 256) (hb : b < 256) : gmul a b = gmul b a := by
  refine bits_of b hb (fun b => gmul a b = gmul b a) (by simp [gmul_zero, zero_gmul]) ?_ (fun x y hx hy h1 h2 => by
    show _ = _
    rw [gmul_xor, xor_gmul hx hy, h1, h2])
  intro j hj
  refine bits_of a ha (fun a => gmul a (2 ^ j) = gmul (2 ^ j) a) (by simp [gmul_zero, zero_gmul]) ?_ (fun x y hx hy h1 h2 => by
    show _ = _
    rw [gmul_xor, xor_gmul hx hy, h1, h2])
  intro i hi
  have := comm_chk
  rw [List.all_eq_true] at this
  have := this i (List.mem_range.2 hi)
  rw [List.all_eq_true] at this
  simpa using this j (List.mem_range.2 hj)
theorem one_gmul {a : Nat} (ha : a < 256) : gmul 1 a = a := by rw [gmul_comm (by omega) ha, gmul_one]
theorem assoc_chk : (List.range 8).all (fun i => (List.range 8).all fun j => (List.range 8).all fun k => gmul (gmul (2 ^ i) (2 ^ j)) (2 ^ k) == gmul (2 ^ i) (gmul (2 ^ j) (2 ^ k))) = true := by decide +kernel
theorem gmul_assoc {a b c : Nat} (ha : a < 256) (hb : b < 256) (hc : c < 256) : gmul (gmul a b) c = gmul a (gmul b c) := by
  refine bits_of c hc (fun c => gmul (gmul a b) c = gmul a (gmul b c)) (by simp [gmul_zero]) ?_ (fun x y _ _ h1 h2 => by rw [gmul_xor, h1, h2, gmul_xor b, gmul_xor a])
  intro k hk
  refine bits_of b hb (fun b => gmul (gmul a b) (2 ^ k) = gmul a (gmul b (2 ^ k))) (by simp [gmul_zero, zero_gmul]) ?_ (fun x y hx hy h1 h2 => by
    show _ = _
    rw [gmul_xor, xor_gmul (gmul_lt ha) (gmul_lt ha), h1, h2, xor_gmul hx hy, gmul_xor])
  intro j hj
  refine bits_of a ha (fun a => gmul (gmul a (2 ^ j)) (2 ^ k) = gmul a (gmul (2 ^ j) (2 ^ k))) (by simp [zero_gmul, zero_gmul, zero_gmul]) ?_ (fun x y hx hy h1 h2 => by
    show _ = _
    rw [xor_gmul hx hy, xor_gmul (gmul_lt hx) (gmul_lt hy), h1, h2, xor_gmul hx hy])
  intro i hi
  have := assoc_chk
  rw [List.all_eq_true] at this
  have := this i (List.mem_range.2 hi)
  rw [List.all_eq_true] at this
  have := this j (List.mem_range.2 hj)
  rw [List.all_eq_true] at this
  simpa using this k (List.mem_range.2 hk)

/-! ### powers and logarithms -/
def lg (x : Nat) : Nat := lgr x 255
theorem pw_lt : ∀ n, pw n < 256
  | 0 => by decide
  | n + 1 => dbl_lt (pw_lt n)
theorem dbl_chk : (List.range 256).all (fun a => dbl a == gmul a 2) = true := by decide +kernel
theorem dbl_eq {a : Nat} (ha : a < 256) : dbl a = gmul a 2 := by
  have := dbl_chk
  rw [List.all_eq_true] at this
  simpa using this a (List.mem_range.2 ha)
theorem pw_add (a : Nat) : ∀ b, pw (a + b) = gmul (pw a) (pw b)
  | 0 => by rw [Nat.add_zero]; exact gmul_one.symm
  | b + 1 => by
    show dbl (pw (a + b)) = gmul (pw a) (dbl (pw b))
    rw [dbl_eq (pw_lt _), dbl_eq (pw_lt _), pw_add a b, gmul_assoc (pw_lt _) (pw_lt _) (by omega)]
theorem pw_255 : pw 255 = 1 := by decide +kernel
theorem pw_mod (n : Nat) : pw (n % 255) = pw n := by
  have h : ∀ m k, pw (k + 255 * m) = pw k := by
    intro m
    induction m with
    | zero => intro k; rfl
    | succ m ih => intro k; rw [show k + 255 * (m + 1) = (k + 255 * m) + 255 by omega, pw_add, pw_255, gmul_one, ih]
  conv => rhs; rw [← Nat.mod_add_div n 255]
  exact (h _ _).symm
theorem lg_chk : (List.range 256).all (fun a => a == 0 || (pw (lg a) == a && decide (lg a < 255))) = true := by decide +kernel
theorem pw_lg {a : Nat} (ha : a < 256) (h0 : a ≠ 0) : pw (lg a) = a ∧ lg a < 255 := by
  have := lg_chk
  rw [List.all_eq_true] at this
  have := this a (List.mem_range.2 ha)
  simp only [Bool.or_eq_true, beq_iff_eq, Bool.and_eq_true, decide_eq_true_eq] at this
  rcases this with h | h
  · exact absurd h h0
  · exact h
theorem pw_ne (n : Nat) : pw n ≠ 0 := by
  intro h
  have h1 : gmul (pw n) (pw (255 - n % 255)) = 1 := by
    rw [← pw_add, ← pw_mod, show (n + (255 - n % 255)) % 255 = 0 by omega]
    rfl
  rw [h, zero_gmul] at h1
  exact absurd h1 (by decide)
/-- The inverse. -/
def ginv (a : Nat) : Nat := pw ((255 - lg a) % 255)
theorem ginv_lt (a : Nat) : ginv a < 256 := pw_lt _
theorem gmul_ginv {a : Nat} (ha : a < 256) (h0 : a ≠ 0) : gmul a (ginv a) = 1 := by
  obtain ⟨h1, h2⟩ := pw_lg ha h0
  have e : gmul a (ginv a) = gmul (pw (lg a)) (pw ((255 - lg a) % 255)) := by rw [h1]; rfl
  rw [e, ← pw_add, ← pw_mod, show (lg a + (255 - lg a) % 255) % 255 = 0 by omega]
  rfl
theorem gmul_eq_zero {a b : Nat} (ha : a < 256) (hb : b < 256) (h : gmul a b = 0) : a = 0 ∨ b = 0 := by
  by_cases h0 : a = 0
  · exact .inl h0
  · right
    have h1 := gmul_ginv ha h0
    have h2 : gmul (ginv a) (gmul a b) = b := by
      rw [← gmul_assoc (ginv_lt _) ha hb, gmul_comm (ginv_lt _) ha, h1, one_gmul hb]
    rw [h, gmul_zero] at h2
    exact h2.symm
theorem gmul_inj {a b c : Nat} (ha : a < 256) (hb : b < 256) (hc : c < 256) (h0 : a ≠ 0) (h : gmul a b = gmul a c) : b = c := by
  have h1 : ∀ x, x < 256 → gmul (ginv a) (gmul a x) = x := fun x hx => by
    rw [← gmul_assoc (ginv_lt _) ha hx, gmul_comm (ginv_lt _) ha, gmul_ginv ha h0, one_gmul hx]
  rw [← h1 b hb, h, h1 c hc]
theorem ginv_unique {a x : Nat} (ha : a < 256) (hx : x < 256) (h0 : a ≠ 0) (h : gmul a x = 1) : x = ginv a :=
  gmul_inj ha hx (ginv_lt _) h0 (h.trans (gmul_ginv ha h0).symm)
/-- The power of an element. -/
def gpow (a : Nat) : Nat → Nat
  | 0 => 1
  | n + 1 => gmul (gpow a n) a
theorem gpow_lt {a : Nat} (ha : a < 256) : ∀ n, gpow a n < 256
  | 0 => (by decide : 1 < 256)
  | n + 1 => gmul_lt (gpow_lt ha n)
theorem gpow_add {a : Nat} (ha : a < 256) (m : Nat) : ∀ n, gpow a (m + n) = gmul (gpow a m) (gpow a n)
  | 0 => gmul_one.symm
  | n + 1 => by
    show gmul (gpow a (m + n)) a = gmul (gpow a m) (gmul (gpow a n) a)
    rw [gpow_add ha m n, gmul_assoc (gpow_lt ha _) (gpow_lt ha _) ha]
theorem gpow_pw (i : Nat) : ∀ n, gpow (pw i) n = pw (i * n)
  | 0 => rfl
  | n + 1 => by
    show gmul (gpow (pw i) n) (pw i) = _
    rw [gpow_pw i n, ← pw_add, Nat.mul_succ]
theorem gpow_lg {a : Nat} (ha : a < 256) (h0 : a ≠ 0) (n : Nat) : gpow a n = pw (lg a * (n % 255) % 255) := by
  obtain ⟨h1, _⟩ := pw_lg ha h0
  conv => lhs; rw [← h1]
  rw [gpow_pw, pw_mod, ← pw_mod, ← pw_mod (lg a * (n % 255)), Nat.mul_mod, Nat.mul_mod (lg a) (n % 255), Nat.mod_mod]
theorem zero_gpow : ∀ {n : Nat}, n ≠ 0 → gpow 0 n = 0
  | 0, h => absurd rfl h
  | _ + 1, _ => gmul_zero _

end Go.Proofs.Ytmlfpcnemganbaa.Gf
/- Words for 'with enough rounds': tests, calls without rounds, loops. -/
namespace Go.Proofs.Ytmlfpcnemganbaa.Evs
open Go.RowKit Go.Proofs.YtmlfpcnemganbaaW.PrintWords
variable {α β : Type}

theorem Ev.pos {c : Prop} [Decidable c] {g f : Nat → Option α} {r : α} (hc : c) (h : Ev g r) : Ev (fun k => if c then g k else f k) r :=
  Ev.congr (f := g) (fun _ => if_pos hc) h
theorem Ev.neg {c : Prop} [Decidable c] {g f : Nat → Option α} {r : α} (hc : ¬ c) (h : Ev f r) : Ev (fun k => if c then g k else f k) r :=
  Ev.congr (f := f) (fun _ => if_neg hc) h
theorem Ev.pick {c : Prop} [Decidable c] {g f : Nat → Option α} {r : α} (h1 : c → Ev g r) (h2 : ¬ c → Ev f r) : Ev (fun k => if c then g k else f k) r := by
  by_cases hc : c
  · exact Ev.pos hc (h1 hc)
  · exact Ev.neg hc (h2 hc)
/-- A call without rounds. -/
theorem Ev.call {o : Option α} {a : α} {f : Nat → α → Option β} {r : β} (h : o = some a) (k : Ev (fun n => f n a) r) : Ev (fun n => o.bind (f n)) r :=
  Ev.congr (f := fun n => f n a) (fun n => by rw [h]; rfl) k
theorem Ev.eq {g : Nat → Option α} {r r' : α} (h : Ev g r) (e : r = r') : Ev g r' := e ▸ h
theorem Ev.val {o : Option α} {r : α} (h : o = some r) : Ev (fun _ => o) r := ⟨0, fun _ _ => h⟩
theorem byte_of {x : Int} (h : (Lit.int .u8 x).wf = true) : ∃ a : Nat, x = (a : Int) ∧ a < 256 := by
  have hx : 0 ≤ x ∧ x ≤ 255 := by simpa [Lit.wf, IntKind.min, IntKind.max, IntKind.signed, IntKind.bits] using h
  obtain ⟨a, rfl⟩ := Int.eq_ofNat_of_zero_le hx.1
  exact ⟨a, rfl, by omega⟩
theorem int_of {x : Int} (h : (Lit.int .i64 x).wf = true) : -9223372036854775808 ≤ x ∧ x ≤ 9223372036854775807 := by
  simpa [Lit.wf, IntKind.min, IntKind.max, IntKind.signed, IntKind.bits] using h
theorem u32_of {x : Int} (h : (Lit.int .u32 x).wf = true) : ∃ a : Nat, x = (a : Int) ∧ a < 4294967296 := by
  have hx : 0 ≤ x ∧ x ≤ 4294967295 := by simpa [Lit.wf, IntKind.min, IntKind.max, IntKind.signed, IntKind.bits] using h
  obtain ⟨a, rfl⟩ := Int.eq_ofNat_of_zero_le hx.1
  exact ⟨a, rfl, by omega⟩
/-- Plain numbers as whole numbers. -/
def ints (m : List Nat) : List Int := m.map fun n : Nat => (n : Int)
theorem ints_length (m : List Nat) : (ints m).length = m.length := by simp [ints]
theorem ints_cons (a : Nat) (m : List Nat) : ints (a :: m) = (a : Int) :: ints m := rfl
theorem ints_append (a b : List Nat) : ints (a ++ b) = ints a ++ ints b := by simp [ints]
theorem ints_rd (p : List Nat) (i : Nat) : rd (ints p) (i : Int) = ((p.getD i 0 : Nat) : Int) := by
  unfold rd ints
  rw [Int.toNat_natCast, List.getD_eq_getElem?_getD, List.getD_eq_getElem?_getD, List.getElem?_map]
  cases p[i]? <;> rfl
theorem getD_lt {p : List Nat} (hp : ∀ x ∈ p, x < 256) (i : Nat) : p.getD i 0 < 256 := by
  rw [List.getD_eq_getElem?_getD]
  by_cases hi : i < p.length
  · rw [List.getElem?_eq_getElem hi]
    exact hp _ (List.getElem_mem hi)
  · rw [List.getElem?_eq_none (by omega)]
    decide
/-- A list of bytes, as numbers. -/
theorem bytes_of {l : List Int} (h : ∀ x ∈ l, (Lit.int .u8 x).wf = true) : ∃ m : List Nat, l = ints m ∧ ∀ x ∈ m, x < 256 := by
  induction l with
  | nil => exact ⟨[], rfl, by simp⟩
  | cons x l ih =>
    obtain ⟨a, rfl, ha⟩ := byte_of (h x List.mem_cons_self)
    obtain ⟨m, rfl, hm⟩ := ih (fun y hy => h y (List.mem_cons_of_mem _ hy))
    exact ⟨a :: m, rfl, by simpa [ha] using hm⟩
end Go.Proofs.Ytmlfpcnemganbaa.Evs
/- Matrices over the field with 256 elements: reduction, rank, inverse, products, Cauchy matrices. Plain Lean, no program in sight. -/
namespace Go.Proofs.Ytmlfpcnemganbaa.Lin
open Go.Proofs.Ytmlfpcnemganbaa.Gf
set_option linter.unusedVariables false
/-- An element. -/
structure GF where
  v : Nat
  h : v < 256
theorem GF.ext_ : ∀ {a b : GF}, a.v = b.v → a = b
  | ⟨_, _⟩, ⟨_, _⟩, rfl => rfl
instance : DecidableEq GF := fun a b => if h : a.v = b.v then isTrue (GF.ext_ h) else isFalse (fun e => h (by rw [e]))
instance : Add GF := ⟨fun a b => ⟨a.v ^^^ b.v, xor_lt a.h b.h⟩⟩
instance : Mul GF := ⟨fun a b => ⟨gmul a.v b.v, gmul_lt a.h⟩⟩
instance : OfNat GF 0 := ⟨⟨0, by omega⟩⟩
instance : OfNat GF 1 := ⟨⟨1, by omega⟩⟩
def inv (a : GF) : GF := ⟨ginv a.v, ginv_lt _⟩
section
variable (a b c : GF)
theorem add_v : (a + b).v = a.v ^^^ b.v := rfl
theorem mul_v : (a * b).v = gmul a.v b.v := rfl
theorem zero_v : (0 : GF).v = 0 := rfl
theorem one_v : (1 : GF).v = 1 := rfl
theorem inv_v : (inv a).v = ginv a.v := by unfold inv; simp only []
theorem add_comm_ : a + b = b + a := GF.ext_ (Nat.xor_comm _ _)
theorem add_assoc_ : a + b + c = a + (b + c) := GF.ext_ (Nat.xor_assoc _ _ _)
theorem add_zero_ : a + 0 = a := GF.ext_ (Nat.xor_zero _)
theorem zero_add_ : 0 + a = a := GF.ext_ (Nat.zero_xor _)
theorem add_self_ : a + a = 0 := GF.ext_ (Nat.xor_self _)
theorem mul_comm_ : a * b = b * a := GF.ext_ (gmul_comm a.h b.h)
theorem mul_assoc_ : a * b * c = a * (b * c) := GF.ext_ (gmul_assoc a.h b.h c.h)
theorem mul_one_ : a * 1 = a := GF.ext_ gmul_one
theorem one_mul_ : 1 * a = a := GF.ext_ (one_gmul a.h)
theorem mul_zero_ : a * 0 = 0 := GF.ext_ (gmul_zero a.v)
theorem zero_mul_ : 0 * a = 0 := GF.ext_ (zero_gmul a.v)
theorem mul_add_ : a * (b + c) = a * b + a * c := GF.ext_ (gmul_xor _ _ _)
theorem add_mul_ : (a + b) * c = a * c + b * c := GF.ext_ (xor_gmul a.h b.h)
end
instance : Std.Commutative (α := GF) (· + ·) := ⟨add_comm_⟩
instance : Std.Associative (α := GF) (· + ·) := ⟨add_assoc_⟩
instance : Std.Commutative (α := GF) (· * ·) := ⟨mul_comm_⟩
instance : Std.Associative (α := GF) (· * ·) := ⟨mul_assoc_⟩
theorem ne_v {a : GF} (h : a ≠ 0) : a.v ≠ 0 := fun e => h (GF.ext_ e)
theorem mul_inv_ {a : GF} (h : a ≠ 0) : a * inv a = 1 := GF.ext_ (by rw [mul_v, inv_v, one_v]; exact gmul_ginv a.h (ne_v h))
theorem inv_mul_ {a : GF} (h : a ≠ 0) : inv a * a = 1 := by rw [mul_comm_, mul_inv_ h]
theorem one_ne : (1 : GF) ≠ 0 := fun h => absurd (congrArg GF.v h) (by decide)
theorem inv_ne {a : GF} (h : a ≠ 0) : inv a ≠ 0 := fun e => by have := mul_inv_ h; rw [e, mul_zero_] at this; exact one_ne this.symm
theorem mul_eq_zero_ {a b : GF} (h : a * b = 0) : a = 0 ∨ b = 0 := by
  rcases gmul_eq_zero a.h b.h (congrArg GF.v h) with h | h
  · exact .inl (GF.ext_ h)
  · exact .inr (GF.ext_ h)
theorem mul_ne_ {a b : GF} (ha : a ≠ 0) (hb : b ≠ 0) : a * b ≠ 0 := fun h => (mul_eq_zero_ h).elim ha hb
theorem add_eq_zero_ {a b : GF} (h : a + b = 0) : a = b := by
  have : a + b + b = 0 + b := by rw [h]
  rwa [add_assoc_, add_self_, add_zero_, zero_add_] at this
theorem add_ne_ {a b : GF} (h : a ≠ b) : a + b ≠ 0 := fun e => h (add_eq_zero_ e)
theorem add_cancel_ (a b : GF) : a + b + b = a := by rw [add_assoc_, add_self_, add_zero_]
theorem mix1 (a b c d e : GF) : (a + b * (c * d)) * e = a * e + b * (c * (d * e)) := by rw [add_mul_, mul_assoc_, mul_assoc_]
theorem mix2 (x y p : GF) : x + y = (x + p) + (p + y) := by rw [add_assoc_, ← add_assoc_ p, add_self_, zero_add_]
theorem mix3 (a b c : GF) : a * (b * c) = b * a * c := by rw [← mul_assoc_, mul_comm_ a b]
theorem mix4 (x p x0 : GF) : x + p + (x0 + p) = x + x0 := by rw [add_comm_ x0, add_assoc_, ← add_assoc_ p, add_self_, zero_add_]
theorem mix5 (s a i0 i1 : GF) : s * (a * i0 * i1) = a * (s * (i1 * i0)) := by ac_rfl

/-- Sums. -/
def sum : Nat → (Nat → GF) → GF
  | 0, _ => 0
  | n + 1, f => sum n f + f n
theorem sum_congr {f g : Nat → GF} : ∀ {n : Nat}, (∀ i, i < n → f i = g i) → sum n f = sum n g
  | 0, _ => rfl
  | n + 1, h => by unfold sum; rw [sum_congr (fun i hi => h i (by omega)), h n (by omega)]
theorem sum_add (f g : Nat → GF) : ∀ n, sum n (fun i => f i + g i) = sum n f + sum n g
  | 0 => (add_zero_ 0).symm
  | n + 1 => by
    show sum n (fun i => f i + g i) + (f n + g n) = sum n f + f n + (sum n g + g n)
    rw [sum_add f g n]; ac_rfl
theorem sum_mul (c : GF) (f : Nat → GF) : ∀ n, sum n (fun i => c * f i) = c * sum n f
  | 0 => (mul_zero_ c).symm
  | n + 1 => by unfold sum; rw [sum_mul c f n, mul_add_]
theorem sum_mul' (c : GF) (f : Nat → GF) (n : Nat) : sum n (fun i => f i * c) = sum n f * c := by
  rw [mul_comm_, ← sum_mul]; exact sum_congr fun i _ => mul_comm_ _ _
theorem sum_none {f : Nat → GF} : ∀ {n : Nat}, (∀ i, i < n → f i = 0) → sum n f = 0
  | 0, _ => rfl
  | n + 1, h => by unfold sum; rw [sum_none (fun i hi => h i (by omega)), h n (by omega), add_zero_]
theorem sum_one {f : Nat → GF} {k : Nat} : ∀ {n : Nat}, k < n → (∀ i, i < n → i ≠ k → f i = 0) → sum n f = f k
  | 0, h, _ => absurd h (by omega)
  | n + 1, h, hf => by
    unfold sum
    by_cases e : k = n
    · subst e
      rw [sum_none (fun i hi => hf i (by omega) (by omega)), zero_add_]
    · rw [sum_one (by omega) (fun i hi hk => hf i (by omega) hk), hf n (by omega) (fun h => e h.symm), add_zero_]
theorem sum_swap (f : Nat → Nat → GF) (m : Nat) : ∀ n, sum n (fun i => sum m (fun j => f i j)) = sum m (fun j => sum n (fun i => f i j))
  | 0 => (sum_none (fun _ _ => rfl)).symm
  | n + 1 => by
    have h := sum_add (fun j => sum n (fun i => f i j)) (fun j => f n j) m
    show sum n (fun i => sum m (fun j => f i j)) + sum m (fun j => f n j) = sum m (fun j => sum n (fun i => f i j) + f n j)
    rw [h, sum_swap f m n]
theorem sum_split (f : Nat → GF) (n : Nat) : ∀ m, sum (n + m) f = sum n f + sum m (fun i => f (n + i))
  | 0 => (add_zero_ _).symm
  | m + 1 => by show sum (n + m) f + f (n + m) = _; rw [sum_split f n m]; exact add_assoc_ _ _ _
/-- One summand taken out: the last one steps into its place. -/
theorem sum_out (f : Nat → GF) {c n : Nat} (hc : c < n + 1) : sum (n + 1) f = f c + sum n (fun k => f (if k = c then n else k)) := by
  by_cases e : c = n
  · subst e
    show sum c f + f c = _
    rw [add_comm_, sum_congr (n := c) (f := fun k => f (if k = c then c else k)) (g := f) (fun i hi => by show f (if i = c then c else i) = f i; rw [if_neg (by omega)])]
  · have h : ∀ m, c < m → m ≤ n → sum m (fun k => f (if k = c then n else k)) + f c = sum m f + f n := by
      intro m
      induction m with
      | zero => intro h; omega
      | succ m ih =>
        intro h1 h2
        show sum m (fun k => f (if k = c then n else k)) + f (if m = c then n else m) + f c = sum m f + f m + f n
        by_cases e2 : m = c
        · subst e2
          rw [if_pos rfl, sum_congr (f := fun k => f (if k = m then n else k)) (g := f) (fun i hi => by show f (if i = m then n else i) = f i; rw [if_neg (by omega)])]
          ac_rfl
        · rw [if_neg e2]
          have := ih (by omega) (by omega)
          calc _ = (sum m (fun k => f (if k = c then n else k)) + f c) + f m := by ac_rfl
            _ = (sum m f + f n) + f m := by rw [this]
            _ = _ := by ac_rfl
    show sum n f + f n = _
    rw [← h n (by omega) (Nat.le_refl n), add_comm_]

/-! Rows, matrices: functions. -/
abbrev Row := Nat → GF
abbrev Mat := Nat → Row
def dlt (i k : Nat) : GF := if i = k then 1 else 0
/-- v is a combination of the first N rows of B. -/
def LC (N : Nat) (B : Mat) (v : Row) : Prop := ∃ c : Row, ∀ j, v j = sum N (fun k => c k * B k j)
theorem LC.row {N : Nat} (B : Mat) {i : Nat} (hi : i < N) : LC N B (B i) := ⟨dlt i, fun j => by
  rw [sum_one hi (fun k _ hk => by show dlt i k * B k j = 0; unfold dlt; rw [if_neg (Ne.symm hk), zero_mul_])]
  show B i j = dlt i i * B i j
  unfold dlt; rw [if_pos rfl, one_mul_]⟩
theorem LC.add {N : Nat} {B : Mat} {u v : Row} : LC N B u → LC N B v → LC N B (fun j => u j + v j)
  | ⟨c, hc⟩, ⟨d, hd⟩ => ⟨fun k => c k + d k, fun j => by show u j + v j = _; rw [hc, hd, ← sum_add]; exact sum_congr fun k _ => (add_mul_ _ _ _).symm⟩
theorem LC.smul {N : Nat} {B : Mat} {u : Row} (x : GF) : LC N B u → LC N B (fun j => x * u j)
  | ⟨c, hc⟩ => ⟨fun k => x * c k, fun j => by show x * u j = _; rw [hc, ← sum_mul]; exact sum_congr fun k _ => (mul_assoc_ _ _ _).symm⟩
theorem LC.eq {N : Nat} {B : Mat} {u v : Row} (h : LC N B u) (e : ∀ j, v j = u j) : LC N B v := by
  obtain ⟨c, hc⟩ := h
  exact ⟨c, fun j => by rw [e, hc]⟩
def RowSub (N : Nat) (A B : Mat) : Prop := ∀ i, i < N → LC N B (A i)
theorem RowSub.mat {N : Nat} {A B : Mat} (h : RowSub N A B) : ∃ P : Mat, ∀ i, i < N → ∀ j, A i j = sum N (fun k => P i k * B k j) := by
  classical
  exact ⟨fun i => if hi : i < N then Classical.choose (h i hi) else fun _ => 0, fun i hi j => by
    show A i j = sum N (fun k => (if hi : i < N then Classical.choose (h i hi) else fun _ => 0) k * B k j)
    rw [dif_pos hi]; exact Classical.choose_spec (h i hi) j⟩
theorem LC.trans {N : Nat} {A B : Mat} {v : Row} (h : LC N A v) (hs : RowSub N A B) : LC N B v := by
  obtain ⟨c, hc⟩ := h
  obtain ⟨P, hP⟩ := hs.mat
  refine ⟨fun k => sum N (fun i => c i * P i k), fun j => ?_⟩
  rw [hc, sum_congr (g := fun i => sum N (fun k => c i * P i k * B k j)) (fun i hi => by
    show c i * A i j = _
    rw [hP i hi j, ← sum_mul]; exact sum_congr fun k _ => (mul_assoc_ _ _ _).symm), sum_swap]
  exact sum_congr fun k _ => sum_mul' _ _ _
theorem RowSub.trans {N : Nat} {A B C : Mat} (h : RowSub N A B) (k : RowSub N B C) : RowSub N A C := fun i hi => (h i hi).trans k
theorem RowSub.refl (N : Nat) (A : Mat) : RowSub N A A := fun i hi => LC.row A hi
/-- The reduction. -/
def swapF (A : Mat) (r i : Nat) : Mat := fun k => if k = r then A i else if k = i then A r else A k
def scaleF (A : Mat) (r j : Nat) : Row := fun c => A r c * inv (A r j)
def elimF (A : Mat) (r j : Nat) : Mat := fun i => if i = r then scaleF A r j else fun c => A i c + A i j * scaleF A r j c
/-- The first row from r on, of n, with something in column j; r + n if there is none. -/
def pivF (A : Mat) (j : Nat) : Nat → Nat → Nat
  | r, 0 => r
  | r, n + 1 => if A r j = 0 then pivF A j (r + 1) n else r
theorem pivF_spec (A : Mat) (j : Nat) : ∀ (n r : Nat), r ≤ pivF A j r n ∧ pivF A j r n ≤ r + n ∧ (∀ i, r ≤ i → i < pivF A j r n → A i j = 0) ∧ (pivF A j r n < r + n → A (pivF A j r n) j ≠ 0)
  | 0, r => ⟨Nat.le_refl _, Nat.le_refl _, fun i h1 h2 => absurd h2 (by show ¬ i < r; omega), fun h => absurd h (by show ¬ r < r + 0; omega)⟩
  | n + 1, r => by
    unfold pivF
    by_cases h : A r j = 0
    · rw [if_pos h]
      obtain ⟨h1, h2, h3, h4⟩ := pivF_spec A j n (r + 1)
      refine ⟨by omega, by omega, fun i hi hi2 => ?_, fun hl => h4 (by omega)⟩
      by_cases e : i = r
      · rw [e, h]
      · exact h3 i (by omega) hi2
    · rw [if_neg h]
      exact ⟨by omega, by omega, fun i h1 h2 => absurd h2 (by omega), fun _ => h⟩
def redF (N : Nat) : Mat → Nat → Nat → Nat → Mat × Nat
  | A, r, _, 0 => (A, r)
  | A, r, j, d + 1 => if r = N then (A, r) else
    if pivF A j r (N - r) = N then redF N A r (j + 1) d else redF N (elimF (swapF A r (pivF A j r (N - r))) r j) (r + 1) (j + 1) d
theorem swap_sub {N : Nat} (A : Mat) {r i : Nat} (hr : r < N) (hi : i < N) : RowSub N (swapF A r i) A := fun k hk => by
  unfold swapF
  by_cases h1 : k = r
  · rw [if_pos h1]; exact LC.row A hi
  · rw [if_neg h1]
    by_cases h2 : k = i
    · rw [if_pos h2]; exact LC.row A hr
    · rw [if_neg h2]; exact LC.row A hk
theorem swap_swap (A : Mat) (r i : Nat) : swapF (swapF A r i) r i = A := by
  funext k
  unfold swapF
  by_cases h1 : k = r
  · subst h1
    by_cases h3 : i = k
    · rw [if_pos rfl, if_pos h3, h3]
    · rw [if_pos rfl, if_neg h3, if_pos rfl]
  · rw [if_neg h1]
    by_cases h2 : k = i
    · subst h2; rw [if_pos rfl, if_pos rfl]
    · rw [if_neg h2, if_neg h1, if_neg h2]
theorem swap_bus {N : Nat} (A : Mat) {r i : Nat} (hr : r < N) (hi : i < N) : RowSub N A (swapF A r i) := by
  have := swap_sub (N := N) (swapF A r i) hr hi
  rwa [swap_swap] at this
theorem elim_sub {N : Nat} (A : Mat) {r : Nat} (j : Nat) (hr : r < N) : RowSub N (elimF A r j) A := fun i hi => by
  have hrow : LC N A (scaleF A r j) := (LC.smul (inv (A r j)) (LC.row A hr)).eq fun c => mul_comm_ _ _
  unfold elimF
  by_cases h : i = r
  · rw [if_pos h]; exact hrow
  · rw [if_neg h]
    exact (LC.row A hi).add (hrow.smul _)
theorem elim_bus {N : Nat} (A : Mat) {r : Nat} (j : Nat) (hr : r < N) (h0 : A r j ≠ 0) : RowSub N A (elimF A r j) := fun i hi => by
  have hrr : elimF A r j r = scaleF A r j := by unfold elimF; rw [if_pos rfl]
  have hrow : LC N (elimF A r j) (scaleF A r j) := by rw [← hrr]; exact LC.row _ hr
  by_cases h : i = r
  · subst h
    refine (hrow.smul (A i j)).eq fun c => ?_
    unfold scaleF
    rw [mul_comm_ (A i c), ← mul_assoc_, mul_inv_ h0, one_mul_]
  · refine ((LC.row (elimF A r j) hi).add (hrow.smul (A i j))).eq fun c => ?_
    have : elimF A r j i c = A i c + A i j * scaleF A r j c := by unfold elimF; rw [if_neg h]
    rw [this, add_cancel_]
structure Inv (N : Nat) (A0 A : Mat) (r j : Nat) : Prop where
  le : r ≤ j
  leN : r ≤ N
  sub : RowSub N A A0
  bus : RowSub N A0 A
  piv : ∃ p : Nat → Nat, (∀ k, k < r → p k < j ∧ ∀ i, i < N → A i (p k) = dlt i k) ∧ (r = j → ∀ k, k < r → p k = k)
  zero : ∀ i, r ≤ i → i < N → ∀ c, c < j → A i c = 0
theorem elim_other {A : Mat} {r j i c : Nat} (h0 : A r c = 0) : elimF A r j i c = A i c := by
  unfold elimF
  have hs : scaleF A r j c = 0 := by unfold scaleF; rw [h0, zero_mul_]
  by_cases h : i = r
  · rw [if_pos h, hs, h, h0]
  · rw [if_neg h]; show A i c + A i j * scaleF A r j c = A i c; rw [hs, mul_zero_, add_zero_]
theorem elim_col {A : Mat} {r j i : Nat} (h0 : A r j ≠ 0) : elimF A r j i j = dlt i r := by
  unfold elimF dlt
  have hs : scaleF A r j j = 1 := mul_inv_ h0
  by_cases h : i = r
  · rw [if_pos h, if_pos h, hs]
  · rw [if_neg h, if_neg h]; show A i j + A i j * scaleF A r j j = 0; rw [hs, mul_one_, add_self_]
theorem redF_inv (N : Nat) (A0 : Mat) : ∀ (d : Nat) (A : Mat) (r j : Nat), Inv N A0 A r j → ∃ j', j' ≤ j + d ∧ Inv N A0 (redF N A r j d).1 (redF N A r j d).2 j' ∧ (j' = j + d ∨ (redF N A r j d).2 = N)
  | 0, A, r, j, h => ⟨j, Nat.le_refl _, h, .inl rfl⟩
  | d + 1, A, r, j, h => by
    unfold redF
    by_cases hN : r = N
    · rw [if_pos hN]; exact ⟨j, by omega, h, .inr hN⟩
    · rw [if_neg hN]
      have hlt : r < N := by have := h.leN; omega
      obtain ⟨s1, s2, s3, s4⟩ := pivF_spec A j (N - r) r
      generalize pivF A j r (N - r) = i at s1 s2 s3 s4 ⊢
      by_cases hi : i = N
      · rw [if_pos hi]
        obtain ⟨j', a, b, c⟩ := redF_inv N A0 d A r (j + 1) ⟨by have := h.le; omega, h.leN, h.sub, h.bus, by
          obtain ⟨p, hp, _⟩ := h.piv
          exact ⟨p, fun k hk => ⟨by have := (hp k hk).1; omega, (hp k hk).2⟩, fun e => absurd e (by have := h.le; omega)⟩, fun i' h1 h2 c hc => by
          by_cases e : c = j
          · rw [e]; exact s3 i' h1 (by omega)
          · exact h.zero i' h1 h2 c (by omega)⟩
        exact ⟨j', by omega, b, c.imp (fun h => by omega) id⟩
      · rw [if_neg hi]
        have hiN : i < N := by omega
        have h0 : swapF A r i r j ≠ 0 := by unfold swapF; rw [if_pos rfl]; exact s4 (by omega)
        have hz : ∀ c, c < j → swapF A r i r c = 0 := fun c hc => by unfold swapF; rw [if_pos rfl]; exact h.zero i s1 hiN c hc
        obtain ⟨j', a, b, c⟩ := redF_inv N A0 d (elimF (swapF A r i) r j) (r + 1) (j + 1) ⟨by have := h.le; omega, by omega, ((elim_sub _ j hlt).trans (swap_sub A hlt hiN)).trans h.sub, h.bus.trans ((swap_bus A hlt hiN).trans (elim_bus _ j hlt h0)), by
          obtain ⟨p, hp, hid⟩ := h.piv
          refine ⟨fun k => if k = r then j else p k, fun k hk => ?_, fun e k hk => ?_⟩
          · show (if k = r then j else p k) < j + 1 ∧ ∀ i', i' < N → elimF (swapF A r i) r j i' (if k = r then j else p k) = dlt i' k
            by_cases e : k = r
            · rw [if_pos e, e]
              exact ⟨by omega, fun i' _ => elim_col h0⟩
            · rw [if_neg e]
              obtain ⟨h1, h2⟩ := hp k (by omega)
              refine ⟨by omega, fun i' hi' => ?_⟩
              rw [elim_other (hz _ h1)]
              unfold swapF
              by_cases e1 : i' = r
              · rw [if_pos e1, h2 i hiN, e1]
                unfold dlt; rw [if_neg (by omega), if_neg (by omega)]
              · rw [if_neg e1]
                by_cases e2 : i' = i
                · rw [if_pos e2, h2 r hlt, e2]
                  unfold dlt; rw [if_neg (by omega), if_neg (by omega)]
                · rw [if_neg e2]; exact h2 i' hi'
          · show (if k = r then j else p k) = k
            by_cases e1 : k = r
            · rw [if_pos e1]; omega
            · rw [if_neg e1]; exact hid (by omega) k (by omega), fun i' h1 h2 c hc => by
          by_cases e : c = j
          · rw [e, elim_col h0]; unfold dlt; rw [if_neg (by omega)]
          · rw [elim_other (hz c (by omega))]
            unfold swapF
            rw [if_neg (by omega)]
            by_cases e2 : i' = i
            · rw [if_pos e2]; exact h.zero r (Nat.le_refl _) hlt c (by omega)
            · rw [if_neg e2]; exact h.zero i' (by omega) h2 c (by omega)⟩
        exact ⟨j', by omega, b, c.imp (fun h => by omega) id⟩
def rankF (N C : Nat) (A : Mat) : Nat := (redF N A 0 0 C).2
def formF (N C : Nat) (A : Mat) : Mat := (redF N A 0 0 C).1
theorem red_spec (N C : Nat) (A : Mat) : rankF N C A ≤ N ∧ rankF N C A ≤ C ∧ RowSub N (formF N C A) A ∧ RowSub N A (formF N C A) ∧ (∃ p : Nat → Nat, (∀ k, k < rankF N C A → p k < C ∧ ∀ i, i < N → formF N C A i (p k) = dlt i k) ∧ (rankF N C A = C → ∀ k, k < C → p k = k)) ∧
    ∀ i, rankF N C A ≤ i → i < N → ∀ c, c < C → formF N C A i c = 0 := by
  obtain ⟨j', h1, h2, h3⟩ := redF_inv N A C A 0 0 ⟨Nat.le_refl _, Nat.zero_le _, RowSub.refl _ _, RowSub.refl _ _, ⟨fun k => k, fun k hk => absurd hk (by omega), fun _ k hk => absurd hk (by omega)⟩, fun _ _ _ c hc => absurd hc (by omega)⟩
  rw [show (redF N A 0 0 C).1 = formF N C A from rfl, show (redF N A 0 0 C).2 = rankF N C A from rfl] at *
  generalize rankF N C A = s at *
  have := h2.le
  refine ⟨h2.leN, by omega, h2.sub, h2.bus, ?_, fun i hi hiN c hc => ?_⟩
  · obtain ⟨p, hp, hid⟩ := h2.piv
    exact ⟨p, fun k hk => ⟨by have := (hp k hk).1; omega, (hp k hk).2⟩, fun e k hk => hid (by omega) k (by omega)⟩
  · rcases h3 with h3 | h3
    · exact h2.zero i hi hiN c (by omega)
    · omega

/-- More unknowns than equations. -/
theorem kernel : ∀ (t s : Nat) (Y : Mat), t < s → ∃ v : Row, (∃ k, k < s ∧ v k ≠ 0) ∧ ∀ i, i < t → sum s (fun k => Y i k * v k) = 0
  | 0, s, Y, h => ⟨fun _ => 1, ⟨0, h, one_ne⟩, fun i hi => absurd hi (by omega)⟩
  | t + 1, s, Y, h => by
    by_cases hz : ∀ k, k < s → Y t k = 0
    · obtain ⟨v, hv, hs⟩ := kernel t s Y (by omega)
      refine ⟨v, hv, fun i hi => ?_⟩
      by_cases e : i = t
      · rw [e]; exact sum_none fun k hk => by rw [hz k hk, zero_mul_]
      · exact hs i (by omega)
    · obtain ⟨c, hc, h0⟩ : ∃ c, c < s ∧ Y t c ≠ 0 := by
        apply Classical.byContradiction
        intro hn
        exact hz fun k hk => Classical.byContradiction fun h => hn ⟨k, hk, h⟩
      obtain ⟨m, rfl⟩ : ∃ m, s = m + 1 := ⟨s - 1, by omega⟩
      obtain ⟨g, hg⟩ : ∃ g : Nat → Nat, g = fun k => if k = c then m else k := ⟨_, rfl⟩
      have gc : ∀ k, k < m → g k < m + 1 ∧ g k ≠ c := fun k hk => by
        rw [hg]
        show (if k = c then m else k) < m + 1 ∧ (if k = c then m else k) ≠ c
        by_cases e : k = c
        · rw [if_pos e]; omega
        · rw [if_neg e]; omega
      have gi : ∀ k, k < m → (if g k = m then c else g k) = k := fun k hk => by
        rw [hg]
        show (if (if k = c then m else k) = m then c else (if k = c then m else k)) = k
        by_cases e : k = c
        · rw [if_pos e, if_pos rfl, e]
        · rw [if_neg e, if_neg (by omega)]
      obtain ⟨v, ⟨k0, hk0, hv⟩, hs⟩ := kernel t m (fun i k => Y i (g k) + Y i c * (inv (Y t c) * Y t (g k))) (by omega)
      obtain ⟨q, hq⟩ : ∃ q, q = inv (Y t c) := ⟨_, rfl⟩
      have hqq : Y t c * q = 1 := by rw [hq]; exact mul_inv_ h0
      rw [← hq] at hs
      clear hq
      obtain ⟨w, wc, wg⟩ : ∃ w : Row, w c = q * sum m (fun k => Y t (g k) * v k) ∧ ∀ k, k < m → w (g k) = v k :=
        ⟨fun k => if k = c then q * sum m (fun k => Y t (g k) * v k) else v (if k = m then c else k), if_pos rfl, fun k hk => by
          show (if g k = c then _ else v (if g k = m then c else g k)) = v k
          rw [if_neg (gc k hk).2, gi k hk]⟩
      have hsum : ∀ i, sum (m + 1) (fun k => Y i k * w k) = Y i c * (q * sum m (fun k => Y t (g k) * v k)) + sum m (fun k => Y i (g k) * v k) := fun i => by
        have e0 : sum (m + 1) (fun k => Y i k * w k) = Y i c * w c + sum m (fun k => Y i (if k = c then m else k) * w (if k = c then m else k)) := sum_out (fun k => Y i k * w k) hc
        have e1 : sum m (fun k => Y i (if k = c then m else k) * w (if k = c then m else k)) = sum m (fun k => Y i (g k) * v k) := sum_congr fun k hk => by
          have h1 := wg k hk
          have h2 : (if k = c then m else k) = g k := by rw [hg]
          rw [h2, h1]
        rw [e0, wc, e1]
      refine ⟨w, ⟨g k0, (gc k0 hk0).1, by rw [wg k0 hk0]; exact hv⟩, fun i hi => ?_⟩
      rw [hsum]
      by_cases e : i = t
      · rw [e, ← mul_assoc_, hqq, one_mul_, add_self_]
      · have h1 := hs i (by omega)
        rw [sum_congr (g := fun k => Y i (g k) * v k + Y i c * (q * (Y t (g k) * v k))) (fun k _ => mix1 _ _ _ _ _), sum_add, sum_mul, sum_mul] at h1
        rw [add_comm_]; exact h1
/-- The identity of size s is no product over fewer than s. -/
theorem ibn {s t : Nat} {X Y : Mat} (h : ∀ i k, i < s → k < s → sum t (fun a => X i a * Y a k) = dlt i k) : s ≤ t := by
  apply Classical.byContradiction
  intro hn
  obtain ⟨v, ⟨k0, hk0, hv⟩, hs⟩ := kernel t s Y (by omega)
  apply hv
  have h1 : sum s (fun k => dlt k0 k * v k) = v k0 := by
    rw [sum_one hk0 (fun k _ hk => by show dlt k0 k * v k = 0; unfold dlt; rw [if_neg (Ne.symm hk), zero_mul_])]
    show dlt k0 k0 * v k0 = v k0
    unfold dlt; rw [if_pos rfl, one_mul_]
  rw [← h1, sum_congr (g := fun k => sum t (fun a => X k0 a * (Y a k * v k))) (fun k hk => by
    show dlt k0 k * v k = _
    rw [← h k0 k hk0 hk, ← sum_mul']; exact sum_congr fun a _ => mul_assoc_ _ _ _), sum_swap]
  exact sum_none fun a ha => by rw [sum_mul, hs a ha, mul_zero_]
/-- M, of N rows and C columns, is a product over s. -/
def Fac (N C : Nat) (M : Mat) (s : Nat) : Prop := ∃ Q R : Mat, ∀ i, i < N → ∀ j, j < C → M i j = sum s (fun k => Q i k * R k j)
theorem rank_fac (N C : Nat) (A : Mat) : Fac N C A (rankF N C A) := by
  obtain ⟨h1, h2, h3, h4, h5, h6⟩ := red_spec N C A
  obtain ⟨Q, hQ⟩ := h4.mat
  refine ⟨Q, formF N C A, fun i hi j hj => ?_⟩
  rw [hQ i hi j]
  have hsp := sum_split (fun k => Q i k * formF N C A k j) (rankF N C A) (N - rankF N C A)
  rw [show rankF N C A + (N - rankF N C A) = N by omega] at hsp
  rw [hsp, sum_none (n := N - rankF N C A) (fun k hk => by rw [h6 _ (by omega) (by omega) j hj, mul_zero_]), add_zero_]
theorem rank_le {N C t : Nat} {A : Mat} (h : Fac N C A t) : rankF N C A ≤ t := by
  obtain ⟨h1, h2, h3, h4, ⟨p, hp, _⟩, h6⟩ := red_spec N C A
  obtain ⟨P, hP⟩ := h3.mat
  obtain ⟨Q, R, hQ⟩ := h
  refine ibn (X := fun i a => sum N (fun k => P i k * Q k a)) (Y := fun a k => R a (p k)) fun i k hi hk => ?_
  obtain ⟨hp1, hp2⟩ := hp k hk
  rw [← hp2 i (by omega), hP i (by omega), sum_congr (n := N) (g := fun b => sum t (fun a => P i b * (Q b a * R a (p k)))) (fun b hb => by rw [hQ b hb _ hp1, ← sum_mul]), sum_swap]
  exact sum_congr fun a _ => by rw [← sum_mul']; exact sum_congr fun b _ => mul_assoc_ _ _ _
def mulF (K : Nat) (A B : Mat) : Mat := fun i j => sum K (fun k => A i k * B k j)
theorem rank_mul_left (N K C : Nat) (A B : Mat) : rankF N C (mulF K A B) ≤ rankF N K A := by
  obtain ⟨Q, R, h⟩ := rank_fac N K A
  refine rank_le ⟨Q, fun a j => sum K (fun k => R a k * B k j), fun i hi j hj => ?_⟩
  show sum K (fun k => A i k * B k j) = _
  rw [sum_congr (g := fun k => sum (rankF N K A) (fun a => Q i a * (R a k * B k j))) (fun k hk => by
    rw [h i hi k hk, ← sum_mul']; exact sum_congr fun a _ => mul_assoc_ _ _ _), sum_swap]
  exact sum_congr fun a _ => sum_mul _ _ _
theorem rank_mul_right (N K C : Nat) (A B : Mat) : rankF N C (mulF K A B) ≤ rankF K C B := by
  obtain ⟨Q, R, h⟩ := rank_fac K C B
  refine rank_le ⟨fun i a => sum K (fun k => A i k * Q k a), R, fun i hi j hj => ?_⟩
  show sum K (fun k => A i k * B k j) = _
  rw [sum_congr (g := fun k => sum (rankF K C B) (fun a => A i k * (Q k a * R a j))) (fun k hk => by rw [h k hk j hj, ← sum_mul]), sum_swap]
  exact sum_congr fun a _ => by rw [← sum_mul']; exact sum_congr fun k _ => (mul_assoc_ _ _ _).symm
theorem mul_assoc_F (K L : Nat) (A B C : Mat) (i j : Nat) : mulF L (mulF K A B) C i j = mulF K A (mulF L B C) i j := by
  show sum L (fun l => sum K (fun k => A i k * B k l) * C l j) = sum K (fun k => A i k * sum L (fun l => B k l * C l j))
  rw [sum_congr (g := fun l => sum K (fun k => A i k * (B k l * C l j))) (fun l _ => by rw [← sum_mul']; exact sum_congr fun k _ => mul_assoc_ _ _ _), sum_swap]
  exact sum_congr fun k _ => sum_mul _ _ _
/-- Only the first columns matter. -/
theorem red_agree (N C : Nat) : ∀ (d : Nat) (A B : Mat) (r j : Nat), r ≤ N → j + d ≤ C → (∀ i, i < N → ∀ c, c < C → A i c = B i c) → (redF N A r j d).2 = (redF N B r j d).2 ∧ ∀ i, i < N → ∀ c, c < C → (redF N A r j d).1 i c = (redF N B r j d).1 i c
  | 0, A, B, r, j, _, _, h => ⟨rfl, h⟩
  | d + 1, A, B, r, j, hrN, hj, h => by
    have hpiv : ∀ n r, r + n ≤ N → pivF A j r n = pivF B j r n := by
      intro n
      induction n with
      | zero => intro r _; rfl
      | succ n ih => intro r hr; unfold pivF; rw [h r (by omega) j (by omega), ih (r + 1) (by omega)]
    unfold redF
    by_cases hN : r = N
    · rw [if_pos hN, if_pos hN]; exact ⟨rfl, h⟩
    · rw [if_neg hN, if_neg hN, hpiv _ _ (by omega)]
      obtain ⟨s1, s2, _, _⟩ := pivF_spec B j (N - r) r
      generalize pivF B j r (N - r) = i at s1 s2 ⊢
      by_cases hi : i = N
      · rw [if_pos hi, if_pos hi]; exact red_agree N C d A B r (j + 1) hrN (by omega) h
      · rw [if_neg hi, if_neg hi]
        have hsw : ∀ k, k < N → ∀ c, c < C → swapF A r i k c = swapF B r i k c := fun k hk c hc => by
          unfold swapF
          by_cases h1 : k = r
          · rw [if_pos h1, if_pos h1]; exact h i (by omega) c hc
          · rw [if_neg h1, if_neg h1]
            by_cases h2 : k = i
            · rw [if_pos h2, if_pos h2]; exact h r (by omega) c hc
            · rw [if_neg h2, if_neg h2]; exact h k hk c hc
        refine red_agree N C d _ _ (r + 1) (j + 1) (by omega) (by omega) fun k hk c hc => ?_
        have hsc : ∀ c, c < C → scaleF (swapF A r i) r j c = scaleF (swapF B r i) r j c := fun c hc => by unfold scaleF; rw [hsw r (by omega) c hc, hsw r (by omega) j (by omega)]
        unfold elimF
        by_cases h1 : k = r
        · rw [if_pos h1, if_pos h1]; exact hsc c hc
        · rw [if_neg h1, if_neg h1]
          show swapF A r i k c + swapF A r i k j * scaleF (swapF A r i) r j c = _
          rw [hsw k hk c hc, hsw k hk j (by omega), hsc c hc]
/-- A matrix and, to its right, the identity. -/
def augF (n : Nat) (A : Mat) : Mat := fun i j => if j < n then A i j else dlt (i + n) j
def invF (n : Nat) (A : Mat) : Mat := fun i j => formF n n (augF n A) i (n + j)
theorem rank_aug (n : Nat) (A : Mat) : rankF n n (augF n A) = rankF n n A :=
  (red_agree n n n (augF n A) A 0 0 (Nat.zero_le _) (by omega) (fun i _ c hc => by unfold augF; rw [if_pos hc])).1
theorem inv_spec {n : Nat} {A : Mat} (h : rankF n n A = n) : (∀ i j, i < n → j < n → mulF n (invF n A) A i j = dlt i j) ∧ ∀ i j, i < n → j < n → mulF n A (invF n A) i j = dlt i j := by
  obtain ⟨h1, h2, h3, h4, ⟨p, hp, hid⟩, h6⟩ := red_spec n n (augF n A)
  rw [rank_aug, h] at hp hid
  obtain ⟨P, hP⟩ := h3.mat
  obtain ⟨Q, hQ⟩ := h4.mat
  have hone : ∀ i j, i < n → j < n → formF n n (augF n A) i j = dlt i j := fun i j hi hj => by have := (hp j hj).2 i hi; rwa [hid rfl j hj] at this
  have hPn : ∀ i j, i < n → j < n → invF n A i j = P i j := fun i j hi hj => by
    show formF n n (augF n A) i (n + j) = _
    rw [hP i hi, sum_one hj (fun k _ hk => by show P i k * augF n A k (n + j) = 0; unfold augF dlt; rw [if_neg (by omega), if_neg (by omega), mul_zero_])]
    show P i j * augF n A j (n + j) = _
    unfold augF dlt; rw [if_neg (by omega), if_pos (by omega), mul_one_]
  have hQn : ∀ i j, i < n → j < n → A i j = Q i j := fun i j hi hj => by
    have := hQ i hi j
    rw [sum_one hj (fun k hk hkj => by rw [hone k j hk hj]; unfold dlt; rw [if_neg hkj, mul_zero_]), hone j j hj hj] at this
    unfold dlt augF at this
    rwa [if_pos hj, if_pos rfl, mul_one_] at this
  refine ⟨fun i j hi hj => ?_, fun i j hi hj => ?_⟩
  · rw [← hone i j hi hj, hP i hi j]
    exact sum_congr fun k hk => by rw [hPn i k hi hk]; unfold augF; rw [if_pos hj]
  · have := hQ i hi (n + j)
    unfold augF at this
    rw [if_neg (by omega)] at this
    show sum n (fun k => A i k * invF n A k j) = _
    rw [sum_congr (g := fun k => Q i k * formF n n (augF n A) k (n + j)) (fun k hk => by rw [hQn i k hi hk]; rfl)]
    refine Eq.trans this.symm ?_
    unfold dlt
    by_cases e : i = j
    · rw [if_pos (by omega), if_pos e]
    · rw [if_neg (by omega), if_neg e]
/-- A matrix with a left (right) inverse has full rank; one that has no kernel too. -/
theorem rank_full {n : Nat} {A B : Mat} (h : ∀ i j, i < n → j < n → mulF n A B i j = dlt i j) : rankF n n A = n := by
  have h1 := (red_spec n n A).1
  obtain ⟨Q, R, hf⟩ := rank_fac n n A
  have h2 : n ≤ rankF n n A := ibn (X := Q) (Y := fun a k => sum n (fun b => R a b * B b k)) fun i k hi hk => by
    rw [← h i k hi hk]
    show _ = sum n (fun b => A i b * B b k)
    rw [sum_congr (n := n) (g := fun b => sum (rankF n n A) (fun a => Q i a * (R a b * B b k))) (fun b hb => by rw [hf i hi b hb, ← sum_mul']; exact sum_congr fun a _ => mul_assoc_ _ _ _), sum_swap]
    exact sum_congr fun a _ => (sum_mul _ _ _).symm
  omega
theorem rank_ker {n : Nat} {A : Mat} (h : ∀ v : Row, (∀ i, i < n → sum n (fun k => A i k * v k) = 0) → ∀ k, k < n → v k = 0) : rankF n n A = n := by
  have h1 := (red_spec n n A).1
  apply Classical.byContradiction
  intro hn
  obtain ⟨Q, R, hf⟩ := rank_fac n n A
  obtain ⟨v, ⟨k0, hk0, hv⟩, hs⟩ := kernel (rankF n n A) n R (by omega)
  refine hv (h v (fun i hi => ?_) k0 hk0)
  rw [sum_congr (g := fun k => sum (rankF n n A) (fun a => Q i a * (R a k * v k))) (fun k hk => by rw [hf i hi k hk, ← sum_mul']; exact sum_congr fun a _ => mul_assoc_ _ _ _), sum_swap]
  exact sum_none fun a ha => by rw [sum_mul, hs a ha, mul_zero_]
/-- The inverse's inverse. -/
theorem inv_inv_ {n : Nat} {A : Mat} (h : rankF n n A = n) : rankF n n (invF n A) = n ∧ ∀ i j, i < n → j < n → invF n (invF n A) i j = A i j := by
  obtain ⟨h1, h2⟩ := inv_spec h
  have hr : rankF n n (invF n A) = n := rank_full h1
  obtain ⟨g1, g2⟩ := inv_spec hr
  refine ⟨hr, fun i j hi hj => ?_⟩
  have e1 : mulF n (mulF n (invF n (invF n A)) (invF n A)) A i j = A i j := by
    show sum n (fun k => mulF n (invF n (invF n A)) (invF n A) i k * A k j) = _
    rw [sum_one hi (fun k hk hki => by rw [g1 i k hi hk]; unfold dlt; rw [if_neg (Ne.symm hki), zero_mul_]), g1 i i hi hi]
    unfold dlt; rw [if_pos rfl, one_mul_]
  have e2 : mulF n (invF n (invF n A)) (mulF n (invF n A) A) i j = invF n (invF n A) i j := by
    show sum n (fun k => invF n (invF n A) i k * mulF n (invF n A) A k j) = _
    rw [sum_one hj (fun k hk hkj => by rw [h1 k j hk hj]; unfold dlt; rw [if_neg hkj, mul_zero_]), h1 j j hj hj]
    unfold dlt; rw [if_pos rfl, mul_one_]
  rw [← e2, ← mul_assoc_F, e1]
/-- If a product with A is known, so is the other factor. -/
theorem inv_apply {n : Nat} {A : Mat} (h : rankF n n A = n) {u v : Row} (he : ∀ i, i < n → u i = sum n (fun k => A i k * v k)) : ∀ i, i < n → sum n (fun k => invF n A i k * u k) = v i := fun i hi => by
  obtain ⟨h1, _⟩ := inv_spec h
  have := mul_assoc_F n n (invF n A) A (fun k _ => v k) i 0
  rw [sum_congr (g := fun k => invF n A i k * sum n (fun l => A k l * v l)) (fun k hk => by rw [he k hk])]
  refine Eq.trans this.symm ?_
  show sum n (fun l => mulF n (invF n A) A i l * v l) = v i
  rw [sum_one hi (fun k hk hki => by rw [h1 i k hi hk]; unfold dlt; rw [if_neg (Ne.symm hki), zero_mul_]), h1 i i hi hi]
  unfold dlt; rw [if_pos rfl, one_mul_]

/-! Cauchy matrices. -/
def lsum {α : Type} (f : α → GF) : List α → GF
  | [] => 0
  | a :: l => f a + lsum f l
theorem lsum_congr {α : Type} {f g : α → GF} : ∀ {l : List α}, (∀ a, a ∈ l → f a = g a) → lsum f l = lsum g l
  | [], _ => rfl
  | a :: l, h => by unfold lsum; rw [h a List.mem_cons_self, lsum_congr fun b hb => h b (List.mem_cons_of_mem _ hb)]
theorem lsum_add {α : Type} (f g : α → GF) : ∀ l : List α, lsum (fun a => f a + g a) l = lsum f l + lsum g l
  | [] => (add_zero_ 0).symm
  | a :: l => by unfold lsum; rw [lsum_add f g l]; ac_rfl
theorem lsum_mul {α : Type} (c : GF) (f : α → GF) : ∀ l : List α, lsum (fun a => c * f a) l = c * lsum f l
  | [] => (mul_zero_ c).symm
  | a :: l => by unfold lsum; rw [lsum_mul c f l, mul_add_]
theorem lsum_map {α β : Type} (f : β → GF) (g : α → β) : ∀ l : List α, lsum f (l.map g) = lsum (fun a => f (g a)) l
  | [] => rfl
  | a :: l => by unfold lsum; rw [← lsum_map f g l]; rfl
theorem lsum_append {α : Type} (f : α → GF) : ∀ l m : List α, lsum f (l ++ m) = lsum f l + lsum f m
  | [], m => (zero_add_ _).symm
  | a :: l, m => by show f a + lsum f (l ++ m) = f a + lsum f l + lsum f m; rw [lsum_append f l m, add_assoc_]
theorem lsum_none {α : Type} {f : α → GF} : ∀ {l : List α}, (∀ a, a ∈ l → f a = 0) → lsum f l = 0
  | [], _ => rfl
  | a :: l, h => by unfold lsum; rw [h a List.mem_cons_self, zero_add_]; exact lsum_none fun b hb => h b (List.mem_cons_of_mem _ hb)
theorem lsum_range (f : Nat → GF) : ∀ n, lsum f (List.range n) = sum n f
  | 0 => rfl
  | n + 1 => by rw [List.range_succ, lsum_append, lsum_range f n]; show sum n f + (f n + 0) = sum n f + f n; rw [add_zero_]
theorem inv_add {a b : GF} (ha : a ≠ 0) (hb : b ≠ 0) : inv a + inv b = (a + b) * (inv a * inv b) := by
  rw [add_mul_, ← mul_assoc_ a, mul_inv_ ha, one_mul_, mul_comm_ (inv a), ← mul_assoc_ b, mul_inv_ hb, one_mul_, add_comm_]
theorem cauchyL : ∀ (ys : List (GF × GF)) (xs : List GF), ys.length ≤ xs.length → xs.Nodup → (ys.map Prod.fst).Nodup → (∀ x, x ∈ xs → ∀ p, p ∈ ys → x ≠ p.1) → (∀ x, x ∈ xs → lsum (fun p : GF × GF => p.2 * inv (x + p.1)) ys = 0) → ∀ p, p ∈ ys → p.2 = 0
  | [], _, _, _, _, _, _ => fun p hp => absurd hp (by simp)
  | q :: t, [], hl, _, _, _, _ => absurd hl (by simp)
  | q :: t, x0 :: xs, hl, hx, hy, hne, h => by
    obtain ⟨y, v⟩ := q
    have hx' := List.nodup_cons.1 hx
    rw [List.map_cons] at hy
    have hy' := List.nodup_cons.1 hy
    have hyne : ∀ p, p ∈ t → p.1 + y ≠ 0 := fun p hp => add_ne_ fun e => hy'.1 (by rw [show (y, v).1 = p.1 from e.symm]; exact List.mem_map_of_mem hp)
    have hn : ∀ x, x ∈ x0 :: xs → ∀ p, p ∈ t → x + p.1 ≠ 0 := fun x hx p hp => add_ne_ (hne x hx p (List.mem_cons_of_mem _ hp))
    have hny : ∀ x, x ∈ x0 :: xs → x + y ≠ 0 := fun x hx => add_ne_ (hne x hx (y, v) List.mem_cons_self)
    -- times (x + y)
    have h2 : ∀ x, x ∈ x0 :: xs → v + lsum (fun p : GF × GF => p.2) t + lsum (fun p : GF × GF => p.2 * (p.1 + y) * inv (x + p.1)) t = 0 := fun x hx => by
      have h1 : (x + y) * (v * inv (x + y) + lsum (fun p : GF × GF => p.2 * inv (x + p.1)) t) = 0 := by
        have : v * inv (x + y) + lsum (fun p : GF × GF => p.2 * inv (x + p.1)) t = 0 := h x hx
        rw [this, mul_zero_]
      rw [mul_add_, ← lsum_mul] at h1
      have e1 : (x + y) * (v * inv (x + y)) = v := by
        rw [mul_comm_ v, ← mul_assoc_, mul_inv_ (hny x hx), one_mul_]
      rw [e1, lsum_congr (g := fun p : GF × GF => p.2 + p.2 * (p.1 + y) * inv (x + p.1)) (fun p hp => by
        have hnx := hn x hx p hp
        show (x + y) * (p.2 * inv (x + p.1)) = p.2 + p.2 * (p.1 + y) * inv (x + p.1)
        rw [mix2 x y p.1]
        generalize x + p.1 = a at hnx ⊢
        generalize p.1 + y = b
        rw [add_mul_, mix3 b, mix3 a, mul_assoc_ p.2 a, mul_inv_ hnx, mul_one_]), lsum_add, ← add_assoc_] at h1
      exact h1
    have h3 : ∀ x, x ∈ xs → lsum (fun p : GF × GF => p.2 * inv (x + p.1)) (t.map fun p => (p.1, p.2 * (p.1 + y) * inv (x0 + p.1))) = 0 := fun x hx => by
      rw [lsum_map]
      have a1 := h2 x0 List.mem_cons_self
      have a2 := h2 x (List.mem_cons_of_mem _ hx)
      have hxx : x + x0 ≠ 0 := add_ne_ fun e => hx'.1 (e ▸ hx)
      have a3 : (x + x0) * lsum (fun p : GF × GF => p.2 * (p.1 + y) * inv (x0 + p.1) * inv (x + p.1)) t = 0 := by
        rw [← lsum_mul, lsum_congr (g := fun p : GF × GF => p.2 * (p.1 + y) * inv (x + p.1) + p.2 * (p.1 + y) * inv (x0 + p.1)) (fun p hp => by
          have n1 := hn x (List.mem_cons_of_mem _ hx) p hp
          have n0 := hn x0 List.mem_cons_self p hp
          show (x + x0) * (p.2 * (p.1 + y) * inv (x0 + p.1) * inv (x + p.1)) = p.2 * (p.1 + y) * inv (x + p.1) + p.2 * (p.1 + y) * inv (x0 + p.1)
          rw [← mul_add_, inv_add n1 n0, mix4]
          exact mix5 _ _ _ _), lsum_add]
        generalize lsum (fun p : GF × GF => p.2 * (p.1 + y) * inv (x0 + p.1)) t = z0 at a1 ⊢
        generalize lsum (fun p : GF × GF => p.2 * (p.1 + y) * inv (x + p.1)) t = z1 at a2 ⊢
        generalize v + lsum (fun p : GF × GF => p.2) t = z at a1 a2
        rw [← add_eq_zero_ a1, ← add_eq_zero_ a2, add_self_]
      exact (mul_eq_zero_ a3).elim (fun e => absurd e hxx) id
    have ih := cauchyL (t.map fun p => (p.1, p.2 * (p.1 + y) * inv (x0 + p.1))) xs (by simpa using hl) hx'.2 (by
      rw [List.map_map]; exact hy'.2) (fun x hx p hp => by
        obtain ⟨q, hq, rfl⟩ := List.mem_map.1 hp
        exact hne x (List.mem_cons_of_mem _ hx) q (List.mem_cons_of_mem _ hq)) h3
    have ht : ∀ p, p ∈ t → p.2 = 0 := fun p hp => by
      have := ih _ (List.mem_map_of_mem (f := fun p : GF × GF => (p.1, p.2 * (p.1 + y) * inv (x0 + p.1))) hp)
      rcases mul_eq_zero_ this with h | h
      · exact (mul_eq_zero_ h).elim id fun e => absurd e (hyne p hp)
      · exact absurd h (inv_ne (hn x0 List.mem_cons_self p hp))
    intro p hp
    rcases List.mem_cons.1 hp with rfl | hp
    · have := h x0 List.mem_cons_self
      have e : lsum (fun p : GF × GF => p.2 * inv (x0 + p.1)) t = 0 := lsum_none fun p hp => by rw [ht p hp, zero_mul_]
      have h1 : v * inv (x0 + y) + lsum (fun p : GF × GF => p.2 * inv (x0 + p.1)) t = 0 := this
      rw [e, add_zero_] at h1
      exact (mul_eq_zero_ h1).elim id fun e => absurd e (inv_ne (hny x0 List.mem_cons_self))
    · exact ht p hp
end Go.Proofs.Ytmlfpcnemganbaa.Lin
/- What the printed functions of the field compute, in plain numbers. -/
namespace Go.Proofs.Ytmlfpcnemganbaa.Q
open Go.RowKit Go.Proofs.YtmlfpcnemganbaaW.PrintWords Go.Proofs.YtmlfpcnemganbaaW.PrintLast Go.Proofs.YtmlfpcnemganbaaW.PrintMore
open Go.Proofs.Ytmlfpcnemganbaa.Gf

theorem i64_xor_nat {a b : Nat} (ha : a < 9223372036854775808) (hb : b < 9223372036854775808) : Go.bits .xor .i64 (a : Int) (b : Int) = ((a ^^^ b : Nat) : Int) := by
  have hx : a ^^^ b < 2 ^ 63 := Nat.xor_lt_two_pow (by omega) (by omega)
  show IntKind.i64.wrap ((BitVec.ofInt 64 (a : Int) ^^^ BitVec.ofInt 64 (b : Int)).toNat : Int) = _
  rw [BitVec.toNat_xor, ofInt_u64 a (by omega), ofInt_u64 b (by omega), IntKind.wrap_i64]
  omega
theorem double_ev {a : Nat} (ha : a < 256) : field_double.f (a : Int) = some ((dbl a : Nat) : Int) := by
  have e1 : wrap64 (a : Int) = a := by unfold wrap64; omega
  have e2 : wrap64 ((a : Int) * 2) = ((a * 2 : Nat) : Int) := by unfold wrap64; omega
  unfold field_double.f dbl
  rw [e1, e2]
  by_cases h : a < 128
  · rw [if_neg (by omega), if_pos h]
    congr 1
    omega
  · rw [if_pos (by omega), if_neg h]
    rw [show (285 : Int) = ((285 : Nat) : Int) from rfl, i64_xor_nat (by omega) (by omega)]
    have := dbl_lt ha
    unfold dbl at this
    rw [if_neg h] at this
    congr 1
    omega
theorem xor_u8 {a b : Nat} (ha : a < 256) (hb : b < 256) : Go.bits .xor .u8 (a : Int) (b : Int) = ((a ^^^ b : Nat) : Int) := u8_xor_nat a b ha hb
theorem and1_u8 {a : Nat} (ha : a < 256) : Go.bits .and .u8 (a : Int) 1 = ((a % 2 : Nat) : Int) := by
  rw [show (1 : Int) = ((1 : Nat) : Int) from rfl, u8_and_nat a 1 ha (by omega), nat_mask1]
theorem mul_loop : ∀ (n a b p : Nat), a < 256 → p < 256 → b < 2 ^ n → b < 256 → Ev (fun k => field_Mul.l0 k (a : Int) (b : Int) (p : Int)) ((mulr n a b p : Nat) : Int)
  | 0, a, b, p, _, _, hb, _ => by
    have : b = 0 := by omega
    subst this
    refine Ev.step (f := fun _ => some (p : Int)) (fun k => by simp only [field_Mul.l0]; rw [if_pos (by rfl)]) (Ev.now _)
  | n + 1, a, b, p, ha, hp, hb, hb2 => by
    by_cases h0 : b = 0
    · subst h0
      have : ∀ n a p, mulr n a 0 p = p := by
        intro n
        induction n with
        | zero => intro a p; rfl
        | succ n ih => intro a p; unfold mulr; simpa using ih (dbl a) p
      rw [this]
      exact Ev.step (f := fun _ => some (p : Int)) (fun k => by simp only [field_Mul.l0]; rw [if_pos (by rfl)]) (Ev.now _)
    · have hb' : b / 2 < 2 ^ n := by rw [Nat.pow_succ] at hb; omega
      unfold mulr
      by_cases h1 : b % 2 = 1
      · rw [if_pos h1]
        refine Ev.step (f := fun k => field_Mul.l0 k ((dbl a : Nat) : Int) ((b / 2 : Nat) : Int) ((p ^^^ a : Nat) : Int)) (fun k => ?_) (mul_loop n _ _ _ (dbl_lt ha) (xor_lt hp ha) hb' (by omega))
        simp only [field_Mul.l0]
        rw [if_neg (by omega), and1_u8 hb2, h1, if_pos (by rfl), double_ev ha, Option.bind_some, xor_u8 hp ha]
        rfl
      · rw [if_neg h1]
        refine Ev.step (f := fun k => field_Mul.l0 k ((dbl a : Nat) : Int) ((b / 2 : Nat) : Int) (p : Int)) (fun k => ?_) (mul_loop n _ _ _ (dbl_lt ha) hp hb' (by omega))
        simp only [field_Mul.l0]
        rw [if_neg (by omega), and1_u8 hb2, if_neg (by omega), double_ev ha, Option.bind_some]
        rfl
theorem mul_ev {a b : Nat} (ha : a < 256) (hb : b < 256) : Ev (fun k => field_Mul.f k (a : Int) (b : Int)) ((gmul a b : Nat) : Int) :=
  mul_loop 8 a b 0 ha (by omega) (by simpa using hb) hb
end Go.Proofs.Ytmlfpcnemganbaa.Q
