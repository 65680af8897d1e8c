/- CRC-32C in plain numbers. No program in sight. -/
namespace Go.Proofs.Ytgfkjjmlakolpaa.Cr
set_option linter.unusedVariables false

/-- One step of a register. -/
def stp (r : Nat) : Nat := if r % 2 = 1 then (r / 2) ^^^ 2197175160 else r / 2
def stps : Nat → Nat → Nat
  | 0, r => r
  | n + 1, r => stps n (stp r)
theorem div_xor (b c : Nat) : (b ^^^ c) / 2 = b / 2 ^^^ c / 2 := by
  simpa using Nat.xor_div_two_pow (a := b) (b := c) (n := 1)
theorem mod_xor (b c : Nat) : (b ^^^ c) % 2 = b % 2 ^^^ c % 2 := by
  simpa using Nat.xor_mod_two_pow (a := b) (b := c) (n := 1)
theorem xor_lt32 {a b : Nat} (ha : a < 4294967296) (hb : b < 4294967296) : a ^^^ b < 4294967296 := Nat.xor_lt_two_pow (n := 32) ha hb
theorem stp_lt {r : Nat} (h : r < 4294967296) : stp r < 4294967296 := by
  unfold stp
  split
  · exact xor_lt32 (by omega) (by omega)
  · omega
theorem stps_lt : ∀ (n : Nat) {r : Nat}, r < 4294967296 → stps n r < 4294967296
  | 0, _, h => h
  | n + 1, _, h => stps_lt n (stp_lt h)
theorem xor4 (a b c d : Nat) : (a ^^^ b) ^^^ (c ^^^ d) = (a ^^^ c) ^^^ (b ^^^ d) := by
  rw [Nat.xor_assoc, Nat.xor_assoc, ← Nat.xor_assoc b, Nat.xor_comm b c, Nat.xor_assoc c]
theorem stp_xor (a b : Nat) : stp (a ^^^ b) = stp a ^^^ stp b := by
  unfold stp
  rw [div_xor, mod_xor]
  rcases Nat.mod_two_eq_zero_or_one a with ha | ha <;> rcases Nat.mod_two_eq_zero_or_one b with hb | hb <;> rw [ha, hb] <;> simp
  · rw [Nat.xor_assoc]
  · rw [Nat.xor_assoc, Nat.xor_comm (b / 2), ← Nat.xor_assoc]
  · rw [xor4, Nat.xor_self, Nat.xor_zero]
theorem stp_zero : stp 0 = 0 := rfl
theorem stps_xor : ∀ (n a b : Nat), stps n (a ^^^ b) = stps n a ^^^ stps n b
  | 0, _, _ => rfl
  | n + 1, a, b => by
    show stps n (stp (a ^^^ b)) = _
    rw [stp_xor, stps_xor n]
    rfl
theorem stps_zero : ∀ n : Nat, stps n 0 = 0
  | 0 => rfl
  | n + 1 => stps_zero n
theorem stps_add (m : Nat) : ∀ (n r : Nat), stps (n + m) r = stps m (stps n r)
  | 0, r => by rw [Nat.zero_add]; rfl
  | n + 1, r => by
    rw [show n + 1 + m = (n + m) + 1 by omega]
    exact stps_add m n (stp r)
theorem stp_inj {r : Nat} (h : r < 4294967296) (h0 : stp r = 0) : r = 0 := by
  unfold stp at h0
  split at h0
  · have h1 : r / 2 = 2197175160 := by
      have : (r / 2 ^^^ 2197175160) ^^^ 2197175160 = 2197175160 := by rw [h0, Nat.zero_xor]
      rwa [Nat.xor_assoc, Nat.xor_self, Nat.xor_zero] at this
    omega
  · omega
theorem stps_inj : ∀ (n : Nat) {r : Nat}, r < 4294967296 → stps n r = 0 → r = 0
  | 0, _, _, h0 => h0
  | n + 1, _, h, h0 => stp_inj h (stps_inj n (stp_lt h) h0)
/-- Steps over a register whose low bits are empty only move it. -/
theorem stps_high : ∀ (n h : Nat), stps n (h * 2 ^ n) = h
  | 0, h => by rw [Nat.pow_zero, Nat.mul_one]; rfl
  | n + 1, h => by
    show stps n (stp (h * 2 ^ (n + 1))) = h
    have e : h * 2 ^ (n + 1) = 2 * (h * 2 ^ n) := by rw [Nat.pow_succ, ← Nat.mul_assoc, Nat.mul_comm]
    have e2 : stp (h * 2 ^ (n + 1)) = h * 2 ^ n := by
      rw [e]
      unfold stp
      rw [if_neg (by omega)]
      omega
    rw [e2, stps_high n h]
theorem add_xor (n h l : Nat) (hl : l < 2 ^ n) : h * 2 ^ n + l = (h * 2 ^ n) ^^^ l := by
  have h1 := Nat.two_pow_add_eq_or_of_lt hl h
  rw [Nat.mul_comm] at h1
  rw [h1]
  apply Nat.eq_of_testBit_eq
  intro i
  rw [Nat.testBit_or, Nat.testBit_xor, Nat.testBit_mul_two_pow]
  by_cases hi : n ≤ i
  · rw [Nat.testBit_lt_two_pow (Nat.lt_of_lt_of_le hl (Nat.pow_le_pow_right (by omega) hi))]
    simp
  · simp [hi]
theorem stps8_split (r : Nat) : stps 8 r = r / 256 ^^^ stps 8 (r % 256) := by
  have e : r = (r / 256 * 2 ^ 8) ^^^ (r % 256) := by
    rw [← add_xor 8 (r / 256) (r % 256) (Nat.mod_lt _ (by omega))]
    omega
  conv => lhs; rw [e, stps_xor, stps_high 8]
theorem xor_div256 (r c : Nat) (hc : c < 256) : (r ^^^ c) / 256 = r / 256 := by
  have := Nat.xor_div_two_pow (a := r) (b := c) (n := 8)
  simp only [Nat.reducePow] at this
  rw [this, Nat.div_eq_of_lt hc, Nat.xor_zero]
theorem xor_mod256 (r c : Nat) (hc : c < 256) : (r ^^^ c) % 256 = (r % 256) ^^^ c := by
  have := Nat.xor_mod_two_pow (a := r) (b := c) (n := 8)
  simp only [Nat.reducePow] at this
  rw [this, Nat.mod_eq_of_lt hc]
/-- The register after a byte. -/
def aft (r c : Nat) : Nat := stps 8 (r ^^^ c)
theorem aft_table (r c : Nat) (hc : c < 256) : aft r c = r / 256 ^^^ stps 8 ((r % 256) ^^^ c) := by
  unfold aft
  rw [stps8_split, xor_div256 r c hc, xor_mod256 r c hc]
theorem aft_lt {r c : Nat} (hr : r < 4294967296) (hc : c < 256) : aft r c < 4294967296 := stps_lt 8 (xor_lt32 hr (by omega))
/-- The register after bytes. -/
def upd : Nat → List Nat → Nat
  | r, [] => r
  | r, c :: l => upd (aft r c) l
theorem upd_lt : ∀ {l : List Nat} {r : Nat}, r < 4294967296 → (∀ x ∈ l, x < 256) → upd r l < 4294967296
  | [], _, hr, _ => hr
  | c :: l, _, hr, h => upd_lt (l := l) (aft_lt hr (h c List.mem_cons_self)) (fun x hx => h x (List.mem_cons_of_mem _ hx))
theorem upd_append : ∀ (a b : List Nat) (r : Nat), upd r (a ++ b) = upd (upd r a) b
  | [], _, _ => rfl
  | c :: a, b, r => upd_append a b (aft r c)
theorem upd_xor : ∀ (l : List Nat) (r s : Nat), upd (r ^^^ s) l = upd r l ^^^ stps (8 * l.length) s
  | [], _, _ => rfl
  | c :: l, r, s => by
    show upd (aft (r ^^^ s) c) l = _
    have e : aft (r ^^^ s) c = aft r c ^^^ stps 8 s := by
      unfold aft
      rw [← stps_xor]
      congr 1
      rw [Nat.xor_assoc, Nat.xor_comm s c, ← Nat.xor_assoc]
    rw [e, upd_xor l, ← stps_add, List.length_cons, show 8 + 8 * l.length = 8 * (l.length + 1) by omega]
    rfl
/-- The complement. -/
def inv (r : Nat) : Nat := 4294967295 - r
theorem inv_xor {r : Nat} (h : r < 4294967296) : inv r = r ^^^ 4294967295 := by
  unfold inv
  apply Nat.eq_of_testBit_eq
  intro i
  rw [Nat.testBit_xor, show (4294967295 : Nat) = 2 ^ 32 - 1 from rfl, Nat.testBit_two_pow_sub_one, show 2 ^ 32 - 1 - r = 2 ^ 32 - (r + 1) by omega, Nat.testBit_two_pow_sub_succ (by omega)]
  by_cases hi : i < 32
  · simp [hi]
  · simp [hi]
    rw [Nat.testBit_lt_two_pow (Nat.lt_of_lt_of_le (show r < 2 ^ 32 by omega) (Nat.pow_le_pow_right (by omega) (by omega)))]
theorem inv_lt (r : Nat) : inv r < 4294967296 := by unfold inv; omega
theorem inv_inv {r : Nat} (h : r < 4294967296) : inv (inv r) = r := by unfold inv; omega
/-- The checksum that continues one. -/
def cup (sum : Nat) (l : List Nat) : Nat := inv (upd (inv sum) l)
def csum (l : List Nat) : Nat := cup 0 l
theorem cup_lt (sum : Nat) (l : List Nat) : cup sum l < 4294967296 := inv_lt _
/-- The shift by n bytes. -/
def shf (r n : Nat) : Nat := stps (8 * n) r
def comb (a b n : Nat) : Nat := b ^^^ shf a n
theorem csum_append {a b : List Nat} (ha : ∀ x ∈ a, x < 256) (hb : ∀ x ∈ b, x < 256) : csum (a ++ b) = comb (csum a) (csum b) b.length := by
  unfold csum cup comb shf
  have h0 : inv 0 < 4294967296 := inv_lt 0
  have hu := upd_lt (l := a) h0 ha
  rw [upd_append]
  have e : upd (inv 0) a = inv 0 ^^^ inv (upd (inv 0) a) := by
    rw [inv_xor hu, Nat.xor_comm (upd (inv 0) a), ← Nat.xor_assoc, show inv 0 = 4294967295 from rfl, Nat.xor_self, Nat.zero_xor]
  conv => lhs; rw [e]
  have hv := upd_lt (l := b) h0 hb
  have hs := stps_lt (8 * b.length) (inv_lt (upd (inv 0) a))
  rw [upd_xor, inv_xor (xor_lt32 hv hs), inv_xor hv, Nat.xor_assoc, Nat.xor_comm (stps _ _), ← Nat.xor_assoc]
theorem cup_append {a b : List Nat} (ha : ∀ x ∈ a, x < 256) : csum (a ++ b) = cup (csum a) b := by
  unfold csum cup
  rw [upd_append, inv_inv (upd_lt (inv_lt 0) ha)]
theorem comb_lt {a b n : Nat} (ha : a < 4294967296) (hb : b < 4294967296) : comb a b n < 4294967296 := xor_lt32 hb (stps_lt _ ha)
theorem comb_assoc (a b c n m : Nat) : comb (comb a b n) c m = comb a (comb b c m) (n + m) := by
  unfold comb shf
  rw [stps_xor, ← stps_add, Nat.xor_assoc, show 8 * n + 8 * m = 8 * (n + m) by omega]

/-! ### linear maps by the images of the single bits -/
/-- The image of a register under the bits from i on: r holds those bits, moved down. -/
def app (m : Nat → Nat) : Nat → Nat → Nat → Nat → Nat
  | 0, _, _, out => out
  | n + 1, i, r, out => app m n (i + 1) (r / 2) (if r % 2 = 1 then out ^^^ m i else out)
/-- m holds the images of the single bits under n steps. -/
def Holds (m : Nat → Nat) (n : Nat) : Prop := ∀ i, i < 32 → m i = stps n (2 ^ i)
theorem app_holds {m : Nat → Nat} {k : Nat} (h : Holds m k) : ∀ (n i r out : Nat), i + n ≤ 32 → r < 2 ^ n → app m n i r out = out ^^^ stps k (r * 2 ^ i)
  | 0, i, r, out, _, hr => by
    have : r = 0 := by omega
    subst this
    rw [Nat.zero_mul, stps_zero, Nat.xor_zero]
    rfl
  | n + 1, i, r, out, hi, hr => by
    have hr2 : r / 2 < 2 ^ n := by rw [Nat.pow_succ] at hr; omega
    have hpw : 2 ^ (i + 1) = 2 ^ i * 2 := Nat.pow_succ ..
    unfold app
    rw [app_holds h n (i + 1) (r / 2) _ (by omega) hr2]
    by_cases h1 : r % 2 = 1
    · rw [if_pos h1, h i (by omega), Nat.xor_assoc, ← stps_xor]
      congr 2
      have e : r * 2 ^ i = (r / 2) * 2 ^ (i + 1) + 2 ^ i := by
        have : r = (r / 2) * 2 + 1 := by omega
        conv => lhs; rw [this]
        rw [hpw, Nat.add_mul, Nat.one_mul, Nat.mul_assoc, Nat.mul_comm 2]
      rw [e, add_xor (i + 1) (r / 2) (2 ^ i) (Nat.pow_lt_pow_right (by omega) (by omega)), Nat.xor_comm]
    · rw [if_neg h1]
      congr 2
      have : r = 2 * (r / 2) := by omega
      conv => rhs; rw [this]
      rw [hpw, Nat.mul_comm 2 (r / 2), Nat.mul_assoc, Nat.mul_comm 2]
theorem app_all {m : Nat → Nat} {k : Nat} (h : Holds m k) {r : Nat} (hr : r < 4294967296) : app m 32 0 r 0 = stps k r := by
  rw [app_holds h 32 0 r 0 (by omega) (by simpa using hr), Nat.zero_xor, Nat.pow_zero, Nat.mul_one]
/-- Where the register is empty, nothing follows. -/
theorem app_zero (m : Nat → Nat) : ∀ (n i out : Nat), app m n i 0 out = out
  | 0, _, _ => rfl
  | n + 1, i, out => by
    unfold app
    simpa using app_zero m n (i + 1) out
theorem holds_twice {m m2 : Nat → Nat} {k : Nat} (h : Holds m k) (h2 : ∀ i, i < 32 → m2 i = stps k (m i)) : Holds m2 (k + k) := fun i hi => by
  rw [h2 i hi, h i hi, ← stps_add]
end Go.Proofs.Ytgfkjjmlakolpaa.Cr
