/- The reference's product: carry-less multiplication, reduced: the same as gmul. -/
import Derived.Test.YtdeamnmadgemoaaGf
namespace Go.Proofs.Ytdeamnmadgemoaa.Gf
/-- Carry-less multiplication, and its reduction. -/
def cl (a b : Nat) : Nat → Nat
  | 0 => 0
  | n + 1 => if b.testBit n then cl a b n ^^^ a * 2 ^ n else cl a b n
def red : Nat → Nat → Nat
  | 0, p => p
  | n + 1, p => red n (if p.testBit (n + 8) then p ^^^ 285 * 2 ^ n else p)
def rm (a b : Nat) : Nat := red 8 (cl a b 8) % 256
theorem xor4 (a b x : Nat) : (a ^^^ x) ^^^ (b ^^^ x) = a ^^^ b := by
  rw [Nat.xor_assoc, Nat.xor_comm b x, ← Nat.xor_assoc x x b, Nat.xor_self, Nat.zero_xor]
theorem cl_xor (a b c : Nat) : ∀ n, cl a (b ^^^ c) n = cl a b n ^^^ cl a c n
  | 0 => (Nat.xor_self 0).symm
  | n + 1 => by
    unfold cl
    rw [cl_xor a b c n, Nat.testBit_xor]
    cases b.testBit n <;> cases c.testBit n <;> simp only [Bool.xor_false, Bool.xor_true, Bool.not_true, Bool.not_false, Bool.false_eq_true, if_true, if_false]
    · exact Nat.xor_assoc _ _ _
    · rw [Nat.xor_assoc, Nat.xor_comm (cl a c n), ← Nat.xor_assoc]
    · exact (xor4 _ _ _).symm
theorem red_xor : ∀ n p q, red n (p ^^^ q) = red n p ^^^ red n q
  | 0, _, _ => rfl
  | n + 1, p, q => by
    unfold red
    rw [← red_xor n, Nat.testBit_xor]
    congr 1
    cases p.testBit (n + 8) <;> cases q.testBit (n + 8) <;> simp only [Bool.xor_false, Bool.xor_true, Bool.not_true, Bool.not_false, Bool.false_eq_true, if_true, if_false]
    · exact Nat.xor_assoc _ _ _
    · rw [Nat.xor_assoc, Nat.xor_comm q, ← Nat.xor_assoc]
    · exact (xor4 _ _ _).symm
theorem rm_xor (a b c : Nat) : rm a (b ^^^ c) = rm a b ^^^ rm a c := by
  unfold rm
  rw [cl_xor, red_xor]
  exact Nat.xor_mod_two_pow (n := 8)
theorem rm_chk : (List.range 256).all (fun a => rm a 0 == 0 && (List.range 8).all fun i => rm a (2 ^ i) == gmul a (2 ^ i)) = true := by decide +kernel
theorem rm_eq {a b : Nat} (ha : a < 256) (hb : b < 256) : rm a b = gmul a b := by
  have h := List.all_eq_true.1 rm_chk a (List.mem_range.2 ha)
  rw [Bool.and_eq_true] at h
  have h2 := List.all_eq_true.1 h.2
  refine bits_of b hb (fun x => rm a x = gmul a x) ?_ (fun i hi => ?_) (fun x y hx hy e1 e2 => ?_)
  · rw [gmul_zero]; simpa using h.1
  · simpa using h2 i (List.mem_range.2 hi)
  · rw [rm_xor, gmul_xor, e1, e2]
end Go.Proofs.Ytdeamnmadgemoaa.Gf
