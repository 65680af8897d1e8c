/- ChecksumWeak: the pure statement, and the plain form of the weak checksum. -/
import Derived.Test.YtlcopdlljeechaaPureChecksumSums
import Derived.Test.YtlcopdlljeechaaQ9
import Derived.Laws.BitsAllLaws
namespace Go.Proofs.Ytlcopdlljeechaa.Pure
open Go.RowKit Go.Proofs.Ytlcopdlljeechaa.Q Go.Proofs.YtlcopdlljeechaaW.PrintWords Go.Proofs.YtlcopdlljeechaaW.PrintLast
open Go.Proofs.Ytlcopdlljeechaa.Cr Go.Proofs.Ytlcopdlljeechaa.Evs
set_option linter.unusedVariables false
/-- The two sums after a string. -/
def wsum (s t : Nat) : List Nat → Nat × Nat
  | [] => (s, t)
  | x :: l => wsum ((s + x) % 65521) ((t + (s + x) % 65521) % 65521) l
theorem wsum_append (s t : Nat) (a b : List Nat) : wsum s t (a ++ b) = wsum (wsum s t a).1 (wsum s t a).2 b := by
  induction a generalizing s t with
  | nil => rfl
  | cons x a ih => exact ih _ _
theorem wsum_lt {s t : Nat} (l : List Nat) (hs : s < 65521) (ht : t < 65521) : (wsum s t l).1 < 65521 ∧ (wsum s t l).2 < 65521 := by
  induction l generalizing s t with
  | nil => exact ⟨hs, ht⟩
  | cons x l ih => exact ih (Nat.mod_lt _ (by omega)) (Nat.mod_lt _ (by omega))
def weak (l : List Nat) : Nat := (wsum 0 0 l).2 * 65536 + (wsum 0 0 l).1
theorem weak_lt (l : List Nat) : weak l < 4294967296 := by
  have := wsum_lt (s := 0) (t := 0) l (by omega) (by omega)
  unfold weak; omega
theorem join_ev {s t : Nat} (hs : s < 65536) (ht : t < 65536) : Go.bits .or .u32 (((t : Int) * 65536) % 4294967296) (s : Int) = ((t * 65536 + s : Nat) : Int) := by
  have e : ((t : Int) * 65536) % 4294967296 = ((t * 65536 : Nat) : Int) := by omega
  rw [e, u32_or_nat _ _ (by omega) (by omega), Nat.or_comm, Nat.or_comm, nat_join 16 _ _ (by omega) (by omega)]
theorem join_ev' {s t : Nat} (hs : s < 65536) (ht : t < 65536) : Go.bits .or .u32 ((((t : Int) % 4294967296) * 65536) % 4294967296) ((s : Int) % 4294967296) = ((t * 65536 + s : Nat) : Int) := by
  rw [show (t : Int) % 4294967296 = (t : Int) by omega, show (s : Int) % 4294967296 = (s : Int) by omega, join_ev hs ht]
theorem weak_loop {p : List Nat} (hp : ∀ x ∈ p, x < 256) (hl : p.length ≤ 10000) (b : List Nat) : ∀ (i s t : Nat), b = p.drop i → i + b.length = p.length → s < 65521 → t < 65521 →
    Ev (fun k => checksum_Weak.l0 k (s : Int) (t : Int) (ints p) (p.length : Int) (i : Int)) (((wsum s t b).2 * 65536 + (wsum s t b).1 : Nat) : Int) := by
  induction b with
  | nil =>
    intro i s t hb hi hs ht
    refine Ev.step (f := fun _ => some _) (fun k => ?_) (Ev.now _)
    simp only [checksum_Weak.l0]
    rw [if_neg (by simp at hi; omega), join_ev (by omega) (by omega)]
    rfl
  | cons x b ih =>
    intro i s t hb hi hs ht
    simp only [List.length_cons] at hi
    have hil : i < p.length := by omega
    have hx : p.getD i 0 = x := by
      rw [List.getD_eq_getElem?_getD, List.getElem?_eq_getElem hil]
      rw [List.drop_eq_getElem_cons hil] at hb
      exact (List.cons.inj hb).1.symm
    have hx2 : x < 256 := hx ▸ getD_lt hp i
    have hb2 : b = p.drop (i + 1) := by
      rw [List.drop_eq_getElem_cons hil] at hb
      exact (List.cons.inj hb).2
    refine Ev.step (fun k => ?_) (ih (i + 1) ((s + x) % 65521) ((t + (s + x) % 65521) % 65521) hb2 (by omega) (Nat.mod_lt _ (by omega)) (Nat.mod_lt _ (by omega)))
    simp only [checksum_Weak.l0]
    rw [if_pos (by omega), if_pos (by omega), if_pos (by rw [ints_length]; omega), ints_rd, hx]
    rw [show wrap64 ((i : Int) + 1) = ((i + 1 : Nat) : Int) by unfold wrap64; omega]
    congr 1 <;> omega
theorem weak_ev {p : List Nat} (hp : ∀ x ∈ p, x < 256) (hl : p.length ≤ 10000) : Ev (fun k => checksum_Weak.f k (ints p)) ((weak p : Nat) : Int) := by
  have := weak_loop hp hl p 0 0 0 rfl (by omega) (by omega) (by omega)
  unfold checksum_Weak.f
  rw [ints_length]
  exact this
theorem tmod_nat (a : Nat) : Int.tmod (a : Int) 65521 = ((a % 65521 : Nat) : Int) := by
  rw [Int.tmod_eq_emod_of_nonneg (by omega)]; omega
theorem ref_weak_loop {p : List Nat} (hp : ∀ x ∈ p, x < 256) (hl : p.length ≤ 10000) (b : List Nat) : ∀ (i s t : Nat), b = p.drop i → i + b.length = p.length → s < 65521 → t < 65521 →
    Ev (fun k => tapearchiveref01_Weak.l0 k (ints p) (s : Int) (t : Int) (i : Int)) (((wsum s t b).2 * 65536 + (wsum s t b).1 : Nat) : Int) := by
  induction b with
  | nil =>
    intro i s t hb hi hs ht
    refine Ev.step (f := fun _ => some _) (fun k => ?_) (Ev.now _)
    simp only [tapearchiveref01_Weak.l0]
    rw [if_neg (by rw [ints_length]; simp at hi; omega), join_ev' (by omega) (by omega)]
    rfl
  | cons x b ih =>
    intro i s t hb hi hs ht
    simp only [List.length_cons] at hi
    have hil : i < p.length := by omega
    have hx : p.getD i 0 = x := by
      rw [List.getD_eq_getElem?_getD, List.getElem?_eq_getElem hil]
      rw [List.drop_eq_getElem_cons hil] at hb
      exact (List.cons.inj hb).1.symm
    have hx2 : x < 256 := hx ▸ getD_lt hp i
    have hb2 : b = p.drop (i + 1) := by
      rw [List.drop_eq_getElem_cons hil] at hb
      exact (List.cons.inj hb).2
    refine Ev.step (fun k => ?_) (ih (i + 1) ((s + x) % 65521) ((t + (s + x) % 65521) % 65521) hb2 (by omega) (Nat.mod_lt _ (by omega)) (Nat.mod_lt _ (by omega)))
    simp only [tapearchiveref01_Weak.l0]
    rw [if_pos (by rw [ints_length]; omega), if_pos (by omega), ints_rd, hx]
    have w1 : wrap64 ((i : Int) + 1) = ((i + 1 : Nat) : Int) := by unfold wrap64; omega
    have w2 : wrap64 (x : Int) = (x : Int) := by clear w1; unfold wrap64; omega
    have w3 : wrap64 ((s : Int) + (x : Int)) = ((s + x : Nat) : Int) := by clear w1 w2; unfold wrap64; omega
    rw [w1, w2, w3, tmod_nat]
    have hm : (s + x) % 65521 < 65521 := Nat.mod_lt _ (by omega)
    clear w1 w2 w3
    generalize (s + x) % 65521 = m at hm ⊢
    have w4 : wrap64 ((t : Int) + (m : Int)) = ((t + m : Nat) : Int) := by unfold wrap64; omega
    rw [w4, tmod_nat]
theorem ref_weak_ev {p : List Nat} (hp : ∀ x ∈ p, x < 256) (hl : p.length ≤ 10000) : Ev (fun k => tapearchiveref01_Weak.f k (ints p)) ((weak p : Nat) : Int) :=
  ref_weak_loop hp hl p 0 0 0 rfl (by omega) (by omega) (by omega)
theorem ChecksumWeak : tapearchivelaw01_ChecksumWeak.Pure := by
  intro l0 _ _ b0
  obtain ⟨p, rfl, hp⟩ := bytes_of b0
  refine Ev.rounds ?_
  unfold tapearchivelaw01_ChecksumWeak.f
  refine Ev.pick (fun _ => Ev.call awake_ev (Ev.now _)) fun c => ?_
  rw [ints_length] at c
  refine Ev.bind (weak_ev hp (by omega)) (Ev.bind (ref_weak_ev hp (by omega)) (Ev.pos rfl (Ev.call awake_ev (Ev.now _))))
/-- The plain roll. -/
def roll (u n o i : Nat) : Nat :=
  let s := (u % 65536 % 65521 + 65521 - o + i) % 65521
  (u / 65536 % 65521 + 65521 - n * o % 65521 + s) % 65521 * 65536 + s
theorem wrap64_mid {x : Int} (h0 : -1000000000000 ≤ x) (h1 : x ≤ 1000000000000) : wrap64 x = x := by unfold wrap64; omega
theorem roll_ev {u n o i : Nat} (hu : u < 4294967296) (h1 : 1 ≤ n) (h2 : n ≤ 65536) (ho : o < 256) (hi : i < 256) : checksum_Roll.f (u : Int) (n : Int) (o : Int) (i : Int) = some ((roll u n o i : Nat) : Int) := by
  unfold checksum_Roll.f
  rw [if_neg (by omega), if_neg (by omega)]
  have a1 : Go.bits .and .u32 (u : Int) 65535 = ((u % 65536 : Nat) : Int) := by
    rw [show (65535 : Int) = ((65535 : Nat) : Int) from rfl, u32_and_nat _ _ hu (by omega), show u &&& 65535 = u % 65536 from Nat.and_two_pow_sub_one_eq_mod u 16]
  rw [a1]
  have hno : n * o < 65536 * 256 := Nat.lt_of_le_of_lt (Nat.mul_le_mul_right _ h2) (Nat.mul_lt_mul_of_pos_left ho (by omega))
  have w1 : wrap64 (((u % 65536 : Nat) : Int)) = ((u % 65536 : Nat) : Int) := by clear a1; unfold wrap64; omega
  have w2 : wrap64 ((u : Int) / 65536) = ((u / 65536 : Nat) : Int) := by clear a1 w1; unfold wrap64; omega
  have w3 : wrap64 (o : Int) = (o : Int) := by clear a1 w1 w2; unfold wrap64; omega
  have w4 : wrap64 (i : Int) = (i : Int) := by clear a1 w1 w2 w3; unfold wrap64; omega
  have w5 : wrap64 ((n : Int) * (o : Int)) = ((n * o : Nat) : Int) := by
    rw [← Int.natCast_mul]; clear a1 w1 w2 w3 w4; generalize n * o = z at hno; unfold wrap64; omega
  rw [w1, w2, w3, w4, w5, tmod_nat, tmod_nat, tmod_nat]
  clear w1 w2 w3 w4 w5 a1
  unfold roll
  have hs : u % 65536 % 65521 < 65521 := Nat.mod_lt _ (by omega)
  have ht : u / 65536 % 65521 < 65521 := Nat.mod_lt _ (by omega)
  have hz : n * o % 65521 < 65521 := Nat.mod_lt _ (by omega)
  generalize u % 65536 % 65521 = s at hs ⊢
  generalize u / 65536 % 65521 = t at ht ⊢
  generalize n * o % 65521 = z at hz ⊢
  have v1 : wrap64 ((wrap64 ((wrap64 ((s : Int) - (o : Int))) + (i : Int))) + 65521) = ((s + 65521 - o + i : Nat) : Int) := by
    have q1 : ∀ {x : Int}, -1000000000000 ≤ x → x ≤ 1000000000000 → wrap64 x = x := @wrap64_mid
    first | (rw [q1 (x := (s : Int) - (o : Int)) (by omega) (by omega), q1 (x := (s : Int) - (o : Int) + (i : Int)) (by omega) (by omega), q1 (by omega) (by omega)]; omega) | (rw [q1 (x := (s : Int) + 65521) (by omega) (by omega), q1 (x := (s : Int) + 65521 - (o : Int)) (by omega) (by omega), q1 (by omega) (by omega)]; omega)
  rw [v1, tmod_nat]
  clear v1
  have hm : (s + 65521 - o + i) % 65521 < 65521 := Nat.mod_lt _ (by omega)
  generalize (s + 65521 - o + i) % 65521 = m at hm ⊢
  have v2 : wrap64 ((wrap64 ((wrap64 ((t : Int) - (z : Int))) + (m : Int))) + 65521) = ((t + 65521 - z + m : Nat) : Int) := by
    rw [wrap64_mid (x := (t : Int) - (z : Int)) (by omega) (by omega), wrap64_mid (x := (t : Int) - (z : Int) + (m : Int)) (by omega) (by omega), wrap64_mid (by omega) (by omega)]; omega
  rw [v2, tmod_nat]
  clear v2
  rw [join_ev' (by omega) (Nat.lt_trans (Nat.mod_lt _ (by omega)) (by omega))]
theorem ref_roll_ev {u n o i : Nat} (hu : u < 4294967296) (h1 : 1 ≤ n) (h2 : n ≤ 65536) (ho : o < 256) (hi : i < 256) : tapearchiveref01_Roll.f (u : Int) (n : Int) (o : Int) (i : Int) = some ((roll u n o i : Nat) : Int) := by
  unfold tapearchiveref01_Roll.f
  rw [if_neg (by omega), if_neg (by omega)]
  have hno : n * o < 65536 * 256 := Nat.lt_of_le_of_lt (Nat.mul_le_mul_right _ h2) (Nat.mul_lt_mul_of_pos_left ho (by omega))
  have d1 : Int.tmod (u : Int) 65536 = ((u % 65536 : Nat) : Int) := by
    rw [Int.tmod_eq_emod_of_nonneg (by omega)]; omega
  have d2 : ((Int.tdiv (u : Int) 65536) % 4294967296) % 65521 = ((u / 65536 % 65521 : Nat) : Int) := by
    rw [Int.tdiv_eq_ediv_of_nonneg (by omega)]; omega
  rw [d1, d2]
  clear d1 d2
  have w1 : wrap64 (((u % 65536 : Nat) : Int)) = ((u % 65536 : Nat) : Int) := by unfold wrap64; omega
  have w3 : wrap64 (o : Int) = (o : Int) := by clear w1; unfold wrap64; omega
  have w4 : wrap64 (i : Int) = (i : Int) := by clear w1 w3; unfold wrap64; omega
  have w5 : wrap64 ((n : Int) * (o : Int)) = ((n * o : Nat) : Int) := by
    rw [← Int.natCast_mul]; clear w1 w3 w4; generalize n * o = z at hno; unfold wrap64; omega
  rw [w1, w3, w4, w5, tmod_nat, tmod_nat]
  clear w1 w3 w4 w5
  unfold roll
  have hs : u % 65536 % 65521 < 65521 := Nat.mod_lt _ (by omega)
  have ht : u / 65536 % 65521 < 65521 := Nat.mod_lt _ (by omega)
  have hz : n * o % 65521 < 65521 := Nat.mod_lt _ (by omega)
  generalize u % 65536 % 65521 = s at hs ⊢
  generalize u / 65536 % 65521 = t at ht ⊢
  generalize n * o % 65521 = z at hz ⊢
  have v1 : wrap64 ((wrap64 ((wrap64 ((s : Int) + 65521)) - (o : Int))) + (i : Int)) = ((s + 65521 - o + i : Nat) : Int) := by
    have q1 : ∀ {x : Int}, -1000000000000 ≤ x → x ≤ 1000000000000 → wrap64 x = x := @wrap64_mid
    first | (rw [q1 (x := (s : Int) - (o : Int)) (by omega) (by omega), q1 (x := (s : Int) - (o : Int) + (i : Int)) (by omega) (by omega), q1 (by omega) (by omega)]; omega) | (rw [q1 (x := (s : Int) + 65521) (by omega) (by omega), q1 (x := (s : Int) + 65521 - (o : Int)) (by omega) (by omega), q1 (by omega) (by omega)]; omega)
  rw [v1, tmod_nat]
  clear v1
  have hm : (s + 65521 - o + i) % 65521 < 65521 := Nat.mod_lt _ (by omega)
  generalize (s + 65521 - o + i) % 65521 = m at hm ⊢
  have v2 : wrap64 ((wrap64 (((t : Int) + 16838897) - (z : Int))) + (m : Int)) = ((t + 257 * 65521 - z + m : Nat) : Int) := by
    rw [wrap64_mid (x := (t : Int) + 16838897 - (z : Int)) (by omega) (by omega), wrap64_mid (by omega) (by omega)]; omega
  rw [v2, tmod_nat]
  clear v2
  have e7 : t + 257 * 65521 - z + m = (t + 65521 - z + m) + 256 * 65521 := by omega
  rw [e7, Nat.add_mul_mod_self_right]
  clear e7
  rw [join_ev' (by omega) (Nat.lt_trans (Nat.mod_lt _ (by omega)) (by omega))]
theorem rolls_ev {u : Nat} {n : Int} {o i : Nat} (hu : u < 4294967296) (ho : o < 256) (hi : i < 256) : tapearchivelaw01_ChecksumRolls.f (u : Int) n (o : Int) (i : Int) = some true := by
  unfold tapearchivelaw01_ChecksumRolls.f
  by_cases c1 : n < 1
  · unfold checksum_Roll.f tapearchiveref01_Roll.f
    rw [if_pos c1, if_pos c1]
    rfl
  · by_cases c2 : n > 65536
    · unfold checksum_Roll.f tapearchiveref01_Roll.f
      rw [if_neg c1, if_neg c1, if_pos c2, if_pos c2]
      rfl
    · obtain ⟨m, rfl⟩ := Int.eq_ofNat_of_zero_le (show 0 ≤ n by omega)
      rw [roll_ev hu (by omega) (by omega) ho hi, ref_roll_ev hu (by omega) (by omega) ho hi, Option.bind_some, Option.bind_some, if_pos rfl]
      rfl
end Go.Proofs.Ytlcopdlljeechaa.Pure
