/- ChecksumSlides: the pure statement. -/
import Derived.Test.YtlcopdlljeechaaPureChecksumWeak
import Derived.Test.YtlcopdlljeechaaSlides
namespace Go.Proofs.Ytlcopdlljeechaa.Pure
open Go.RowKit Go.Proofs.Ytlcopdlljeechaa.Q Go.Proofs.YtlcopdlljeechaaW.PrintWords Go.Proofs.YtlcopdlljeechaaW.PrintLast
open Go.Proofs.Ytlcopdlljeechaa.Cr Go.Proofs.Ytlcopdlljeechaa.Evs
set_option linter.unusedVariables false
/-- The sums without a modulus. -/
def nsum (s t : Nat) : List Nat → Nat × Nat
  | [] => (s, t)
  | x :: l => nsum (s + x) (t + (s + x)) l
theorem nsum_form (l : List Nat) : ∀ s t : Nat, nsum s t l = (s + (nsum 0 0 l).1, t + l.length * s + (nsum 0 0 l).2) := by
  induction l with
  | nil => intro s t; simp [nsum]
  | cons x l ih =>
    intro s t
    have h1 : nsum s t (x :: l) = nsum (s + x) (t + (s + x)) l := rfl
    have h2 : nsum 0 0 (x :: l) = nsum (0 + x) (0 + (0 + x)) l := rfl
    rw [h1, h2, ih (s + x), ih (0 + x), List.length_cons, Nat.mul_add, Nat.add_mul, Nat.zero_add, Nat.one_mul]
    simp only [Prod.mk.injEq]
    constructor <;> omega
theorem nsum_append (l m : List Nat) : ∀ s t : Nat, nsum s t (l ++ m) = nsum (nsum s t l).1 (nsum s t l).2 m := by
  induction l with
  | nil => intro s t; rfl
  | cons x l ih => intro s t; exact ih _ _
theorem wsum_nsum (l : List Nat) : ∀ s t : Nat, wsum (s % 65521) (t % 65521) l = ((nsum s t l).1 % 65521, (nsum s t l).2 % 65521) := by
  induction l with
  | nil => intro s t; rfl
  | cons x l ih =>
    intro s t
    have h1 : nsum s t (x :: l) = nsum (s + x) (t + (s + x)) l := rfl
    have h2 : wsum (s % 65521) (t % 65521) (x :: l) = wsum ((s % 65521 + x) % 65521) ((t % 65521 + (s % 65521 + x) % 65521) % 65521) l := rfl
    rw [h1, h2, ← ih, Nat.mod_add_mod, ← Nat.add_mod]
theorem weak_nsum (l : List Nat) : weak l = (nsum 0 0 l).2 % 65521 * 65536 + (nsum 0 0 l).1 % 65521 := by
  have := wsum_nsum l 0 0
  rw [Nat.zero_mod] at this
  unfold weak
  rw [this]
theorem undo (P z b : Nat) (hP : 0 < P) : ((z + b) % P + P - z % P) % P = b % P := by
  have h1 := Nat.div_add_mod (z + b) P
  have h2 := Nat.div_add_mod z P
  have h3 : z % P < P := Nat.mod_lt _ hP
  have e : ((z + b) % P + P - z % P) + P * ((z + b) / P) = b + P * (1 + z / P) := by
    rw [Nat.mul_add, Nat.mul_one]
    generalize P * ((z + b) / P) = u at h1 ⊢
    generalize P * (z / P) = v at h2 ⊢
    omega
  have e2 := congrArg (· % P) e
  simp only [Nat.add_mul_mod_self_left] at e2
  exact e2
theorem roll_weak (x y : Nat) (m : List Nat) (hx : x < 256) : roll (weak (x :: m)) (m.length + 1) x y = weak (m ++ [y]) := by
  have hA : nsum 0 0 (x :: m) = (x + (nsum 0 0 m).1, (m.length + 1) * x + (nsum 0 0 m).2) := by
    have h2 : nsum 0 0 (x :: m) = nsum (0 + x) (0 + (0 + x)) m := rfl
    rw [h2, nsum_form, Nat.add_mul, Nat.zero_add, Nat.one_mul, Nat.zero_add, Nat.add_comm x (m.length * x)]
  have hB : nsum 0 0 (m ++ [y]) = ((nsum 0 0 m).1 + y, (nsum 0 0 m).2 + ((nsum 0 0 m).1 + y)) := by
    rw [nsum_append]
    rfl
  rw [weak_nsum, weak_nsum, hA, hB]
  generalize (nsum 0 0 m).1 = S
  generalize (nsum 0 0 m).2 = T
  generalize (m.length + 1) = n
  show roll (((n * x + T) % 65521) * 65536 + (x + S) % 65521) n x y = (T + (S + y)) % 65521 * 65536 + (S + y) % 65521
  have hs : (x + S) % 65521 < 65521 := Nat.mod_lt _ (by omega)
  have ht : (n * x + T) % 65521 < 65521 := Nat.mod_lt _ (by omega)
  have u1 := undo 65521 x S (by omega)
  have u2 := undo 65521 (n * x) T (by omega)
  rw [Nat.mod_eq_of_lt (show x < 65521 by omega)] at u1
  unfold roll
  generalize (x + S) % 65521 = s at hs u1 ⊢
  generalize (n * x + T) % 65521 = t at ht u2 ⊢
  have hz : n * x % 65521 < 65521 := Nat.mod_lt _ (by omega)
  generalize n * x % 65521 = z at hz u2 ⊢
  have e1 : (t * 65536 + s) % 65536 = s := by rw [Nat.mul_comm, Nat.mul_add_mod]; exact Nat.mod_eq_of_lt (by omega)
  have e2 : (t * 65536 + s) / 65536 = t := by rw [Nat.mul_comm, Nat.mul_add_div (by omega), Nat.div_eq_of_lt (by omega), Nat.add_zero]
  rw [e1, e2, Nat.mod_eq_of_lt hs, Nat.mod_eq_of_lt ht]
  have f1 : (s + 65521 - x + y) % 65521 = (S + y) % 65521 := by rw [Nat.add_mod, u1, ← Nat.add_mod]
  have f2 : (t + 65521 - z + (S + y) % 65521) % 65521 = (T + (S + y)) % 65521 := by rw [Nat.add_mod, u2, Nat.mod_mod, ← Nat.add_mod]
  simp only [f1, f2]
theorem set_at {pre post : List Nat} {y : Nat} {n : Nat} (h : pre.length = n) : (pre ++ y :: post).getD n 0 = y := by
  subst h
  simp
theorem slide_loop (post : List Nat) : ∀ (p pre win : List Nat) (i n : Nat), p = pre ++ (win ++ post) → (∀ x ∈ p, x < 256) → p.length ≤ 4096 → pre.length = i → win.length = n → 1 ≤ n →
    Ev (fun k => tapearchivelaw01_ChecksumSlides.l0 k (ints p) (n : Int) ((weak win : Nat) : Int) (i : Int)) true := by
  induction post with
  | nil =>
    intro p pre win i n hp hb hl hi hn h1
    rw [List.append_nil] at hp
    have hpl : p.length = i + n := by rw [hp, List.length_append, hi, hn]
    refine Ev.step (fun k => by simp only [tapearchivelaw01_ChecksumSlides.l0]; rfl) ?_
    have w1 : wrap64 ((i : Int) + (n : Int)) = ((i + n : Nat) : Int) := by rw [wrap64_mid (by omega) (by omega)]; omega
    have w2 : wrap64 (((ints p).length : Int) - (n : Int)) = (i : Int) := by clear w1; rw [ints_length, hpl, wrap64_mid (by omega) (by omega)]; omega
    have c3 : ((i : Int)) ≤ ((ints p).length : Int) := by rw [ints_length, hpl]; omega
    have c1 : ¬ (((i + n : Nat) : Int) < ((ints p).length : Int)) := by rw [ints_length, hpl]; exact Int.lt_irrefl _
    have hdrop : (ints p).drop ((i : Int)).toNat = ints win := by
      rw [hp, ints_append, Int.toNat_natCast, List.drop_left' (by rw [ints_length]; exact hi)]
    have hwb : ∀ x ∈ win, x < 256 := fun x hx => hb x (by rw [hp]; exact List.mem_append_right _ hx)
    rw [w1, w2]
    clear w1 w2
    refine Ev.neg c1 (Ev.pos (by omega) (Ev.pos c3 ?_))
    rw [hdrop]
    exact Ev.bind (weak_ev hwb (by omega)) (Ev.pos rfl (Ev.call awake_ev (Ev.now _)))
  | cons y post ih =>
    intro p pre win i n hp hb hl hi hn h1
    obtain ⟨x, m, rfl⟩ : ∃ x m, win = x :: m := by cases win with
      | nil => simp at hn; omega
      | cons x m => exact ⟨x, m, rfl⟩
    have hpl : p.length = i + n + (post.length + 1) := by rw [hp, List.length_append, List.length_append, hi, hn, List.length_cons]; omega
    have hx : p.getD i 0 = x := by rw [hp]; exact set_at hi
    have hy : p.getD (i + n) 0 = y := by
      rw [hp, ← List.append_assoc]
      exact set_at (by rw [List.length_append, hi, hn])
    have hx2 : x < 256 := hx ▸ getD_lt hb i
    have hy2 : y < 256 := hy ▸ getD_lt hb (i + n)
    have hp2 : p = (pre ++ [x]) ++ ((m ++ [y]) ++ post) := by rw [hp]; simp
    have hn2 : (m ++ [y]).length = n := by rw [← hn]; simp
    have hmn : m.length + 1 = n := by rw [← hn]; rfl
    have k1 : ((i + n : Nat) : Int) < ((ints p).length : Int) := by rw [ints_length]; omega
    have k2 : ((i : Int)) < ((ints p).length : Int) := by rw [ints_length]; omega
    have k3 : (0 : Int) ≤ (i : Int) := by omega
    have k4 : (0 : Int) ≤ ((i + n : Nat) : Int) := by omega
    have k5 : n ≤ 65536 := by omega
    refine Ev.step (fun k => ?_) (ih p (pre ++ [x]) (m ++ [y]) (i + 1) n hp2 hb hl (by simp [hi]) hn2 h1)
    simp only [tapearchivelaw01_ChecksumSlides.l0]
    have w1 : wrap64 ((i : Int) + (n : Int)) = ((i + n : Nat) : Int) := by rw [wrap64_mid (by omega) (by omega)]; omega
    have w2 : wrap64 ((i : Int) + 1) = ((i + 1 : Nat) : Int) := by clear w1; rw [wrap64_mid (by omega) (by omega)]; omega
    have hr := roll_weak x y m hx2
    rw [hmn] at hr
    rw [w1, w2, if_pos k1, if_pos k3, if_pos k2, if_pos k4, ints_rd, ints_rd, hx, hy, roll_ev (weak_lt _) h1 k5 hx2 hy2, hr]
    rfl
theorem ChecksumSlides : tapearchivelaw01_ChecksumSlides.Pure := by
  intro l0 a1 _ _ b0 w1
  obtain ⟨p, rfl, hp⟩ := bytes_of b0
  refine Ev.rounds ?_
  unfold tapearchivelaw01_ChecksumSlides.f
  have long : Ev (fun k => tapearchivelaw01_ChecksumSlides.j0 k (ints p) a1 true) true := by
    refine Ev.step (f := fun _ => some true) (fun k => by simp only [tapearchivelaw01_ChecksumSlides.j0]; rfl) (Ev.now _)
  refine Ev.pick (fun _ => long) fun c1 => Ev.pick (fun _ => long) fun c2 => Ev.pick (fun _ => long) fun c3 => ?_
  by_cases c4 : a1 > ((ints p).length : Int)
  · rw [decide_eq_true c4]
    exact long
  · rw [decide_eq_false c4]
    rw [ints_length] at c1
    have c5 : a1 ≤ ((ints p).length : Int) := Int.not_lt.1 c4
    obtain ⟨n, rfl⟩ := Int.eq_ofNat_of_zero_le (show 0 ≤ a1 by omega)
    have c6 : n ≤ p.length := by rw [ints_length] at c5; omega
    refine Ev.step (fun k => by simp only [tapearchivelaw01_ChecksumSlides.j0]; rfl) ?_
    refine Ev.neg (by simp) (Ev.pos (by omega) (Ev.pos c5 ?_))
    have ht : (ints p).take ((n : Int)).toNat = ints (p.take n) := by unfold ints; rw [Int.toNat_natCast, List.map_take]
    rw [ht]
    have hwb : ∀ x ∈ p.take n, x < 256 := fun x hx => hp x (List.mem_of_mem_take hx)
    refine Ev.bind (weak_ev hwb (by rw [List.length_take]; omega)) ?_
    exact slide_loop (p.drop n) p [] (p.take n) 0 n (by simp) hp (by omega) rfl (by rw [List.length_take]; omega) (by omega)
end Go.Proofs.Ytlcopdlljeechaa.Pure
