/- ChecksumDetects: the pure statement. -/
import Derived.Test.YtlcopdlljeechaaPureChecksumSums
import Derived.Test.YtlcopdlljeechaaQ8
namespace Go.Proofs.Ytlcopdlljeechaa.Pure
open Go.RowKit Go.Proofs.Ytlcopdlljeechaa.Q Go.Proofs.YtlcopdlljeechaaW.PrintWords Go.Proofs.YtlcopdlljeechaaW.PrintLast
open Go.Proofs.Ytlcopdlljeechaa.Cr Go.Proofs.Ytlcopdlljeechaa.Evs
set_option linter.unusedVariables false
theorem aft_diff (s d y x : Nat) : aft (s ^^^ d) (y ^^^ x) = aft s y ^^^ stps 8 (d ^^^ x) := by
  unfold aft
  rw [← stps_xor, xor4]
theorem low_high (v : Nat) : v ^^^ v % 256 = v / 256 * 2 ^ 8 := by
  have h := add_xor 8 (v / 256) (v % 256) (Nat.mod_lt _ (by omega))
  have e : v = (v / 256 * 2 ^ 8) ^^^ (v % 256) := by omega
  conv => lhs; rw [e]
  have e2 : (v / 256 * 2 ^ 8 ^^^ v % 256) % 256 = v % 256 := by rw [← e]
  rw [e2, Nat.xor_assoc, Nat.xor_self, Nat.xor_zero]
theorem fold4 (v : Nat) (hv : v < 4294967296) : stps 8 (stps 8 (stps 8 (stps 8 (0 ^^^ v % 256) ^^^ v / 256 % 256) ^^^ v / 65536 % 256) ^^^ v / 16777216 % 256) = stps 32 v := by
  have h1 : stps 8 (0 ^^^ v % 256) = stps 8 v ^^^ v / 256 := by
    rw [Nat.zero_xor, stps8_split v, Nat.xor_comm (v / 256), Nat.xor_assoc, Nat.xor_self, Nat.xor_zero]
  have h2 : stps 8 (stps 8 (0 ^^^ v % 256) ^^^ v / 256 % 256) = stps 16 v ^^^ v / 65536 := by
    rw [h1, Nat.xor_assoc, low_high, stps_xor, stps_high, ← stps_add, Nat.div_div_eq_div_mul]
  have h3 : stps 8 (stps 8 (stps 8 (0 ^^^ v % 256) ^^^ v / 256 % 256) ^^^ v / 65536 % 256) = stps 24 v ^^^ v / 16777216 := by
    rw [h2, Nat.xor_assoc, low_high, stps_xor, stps_high, ← stps_add, Nat.div_div_eq_div_mul]
  rw [h3, Nat.mod_eq_of_lt (show v / 16777216 < 256 by omega), Nat.xor_assoc, Nat.xor_self, Nat.xor_zero, ← stps_add]
theorem upd_cons (r x : Nat) (l : List Nat) : upd r (x :: l) = upd (aft r x) l := rfl
theorem detect {pre post : List Nat} {y0 y1 y2 y3 v : Nat} (hp : ∀ x ∈ pre ++ y0 :: y1 :: y2 :: y3 :: post, x < 256) (hv : v < 4294967296) (h0 : v ≠ 0) :
    csum (pre ++ (y0 ^^^ v % 256) :: (y1 ^^^ v / 256 % 256) :: (y2 ^^^ v / 65536 % 256) :: (y3 ^^^ v / 16777216 % 256) :: post) ≠ csum (pre ++ y0 :: y1 :: y2 :: y3 :: post) := by
  intro h
  unfold csum cup at h
  have hpre : ∀ x ∈ pre, x < 256 := fun x hx => hp x (List.mem_append_left _ hx)
  have hr := upd_lt (l := pre) (inv_lt 0) hpre
  have hu := upd_lt (r := inv 0) (inv_lt 0) hp
  rw [upd_append] at h hu
  rw [upd_append] at h
  generalize upd (inv 0) pre = r at h hr hu
  have e : upd r ((y0 ^^^ v % 256) :: (y1 ^^^ v / 256 % 256) :: (y2 ^^^ v / 65536 % 256) :: (y3 ^^^ v / 16777216 % 256) :: post) = upd r (y0 :: y1 :: y2 :: y3 :: post) ^^^ stps (8 * post.length) (stps 32 v) := by
    simp only [upd_cons]
    rw [← upd_xor, ← fold4 v hv]
    congr 1
    have e0 : aft r (y0 ^^^ v % 256) = aft r y0 ^^^ stps 8 (0 ^^^ v % 256) := by
      have := aft_diff r 0 y0 (v % 256)
      rwa [Nat.xor_zero] at this
    rw [e0, aft_diff, aft_diff, aft_diff]
  rw [e] at h
  have hd : stps (8 * post.length) (stps 32 v) < 4294967296 := stps_lt _ (stps_lt _ hv)
  generalize upd r (y0 :: y1 :: y2 :: y3 :: post) = u at h hu
  rw [inv_xor (xor_lt32 hu hd), inv_xor hu] at h
  have h1 : u ^^^ stps (8 * post.length) (stps 32 v) = u := by
    have h2 : (u ^^^ stps (8 * post.length) (stps 32 v) ^^^ 4294967295) ^^^ 4294967295 = (u ^^^ 4294967295) ^^^ 4294967295 := by rw [h]
    rwa [Nat.xor_assoc, Nat.xor_self, Nat.xor_zero, Nat.xor_assoc, Nat.xor_self, Nat.xor_zero] at h2
  have h3 : stps (8 * post.length) (stps 32 v) = 0 := by
    have h4 : u ^^^ (u ^^^ stps (8 * post.length) (stps 32 v)) = u ^^^ u := by rw [h1]
    rwa [← Nat.xor_assoc, Nat.xor_self, Nat.zero_xor] at h4
  exact h0 (stps_inj 32 hv (stps_inj _ (stps_lt _ hv) h3))
theorem split4 {p : List Nat} {a : Nat} (h : a + 4 ≤ p.length) : ∃ pre y0 y1 y2 y3 post, p = pre ++ y0 :: y1 :: y2 :: y3 :: post ∧ pre.length = a := by
  refine ⟨p.take a, p[a], p[a + 1], p[a + 2], p[a + 3], p.drop (a + 4), ?_, by rw [List.length_take]; omega⟩
  rw [← List.drop_eq_getElem_cons (show a + 3 < p.length by omega), ← List.drop_eq_getElem_cons (show a + 2 < p.length by omega), ← List.drop_eq_getElem_cons (show a + 1 < p.length by omega), ← List.drop_eq_getElem_cons (show a < p.length by omega), List.take_append_drop]
theorem shr_ev (v i : Nat) (hv : v < 4294967296) (hi : i < 4) : (shr .u32 (v : Int) (IntKind.u64.wrap (wrap64 (8 * (i : Int))))) % 256 = ((v / 2 ^ (8 * i) % 256 : Nat) : Int) := by
  have e1 : wrap64 (8 * (i : Int)) = ((8 * i : Nat) : Int) := by unfold wrap64; omega
  have e2 : IntKind.u64.wrap ((8 * i : Nat) : Int) = ((8 * i : Nat) : Int) := by rw [IntKind.wrap_u64]; omega
  rw [e1, e2]
  unfold shr
  rcases (show i = 0 ∨ i = 1 ∨ i = 2 ∨ i = 3 by omega) with rfl | rfl | rfl | rfl <;> simp [IntKind.bits]
theorem det_step {l0 : List Int} {a v : Nat} (ha : a ≤ 4096) (hv : v < 4294967296) (i : Nat) (hi : i < 4) (c : List Nat) (hc : ∀ x ∈ c, x < 256) (hl : a + i < c.length) {r : Bool}
    (h : Ev (fun k => tapearchivelaw01_ChecksumDetects.l0 k l0 (a : Int) (v : Int) (ints (c.set (a + i) (c.getD (a + i) 0 ^^^ v / 2 ^ (8 * i) % 256))) ((i + 1 : Nat) : Int)) r) :
    Ev (fun k => tapearchivelaw01_ChecksumDetects.l0 k l0 (a : Int) (v : Int) (ints c) (i : Int)) r := by
  refine Ev.step (fun k => ?_) h
  simp only [tapearchivelaw01_ChecksumDetects.l0]
  have e1 : wrap64 ((a : Int) + (i : Int)) = ((a + i : Nat) : Int) := by unfold wrap64; omega
  have e2 : wrap64 ((i : Int) + 1) = ((i + 1 : Nat) : Int) := by unfold wrap64; omega
  have c0 : 0 ≤ IntKind.u64.wrap (wrap64 (8 * (i : Int))) := by
    rw [show wrap64 (8 * (i : Int)) = ((8 * i : Nat) : Int) by clear e1 e2; unfold wrap64; omega, IntKind.wrap_u64]
    exact Int.emod_nonneg _ (by decide)
  have c1 : ((a + i : Nat) : Int) < ((ints c).length : Int) := by rw [ints_length]; exact Int.ofNat_lt.2 hl
  rw [if_pos (show (i : Int) < 4 by clear e1 e2 c0; omega), e1, if_pos (Int.natCast_nonneg _), if_pos c1, if_pos c0, e2, shr_ev v i hv hi, ints_rd, xor_u8 (getD_lt hc _) (Nat.mod_lt _ (by omega)), Int.toNat_natCast]
  congr 1
  unfold ints
  rw [List.map_set]
theorem set_mid {pre post : List Nat} {y x : Nat} {n : Nat} (h : pre.length = n) : (pre ++ y :: post).set n x = pre ++ x :: post := by
  subst h
  simp
theorem get_mid {pre post : List Nat} {y : Nat} {n : Nat} (h : pre.length = n) : (pre ++ y :: post).getD n 0 = y := by
  subst h
  simp
theorem ChecksumDetects : tapearchivelaw01_ChecksumDetects.Pure := by
  intro l0 a1 a2 _ _ b0 w1 w2
  obtain ⟨p, rfl, hp⟩ := bytes_of b0
  obtain ⟨v, rfl, hv⟩ := u32_of w2
  obtain ⟨n1, n2⟩ := int_of w1
  refine Ev.rounds ?_
  unfold tapearchivelaw01_ChecksumDetects.f
  have long : Ev (fun k => tapearchivelaw01_ChecksumDetects.j0 k (ints p) a1 (v : Int) true) true := by
    refine Ev.step (f := fun _ => some true) (fun k => by simp only [tapearchivelaw01_ChecksumDetects.j0]; rfl) (Ev.now _)
  refine Ev.pick (fun _ => long) fun c1 => Ev.pick (fun _ => long) fun c2 => Ev.pick (fun _ => long) fun c3 => Ev.pick (fun _ => long) fun c4 => ?_
  rw [ints_length] at c1 c2 c4
  have c5 : a1 ≤ (p.length : Int) - 4 := by
    rw [show wrap64 ((p.length : Int) - 4) = (p.length : Int) - 4 by clear c4; unfold wrap64; omega] at c4
    omega
  clear c4
  obtain ⟨a, rfl⟩ := Int.eq_ofNat_of_zero_le (show 0 ≤ a1 by omega)
  by_cases h0 : v = 0
  · subst h0
    exact long
  · rw [show (((v : Nat) : Int) == 0) = false from beq_eq_false_iff_ne.2 (by omega)]
    refine Ev.step (fun k => by simp only [tapearchivelaw01_ChecksumDetects.j0]; rfl) ?_
    refine Ev.neg (by simp) ?_
    refine Ev.call rfl (Ev.pos (by rw [ints_length]; show 0 + _ < _; omega) ?_)
    show Ev (fun k => tapearchivelaw01_ChecksumDetects.l0 k (ints p) (a : Int) (v : Int) (ints p) ((0 : Nat) : Int)) true
    obtain ⟨pre, y0, y1, y2, y3, post, he, hpre⟩ := split4 (p := p) (a := a) (by omega)
    have hy : ∀ x ∈ pre ++ y0 :: y1 :: y2 :: y3 :: post, x < 256 := he ▸ hp
    have hlen : (pre ++ y0 :: y1 :: y2 :: y3 :: post).length = p.length := by rw [he]
    have b0 : y0 < 256 := hy _ (by simp)
    have b1 : y1 < 256 := hy _ (by simp)
    have b2 : y2 < 256 := hy _ (by simp)
    have b3 : y3 < 256 := hy _ (by simp)
    have hD := detect hy hv h0
    have hS := sum_ev hp (by omega)
    rw [he] at hS
    have q0 : y0 ^^^ v % 256 < 256 := Nat.xor_lt_two_pow (n := 8) b0 (Nat.mod_lt _ (by omega))
    have q1 : y1 ^^^ v / 256 % 256 < 256 := Nat.xor_lt_two_pow (n := 8) b1 (Nat.mod_lt _ (by omega))
    have q2 : y2 ^^^ v / 65536 % 256 < 256 := Nat.xor_lt_two_pow (n := 8) b2 (Nat.mod_lt _ (by omega))
    have q3 : y3 ^^^ v / 16777216 % 256 < 256 := Nat.xor_lt_two_pow (n := 8) b3 (Nat.mod_lt _ (by omega))
    have hall : ∀ z0 z1 z2 z3 : Nat, z0 < 256 → z1 < 256 → z2 < 256 → z3 < 256 → ∀ x ∈ pre ++ z0 :: z1 :: z2 :: z3 :: post, x < 256 := by
      intro z0 z1 z2 z3 g0 g1 g2 g3 x hx
      rcases List.mem_append.1 hx with h | h
      · exact hy x (List.mem_append_left _ h)
      · simp only [List.mem_cons] at h
        rcases h with rfl | rfl | rfl | rfl | h
        · exact g0
        · exact g1
        · exact g2
        · exact g3
        · exact hy x (List.mem_append_right _ (by simp [h]))
    have hln : ∀ z0 z1 z2 z3 : Nat, (pre ++ z0 :: z1 :: z2 :: z3 :: post).length = p.length := by intro z0 z1 z2 z3; rw [← hlen]; simp
    rw [he]
    refine det_step (by omega) hv 0 (by omega) _ hy (by rw [hlen]; omega) ?_
    rw [Nat.add_zero, set_mid hpre, get_mid hpre, show v / 2 ^ (8 * 0) = v by simp]
    refine det_step (by omega) hv 1 (by omega) _ (hall _ _ _ _ q0 b1 b2 b3) (by rw [hln]; omega) ?_
    have s1 := fun (z : Nat) => set_mid (pre := pre ++ [y0 ^^^ v % 256]) (y := y1) (x := z) (post := y2 :: y3 :: post) (n := a + 1) (by simp [hpre])
    have g1 := get_mid (pre := pre ++ [y0 ^^^ v % 256]) (y := y1) (post := y2 :: y3 :: post) (n := a + 1) (by simp [hpre])
    simp only [List.append_assoc, List.cons_append, List.nil_append] at s1 g1
    rw [s1, g1, show v / 2 ^ (8 * 1) = v / 256 from rfl]
    refine det_step (by omega) hv 2 (by omega) _ (hall _ _ _ _ q0 q1 b2 b3) (by rw [hln]; omega) ?_
    have s2 := fun (z : Nat) => set_mid (pre := pre ++ [y0 ^^^ v % 256, y1 ^^^ v / 256 % 256]) (y := y2) (x := z) (post := y3 :: post) (n := a + 2) (by simp [hpre])
    have g2 := get_mid (pre := pre ++ [y0 ^^^ v % 256, y1 ^^^ v / 256 % 256]) (y := y2) (post := y3 :: post) (n := a + 2) (by simp [hpre])
    simp only [List.append_assoc, List.cons_append, List.nil_append] at s2 g2
    rw [s2, g2, show v / 2 ^ (8 * 2) = v / 65536 from rfl]
    refine det_step (by omega) hv 3 (by omega) _ (hall _ _ _ _ q0 q1 q2 b3) (by rw [hln]; omega) ?_
    have s3 := fun (z : Nat) => set_mid (pre := pre ++ [y0 ^^^ v % 256, y1 ^^^ v / 256 % 256, y2 ^^^ v / 65536 % 256]) (y := y3) (x := z) (post := post) (n := a + 3) (by simp [hpre])
    have g3 := get_mid (pre := pre ++ [y0 ^^^ v % 256, y1 ^^^ v / 256 % 256, y2 ^^^ v / 65536 % 256]) (y := y3) (post := post) (n := a + 3) (by simp [hpre])
    simp only [List.append_assoc, List.cons_append, List.nil_append] at s3 g3
    rw [s3, g3, show v / 2 ^ (8 * 3) = v / 16777216 from rfl]
    refine Ev.step (f := fun _ => some true) (fun k => ?_) (Ev.now _)
    simp only [tapearchivelaw01_ChecksumDetects.l0]
    rw [if_neg (by omega), sum_ev (hall _ _ _ _ q0 q1 q2 q3) (by rw [hln]; omega), hS, Option.bind_some, Option.bind_some, if_neg (by intro h; exact hD (by omega)), awake_ev]
    rfl
end Go.Proofs.Ytlcopdlljeechaa.Pure
