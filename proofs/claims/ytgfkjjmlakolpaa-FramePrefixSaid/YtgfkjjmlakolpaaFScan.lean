/- frame.Scan: what it answers: the bodies of the frames from the beginning on. -/
import Derived.Test.YtgfkjjmlakolpaaFNext
import Derived.Test.YtgfkjjmlakolpaaClone
import Derived.Test.YtgfkjjmlakolpaaRange
import Derived.Shelf.Abstract
import Derived.Shelf.RegionOpen
import Derived.WalkKit
import Derived.OwnWalkIn
import Derived.TacticsInMore
import Derived.LoopNIn
import Derived.LoopIn
import Derived.Maps.AppendAt
import Derived.BigRegionIn
import Derived.Sort.QuietIn
namespace Go.Proofs.Ytgfkjjmlakolpaa.Q
open Go.RowKit Go.Shelf Go.Proofs.YtgfkjjmlakolpaaW.PrintWords Go.Proofs.YtgfkjjmlakolpaaW.PrintLast Go.Proofs.YtgfkjjmlakolpaaW.PrintMore
open Go.Proofs.Ytgfkjjmlakolpaa.Cr Go.Proofs.Ytgfkjjmlakolpaa.Evs Go.Proofs.Ytgfkjjmlakolpaa.Rng
set_option linter.unusedVariables false
attribute [local go_sem] Oper.semAt_some
/-! The list that is scanned. -/
def scanL (p : List Nat) : Nat → Nat → List (List Nat × Nat)
  | 0, _ => []
  | f + 1, k => if (fnext p (k : Nat)).2.2 = 0 then ((fnext p (k : Nat)).1, (fnext p (k : Nat)).2.1.toNat) :: scanL p f (fnext p (k : Nat)).2.1.toNat else []
theorem fnext_ok {p : List Nat} {k : Nat} (h : (fnext p (k : Nat)).2.2 = 0) : ∃ e : Nat, (fnext p (k : Nat)).2.1 = (e : Int) ∧ k + 10 ≤ e ∧ e ≤ p.length ∧ (fnext p (k : Nat)).1.length = e - k - 10 := by
  unfold fnext at h ⊢
  by_cases c1 : (k : Int) < 0 ∨ (p.length : Int) < (k : Int)
  · rw [if_pos c1] at h; exact absurd h (by decide)
  rw [if_neg c1] at h ⊢
  rw [Int.toNat_natCast] at h ⊢
  have hl : (p.drop k).length = p.length - k := List.length_drop
  generalize p.drop k = r at h hl ⊢
  unfold fnextR at h ⊢
  by_cases c2 : r.length < 10
  · rw [if_pos c2] at h; exact absurd h (by decide)
  rw [if_neg c2] at h ⊢
  by_cases c3 : ¬ (r.getD 0 0 = 167 ∧ r.getD 1 0 = 60)
  · rw [if_pos c3] at h; exact absurd h (by decide)
  rw [if_neg c3] at h ⊢
  by_cases c4 : 65536 < num (mid r 2 6)
  · rw [if_pos c4] at h; exact absurd h (by decide)
  rw [if_neg c4] at h ⊢
  by_cases c5 : r.length < 10 + num (mid r 2 6)
  · rw [if_pos c5] at h; exact absurd h (by decide)
  rw [if_neg c5] at h ⊢
  by_cases c6 : cup (csum (mid r 2 6)) (mid r 10 (10 + num (mid r 2 6))) ≠ num (mid r 6 10)
  · rw [if_pos c6] at h; exact absurd h (by decide)
  rw [if_neg c6]
  generalize num (mid r 2 6) = n at c5 ⊢
  refine ⟨k + (10 + n), by show (k : Int) + (10 + n : Nat) = _; omega, by omega, by omega, ?_⟩
  show (mid r 10 (10 + n)).length = _
  rw [mid_length (by omega)]; omega
theorem scanL_fuel {p : List Nat} : ∀ (f g k : Nat), p.length - k < f → p.length - k < g → scanL p f k = scanL p g k
  | 0, _, _, h, _ => absurd h (by omega)
  | _ + 1, 0, _, _, h => absurd h (by omega)
  | f + 1, g + 1, k, hf, hg => by
    unfold scanL
    by_cases h : (fnext p (k : Nat)).2.2 = 0
    · obtain ⟨e, he, h1, h2, _⟩ := fnext_ok h
      rw [if_pos h, if_pos h, he, Int.toNat_natCast, scanL_fuel f g e (by omega) (by omega)]
    · rw [if_neg h, if_neg h]
def scan (p : List Nat) (k : Nat) : List (List Nat × Nat) := scanL p (p.length + 1) k
theorem scan_stop {p : List Nat} {k : Nat} (h : (fnext p (k : Nat)).2.2 ≠ 0) : scan p k = [] := by
  unfold scan scanL; rw [if_neg h]
theorem scan_step {p : List Nat} {k e : Nat} (h : (fnext p (k : Nat)).2.2 = 0) (he : (fnext p (k : Nat)).2.1 = (e : Int)) : scan p k = ((fnext p (k : Nat)).1, e) :: scan p e := by
  obtain ⟨e', he', h1, h2, _⟩ := fnext_ok h
  obtain rfl : e' = e := by omega
  show scanL p (p.length + 1) k = _ :: scanL p (p.length + 1) e'
  rw [scanL, if_pos h, he, Int.toNat_natCast, scanL_fuel p.length (p.length + 1) e' (by omega) (by omega)]
/-- The offset behind the last of some frames. -/
def lastE (l : List (List Nat × Nat)) : Nat := (l.getLast?.map (·.2)).getD 0
theorem lastE_snoc (l : List (List Nat × Nat)) (x : List Nat × Nat) : lastE (l ++ [x]) = x.2 := by simp [lastE]
/-! What the iterator hands over. -/
structure Fr where
  v : Value
  c : List Nat
  e : Nat
def Fr.told (x : Fr) : List Nat × Nat := (x.c, x.e)
/-- What a round is told. -/
def Fresh (B : Nat) (pre : List Fr) (x : Fr) (W : World) : Prop :=
  Kd.R (Kd.int .u8) 5 W B (fun _ => True) x.v (ints x.c) ∧ ∀ y, y ∈ pre → ∀ k, y.v.ownBlock = some k → x.v.ownBlock ≠ some k
theorem R_putObj {W : World} {B l : Nat} {o o' : Obj} {v : Value} {xs : List Int} (h : Kd.R (Kd.int .u8) 5 W B (fun _ => True) v xs) (hl : W.heap[l]? = some o) (ho : o.isCells = false) : Kd.R (Kd.int .u8) 5 (W.putObj l o') B (fun _ => True) v xs := by
  refine Kd.R_mono (Kd.R_move (Kd.R_bound h) (fun k hk => ?_)) (fun _ _ => trivial)
  obtain ⟨_, _, _, q, _, cells, hc⟩ := hk
  refine World.putObj_heap_other fun e => ?_
  rw [e, hl] at hc
  cases hc
  cases ho
theorem S_putObj {W : World} {B l : Nat} {o o' : Obj} {v : Value} {xs : List (List Int)} (h : Kd.S (Kd.slice 5 (Kd.int .u8)) 22 W B (fun _ => True) v xs) (hl : W.heap[l]? = some o) (ho : o.isCells = false) : Kd.S (Kd.slice 5 (Kd.int .u8)) 22 (W.putObj l o') B (fun _ => True) v xs := by
  refine Kd.S_mono (Kd.S_move (Kd.S_bound h) (fun k hk => ?_)) (fun _ _ => trivial)
  obtain ⟨_, _, _, q, _, cells, hc⟩ := hk
  refine World.putObj_heap_other fun e => ?_
  rw [e, hl] at hc
  cases hc
  cases ho
def KeepB (B Bx : Nat) (W W' : World) : Prop := Below B W W' ∧ W.heap.size ≤ W'.heap.size ∧ (Bx < W.heap.size → W'.heap[Bx]? = W.heap[Bx]?)
theorem KeepB.trans {B Bx : Nat} {X Y Z : World} (h : KeepB B Bx X Y) (k : KeepB B Bx Y Z) : KeepB B Bx X Z :=
  ⟨h.1.trans k.1, Nat.le_trans h.2.1 k.2.1, fun hx => (k.2.2 (by have := h.2.1; omega)).trans (h.2.2 hx)⟩
theorem scanL_length {p : List Nat} : ∀ (f k : Nat), (scanL p f k).length * 10 ≤ p.length - k
  | 0, _ => by simp [scanL]
  | f + 1, k => by
    unfold scanL
    by_cases h : (fnext p (k : Nat)).2.2 = 0
    · obtain ⟨e, he, h1, h2, _⟩ := fnext_ok h
      have := scanL_length (p := p) f e
      rw [if_pos h, he, Int.toNat_natCast, List.length_cons]; omega
    · rw [if_neg h]; simp
theorem R_still {W W' : World} {B : Nat} {v : Value} {xs : List Int} {row : Option Nat} (h : Kd.R (Kd.int .u8) 5 W B (fun _ => True) v xs) (hg : W.grownBy W' row) (hr : ∀ r, row = some r → ∃ o : Obj, W.heap[r]? = some o ∧ o.isCells = false) : Kd.R (Kd.int .u8) 5 W' B (fun _ => True) v xs := by
  refine Kd.R_mono (Kd.R_move (Kd.R_bound h) (fun k hk => ?_)) (fun _ _ => trivial)
  obtain ⟨_, _, hlt, q, _, cells, hc⟩ := hk
  refine hg.block k hlt fun e => ?_
  obtain ⟨o, ho, ho2⟩ := hr k e.symm
  rw [hc] at ho
  cases ho
  cases ho2
theorem R_round {W w1 : World} {B b0 b1 k : Nat} {y v v' e' u0 u1 : Value} {xs : List Int} {zs : List Value} {tmp : Obj} (h : Kd.R (Kd.int .u8) 5 W B (fun _ => True) y xs) (hrow : W.ownsRow B 22 1 v k zs) (hg : (W.alloc tmp).grownBy w1 v.ownBlock)
    (h0 : Boxed w1 b0 34 u0) (h1 : Boxed w1 b1 3 u1) (hne : b0 ≠ b1) : Kd.R (Kd.int .u8) 5 ((w1.setCell ⟨b0, 0, none⟩ v').setCell ⟨b1, 0, none⟩ e') B (fun _ => True) y xs := by
  have a1 := Kd.R_over' (Kd.R_alloc h tmp) (own_typed (hrow.alloc tmp)) (by intro q hq; simp [Kd.int, Kd.scalar] at hq; subst hq; decide) hg
  have a2 := Kd.R_set a1 h0 (by intro q hq; simp [Kd.int, Kd.scalar] at hq; subst hq; decide) 0 v'
  exact Kd.R_set a2 (h1.other hne.symm v') (by intro q hq; simp [Kd.int, Kd.scalar] at hq; subst hq; decide) 0 e'
/-- The iterator. -/
def Round (N B : Nat) (pre : List Fr) (x : Fr) (W : World) : Prop := Fresh B pre x W ∧ pre.length < N
set_option maxRecDepth 100000 in
set_option maxHeartbeats 4000000 in
theorem frames1_sees (p : List Nat) (hp : ∀ x ∈ p, x < 256) (hmx : p.length < 140737488355328) (A0 : Option Addr) (c0 : Nat) (hc0 : (ints p).length ≤ c0) (w0 : World) (hr : Kd.C (Kd.int .u8) w0 A0 (ints p).length (ints p)) (Bx : Nat) (w : World) (hb : Below w0.heap.size w0 w) (hbx : Boxed w Bx 22 (.slice A0 (ints p).length c0)) :
    Sees Fence.wide 5 Try.prog 38 #[.pointer (some ⟨Bx, 0, none⟩)] (fun x : Fr => #[x.v, .int .i64 (x.e : Int)]) (KeepB w0.heap.size Bx) (Round p.length w0.heap.size) (fun xs => xs.map Fr.told = scan p 0) w := by
  intro l J W hW hJ hY h0
  have HP := Lib.hid hp
  have HR := Aside0.mk hr
  have HX0 := Aside0.mk (show Boxed W Bx 22 (.slice A0 (ints p).length c0) from (hW.block Bx hbx.lt).trans hbx)
  have HB0 := Aside0.mk (hb.trans (hW.mono hb.size))
  have HY := Aside0.mk hY
  have HJS := Aside0.mk hJ
  have HJ0 := Aside0.mk h0
  clear hp hr hbx hW hb hY hJ h0
  refine callsIn_of_wp Try.func38 rfl trivial ?_ rfl
  simp only [Try.ntmps38, List.size_toArray, List.length_cons, List.length_nil, Nat.reduceAdd, Nat.reduceSub, Array.replicate_succ, Array.replicate_zero, List.push_toArray, List.append_toArray, List.nil_append, List.cons_append]
  gi_wp2
  gi_loopw [3] (fun v3 wr => ∃ (pre : List Fr) (k : Nat), v3 = .int .i64 (k : Nat) ∧ k ≤ p.length ∧ Hid (pre.map Fr.told ++ scan p k = scan p 0) ∧ Aside0 (Boxed wr Bx 22 (.slice A0 (ints p).length c0)) ∧ Aside0 (Below w0.heap.size w0 wr) ∧ Aside0 (∀ y ∈ pre, ∀ b, y.v.ownBlock = some b → b < wr.heap.size) ∧ Aside0 (J pre wr) ∧ W.heap.size ≤ wr.heap.size) (fun v3 _ => p.length - (intOf v3).toNat)
  case atStart => exact ⟨[], 0, rfl, Nat.zero_le _, Lib.hid rfl, HX0, HB0, ⟨fun y hy => absurd hy (by simp)⟩, HJ0, Nat.le_refl _⟩
  case round =>
    clear HX0 HB0 HJ0
    obtain ⟨pre, k, rfl, hk, HS, HX, HB, HN, HJ, hWz⟩ := hrel
    have HNX := next_walk (fun _ => True) A0 c0 p HP.out (k : Nat) wr (Kd.V_mk hc0 (Kd.F_mono (Kd.C_F (Kd.heap_int _) (Kd.C_below HR.out HB.out)) (fun _ _ => trivial)))
    have hx := HX.out.cell
    by_cases hz : (fnext p (k : Nat)).2.2 = 0
    · obtain ⟨e, he, h1, h2, h3⟩ := fnext_ok hz
      have HSS := Lib.hid (scan_step hz he)
      have hstep := HS.out
      rw [HSS.out] at hstep
      have HS2 : Hid (((pre.map Fr.told ++ [((fnext p (k : Nat)).1, e)]) ++ scan p e) = scan p 0) := Lib.hid (by rw [List.append_assoc]; exact hstep)
      have hln : pre.length < p.length := by
        have q1 := congrArg List.length hstep
        have q2 := scanL_length (p := p) (p.length + 1) 0
        simp only [List.length_append, List.length_map, List.length_cons] at q1
        have q3 : (scan p 0).length * 10 ≤ p.length - 0 := q2
        omega
      clear hstep HSS HS
      rw [he, hz] at HNX
      clear he hz
      generalize (fnext p (k : Nat)).1 = b at HNX h3 HS2
      have hcl : bytes_Clone.f (ints b) = some (ints b) := if_pos (by rw [ints_length]; omega)
      have HCL := Lib.hid hcl
      have HN1 := Aside0.mk HNX
      clear HNX hcl h3
      gi_wp2_with (first | (refine ⟨trivial, ?_⟩; gi_at_call 30; refine (callsIn_wide.2 HN1.out).mono ?_; rintro e_ w1 ⟨v0, rfl, ⟨A1, c1, rfl, hc1, hf1⟩, hb1⟩; have HF1 := Aside0.mk hf1; have HB1 := Aside0.mk hb1; clear hf1 hb1) | (refine ⟨trivial, ?_⟩; gi_at_call 31; refine (callsIn_wide.2 (bytes_Clone.calls A1 c1 (ints b) _ _ (Kd.F_now HF1.out) hc1 HCL.out)).mono ?_; rintro e_ w2 ⟨v2, rfl, hR2, hb2⟩; have HR2 := Aside0.mk hR2; have HB2 := Aside0.mk hb2; clear hR2 hb2; have hs1 := HB1.out.size; have hs2 := HB2.out.size; have hJ2 := HJS.out pre wr w2 none HJ.out (grown_of_below (below_step HB1.out HB2.out) none) (fun r e => by cases e); obtain ⟨fn_, tmps_, assign_, body_, hy_, hRnd_⟩ := HY.out pre ⟨v2, b, e⟩ w2 hJ2 ⟨⟨Kd.R_lower HR2.out (by have := HB.out.size; omega), fun y hy q hq => fun hc => by { have q1 := HN.out y hy q hq; obtain ⟨_, ho⟩ := Kd.R_own HR2.out; have q2 := own_base ho q hc; omega }⟩, hln⟩; dsimp only at hy_))
      refine hRnd_.mono ?_
      rintro e_ W3 ⟨rfl, hJ3, hK3⟩
      have HJ3 := Aside0.mk hJ3
      have HK3 := Aside0.mk hK3
      have hz3 := hK3.2.1
      have hbk : Bx < wr.heap.size := HX.out.lt
      have HX3 : Aside0 (Boxed W3 Bx 22 (.slice A0 (ints p).length c0)) := ⟨(HK3.out.2.2 (by omega)).trans (((HB2.out.block Bx (by omega)).trans (HB1.out.block Bx hbk)).trans HX.out)⟩
      have HB3 : Aside0 (Below w0.heap.size w0 W3) := ⟨(HB.out.trans ((below_step HB1.out HB2.out).mono HB.out.size)).trans HK3.out.1⟩
      have HN3 : Aside0 (∀ y ∈ pre ++ [(⟨v2, b, e⟩ : Fr)], ∀ q, y.v.ownBlock = some q → q < W3.heap.size) := ⟨fun y hy q hq => by
        rcases List.mem_append.1 hy with hy | hy
        · have := HN.out y hy q hq; omega
        · obtain rfl := List.mem_singleton.1 hy
          obtain ⟨_, ho⟩ := Kd.R_own HR2.out
          have := own_lt ho q hq; omega⟩
      clear hJ3 hK3 hy_ hJ2 HJ HN HX HB hx
      gi_wp2
      go_roundw
      case rel => exact ⟨pre ++ [⟨v2, b, e⟩], e, rfl, h2, by rw [List.map_append]; exact HS2, HX3, HB3, HN3, HJ3, by omega⟩
      case measure => simp [intOf]; omega
    · have hstop : pre.map Fr.told = scan p 0 := by have := HS.out; rw [scan_stop hz, List.append_nil] at this; exact this
      have HST := Lib.hid hstop
      clear hstop HS
      generalize (fnext p (k : Nat)).2.2 = z at HNX hz
      have hz1 : (z == 0) = false := beq_eq_false_iff_ne.2 hz
      have hz2 : (z != 0) = true := by simp [bne, hz1]
      have HN1 := Aside0.mk HNX
      clear HNX hz
      gi_wp2_with (first | (refine ⟨trivial, ?_⟩; gi_at_call 30; refine (callsIn_wide.2 HN1.out).mono ?_; rintro e_ w1 ⟨v0, rfl, ⟨A1, c1, rfl, hc1, hf1⟩, hb1⟩; have HF1 := Aside0.mk hf1; have HB1 := Aside0.mk hb1; clear hf1 hb1))
      refine ⟨trivial, ?_⟩
      gi_wp2
      refine ⟨fun _ h => (by cases h), ?_⟩
      gi_wp2
      refine bodyPost_ret (results_none rfl _ _ _) rfl ⟨⟨_, rfl⟩, pre, HST.out, HJS.out pre wr w1 none HJ.out (grown_of_below HB1.out none) (fun r e => by cases e)⟩
theorem frames_in (A0 : Option Addr) (n0 c0 : Nat) (w : World) :
    CallsIn Fence.wide 5 Try.prog 33 #[.slice A0 n0 c0] w fun e w' => e = .returned (.func (.func 38) #[] #[.pointer (some ⟨w.heap.size, 0, none⟩)]) ∧ w' = w.alloc (.cells #[.slice A0 n0 c0] 22) := by
  refine callsIn_of_wp Try.func33 rfl trivial ?_ rfl
  simp only [Try.ntmps33, List.size_toArray, List.length_cons, List.length_nil, Nat.reduceAdd, Nat.reduceSub, Array.replicate_succ, Array.replicate_zero, List.push_toArray, List.append_toArray, List.nil_append, List.cons_append]
  gi_wp2
  go_ret
  exact ⟨rfl, rfl⟩
/-- What the loop's own cells hold when some bodies have come. -/
def Got (B N : Nat) (w : World) (pre : List Fr) (W : World) : Prop :=
  ((∃ v, Boxed W B 34 v ∧ W.ownsRow (B + 3) 22 1 v pre.length (pre.map (fun y : Fr => y.v)) ∧ True) ∧ B + 3 ≤ W.heap.size ∧ Boxed W (B + 1) 3 (.int .i64 (lastE (pre.map Fr.told) : Nat))) ∧ (∀ y ∈ pre, Kd.R (Kd.int .u8) 5 W B (fun _ => True) y.v (ints y.c)) ∧ Below B w W ∧ (pre.Pairwise (fun y z => ∀ k, y.v.ownBlock = some k → z.v.ownBlock ≠ some k) ∧ pre.length ≤ N)
theorem got_own {B N : Nat} {w : World} (hB : B = w.heap.size) (C : Nat) (hC : B ≤ C) : OwnFrom C (Got B N w) := by
  refine OwnFrom.and (OwnFrom.and (Own.from (holdsRow_own (B + 3) B 34 22 1 (fun pre : List Fr => pre.length) (fun pre => pre.map (fun y : Fr => y.v)) (fun _ _ => True)) _) (OwnFrom.and (I := fun _ W => B + 3 ≤ W.heap.size) (fun s W W' row hs hg hr => Nat.le_trans hs hg.size) (Own.from (boxed_own (B + 1) 3 (fun pre : List Fr => .int .i64 (lastE (pre.map Fr.told) : Nat))) _))) (OwnFrom.and ?_ (OwnFrom.and (ownFrom_below (by omega) hC) (ownFrom_pure _ (fun pre : List Fr => pre.Pairwise (fun y z => ∀ k, y.v.ownBlock = some k → z.v.ownBlock ≠ some k) ∧ pre.length ≤ N))))
  intro s W W' row hs hg hr y hy
  exact R_still (hs y hy) hg (fun r e => (hr r e).2)
theorem got_S {B : Nat} {W : World} {pre : List Fr} {v : Value} (hrow : W.ownsRow B 22 1 v pre.length (pre.map (·.v))) (hR : ∀ y ∈ pre, Kd.R (Kd.int .u8) 5 W B (fun _ => True) y.v (ints y.c)) (hp : pre.Pairwise (fun y z => ∀ k, y.v.ownBlock = some k → z.v.ownBlock ≠ some k)) :
    Kd.S (Kd.slice 5 (Kd.int .u8)) 22 W B (fun _ => True) v (pre.map fun y => ints y.c) := by
  have hty : ∀ y ∈ pre, ∀ k, y.v.ownBlock = some k → some k ≠ v.ownBlock := fun y hy k hk hv => by
    obtain ⟨_, ho⟩ := Kd.R_own (hR y hy)
    obtain ⟨c1, h1⟩ := own_typed ho k hk
    obtain ⟨c2, h2⟩ := own_typed hrow k hv.symm
    rw [h1] at h2
    injection h2 with h2
    injection h2 with _ h2
    exact absurd h2 (by decide)
  obtain ⟨f, hf⟩ := Kd.reps_tag (d := Kd.slice 5 (Kd.int .u8)) (w := W) (base := B) (ok := fun k => True ∧ some k ≠ v.ownBlock) (xs := pre.map fun y => ints y.c) (inner := pre.map (·.v)) (fun j k => ∃ y, pre[j]? = some y ∧ y.v.ownBlock = some k) (fun i j k ⟨y, hy, hyk⟩ ⟨z, hz, hzk⟩ => by
    apply Classical.byContradiction
    intro hne
    obtain ⟨hi, rfl⟩ := List.getElem?_eq_some_iff.1 hy
    obtain ⟨hj, rfl⟩ := List.getElem?_eq_some_iff.1 hz
    rcases Nat.lt_or_ge i j with h | h
    · exact (List.pairwise_iff_getElem.1 hp i j hi hj h) k hyk hzk
    · exact (List.pairwise_iff_getElem.1 hp j i hj hi (by omega)) k hzk hyk) (fun j k ⟨y, hy, hyk⟩ => ⟨trivial, hty y (List.mem_of_getElem? hy) k hyk⟩) (by simp [Kd.slice]) (fun j x hx => by
    rw [List.getElem?_map, Option.map_eq_some_iff] at hx
    obtain ⟨y, hy, rfl⟩ := hx
    have hc : ((pre.map (·.v)).drop (j * 1)).take 1 = [y.v] := by
      obtain ⟨hj, rfl⟩ := List.getElem?_eq_some_iff.1 hy
      rw [Nat.mul_one, List.drop_eq_getElem_cons (by simpa using hj)]
      simp
    show ∃ u, ((pre.map (·.v)).drop (j * 1)).take 1 = [u] ∧ _
    rw [hc]
    exact ⟨y.v, rfl, Kd.R_mono (Kd.R_tight rfl (hR y (List.mem_of_getElem? hy))) (fun k hk => ⟨y, hy, hk.symm⟩)⟩)
  refine ⟨f, fun _ _ => trivial, pre.map (fun y : Fr => y.v), ?_, hf⟩
  rw [List.length_zipIdx, List.length_map]
  exact hrow
set_option maxRecDepth 100000 in
set_option maxHeartbeats 4000000 in
theorem scan_in (p : List Nat) (hp : ∀ x ∈ p, x < 256) (hmx : p.length < 1000000000000) (A0 : Option Addr) (c0 : Nat) (hc0 : (ints p).length ≤ c0) (w : World) (hr : Kd.C (Kd.int .u8) w A0 (ints p).length (ints p)) :
    CallsIn Fence.wide 6 Try.prog 18 #[.slice A0 (ints p).length c0] w fun e w' => ∃ v0_ : Value, e = .returned (.tuple #[v0_, .int .i64 (lastE (scan p 0) : Nat)]) ∧ Kd.S (Kd.slice 5 (Kd.int .u8)) 22 w' w.heap.size (fun _ => True) v0_ ((scan p 0).map fun x => ints x.1) ∧ Below w.heap.size w w' := by
  obtain ⟨i0, hi, hz0, hz1, hz2⟩ := info_parts info22
  have HR := Aside0.mk hr
  clear hr
  refine callsIn_of_wp_marks Try.func18 rfl trivial ?_ rfl
  simp only [Try.ntmps18, List.size_toArray, List.length_cons, List.length_nil, Nat.reduceAdd, Nat.reduceSub, Array.replicate_succ, Array.replicate_zero, List.push_toArray, List.append_toArray, List.nil_append, List.cons_append]
  gi_wp2_with (refine ⟨trivial, ?_⟩; gi_at_call 33; refine (frames_in _ _ _ _).mono ?_; rintro e_ w_ ⟨rfl, rfl⟩)
  obtain ⟨B, hB⟩ : ∃ B, B = w.heap.size := ⟨_, rfl⟩
  have bO := Boxed.new w 34 (.slice none 0 0)
  have bA := Boxed.new (w.alloc (.cells #[.slice none 0 0] 34)) 3 (.int .i64 0)
  have bX := Boxed.new ((w.alloc (.cells #[.slice none 0 0] 34)).alloc (.cells #[.int .i64 0] 3)) 22 (.slice A0 (ints p).length c0)
  rw [World.size_alloc] at bA
  rw [World.size_alloc, World.size_alloc] at bX
  have hB0 : Below w.heap.size w (((w.alloc (.cells #[.slice none 0 0] 34)).alloc (.cells #[.int .i64 0] 3)).alloc (.cells #[.slice A0 (ints p).length c0] 22)) := (((Below.refl _ w).alloc (Nat.le_refl _) _).alloc (by simp) _).alloc (by simp; omega) _
  have hI0 : Got w.heap.size p.length w [] (((w.alloc (.cells #[.slice none 0 0] 34)).alloc (.cells #[.int .i64 0] 3)).alloc (.cells #[.slice A0 (ints p).length c0] 22)) :=
    ⟨⟨⟨_, (bO.alloc _).alloc _, World.ownsRow_nil _ _ _ _, trivial⟩, by simp, bA.alloc _⟩, fun y hy => absurd hy (by simp), hB0, List.Pairwise.nil, Nat.zero_le _⟩
  have hsz : (((w.alloc (.cells #[.slice none 0 0] 34)).alloc (.cells #[.int .i64 0] 3)).alloc (.cells #[.slice A0 (ints p).length c0] 22)).heap.size = w.heap.size + 3 := by simp
  generalize hW : (((w.alloc (.cells #[.slice none 0 0] 34)).alloc (.cells #[.int .i64 0] 3)).alloc (.cells #[.slice A0 (ints p).length c0] 22)) = W0 at bX hB0 hI0 hsz ⊢
  clear bO bA
  refine wpIn_sees rfl (by omega) (gf := 38) (lb := #[.pointer (some ⟨w.heap.size + 1 + 1, 0, none⟩)]) rfl trivial (enters_of Try.func38 (by kernel_rfl) rfl)
    (frames1_sees p hp (by omega) A0 c0 hc0 w HR.out (w.heap.size + 1 + 1) W0 hB0 bX) KeepB.trans (fun W l o o' hl ho hc => ⟨(Below.refl _ W).grown (grownBy_putObj' W l o') (by have := (Array.getElem?_eq_some_iff.1 ho).1; omega) (fun k e => by cases e; omega), by simp, fun hx => World.putObj_heap_other (by omega)⟩)
    (fun pre x W l o o' ho hc h => ⟨⟨R_putObj h.1.1 ho hc, h.1.2⟩, h.2⟩) (Below.refl _ _) (fun _ => rfl)
    (Got w.heap.size p.length w) (got_own rfl _ (by omega)) hI0
    (fun x => { tmps := #[.slice A0 (ints p).length c0, undef, .slice none 0 0, .int .i64 0, .pointer (some ⟨w.heap.size, 0, none⟩), .pointer (some ⟨w.heap.size + 1, 0, none⟩), x.v, .int .i64 (x.e : Int), .slice A0 (ints p).length c0, .func (.func 38) #[] #[.pointer (some ⟨w.heap.size + 1 + 1, 0, none⟩)], x.v, .int .i64 (x.e : Int), undef, undef, undef, undef, undef, undef, undef], defers := [] }) ?assign ?body ?done
  case assign =>
    intro l x W K hK
    gi_wp2
    exact hK
  case body =>
    rintro l pre ⟨xv, xc, xe⟩ W ⟨⟨⟨v, hv, hrow, _⟩, hz3, hat⟩, hRs, hBW, hpw, hpl⟩ ⟨⟨hxR, hxn⟩, hln⟩
    dsimp only at hxR hxn ⊢
    obtain ⟨Ax, cx, rfl⟩ := Kd.R_slice hxR
    have hc := hv.cell
    have hca := hat.cell
    have HRs := Aside0.mk hRs
    have HXR := Aside0.mk hxR
    have HXN := Aside0.mk hxn
    have HPW := Aside0.mk hpw
    have HBW := Aside0.mk hBW
    have HROW := Aside0.mk hrow
    clear hRs hxR hxn hpw hBW hrow
    gi_wp2_with (gi_at_builtin; refine wpListIn_append_own _ rfl _ _ 34 rfl (w.heap.size + 3) 22 i0 (.slice none 0 0) 1 24 Try.underlying34 hi hz0 hz1 hz2 rfl (by decide) _ _ _ rfl (HROW.out.alloc _) ⟨W.heap.size, 0, none⟩ 1 1 [.slice Ax (ints xc).length cx] rfl rfl (cell_one_new _ _ _) (by simp [Value.oneCell']) (by unfold maxLen; omega) (by omega) (by simp; omega) ?_; intro v' w1 hown' hgrow _; obtain ⟨g', cap', rfl⟩ := ownsRow_succ hown'; obtain ⟨hv1, hv2, hr2, hk2, hb2⟩ := hv.appended (n₀ := w.heap.size) (by decide) (own_less HROW.out (by omega)) HBW.out.size (Nat.le_refl _) (own_less hown' (by omega)) hgrow; have hc1 := hv1.cell; have hf1 := hv1.frozen; have ha1 := (hat.alloc (.cells #[.slice Ax (ints xc).length cx] 22)).kept hgrow (hat.not_row (by decide) HROW.out); have hca1 := ha1.cell; have hfa1 := ha1.frozen; have HO1 := Aside0.mk hown'; have HG1 := Aside0.mk hgrow; have HR2 := Aside0.mk hr2; have HK2 := Aside0.mk hk2; have HB2 := Aside0.mk hb2; clear hown' hgrow hr2 hk2 hb2)
    have hne : w.heap.size ≠ w.heap.size + 1 := by omega
    have hks := HK2.out.size
    rw [World.size_setCell] at hks
    have hob : ∀ q, v.ownBlock = some q → w.heap.size + 3 ≤ q := own_base HROW.out
    have hBl : Below w.heap.size W ((w1.setCell ⟨w.heap.size, 0, none⟩ (.slice (some ⟨g', 0, none⟩) (pre.length + 1) cap')).setCell ⟨w.heap.size + 1, 0, none⟩ (.int .i64 (xe : Int))) := HB2.out.setCell (p := ⟨w.heap.size + 1, 0, none⟩) (by simp) _
    refine ⟨HK2.out.trans (KeepsOthers.setCell _ _ _), ⟨hBl, by rw [World.size_setCell, World.size_setCell]; exact hks, fun hx => ?_⟩, ⟨⟨⟨_, hv2.other hne _, ?_, trivial⟩, by rw [World.size_setCell, World.size_setCell]; omega, ?_⟩, ?_, HBW.out.trans hBl, ?_, ?_⟩⟩
    · rw [Below.heap_setCell _ _ _ _ (show w.heap.size + 1 + 1 ≠ w.heap.size + 1 by omega), Below.heap_setCell _ _ _ _ (show w.heap.size + 1 + 1 ≠ w.heap.size by omega), HG1.out.block _ (by rw [World.size_alloc]; omega) (fun e => by have := hob _ e.symm; omega)]
      exact Below.heap_alloc _ _ _ hx
    · rw [List.length_append, List.length_singleton, List.map_append]
      exact own_setCell (own_setCell HO1.out (fun e => by have := own_base HO1.out _ e.symm; (have h5 : w.heap.size + 3 ≤ w.heap.size := this); omega) _) (fun e => by have := own_base HO1.out _ e.symm; (have h5 : w.heap.size + 3 ≤ w.heap.size + 1 := this); omega) _
    · have := (ha1.other hne.symm (.slice (some ⟨g', 0, none⟩) (pre.length + 1) cap')).set (.int .i64 (xe : Int))
      rw [List.map_append, List.map_singleton, lastE_snoc]
      exact this
    · intro y hy
      rcases List.mem_append.1 hy with hy | hy
      · exact R_round (HRs.out y hy) (own_less HROW.out (by omega)) HG1.out hv1 ha1 hne
      · obtain rfl := List.mem_singleton.1 hy
        exact R_round HXR.out (own_less HROW.out (by omega)) HG1.out hv1 ha1 hne
    · refine List.pairwise_append.2 ⟨HPW.out, List.pairwise_singleton _ _, fun y hy z hz => ?_⟩
      obtain rfl := List.mem_singleton.1 hz
      exact HXN.out y hy
    · rw [List.length_append, List.length_singleton]; omega
  case done =>
    rintro D xs W hD hS ⟨⟨⟨v, hv, hrow, _⟩, hz3, hat⟩, hRs, hBW, hpw, hpl⟩ hK
    have hc := hv.cell
    have hca := hat.cell
    have HS := Aside0.mk (Kd.S_lower (got_S (own_less hrow (show w.heap.size ≤ w.heap.size + 3 by omega)) hRs hpw) (Nat.le_refl _))
    have HBW := Aside0.mk hBW
    have HSC := Lib.hid hS
    have hle : Hid (lastE (xs.map Fr.told) = lastE (scan p 0)) := Lib.hid (by rw [hS])
    have hmp : Hid (xs.map (fun y : Fr => ints y.c) = (scan p 0).map fun x => ints x.1) := Lib.hid (by rw [← hS, List.map_map]; rfl)
    clear hRs hpw hS hBW
    gi_wp2
    gi_region
    gi_wp2
    refine ⟨by simp, .inl ⟨_, _, rfl, run_takeDeferred (w := W.drew) hK, ?_⟩⟩
    refine ⟨.tuple #[v, .int .i64 (lastE (xs.map Fr.told) : Nat)], by simp [results, Try.f18, go_sem], v, by rw [hle.out], ?_, ?_⟩
    · rw [← hmp.out]
      exact S_putObj (Kd.S_drew HS.out) hK rfl
    · exact (below_drew HBW.out).trans (belowK_b (w := w) (Nat.le_refl _) W.drew D _ _ (by omega) hK rfl rfl)
/-- frame.Scan -/
def frame_Scan.f (l0 : List Int) : Option (List (List Int) × Int) := if Bytes l0 ∧ l0.length < 1000000000000 then some ((scan (nats l0) 0).map fun x => ints x.1, (lastE (scan (nats l0) 0) : Nat)) else none
theorem frame_Scan.calls (A0 : Option Addr) (c0 : Nat) (l0 : List Int) (r1 : List (List Int)) (r2 : Int) (w : World) (hr0 : Kd.C (Kd.int .u8) w A0 l0.length l0) (hc0 : l0.length ≤ c0) (h : frame_Scan.f l0 = some (r1, r2)) :
    Calls Try.prog 18 #[.slice A0 l0.length c0] w fun e w' => ∃ v0_ : Value, e = .returned (.tuple #[v0_, .int .i64 r2]) ∧ Kd.S (Kd.slice 5 (Kd.int .u8)) 22 w' w.heap.size (fun _ => True) v0_ r1 ∧ Below w.heap.size w w' := by
  unfold frame_Scan.f at h
  by_cases hb : Bytes l0 ∧ l0.length < 1000000000000
  · rw [if_pos hb] at h
    obtain ⟨rfl, rfl⟩ : (scan (nats l0) 0).map (fun x => ints x.1) = r1 ∧ ((lastE (scan (nats l0) 0) : Nat) : Int) = r2 := by simpa using h
    have := callsIn_wide.1 (scan_in (nats l0) (nats_lt hb.1) (by rw [nats_length]; exact hb.2) A0 c0 (by rw [ints_nats hb.1]; exact hc0) w (by rw [ints_nats hb.1]; exact hr0))
    rw [ints_nats hb.1] at this
    exact this
  · rw [if_neg hb] at h
    exact absurd h (by simp)
end Go.Proofs.Ytgfkjjmlakolpaa.Q
