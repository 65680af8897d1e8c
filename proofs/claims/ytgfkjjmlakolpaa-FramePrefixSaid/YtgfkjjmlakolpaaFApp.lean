/- frame.Append: what it answers. -/
import Derived.Test.YtgfkjjmlakolpaaFNext
import Derived.Laws.MakeOwn
namespace Go.Proofs.Ytgfkjjmlakolpaa.Q
open Go.RowKit Go.Proofs.YtgfkjjmlakolpaaW.PrintWords Go.Proofs.YtgfkjjmlakolpaaW.PrintLast Go.Proofs.YtgfkjjmlakolpaaW.PrintMore
open Go.Proofs.Ytgfkjjmlakolpaa.Cr Go.Proofs.Ytgfkjjmlakolpaa.Evs Go.Proofs.Ytgfkjjmlakolpaa.Pure
set_option linter.unusedVariables false
def four (n : Nat) : List Nat := [n / 16777216 % 256, n / 65536 % 256, n / 256 % 256, n % 256]
theorem four_lt (n : Nat) : ∀ x ∈ four n, x < 256 := by
  intro x hx
  simp only [four, List.mem_cons, List.not_mem_nil, or_false] at hx
  omega
/-- The checksum in a frame, and a frame. -/
def fck (p : List Nat) : Nat := cup (csum (four p.length)) p
def frm (p : List Nat) : List Nat := [167, 60] ++ four p.length ++ four (fck p) ++ p
theorem fck_lt (p : List Nat) : fck p < 4294967296 := cup_lt _ _

theorem C_cells2 {w : World} {b t : Nat} {x y : Int} (h : w.heap[b]? = some (.cells #[.int .u8 x, .int .u8 y] t (0, 0))) : Kd.C (Kd.int .u8) w (some ⟨b, 0, none⟩) 2 [x, y] :=
  C_cells h (by intro j hj; rcases (show j = 0 ∨ j = 1 by simp at hj; omega) with rfl | rfl <;> rfl) (by simp)
theorem C_cells4 {w : World} {b t : Nat} {x y z u : Int} (h : w.heap[b]? = some (.cells #[.int .u8 x, .int .u8 y, .int .u8 z, .int .u8 u] t (0, 0))) : Kd.C (Kd.int .u8) w (some ⟨b, 0, none⟩) 4 [x, y, z, u] :=
  C_cells h (by intro j hj; rcases (show j = 0 ∨ j = 1 ∨ j = 2 ∨ j = 3 by simp at hj; omega) with rfl | rfl | rfl | rfl <;> rfl) (by simp)
set_option maxRecDepth 100000 in
set_option maxHeartbeats 2000000 in
theorem append_walk (A0 : Option Addr) (c0 : Nat) (l0 : List Int) (A1 : Option Addr) (c1 : Nat) (p : List Nat) (hp : ∀ x ∈ p, x < 256) (w : World) (hr0 : Kd.C (Kd.int .u8) w A0 l0.length l0) (hc0 : l0.length ≤ c0) (hr1 : Kd.C (Kd.int .u8) w A1 (ints p).length (ints p)) (hc1 : (ints p).length ≤ c1) (hl0 : l0.length ≤ 100000000000000) (hl1 : p.length ≤ 65536) :
    Calls Try.prog 10 #[.slice A0 l0.length c0, .slice A1 (ints p).length c1] w fun e w' => ∃ v0_ : Value, e = .returned (.tuple #[v0_, .int .i64 0]) ∧ Kd.R (Kd.int .u8) 5 w' w.heap.size (fun _ => True) v0_ (l0 ++ ints (frm p)) ∧ Below w.heap.size w w' := by
  have HR0 := Aside0.mk hr0
  have hb1 := bytes_ints hp
  have HLP := Lib.hid (ints_length p)
  obtain ⟨L, hL⟩ : ∃ L, L = (ints p).length := ⟨_, rfl⟩
  have hLp : L = p.length := hL.trans (ints_length p)
  have HLI := Lib.hid hL
  have HL := Lib.hid hLp
  rw [← hL] at hr1 hc1 ⊢
  have HR1 := Aside0.mk hr1
  have hl : L ≤ 65536 := by omega
  have c2b : decide ((65536 : Int) < (L : Int)) = false := decide_eq_false (by omega)
  have c2c : decide (65536 < L) = false := decide_eq_false (by omega)
  have hmod : (L : Int) % 4294967296 = (L : Int) := by omega
  have H4 := Lib.hid (show L < 4294967296 by omega)
  clear hr0 hr1
  obtain ⟨q0, e0⟩ : ∃ q, q = L / 16777216 % 256 := ⟨_, rfl⟩
  obtain ⟨q1, e1⟩ : ∃ q, q = L / 65536 % 256 := ⟨_, rfl⟩
  obtain ⟨q2, e2⟩ : ∃ q, q = L / 256 % 256 := ⟨_, rfl⟩
  obtain ⟨q3, e3⟩ : ∃ q, q = L % 256 := ⟨_, rfl⟩
  have k0 : q0 < 256 := by omega
  have k1 : q1 < 256 := by omega
  have k2 : q2 < 256 := by omega
  have k3 : q3 < 256 := by omega
  have k4 : L ≤ 4611686018427387904 := by omega
  have HF := Lib.hid (four_calls L H4.out)
  rw [← e0, ← e1, ← e2, ← e3] at HF
  obtain ⟨s, hs⟩ : ∃ s, s = fck p := ⟨_, rfl⟩
  have hsq : s = cup (csum [q0, q1, q2, q3]) (nats (ints p)) := by
    rw [hs, nats_ints, e0, e1, e2, e3, hLp]; rfl
  have HSUM : Hid (∀ W : World, Below w.heap.size w W → Calls Try.prog 27 #[.agg #[.int .u8 q0, .int .u8 q1, .int .u8 q2, .int .u8 q3], .slice A1 L c1] W fun e w' => e = .returned (.int .u32 s) ∧ Below W.heap.size W w') := Lib.hid (fun W hW => by
    have := fsum_calls q0 q1 q2 q3 A1 c1 (ints p) W (by rw [← HLI.out]; exact Kd.C_below HR1.out hW) (by rw [← HLI.out]; exact hc1) hb1 (by rw [← HLI.out]; exact k4) k0 k1 k2 k3
    rw [← HLI.out, ← hsq] at this
    exact this)
  have hsl : s < 4294967296 := hs ▸ fck_lt p
  obtain ⟨s0, f0⟩ : ∃ q, q = s / 16777216 % 256 := ⟨_, rfl⟩
  obtain ⟨s1, f1⟩ : ∃ q, q = s / 65536 % 256 := ⟨_, rfl⟩
  obtain ⟨s2, f2⟩ : ∃ q, q = s / 256 % 256 := ⟨_, rfl⟩
  obtain ⟨s3, f3⟩ : ∃ q, q = s % 256 := ⟨_, rfl⟩
  have HG := Lib.hid (four_calls s hsl)
  rw [← f0, ← f1, ← f2, ← f3] at HG
  have HQ : Hid (ints (four p.length) = [(q0 : Int), (q1 : Int), (q2 : Int), (q3 : Int)]) := Lib.hid (by rw [e0, e1, e2, e3, hLp]; rfl)
  have HT : Hid (ints (four (fck p)) = [(s0 : Int), (s1 : Int), (s2 : Int), (s3 : Int)]) := Lib.hid (by rw [f0, f1, f2, f3, hs]; rfl)
  obtain ⟨M1, hM1⟩ : ∃ M, M = l0.length + 10 := ⟨_, rfl⟩
  obtain ⟨M2, hM2⟩ : ∃ M, M = M1 + L := ⟨_, rfl⟩
  clear hs hsq
  have hw1 : IntKind.i64.wrap ((l0.length : Int) + 10) = (M1 : Int) := by rw [i64_w, wrap64]; omega
  have hw2 : IntKind.i64.wrap ((M1 : Int) + (L : Int)) = (M2 : Int) := by clear hw1; rw [i64_w, wrap64]; omega
  obtain ⟨i0, hi0, hiz, hsz, hby⟩ := info_parts info5
  have hmk : ∀ W : World, (Instr.makeSlice 22 (.int .i64 0) (.int .i64 (M2 : Int))).run Try.prog W = .ok (.slice (some ⟨W.heap.size, 0, none⟩) 0 M2) (W.alloc (.cells (madeCells (Value.int .u8 0).cells (M2 * 1)) 5)) := fun W => by
    clear hw1 hw2
    have := run_make W 22 5 i0 (.int .u8 0) Try.underlying22 hi0 hiz .i64 .i64 0 (M2 : Int) (by omega) (by omega) (by rw [hby]; omega) (by omega)
    rw [hsz] at this
    exact this
  have hZ : (madeCells (Value.int .u8 0).cells (M2 * 1)).size = M2 * 1 := by simp [madeCells]
  obtain ⟨Z, hZ1⟩ : ∃ Z, Z = madeCells (Value.int .u8 0).cells (M2 * 1) := ⟨_, rfl⟩
  rw [← hZ1] at hmk hZ
  clear hZ1 hi0 hiz hsz hby
  have HM1 : Hid (M2 ≤ 9223372036854775807 ∧ l0.length + 10 + L < 140737488355328) := Lib.hid (by clear hw1 hw2; omega)
  clear hM1 hM2
  clear k0 k1 k2 k3 k4 hL hLp hl hb1 hp hl0 hl1 e0 e1 e2 e3 f0 f1 f2 f3 hsl
  go_enter Try.func10, Try.ntmps10
  go_wp2_with (first | (go_at_call 25; refine (magic_calls _).mono ?_; rintro e w1 ⟨rfl, HB1⟩) | (go_at_call 26; (with_reducible refine (HF.out _).mono ?_); rintro e w2 ⟨rfl, HB2⟩; have HB3 := below_step HB1 HB2) | (go_at_call 27; (with_reducible refine (HSUM.out _ (below_alloc (below_alloc HB3 _) _)).mono ?_); rintro e w3 ⟨rfl, HB4⟩) | (go_at_call 26; (with_reducible refine (HG.out _).mono ?_); rintro e w4 ⟨rfl, HB5⟩))
  have HW3 := below_step (below_alloc (below_alloc HB3 (.cells #[.int .u8 167, .int .u8 60] 43)) (.cells #[.int .u8 q0, .int .u8 q1, .int .u8 q2, .int .u8 q3] 45)) HB4
  have HW4 := below_step HW3 HB5
  have BM := blk_alloc (blk_alloc (blk_below (blk_below (heap_alloc2_old w2 (.cells #[.int .u8 167, .int .u8 60] 43) (.cells #[.int .u8 q0, .int .u8 q1, .int .u8 q2, .int .u8 q3] 45)) HB4) HB5) (.cells #[.int .u8 s0, .int .u8 s1, .int .u8 s2, .int .u8 s3] 45)) (.cells Z 5)
  have BL := blk_alloc (blk_alloc (blk_below (blk_below (heap_alloc2_new w2 (.cells #[.int .u8 167, .int .u8 60] 43) (.cells #[.int .u8 q0, .int .u8 q1, .int .u8 q2, .int .u8 q3] 45)) HB4) HB5) (.cells #[.int .u8 s0, .int .u8 s1, .int .u8 s2, .int .u8 s3] 45)) (.cells Z 5)
  have BC := heap_alloc2_old w4 (.cells #[.int .u8 s0, .int .u8 s1, .int .u8 s2, .int .u8 s3] 45) (.cells Z 5)
  have BO := heap_alloc2_new w4 (.cells #[.int .u8 s0, .int .u8 s1, .int .u8 s2, .int .u8 s3] 45) (.cells Z 5)
  have HBW := below_alloc (below_alloc HW4 (.cells #[.int .u8 s0, .int .u8 s1, .int .u8 s2, .int .u8 s3] 45)) (.cells Z 5)
  have g1 : w2.heap.size < w4.heap.size := by
    have := blk_lt (blk_below (blk_below (heap_alloc2_old w2 (.cells #[.int .u8 167, .int .u8 60] 43) (.cells #[.int .u8 q0, .int .u8 q1, .int .u8 q2, .int .u8 q3] 45)) HB4) HB5)
    exact this
  have g2 : w2.heap.size + 1 < w4.heap.size := by
    have := blk_lt (blk_below (blk_below (heap_alloc2_new w2 (.cells #[.int .u8 167, .int .u8 60] 43) (.cells #[.int .u8 q0, .int .u8 q1, .int .u8 q2, .int .u8 q3] 45)) HB4) HB5)
    exact this
  have HO : Kd.R (Kd.int .u8) 5 ((w4.alloc (.cells #[.int .u8 s0, .int .u8 s1, .int .u8 s2, .int .u8 s3] 45)).alloc (.cells Z 5)) w.heap.size (fun k => k ≠ w2.heap.size ∧ k ≠ w2.heap.size + 1 ∧ k ≠ w4.heap.size) (.slice (some ⟨w4.heap.size + 1, 0, none⟩) 0 M2) [] := by
    refine ⟨fun k hk => ?_, [], ⟨rfl, .inr ⟨w4.heap.size + 1, M2, Z, rfl, ?_, BO, Nat.zero_le _, ?_, by rw [hZ]; rfl, by simp⟩⟩, Reps.none _ _⟩
    · simp only [Value.ownBlock, Option.some.injEq] at hk
      omega
    · have := HW4.size
      omega
    · exact HM1.out.1
  clear BO HB1 HB2 HB3 HB4 HB5 HW3 HW4 hmk hZ
  generalize (w4.alloc (.cells #[.int .u8 s0, .int .u8 s1, .int .u8 s2, .int .u8 s3] 45)).alloc (.cells Z 5) = W0 at BM BL BC HBW HO ⊢
  generalize w4.heap.size = gc at *
  generalize w2.heap.size = gm at *
  have HB0 := Aside0.mk (below_drew1 HBW)
  have HO0 := Aside0.mk (Kd.R_drew HO)
  have BM0 := Aside0.mk (blk_drew BM)
  have BL0 := Aside0.mk (blk_drew BL)
  have BC0 := Aside0.mk (blk_drew BC)
  clear HBW HO BM BL BC
  have hfr : ∀ (W : World) , gm < W.heap.size → gm + 1 < W.heap.size → gc < W.heap.size → ∀ k, W.heap.size ≤ k → k ≠ gm ∧ k ≠ gm + 1 ∧ k ≠ gc := fun W a b c k hk => by omega
  have hne0 : Hid (some gm ≠ (Value.slice (some ⟨gc + 1, 0, none⟩) 0 M2).ownBlock ∧ some (gm + 1) ≠ (Value.slice (some ⟨gc + 1, 0, none⟩) 0 M2).ownBlock ∧ some gc ≠ (Value.slice (some ⟨gc + 1, 0, none⟩) 0 M2).ownBlock) := Lib.hid (by
    have h := HO0.out.1
    refine ⟨fun e => (h gm e.symm).1 rfl, fun e => (h (gm + 1) e.symm).2.1 rfl, fun e => (h gc e.symm).2.2 rfl⟩)
  go_region_held3 (fun w' => True) (exact trivial) (first | (have hgd_ := hg1; clear hgd_; ((refine Kd.R_append_rows_step (Kd.int .u8) (w0 := w) w.heap.size (by rfl) (.tmp 31) (.tmp 32) 22 5 (.int .u8 0) 1 (by rfl) Try.underlying22 info5 rfl (by decide) (by omega) _ _ [167, 60] (some ⟨gm, 0, none⟩) 2 2 _ (fun _ => False) (by rfl) (by rfl) ho1 (C_cells2 (blk_grown BM0.out hg1 (hne0.out.1))) (fun _ _ h => h) (fun _ h => h.elim) (hfr _ (blk_lt (blk_grown BM0.out hg1 hne0.out.1)) (blk_lt (blk_grown BL0.out hg1 hne0.out.2.1)) (blk_lt (blk_grown BC0.out hg1 hne0.out.2.2))) hb1 hb1.size (by have := HM1.out; simp; omega) ?_; intro v2 W2 ho2 hb2 hg2 hat2))) | ((refine Kd.R_append_rows_step (Kd.int .u8) (w0 := w) w.heap.size (by rfl) (.tmp 29) (.tmp 30) 22 5 (.int .u8 0) 1 (by rfl) Try.underlying22 info5 rfl (by decide) (by omega) _ [] l0 A0 _ c0 _ (fun _ => False) (by rfl) (by rfl) HO0.out (Kd.C_below HR0.out HB0.out) (fun _ _ h => h) (fun _ h => h.elim) (hfr _ (blk_lt BM0.out) (blk_lt BL0.out) (blk_lt BC0.out)) HB0.out HB0.out.size (by have := HM1.out; simp; omega) ?_; intro v1 W1 ho1 hb1 hg1 hat1)))
  have hne1 : some gm ≠ v1.ownBlock ∧ some (gm + 1) ≠ v1.ownBlock ∧ some gc ≠ v1.ownBlock := by
    have h := ho1.1
    exact ⟨fun e => (h gm e.symm).1 rfl, fun e => (h (gm + 1) e.symm).2.1 rfl, fun e => (h gc e.symm).2.2 rfl⟩
  have hne2 : Hid (some gm ≠ v2.ownBlock ∧ some (gm + 1) ≠ v2.ownBlock ∧ some gc ≠ v2.ownBlock) := Lib.hid (by
    have h := ho2.1
    exact ⟨fun e => (h gm e.symm).1 rfl, fun e => (h (gm + 1) e.symm).2.1 rfl, fun e => (h gc e.symm).2.2 rfl⟩)
  have BM2 := Aside0.mk (blk_drew (blk_grown (blk_grown BM0.out hg1 hne0.out.1) hg2 hne1.1))
  have BL2 := Aside0.mk (blk_drew (blk_grown (blk_grown BL0.out hg1 hne0.out.2.1) hg2 hne1.2.1))
  have BC2 := Aside0.mk (blk_drew (blk_grown (blk_grown BC0.out hg1 hne0.out.2.2) hg2 hne1.2.2))
  have HO2 := Aside0.mk (Kd.R_drew ho2)
  have HB2 := Aside0.mk (below_drew1 hb2)
  clear hb1 hg1 hat1 ho1 hg2 hat2 hb2 ho2 hne1 hne0 BM0 BL0 BC0 HO0 HB0
  go_wp2_with fail
  go_region_held3 (fun w' => True) (exact trivial) (first | (have hgd_ := hg3; clear hgd_; ((refine Kd.R_append_rows_step (Kd.int .u8) (w0 := w) w.heap.size (by rfl) (.tmp 36) (.tmp 37) 22 5 (.int .u8 0) 1 (by rfl) Try.underlying22 info5 rfl (by decide) (by omega) _ _ [(s0 : Int), s1, s2, s3] (some ⟨gc, 0, none⟩) 4 4 _ (fun _ => False) (by rfl) (by rfl) ho3 (C_cells4 (blk_grown BC2.out hg3 hne2.out.2.2)) (fun _ _ h => h) (fun _ h => h.elim) (hfr _ (blk_lt (blk_grown BM2.out hg3 hne2.out.1)) (blk_lt (blk_grown BL2.out hg3 hne2.out.2.1)) (blk_lt (blk_grown BC2.out hg3 hne2.out.2.2))) hb3 hb3.size (by have := HM1.out; simp; omega) ?_; intro v4 W4 ho4 hb4 hg4 hat4))) | ((refine Kd.R_append_rows_step (Kd.int .u8) (w0 := w) w.heap.size (by rfl) (.tmp 34) (.tmp 35) 22 5 (.int .u8 0) 1 (by rfl) Try.underlying22 info5 rfl (by decide) (by omega) _ _ [(q0 : Int), q1, q2, q3] (some ⟨gm + 1, 0, none⟩) 4 4 _ (fun _ => False) (by rfl) (by rfl) HO2.out (C_cells4 BL2.out) (fun _ _ h => h) (fun _ h => h.elim) (hfr _ (blk_lt BM2.out) (blk_lt BL2.out) (blk_lt BC2.out)) HB2.out HB2.out.size (by have := HM1.out; simp; omega) ?_; intro v3 W3 ho3 hb3 hg3 hat3)))
  have HO4 := Aside0.mk ho4
  have HB4 := Aside0.mk hb4
  obtain ⟨y, hy⟩ : ∃ y : List Int, y = ((([] ++ l0) ++ [167, 60]) ++ [(q0 : Int), q1, q2, q3]) ++ [(s0 : Int), s1, s2, s3] := ⟨_, rfl⟩
  rw [← hy] at HO4
  have hyl : y.length = l0.length + 10 := by rw [hy]; simp
  have HY := Lib.hid hy
  obtain ⟨z, hz⟩ : ∃ z : List Int, z = y ++ ints p := ⟨_, rfl⟩
  have HZ := Lib.hid hz
  have HR2 := Aside0.mk (show Kd.C (Kd.int .u8) w A1 L (ints p) from HR1.out)
  have hlim : (y.length + L) * 1 ≤ 140737488355328 := by have := HM1.out; omega
  have HLM := Lib.hid hlim
  clear hy hyl hz hlim ho4 hb4 hg4 hat4 ho3 hb3 hg3 hat3 HO2 HB2 BM2 BL2 BC2 hne2
  go_wp2_with (first | ((with_reducible refine gate_builtin (b := .append) (xs := #[.tmp 39, .tmp 40]) rfl ?_); (try (refine gate_guard (by rfl) ?_; dsimp only)); at_builtin; refine Kd.R_append_rows (Kd.int .u8) (w0 := w) w.heap.size rfl (.tmp 39) (.tmp 40) 22 5 (.int .u8 0) 1 rfl Try.underlying22 info5 rfl (by decide) (by omega) v4 y (ints p) A1 L c1 (fun _ => True) (fun _ => False) rfl rfl ?aO ?aR (fun _ _ h => h) (fun _ h => h.elim) ?aF ?aB ?aS ?aL ?_; (case aR => exact Kd.C_below HR2.out HB4.out); (case aB => exact HB4.out); (case aF => exact (fun _ _ => trivial)); (case aO => exact Kd.R_mono HO4.out (fun _ _ => trivial)); (case aS => exact below_size HB4.out); (case aL => exact HLM.out); intro v5 W5 ho hb hg hat; rw [← HZ.out] at ho; have n0_ := Aside0.mk (hb); have n1_ := Aside0.mk (ho); have HB5 := n0_; have HO5 := n1_; clear n0_ n1_; clear ho hb hg hat))
  go_ret2
  have e : z = l0 ++ ints (frm p) := by
    rw [HZ.out, HY.out]
    unfold frm
    rw [ints_append, ints_append, ints_append, HQ.out, HT.out]
    simp [ints]
  rw [e] at HO5
  exact ⟨_, rfl, HO5.out, HB5.out⟩
def frame_Append.f (l0 : List Int) (l1 : List Int) : Option (List Int × Int) := if Bytes l1 ∧ l0.length ≤ 100000000000000 then (if 65536 < l1.length then some ([], 6) else some (l0 ++ ints (frm (nats l1)), 0)) else none
set_option maxRecDepth 100000 in
set_option maxHeartbeats 2000000 in
theorem frame_Append.calls (A0 : Option Addr) (c0 : Nat) (l0 : List Int) (A1 : Option Addr) (c1 : Nat) (l1 : List Int) (r1 : List Int) (r2 : Int) (w : World) (hr0 : Kd.C (Kd.int .u8) w A0 l0.length l0) (hc0 : l0.length ≤ c0) (hr1 : Kd.C (Kd.int .u8) w A1 l1.length l1) (hc1 : l1.length ≤ c1) (h : frame_Append.f l0 l1 = some (r1, r2)) :
    Calls Try.prog 10 #[.slice A0 l0.length c0, .slice A1 l1.length c1] w fun e w' => ∃ v0_ : Value, e = .returned (.tuple #[v0_, .int .i64 r2]) ∧ Kd.R (Kd.int .u8) 5 w' w.heap.size (fun _ => True) v0_ r1 ∧ Below w.heap.size w w' := by
  unfold frame_Append.f at h
  by_cases hb : Bytes l1 ∧ l0.length ≤ 100000000000000
  · rw [if_pos hb] at h
    by_cases hl : 65536 < l1.length
    · rw [if_pos hl] at h
      obtain ⟨rfl, rfl⟩ : ([] : List Int) = r1 ∧ (6 : Int) = r2 := by simpa using h
      have c2b : decide ((65536 : Int) < (l1.length : Int)) = true := decide_eq_true (by omega)
      have c2c : decide (65536 < l1.length) = true := decide_eq_true hl
      clear h hl hb hr0 hr1 hc0 hc1
      go_enter Try.func10, Try.ntmps10
      go_wp2
      go_ret2
      exact ⟨_, rfl, Kd.R_nil _ _ _ _ _, Below.refl _ _⟩
    · rw [if_neg hl] at h
      obtain ⟨rfl, rfl⟩ : l0 ++ ints (frm (nats l1)) = r1 ∧ (0 : Int) = r2 := by simpa using h
      have := append_walk A0 c0 l0 A1 c1 (nats l1) (nats_lt hb.1) w hr0 hc0 (by rw [ints_nats hb.1]; exact hr1) (by rw [ints_nats hb.1]; exact hc1) hb.2 (by rw [nats_length]; omega)
      rw [ints_nats hb.1] at this
      exact this
  · rw [if_neg hb] at h
    exact absurd h (by simp)
end Go.Proofs.Ytgfkjjmlakolpaa.Q
