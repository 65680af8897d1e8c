/- erasure.Split and Join: what they answer. -/
import Derived.Test.YtmlfpcnemganbaaEAwk
import Derived.Test.YtmlfpcnemganbaaClone
namespace Go.Proofs.Ytmlfpcnemganbaa.Q
open Go.RowKit Go.Proofs.YtmlfpcnemganbaaW.PrintWords Go.Proofs.YtmlfpcnemganbaaW.PrintLast Go.Proofs.YtmlfpcnemganbaaW.PrintMore
open Go.Proofs.Ytmlfpcnemganbaa.Gf Go.Proofs.Ytmlfpcnemganbaa.Lin Go.Proofs.Ytmlfpcnemganbaa.Evs
set_option linter.unusedVariables false
set_option linter.unnecessarySimpa false
/-- The bytes, filled up to n shards of s bytes. -/
def padL (b : List Int) (m : Nat) : List Int := b ++ List.replicate (m - b.length) 0
def cutL (b : List Int) (m s i : Nat) : List Int := ((padL b m).drop (i * s)).take s
def splitV (b : List Int) (n s j : Nat) : List (List Int) := (List.range j).map fun i => cutL b (n * s) s i
theorem padL_length {b : List Int} {m : Nat} (h : b.length ≤ m) : (padL b m).length = m := by unfold padL; rw [List.length_append, List.length_replicate]; omega
theorem splitV_length (b : List Int) (n s j : Nat) : (splitV b n s j).length = j := by unfold splitV; rw [List.length_map, List.length_range]
theorem splitV_snoc (b : List Int) (n s j : Nat) : splitV b n s j ++ [cutL b (n * s) s j] = splitV b n s (j + 1) := by
  unfold splitV
  rw [List.range_succ, List.map_append]
  rfl
theorem sizeof5 : (Try.prog.info? 5).map (·.size) = some 1 := by kernel_rfl
theorem clone_c {w : World} {A : Option Addr} {n c : Nat} {l : List Int} (h : Kd.C (Kd.int .u8) w A n l) (hc : n ≤ c) (hl : n ≤ 1000000) :
    Calls Try.prog 54 #[.slice A n c] w fun e w' => ∃ v, e = .returned v ∧ Kd.R (Kd.int .u8) 5 w' w.heap.size (fun _ => True) v l ∧ Below w.heap.size w w' := by
  obtain rfl := h.1
  exact bytes_Clone.calls A c l l w h hc (by unfold bytes_Clone.f; rw [if_pos (by omega)])
set_option maxRecDepth 100000 in
set_option maxHeartbeats 8000000 in
theorem split_walk {n s : Nat} (h1 : 1 ≤ n) (h2 : n ≤ 16) {b : List Int} (hb : b.length ≤ 100000) (hs : (b.length + n - 1) / n = s) {A0 : Option Addr} {c0 : Nat} (w : World) (h0 : BC w A0 b.length c0 b) :
    Calls Try.prog 27 #[.slice A0 b.length c0, .int .i64 (n : Nat)] w fun e w' => ∃ v, e = .returned (.tuple #[v, .int .i64 0]) ∧ Kd.S (Kd.slice 5 (Kd.int .u8)) 33 w' w.heap.size (fun _ => True) v (splitV b n s n) ∧ Below w.heap.size w w' := by
  have hm1 : b.length ≤ n * s := by
    have := Nat.div_add_mod (b.length + n - 1) n
    have h3 := Nat.mod_lt (b.length + n - 1) (show 0 < n by omega)
    rw [hs] at this
    omega
  have hm2 : n * s ≤ b.length + n := by
    have := Nat.div_add_mod (b.length + n - 1) n
    rw [hs] at this
    omega
  have hs2 : s ≤ 100016 := Nat.le_trans (Nat.le_mul_of_pos_left s (by omega)) (Nat.le_trans hm2 (by omega))
  have H0 := Aside0.mk h0
  have hd1 : decide ((n : Int) < 1) = false := decide_eq_false (by omega)
  have hd2 : decide ((16 : Int) < (n : Int)) = false := decide_eq_false (by omega)
  have hd3 : decide (16 < n) = false := decide_eq_false (by omega)
  have hd4 : ((n : Int) == 0) = false := beq_eq_false_iff_ne.2 (by omega)
  have hsI : ((b.length : Int) + (n : Int) - 1) / (n : Int) = (s : Int) := by
    have e : (b.length : Int) + (n : Int) - 1 = ((b.length + n - 1 : Nat) : Int) := by omega
    rw [e, ← Int.natCast_ediv, hs]
  have hmul : wrap64 ((n : Int) * (s : Int)) = ((n * s : Nat) : Int) := by
    rw [← Int.natCast_mul]
    generalize n * s = m at hm2
    unfold wrap64
    omega
  have HMUL := Lib.hid hmul
  have HB0 := Aside0.mk (Below.refl w.heap.size w)
  clear hmul hs h0
  go_enter Try.func27, Try.ntmps27
  go_wp2_with (first
    | ((with_reducible refine gate_dst (N := 26) rfl ?_); refine Kd.R_make (Kd.int .u8) (w0 := w) w.heap.size 5 rfl (N := 26) rfl 33 _ _ rfl ((n : Int) * (s : Int)) rfl rfl Try.underlying33 (.int .u8 0) 1 info5 rfl (by decide) (by omega) 0 (ok := fun _ => True) (okp := fun _ => True) rfl (fun _ hk => hk) trivial (by rw [← Int.natCast_mul]; omega) (by rw [← Int.natCast_mul, Int.toNat_natCast]; omega) HB0.out (Nat.le_refl _) ?_; intro v4 w4 ho4 hb4 hg4 hn4; rw [← Int.natCast_mul, Int.toNat_natCast] at ho4; have HO4 := Aside0.mk ho4; have HB4 := Aside0.mk hb4; clear ho4 hb4 hg4 hn4)
    | ((with_reducible refine gate_builtin (b := .copy) (xs := #[.tmp 27, .tmp 28]) rfl ?_); refine Kd.R_copy (0 : Int) (w0 := w) w.heap.size rfl (.tmp 27) (.tmp 28) 33 33 5 rfl Try.underlying33 sizeof5 v4 (List.replicate (n * s) 0) b A0 b.length c0 (fun _ => True) rfl rfl HO4.out (H0.out.below HB4.out).row HB4.out HB4.out.size ?_; intro w5 ho5 hb5 hg5; rw [List.length_replicate, Nat.min_eq_left hm1, List.take_of_length_le (Nat.le_refl _), List.drop_replicate] at ho5; have HO5 : Aside0 (Kd.R (Kd.int .u8) 5 w5 w.heap.size (fun _ => True) v4 (padL b (n * s))) := ⟨ho5⟩; have HB5 := Aside0.mk hb5; clear ho5 hb5 hg5))
  obtain ⟨A4, c4, e4⟩ := Kd.R_slice HO5.out
  rw [padL_length hm1] at e4
  subst e4
  have hr4 := (Kd.R_reads' HO5.out).2
  rw [padL_length hm1] at hr4
  have HBC : Aside0 (BC w5 A4 (n * s) c4 (padL b (n * s))) := ⟨⟨hr4.2, hr4.1⟩⟩
  clear hr4 HO4 HB4 HO5 HB0
  go_loopg [8, 31] (n + 1) (fun kq v8 v31 W => ∃ j : Nat, Hid (kq + j = n + 1) ∧ j ≤ n ∧ v31 = .int .i64 (j : Nat) ∧ Aside0 (Kd.S (Kd.slice 5 (Kd.int .u8)) 33 W w5.heap.size (fun _ => True) v8 (splitV b n s j)) ∧ Aside0 (Below w5.heap.size w5 W))
  case atStart => exact ⟨0, Lib.hid (by omega), Nat.zero_le _, rfl, ⟨Kd.S_nil _ _ _ _ _⟩, ⟨Below.refl _ _⟩⟩
  case round =>
    obtain ⟨j, HK, hjn, rfl, HO, HB⟩ := hrel
    by_cases hj : j < n
    · have hj1 : decide ((j : Int) < (n : Int)) = true := decide_eq_true (by omega)
      have hj2 : decide (j < n) = true := decide_eq_true hj
      have hj3 : (j : Int) < (n : Int) := by omega
      have hle : j * s + s ≤ n * s := by rw [← Nat.succ_mul]; exact Nat.mul_le_mul_right _ hj
      have hcutL : cutL b (n * s) s j = ((padL b (n * s)).drop (j * s)).take s := rfl
      have hpl := padL_length hm1
      have hw1 : wrap64 ((j : Int) * (s : Int)) = ((j * s : Nat) : Int) := by
        rw [← Int.natCast_mul]
        generalize j * s = a at hle
        unfold wrap64
        omega
      have hw2 : wrap64 (((j : Int) + 1) * (s : Int)) = ((j * s + s : Nat) : Int) := by
        rw [show ((j : Int) + 1) * (s : Int) = ((j * s + s : Nat) : Int) by rw [Int.add_mul, Int.one_mul, Int.natCast_add, Int.natCast_mul]]
        generalize j * s = a at hle
        unfold wrap64
        omega
      have hSN := splitV_snoc b n s j
      rw [hcutL] at hSN
      generalize j * s = a at hle hw1 hw2 hSN
      clear hcutL
      have hcl : (((padL b (n * s)).drop a).take s).length = s := by rw [List.length_take, List.length_drop, hpl]; omega
      have HCR : Aside0 (Kd.C (Kd.int .u8) wr (if c4 = a then A4 else A4.map (·.add a)) s (((padL b (n * s)).drop a).take s)) := ⟨by
        have h5 := (HBC.out.below HB.out).row
        have h6 : Kd.C (Kd.int .u8) wr A4 (padL b (n * s)).length (padL b (n * s)) := by rw [hpl]; exact h5
        have h7 := Kd.C_take (m := s) (Kd.C_drop (m := a) (c := c4) h6 (by rw [hpl]; omega) (by rw [hpl]; exact HBC.out.cap)) (by rw [List.length_drop, hpl]; omega)
        rw [hcl, show (Kd.int .u8).sz = 1 from rfl, Nat.mul_one] at h7
        exact h7⟩
      have hcc := HBC.out.cap
      have hcap : s ≤ c4 - a := by omega
      have HSN := Lib.hid hSN
      have HLL := Lib.hid (splitV_length b n s j)
      obtain ⟨row, hrow⟩ : ∃ row, row = ((padL b (n * s)).drop a).take s := ⟨_, rfl⟩
      rw [← hrow] at HCR HSN hcl
      have HCL := Lib.hid hcl
      clear hrow hcl hSN hpl
      by_cases hca : c4 = a
      · subst hca
        rw [if_pos rfl] at HCR
        go_wp2_with (first
          | (go_at_call 54; refine (clone_c (l := row) HCR.out (by clear hw1 hw2; omega) (by clear hw1 hw2; omega)).mono ?_; rintro e_ w7 ⟨v7, rfl, ho7, hb7⟩; have HO8 := Aside0.mk (Kd.S_elder' HO.out (Kd.R_base ho7) hb7); have HB7 : Aside0 (Below w5.heap.size w5 w7) := ⟨below_step HB.out hb7⟩; obtain ⟨Ao, co, eo⟩ := Kd.R_slice ho7; subst eo; have HV7 := Aside0.mk (Kd.R_lower ho7 HB.out.size); clear ho7 hb7)
          | ((with_reducible refine gate_builtin (b := .append) (xs := #[.tmp 34, .tmp 45]) rfl ?_); at_builtin; refine Kd.S_append (Kd.slice 5 (Kd.int .u8)) (w0 := w5) w5.heap.size rfl (.tmp 34) (.tmp 45) 22 33 (.slice none 0 0) 24 rfl Try.underlying22 info33 rfl (by decide) (by omega) u8 (splitV b n s j) row [.slice Ao row.length co] (fun _ => True) (fun k_ => some k_ = (.slice Ao row.length co : Value).ownBlock) rfl rfl ?aP (fun k_ hk_ => ((Kd.R_mono (ok' := fun k_ => ((fun _ => True)) k_ ∧ some k_ ≠ (u8 : Value).ownBlock) (Kd.R_apart' (HV7.out) (Kd.S_typed HO8.out) (by decide)) (fun k_ hk => ⟨trivial, hk.2⟩))).1 k_ hk_.symm) ?aF ?aO ?aB ?aS ?aL ?_; (case aP => exact Kd.M_row (Kd.R_mono (Kd.R_tight rfl (Kd.R_mono (ok' := fun k_ => ((fun _ => True)) k_ ∧ some k_ ≠ (u8 : Value).ownBlock) (Kd.R_apart' (HV7.out) (Kd.S_typed HO8.out) (by decide)) (fun k_ hk => ⟨trivial, hk.2⟩))) (fun _ h_ => h_))); (case aB => exact HB7.out); (case aF => exact (fun _ _ => trivial)); (case aO => exact Kd.S_mono HO8.out (fun k_ hk => ⟨trivial, fun e_ => hk.2 e_⟩)); (case aS => exact HB7.out.size); (case aL => rw [HLL.out]; omega); intro v9 w9 ho9 hb9 hg9 hat9; rw [HSN.out] at ho9; have HO9 := Aside0.mk ho9; have HB9 := Aside0.mk hb9; clear ho9 hb9 hg9 hat9))
        go_roundg (n + 1 - (j + 1))
        case measure => have := HK.out; clear hw1 hw2; omega
        case rel => exact ⟨j + 1, Lib.hid (by have := HK.out; clear hw1 hw2; omega), by omega, by go_num, HO9, HB9⟩
      · rw [if_neg hca] at HCR
        go_wp2_with (first
          | (go_at_call 54; refine (clone_c (l := row) HCR.out (by clear hw1 hw2; omega) (by clear hw1 hw2; omega)).mono ?_; rintro e_ w7 ⟨v7, rfl, ho7, hb7⟩; have HO8 := Aside0.mk (Kd.S_elder' HO.out (Kd.R_base ho7) hb7); have HB7 : Aside0 (Below w5.heap.size w5 w7) := ⟨below_step HB.out hb7⟩; obtain ⟨Ao, co, eo⟩ := Kd.R_slice ho7; subst eo; have HV7 := Aside0.mk (Kd.R_lower ho7 HB.out.size); clear ho7 hb7)
          | ((with_reducible refine gate_builtin (b := .append) (xs := #[.tmp 34, .tmp 45]) rfl ?_); at_builtin; refine Kd.S_append (Kd.slice 5 (Kd.int .u8)) (w0 := w5) w5.heap.size rfl (.tmp 34) (.tmp 45) 22 33 (.slice none 0 0) 24 rfl Try.underlying22 info33 rfl (by decide) (by omega) u8 (splitV b n s j) row [.slice Ao row.length co] (fun _ => True) (fun k_ => some k_ = (.slice Ao row.length co : Value).ownBlock) rfl rfl ?aP (fun k_ hk_ => ((Kd.R_mono (ok' := fun k_ => ((fun _ => True)) k_ ∧ some k_ ≠ (u8 : Value).ownBlock) (Kd.R_apart' (HV7.out) (Kd.S_typed HO8.out) (by decide)) (fun k_ hk => ⟨trivial, hk.2⟩))).1 k_ hk_.symm) ?aF ?aO ?aB ?aS ?aL ?_; (case aP => exact Kd.M_row (Kd.R_mono (Kd.R_tight rfl (Kd.R_mono (ok' := fun k_ => ((fun _ => True)) k_ ∧ some k_ ≠ (u8 : Value).ownBlock) (Kd.R_apart' (HV7.out) (Kd.S_typed HO8.out) (by decide)) (fun k_ hk => ⟨trivial, hk.2⟩))) (fun _ h_ => h_))); (case aB => exact HB7.out); (case aF => exact (fun _ _ => trivial)); (case aO => exact Kd.S_mono HO8.out (fun k_ hk => ⟨trivial, fun e_ => hk.2 e_⟩)); (case aS => exact HB7.out.size); (case aL => rw [HLL.out]; omega); intro v9 w9 ho9 hb9 hg9 hat9; rw [HSN.out] at ho9; have HO9 := Aside0.mk ho9; have HB9 := Aside0.mk hb9; clear ho9 hb9 hg9 hat9))
        go_roundg (n + 1 - (j + 1))
        case measure => have := HK.out; clear hw1 hw2; omega
        case rel => exact ⟨j + 1, Lib.hid (by have := HK.out; clear hw1 hw2; omega), by omega, by go_num, HO9, HB9⟩
    · have hj1 : decide ((j : Int) < (n : Int)) = false := decide_eq_false (by omega)
      have hj2 : decide (j < n) = false := decide_eq_false hj
      have e : n = j := by omega
      subst e
      go_wp2
      go_ret2
      exact ⟨_, rfl, Kd.S_lower HO.out HB5.out.size, below_step HB5.out HB.out⟩
set_option maxRecDepth 100000 in
set_option maxHeartbeats 4000000 in
theorem split_bad {p : Int} (hp : p < 1 ∨ 16 < p) {b : List Int} {A0 : Option Addr} {c0 n0 : Nat} (w : World) :
    Calls Try.prog 27 #[.slice A0 n0 c0, .int .i64 p] w fun e w' => e = .returned (.tuple #[nilV, .int .i64 7]) ∧ Below w.heap.size w w' := by
  rcases hp with hp | hp
  · have hd1 : decide (p < 1) = true := decide_eq_true hp
    go_enter Try.func27, Try.ntmps27
    go_wp2
    go_ret2
    exact ⟨rfl, Below.refl _ _⟩
  · have hd1 : decide (p < 1) = false := decide_eq_false (by omega)
    have hd2 : decide (16 < p) = true := decide_eq_true hp
    go_enter Try.func27, Try.ntmps27
    go_wp2
    go_ret2
    exact ⟨rfl, Below.refl _ _⟩
/-- The shards one behind the other, the first i of them. -/
def joinK (l : List (List Int)) (i : Nat) : List Int := (l.take i).flatten
theorem joinK_step {l : List (List Int)} {i : Nat} (h : i < l.length) : joinK l i ++ l.getD i [] = joinK l (i + 1) := by
  unfold joinK
  rw [List.take_succ_eq_append_getElem h, List.flatten_append, List.getD_eq_getElem?_getD, List.getElem?_eq_getElem h]
  simp
theorem joinK_len {l : List (List Int)} (hr : ∀ r ∈ l, r.length ≤ 1000) : ∀ i, i ≤ l.length → (joinK l i).length ≤ 1000 * i
  | 0, _ => by simp [joinK]
  | i + 1, h => by
    rw [← joinK_step (by omega), List.length_append, List.getD_eq_getElem?_getD, List.getElem?_eq_getElem (by omega), Option.getD_some]
    have h1 := joinK_len hr i (by omega)
    have h2 := hr l[i] (List.getElem_mem _)
    omega
def joinR (l : List (List Int)) (p : Int) : List Int × Int := if p < 0 then ([], 7) else if (l.flatten.length : Int) < p then ([], 2) else (l.flatten.take p.toNat, 0)
set_option maxRecDepth 100000 in
set_option maxHeartbeats 4000000 in
theorem join_walk {n c0 : Nat} {A0 : Option Addr} {l : List (List Int)} {p : Int} (w : World) (h0 : RC w A0 n c0 l) (hn : n ≤ 1000) (hr : ∀ r ∈ l, r.length ≤ 1000) :
    Calls Try.prog 29 #[.slice A0 n c0, .int .i64 p] w fun e w' => ∃ A c, e = .returned (.tuple #[.slice A (joinR l p).1.length c, .int .i64 (joinR l p).2]) ∧ BC w' A (joinR l p).1.length c (joinR l p).1 ∧ Below w.heap.size w w' := by
  have hlen := h0.len
  by_cases hp : p < 0
  · have hd1 : decide (p < 0) = true := decide_eq_true hp
    have hR : joinR l p = ([], 7) := if_pos hp
    rw [hR]
    go_enter Try.func29, Try.ntmps29
    go_wp2
    go_ret2
    exact ⟨none, 0, rfl, ⟨⟨rfl, Nat.zero_le _, fun h => absurd h (Nat.lt_irrefl _)⟩, Nat.le_refl _⟩, Below.refl _ _⟩
  · obtain ⟨m, rfl⟩ := Int.eq_ofNat_of_zero_le (show 0 ≤ p by omega)
    have hd1 : decide ((m : Int) < 0) = false := decide_eq_false (by omega)
    obtain ⟨us, hul, hcs, hrd⟩ := C_raw h0.row
    have HRD := Aside0.mk hrd
    have HCS := Aside0.mk hcs
    have HLEN := Lib.hid hlen
    have HJ : Aside0 (∀ i, i ≤ n → (joinK l i).length ≤ 1000 * i) := ⟨fun i hi => joinK_len hr i (by omega)⟩
    have HST : Aside0 (∀ i, i < n → joinK l i ++ l.getD i [] = joinK l (i + 1)) := ⟨fun i hi => joinK_step (by omega)⟩
    have HFL : Aside0 (joinK l n = l.flatten) := ⟨by unfold joinK; rw [List.take_of_length_le (by omega)]⟩
    have hlr : ∀ i, i < n → (l.getD i []).length ≤ 1000 := fun i hi => by
      rw [List.getD_eq_getElem?_getD, List.getElem?_eq_getElem (by omega)]
      exact hr _ (List.getElem_mem _)
    have HLR := Aside0.mk hlr
    clear hrd hcs hr hul hlr hlen
    go_enter Try.func29, Try.ntmps29
    go_wp2
    go_loopg [6, 13] (n + 1) (fun kq v6 v13 W => ∃ i : Nat, Hid (kq + i = n + 1) ∧ i ≤ n ∧ v13 = .int .i64 (i : Nat) ∧ Aside0 (Kd.R (Kd.int .u8) 5 W w.heap.size (fun _ => True) v6 (joinK l i)) ∧ Aside0 (Below w.heap.size w W))
    case atStart => exact ⟨0, Lib.hid (by omega), Nat.zero_le _, rfl, ⟨Kd.R_nil _ _ _ _ _⟩, ⟨Below.refl _ _⟩⟩
    case round =>
      obtain ⟨i, HK, hin, rfl, HO, HB⟩ := hrel
      by_cases hi : i < n
      · have hi1 : decide ((i : Int) < (n : Int)) = true := decide_eq_true (by omega)
        have hi2 : decide (i < n) = true := decide_eq_true hi
        have hi3 : (i : Int) < (n : Int) := by omega
        obtain ⟨ad, rfl, hx⟩ := HCS.out i hi
        obtain ⟨As, cs, es, hcs, hCs⟩ := HRD.out i hi
        rw [es] at hx
        replace hx := (HB.out.cell (World.block_lt_of_cell? w _ hx)).trans hx
        have hst := HST.out i hi
        have hlr := HLR.out i hi
        have hj := HJ.out i hin
        have HCSr := Aside0.mk (Kd.C_below hCs HB.out)
        generalize l.getD i [] = row at hx hst hlr HCSr
        have HSTI := Lib.hid hst
        clear hst es hcs hCs
        go_wp2_with (first | ((with_reducible refine gate_builtin (b := .append) (xs := #[.tmp 17, .tmp 18]) rfl ?_); at_builtin; refine Kd.R_append_rows (Kd.int .u8) (w0 := w) w.heap.size rfl (.tmp 17) (.tmp 18) 33 5 (.int .u8 0) 1 rfl Try.underlying33 info5 rfl (by decide) (by omega) u6 (joinK l i) row As row.length cs (fun _ => True) (fun _ => False) rfl rfl HO.out HCSr.out (fun _ _ h => h) (fun _ h => h.elim) (fun _ _ => trivial) HB.out HB.out.size (by omega) ?_; intro v7 w7 ho7 hb7 hg7 hat7; rw [HSTI.out] at ho7; have HO7 := Aside0.mk ho7; have HB7 := Aside0.mk hb7; clear ho7 hb7 hg7 hat7))
        go_roundg (n + 1 - (i + 1))
        case measure => have := HK.out; omega
        case rel => exact ⟨i + 1, Lib.hid (by have := HK.out; omega), by omega, by go_num, HO7, HB7⟩
      · have hi1 : decide ((i : Int) < (n : Int)) = false := decide_eq_false (by omega)
        have hi2 : decide (i < n) = false := decide_eq_false hi
        have e : n = i := by omega
        subst e
        have hO := HO.out
        rw [HFL.out] at hO
        have hj := HJ.out n (Nat.le_refl _)
        rw [HFL.out] at hj
        obtain ⟨A6, c6, e6⟩ := Kd.R_slice hO
        subst e6
        have hrd := (Kd.R_reads' hO).2
        generalize hF : l.flatten = F at hO hj hrd
        have HBCF : Aside0 (BC wr A6 F.length c6 F) := ⟨⟨hrd.2, hrd.1⟩⟩
        have hcF := hrd.1
        clear hO hrd HO
        by_cases hlt : F.length < m
        · have hR : joinR l (m : Int) = ([], 2) := by unfold joinR; rw [if_neg (by omega), hF, if_pos (by omega)]
          have hd2 : decide ((F.length : Int) < (m : Int)) = true := decide_eq_true (by omega)
          have hd3 : decide (F.length < m) = true := decide_eq_true hlt
          have HR := Lib.hid hR
          clear hR
          go_wp2
          go_ret2
          rw [HR.out]
          exact ⟨none, 0, rfl, ⟨⟨rfl, Nat.zero_le _, fun h => absurd h (Nat.lt_irrefl _)⟩, Nat.le_refl _⟩, HB.out⟩
        · have hR : joinR l (m : Int) = (F.take m, 0) := by unfold joinR; rw [if_neg (by omega), hF, if_neg (by omega), Int.toNat_natCast]
          have hd2 : decide ((F.length : Int) < (m : Int)) = false := decide_eq_false (by omega)
          have hd3 : decide (F.length < m) = false := decide_eq_false hlt
          have HR := Lib.hid hR
          have hm : m ≤ F.length := by omega
          have hmc : m ≤ c6 := by omega
          clear hR
          have hC := Kd.C_take (m := m) HBCF.out.row hm
          have hl : (F.take m).length = m := by rw [List.length_take]; omega
          rw [hl] at hC
          have HC := Aside0.mk hC
          have HL := Lib.hid hl
          clear hC hl
          go_wp2
          go_ret2
          rw [HR.out]
          dsimp only
          rw [HL.out]
          exact ⟨A6, m, rfl, ⟨HC.out, Nat.le_refl _⟩, HB.out⟩
end Go.Proofs.Ytmlfpcnemganbaa.Q
