/- matrix.Apply. -/
import Derived.Test.YtmlfpcnemganbaaMDot
namespace Go.Proofs.Ytmlfpcnemganbaa.Q
open Go.RowKit Go.Proofs.YtmlfpcnemganbaaW.PrintWords Go.Proofs.YtmlfpcnemganbaaW.PrintLast Go.Proofs.YtmlfpcnemganbaaW.PrintMore
open Go.Proofs.Ytmlfpcnemganbaa.Gf Go.Proofs.Ytmlfpcnemganbaa.Lin Go.Proofs.Ytmlfpcnemganbaa.Evs
set_option linter.unusedVariables false
set_option linter.unnecessarySimpa false
/-- A list of numbers. -/
abbrev vecL (x : Row) (C : Nat) : List Int := rowV (fun _ => x) 0 C
def toV (l : List Int) : Row := toM [l] 0
theorem toV_vec {l : List Int} (hb : Bytes l) : l = vecL (toV l) l.length := by
  have h := toM_rows (l := [l]) (C := l.length) (fun r hr => by rw [List.mem_singleton.1 hr]; exact hb) (fun r hr => by rw [List.mem_singleton.1 hr])
  have h2 := congrArg (fun x => x[0]?) h
  simp only [List.length_singleton] at h2
  rw [rowsL_get (by omega)] at h2
  have h3 : l = rowV (toM [l]) 0 l.length := Option.some.inj h2
  exact h3
set_option maxRecDepth 100000 in
set_option maxHeartbeats 4000000 in
theorem apply1_calls {C : Nat} {x : Row} (p : Addr) (A1 : Option Addr) (c1 : Nat) (W : World) (hv : Kd.C (Kd.int .u8) W A1 C (vecL x C)) (hp : W.cell? p = some (.slice A1 C c1)) (k : Nat) (hk : k < C) :
    Calls Try.prog 42 #[.int .i64 (k : Nat), .pointer (some p)] W fun e w' => e = .returned (.int .u8 ((x k).v : Int)) ∧ w' = W := by
  obtain ⟨ad, rfl, hx⟩ := Kd.at_int hv (k : Int) (by omega) (by omega)
  rw [rowV_rd hk, Int.toNat_natCast] at hx
  have h1 : (k : Int) < (C : Int) := by omega
  go_enter Try.func42, Try.ntmps42
  go_wp2
  go_ret
  exact ⟨rfl, rfl⟩
def appF (M : Mat) (C : Nat) (x : Row) : Row := fun i => sum C fun k => M i k * x k
theorem row_at {N C : Nat} {M : Mat} {ad : Addr} {W : World} (h : Kd.C (Kd.slice 5 (Kd.int .u8)) W (some ad) N (rowsL M N C)) {i : Nat} (hi : i < N) :
    ∃ (A : Option Addr) (c : Nat), W.cell? (ad.add i) = some (.slice A C c) ∧ C ≤ c ∧ Kd.C (Kd.int .u8) W A C (rowV M i C) := by
  obtain ⟨ad', A, c, ha, hx, hl, hr⟩ := at_L1 h (i : Int) (by omega) (by omega)
  cases ha
  have e : rd_L1 (rowsL M N C) (i : Int) = rowV M i C := rd_rows hi
  rw [e, rowV_length] at hx hl hr
  rw [Int.toNat_natCast] at hx
  exact ⟨A, c, hx, hl, hr⟩
theorem replicate_vec {x : Row} {N : Nat} (h : ∀ i, i < N → x i = 0) : List.replicate N (0 : Int) = vecL x N := by
  apply List.ext_getElem?
  intro i
  unfold vecL rowV
  by_cases hi : i < N
  · rw [List.getElem?_replicate, if_pos hi, List.getElem?_map, List.getElem?_range hi, Option.map_some]
    show some (0 : Int) = some ((x i).v : Int)
    rw [h i hi, zero_v]
    rfl
  · rw [List.getElem?_eq_none (by simp; omega), List.getElem?_eq_none (by simp; omega)]
theorem vecL_set {x y : Row} {N k : Nat} (g : GF) (h1 : y k = g) (h2 : ∀ i, i < N → i ≠ k → y i = x i) : (vecL x N).set k (g.v : Int) = vecL y N := by
  unfold vecL
  rw [rowV_set]
  exact rowV_congr fun c hc => by
    unfold updM
    rw [if_pos rfl]
    by_cases e : c = k
    · rw [if_pos e, e, h1]
    · rw [if_neg e, h2 c hc e]
def appK (M : Mat) (C : Nat) (x : Row) (k : Nat) : Row := fun i => if i < k then appF M C x i else 0
set_option maxRecDepth 100000 in
set_option maxHeartbeats 4000000 in
theorem apply_walk {N C : Nat} {M : Mat} {x : Row} (h1 : 1 ≤ N) (h2 : N ≤ 64) (h3 : 1 ≤ C) (h4 : C ≤ 64) (A0 : Option Addr) (c0 : Nat) (A1 : Option Addr) (c1 : Nat) (w : World)
    (hC : Kd.C (Kd.slice 5 (Kd.int .u8)) w A0 N (rowsL M N C)) (hc : N ≤ c0) (hV : Kd.C (Kd.int .u8) w A1 C (vecL x C)) :
    Calls Try.prog 15 #[.slice A0 N c0, .slice A1 C c1] w fun e w' => ∃ v, e = .returned (.tuple #[v, .bool true]) ∧ Kd.R (Kd.int .u8) 5 w' w.heap.size (fun _ => True) v (vecL (appF M C x) N) ∧ Below w.heap.size w w' := by
  obtain ⟨ad, A, c, rfl, hx⟩ := first_row h1 A0 w hC
  have HC := Aside0.mk hC
  have HV := Aside0.mk hV
  clear hC hV
  have hn0 : (0 : Int) < (N : Int) := by omega
  have hn1 : 0 < N := by omega
  go_enter Try.func15, Try.ntmps15
  go_wp2
  have HB1 : Aside0 (Below w.heap.size w (w.alloc (Obj.cells #[Value.slice A1 C c1] 33))) := ⟨by (with_reducible apply below_alloc); exact Below.refl _ _⟩
  have hp1 : (w.alloc (Obj.cells #[Value.slice A1 C c1] 33)).cell? ⟨w.heap.size, 0, none⟩ = some (.slice A1 C c1) := by go_simp
  have hx1 : (w.alloc (Obj.cells #[Value.slice A1 C c1] 33)).cell? ad = some (.slice A C c) := pw_cell_below HB1.out hx
  have hs1 : w.heap.size < (w.alloc (Obj.cells #[Value.slice A1 C c1] 33)).heap.size := by simp
  generalize w.alloc (Obj.cells #[Value.slice A1 C c1] 33) = w1 at HB1 hp1 hx1 hs1 ⊢
  go_region_law (go_simp; go_at_call 38; refine (valid_calls2 h1 h2 h3 h4 _ _ _ (Kd.C_below HC.out (by repeat (first | exact HB1.out | apply below_drew1 | apply pw_below_drewN | apply below_drew))) hc).mono ?_; rintro e_ w_ ⟨rfl, nv, rfl⟩)
  all_goals (
    have HB2 := HB1
    go_wp2_with (first | ((with_reducible refine gate_dst (N := 23) rfl ?_); refine Kd.R_make (Kd.int .u8) (w0 := w) w.heap.size 5 rfl (N := 23) rfl 33 _ _ rfl (N : Int) rfl rfl Try.underlying33 (.int .u8 0) 1 info5 rfl (by decide) (by omega) 0 (ok := fun _ => True) (okp := fun _ => True) rfl (fun _ hk => hk) trivial (by omega) (by rw [Int.toNat_natCast]; omega) (by repeat (first | exact HB1.out | apply below_drew1 | apply pw_below_drewN | apply below_drew)) (by simp; omega) ?_; intro v5 w5 hs5 hb5 hg5 hn5; rw [Int.toNat_natCast] at hs5; have hown5 := Kd.own_of_R hs5; rw [List.length_replicate] at hown5; obtain ⟨G, cap, rfl, _, _⟩ := World.ownsRow.form hown5 h1; have HO5 := Aside0.mk hown5; have HB5 := Aside0.mk hb5; have HG5 := Aside0.mk hg5; have HN5 := Aside0.mk hn5; clear hs5 hb5 hg5 hn5 hown5))
    have hG : Aside0 (w.heap.size ≤ G ∧ G ≠ w.heap.size) := ⟨⟨(own_block HO5.out).1, by
      obtain ⟨b, hb, hle⟩ := HN5.out
      have e5 : G = b := (by simpa [Value.ownBlock] using hb)
      have e6 : w1.heap.size ≤ b := (by simpa using hle)
      omega⟩⟩
    have hp5 : w5.cell? ⟨w.heap.size, 0, none⟩ = some (.slice A1 C c1) := HG5.out.cell (by simpa using hp1) (by simp)
    have HO0 : Aside0 (w5.ownsRow w.heap.size 5 1 (.slice (some ⟨G, 0, none⟩) N cap) N (nums .u8 (vecL (appK M C x 0) N))) := ⟨by
      rw [← replicate_vec (x := appK M C x 0) (fun i _ => if_neg (by omega))]
      exact HO5.out⟩
    clear HO5 HG5 HN5 HB1 hp1 hx1 hs1
    go_loopg [26] (N + 1) (fun kq v26 W => ∃ k : Nat, Hid (kq + k = N + 1) ∧ k ≤ N ∧ v26 = .int .i64 (k : Nat) ∧ Aside0 (W.ownsRow w.heap.size 5 1 (.slice (some ⟨G, 0, none⟩) N cap) N (nums .u8 (vecL (appK M C x k) N))) ∧ Aside0 (Below w.heap.size w W) ∧ W.cell? ⟨w.heap.size, 0, none⟩ = some (.slice A1 C c1))
    case atStart => exact ⟨0, Lib.hid (by omega), Nat.zero_le _, rfl, HO0, HB5, hp5⟩
    case round =>
      clear HO0 HB5 hp5
      obtain ⟨k, HK, hk, rfl, HO, HB, hp⟩ := hrel
      by_cases hkN : k < N
      · have hk1 : decide ((k : Int) < (N : Int)) = true := decide_eq_true (by omega)
        have hk2 : decide (k < N) = true := decide_eq_true hkN
        have hk3 : (k : Int) < (N : Int) := by omega
        have hCW := Kd.C_below HC.out HB.out
        obtain ⟨A2, c2, hx2, hc2, hr2⟩ := row_at hCW hkN
        have HR2 := Aside0.mk hr2
        obtain ⟨e3, e4⟩ := own_at HO.out (k : Int) (by omega) (by omega)
        rw [Int.toNat_natCast] at e3 e4
        have HVW := Aside0.mk (Kd.C_below HV.out HB.out)
        have HCL : ∀ (j n : Nat), j < C → Calls Try.prog 42 #[.int .i64 (j : Nat), .pointer (some ⟨w.heap.size, 0, none⟩)] (wr.drewN n) fun e W' => e = .returned (.int .u8 ((x j).v : Int)) ∧ ∃ n, W' = wr.drewN n := fun j n hj =>
          (apply1_calls (x := x) ⟨w.heap.size, 0, none⟩ A1 c1 (wr.drewN n) (Kd.C_below HVW.out (pw_below_drewN (Below.refl _ _) n)) hp j hj).mono fun e W' he => ⟨he.1, n, he.2⟩
        have HD := Aside0.mk (dot_walk (C := C) (by omega) (M k) x 42 #[.pointer (some ⟨w.heap.size, 0, none⟩)] (fun j => #[.int .i64 (j : Nat), .pointer (some ⟨w.heap.size, 0, none⟩)]) (fun _ => by simp) A2 c2 wr (rowV M k C) (fun j hj => rowV_rd hj) HR2.out Try.call42 HCL)
        clear hr2 hCW HCL
        go_wp2_with (first | (go_at_call 41; refine (HD.out).mono ?_; rintro e_ w_ ⟨rfl, nd, rfl⟩))
        go_roundg (N + 1 - (k + 1))
        case measure => have := HK.out; omega
        case rel =>
          have ho := (own_store (own_move (w1 := wr.drewN nd) HO.out (fun _ _ => rfl)) (k : Int) ((appF M C x k).v : Int)).1
          rw [Int.toNat_natCast, vecL_set (y := appK M C x (k + 1)) (appF M C x k) (if_pos (by omega)) (fun i _ hi => by
            unfold appK
            by_cases h : i < k
            · rw [if_pos h, if_pos (by omega)]
            · rw [if_neg h, if_neg (by omega)])] at ho
          have hb := (pw_below_drewN HB.out nd).setCell (p := ⟨G, k, none⟩) hG.out.1 (.int .u8 ((appF M C x k).v : Int))
          exact ⟨k + 1, Lib.hid (by have := HK.out; omega), by omega, by go_num, ⟨ho⟩, ⟨hb⟩, by rw [World.cell?_setCell_other _ _ _ _ (by have := hG.out.2; simpa using fun h => absurd h this)]; simpa using hp⟩
      · have hk1 : decide ((k : Int) < (N : Int)) = false := decide_eq_false (by omega)
        have hk2 : decide (k < N) = false := decide_eq_false hkN
        have e : k = N := by omega
        have HOF : Aside0 (wr.ownsRow w.heap.size 5 1 (.slice (some ⟨G, 0, none⟩) N cap) N (nums .u8 (vecL (appF M C x) N))) := ⟨by
          have h := HO.out
          rwa [e, show vecL (appK M C x N) N = vecL (appF M C x) N from rowV_congr fun c hc => if_pos hc] at h⟩
        clear e
        go_wp2
        go_ret2
        exact ⟨_, rfl, Kd.R_of_own (enc := Value.int .u8) (h1 := fun _ => rfl) (by rw [rowV_length]; exact HOF.out) (fun _ _ => trivial), HB.out⟩)
theorem valid_bad {l : List (List Int)} (hv : ¬ isV l) (A0 : Option Addr) (c0 : Nat) (w : World) (hC : Kd.C (Kd.slice 5 (Kd.int .u8)) w A0 l.length l) (hc : l.length ≤ c0) :
    Calls Try.prog 38 #[.slice A0 l.length c0] w fun e w' => e = .returned (.bool false) ∧ ∃ n, w' = w.drewN n := by
  have HV := valid_calls A0 c0 l w hC hc
  rwa [decide_eq_false hv] at HV
set_option maxRecDepth 100000 in
set_option maxHeartbeats 4000000 in
theorem apply_bad {l : List (List Int)} (hv : ¬ isV l) (A0 : Option Addr) (c0 : Nat) (A1 : Option Addr) (n1 c1 : Nat) (w : World) (hC : Kd.C (Kd.slice 5 (Kd.int .u8)) w A0 l.length l) (hc : l.length ≤ c0) :
    Calls Try.prog 15 #[.slice A0 l.length c0, .slice A1 n1 c1] w fun e w' => e = .returned (.tuple #[.slice none 0 0, .bool false]) ∧ Below w.heap.size w w' := by
  have HC := Aside0.mk hC
  have HVV := Aside0.mk hv
  clear hC hv
  go_enter Try.func15, Try.ntmps15
  go_wp2
  have HB1 : Aside0 (Below w.heap.size w (w.alloc (Obj.cells #[Value.slice A1 n1 c1] 33))) := ⟨by (with_reducible apply below_alloc); exact Below.refl _ _⟩
  generalize w.alloc (Obj.cells #[Value.slice A1 n1 c1] 33) = w1 at HB1 ⊢
  (first | (go_region_law (go_simp; go_at_call 38; refine (valid_bad HVV.out _ _ _ (Kd.C_below HC.out (by repeat (first | exact HB1.out | apply below_drew1 | apply pw_below_drewN | apply below_drew))) hc).mono ?_; rintro e_ w_ ⟨rfl, nv, rfl⟩)) | fail)
  all_goals (
    go_wp2
    go_ret2
    exact ⟨rfl, by repeat (first | exact HB1.out | apply below_drew1 | apply pw_below_drewN | apply below_drew)⟩)
set_option maxRecDepth 100000 in
set_option maxHeartbeats 4000000 in
theorem apply_rect {N C n1 : Nat} {M : Mat} (h1 : 1 ≤ N) (h2 : N ≤ 64) (h3 : 1 ≤ C) (h4 : C ≤ 64) (hne : C ≠ n1) (A0 : Option Addr) (c0 : Nat) (A1 : Option Addr) (c1 : Nat) (w : World)
    (hC : Kd.C (Kd.slice 5 (Kd.int .u8)) w A0 N (rowsL M N C)) (hc : N ≤ c0) :
    Calls Try.prog 15 #[.slice A0 N c0, .slice A1 n1 c1] w fun e w' => e = .returned (.tuple #[.slice none 0 0, .bool false]) ∧ Below w.heap.size w w' := by
  obtain ⟨ad, A, c, rfl, hx⟩ := first_row h1 A0 w hC
  have HC := Aside0.mk hC
  clear hC
  have hn0 : (0 : Int) < (N : Int) := by omega
  have hn1 : 0 < N := by omega
  have hx1 : ((C : Int) == (n1 : Int)) = false := beq_eq_false_iff_ne.2 (by omega)
  have hx2 : ((C : Int) != (n1 : Int)) = true := bne_iff_ne.2 (by omega)
  have hx3 : (C == n1) = false := beq_eq_false_iff_ne.2 hne
  have hx4 : (C != n1) = true := bne_iff_ne.2 hne
  clear hne
  go_enter Try.func15, Try.ntmps15
  go_wp2
  have HB1 : Aside0 (Below w.heap.size w (w.alloc (Obj.cells #[Value.slice A1 n1 c1] 33))) := ⟨by (with_reducible apply below_alloc); exact Below.refl _ _⟩
  have hp1 : (w.alloc (Obj.cells #[Value.slice A1 n1 c1] 33)).cell? ⟨w.heap.size, 0, none⟩ = some (.slice A1 n1 c1) := by go_simp
  have hy1 : (w.alloc (Obj.cells #[Value.slice A1 n1 c1] 33)).cell? ad = some (.slice A C c) := pw_cell_below HB1.out hx
  generalize w.alloc (Obj.cells #[Value.slice A1 n1 c1] 33) = w1 at HB1 hp1 hy1 ⊢
  go_region_law (go_simp; go_at_call 38; refine (valid_calls2 h1 h2 h3 h4 _ _ _ (Kd.C_below HC.out (by repeat (first | exact HB1.out | apply below_drew1 | apply pw_below_drewN | apply below_drew))) hc).mono ?_; rintro e_ w_ ⟨rfl, nv, rfl⟩)
  all_goals (
    go_wp2
    go_ret2
    exact ⟨rfl, by repeat (first | exact HB1.out | apply below_drew1 | apply pw_below_drewN | apply below_drew)⟩)
/-- What it answers. -/
def appR (l : List (List Int)) (v : List Int) : List Int × Bool :=
  if isV l ∧ wid l = v.length then (vecL (appF (toM l) (wid l) (toV v)) l.length, true) else ([], false)
def matrix_Apply.f (l : List (List Int)) (v : List Int) : Option (List Int × Bool) := if AllB l ∧ Bytes v then some (appR l v) else none
theorem matrix_Apply.calls (A0 : Option Addr) (c0 : Nat) (l0 : List (List Int)) (A1 : Option Addr) (c1 : Nat) (l1 : List Int) (r1 : List Int) (r2 : Bool) (w : World) (hr0 : Kd.C (Kd.slice 5 (Kd.int .u8)) w A0 l0.length l0) (hc0 : l0.length ≤ c0) (hr1 : Kd.C (Kd.int .u8) w A1 l1.length l1) (hc1 : l1.length ≤ c1) (h : matrix_Apply.f l0 l1 = some (r1, r2)) :
    Calls Try.prog 15 #[.slice A0 l0.length c0, .slice A1 l1.length c1] w fun e w' => ∃ v0_ : Value, e = .returned (.tuple #[v0_, .bool r2]) ∧ Kd.R (Kd.int .u8) 5 w' w.heap.size (fun _ => True) v0_ r1 ∧ Below w.heap.size w w' := by
  unfold matrix_Apply.f at h
  by_cases hb : AllB l0 ∧ Bytes l1
  · rw [if_pos hb] at h
    have h := Option.some.inj h
    unfold appR at h
    by_cases hv : isV l0
    · by_cases hsq : wid l0 = l1.length
      · rw [if_pos ⟨hv, hsq⟩] at h
        obtain ⟨rfl, rfl⟩ := Prod.mk.inj h
        have hW := apply_walk (N := l0.length) (C := wid l0) (M := toM l0) (x := toV l1) hv.1.1 hv.1.2 hv.2.1.1 hv.2.1.2 A0 c0 A1 c1 w (by rw [← toM_rows hb.1 hv.2.2]; exact hr0) hc0 (by rw [hsq, ← toV_vec hb.2]; exact hr1)
        rw [hsq] at hW ⊢
        exact hW
      · rw [if_neg (fun hh => hsq hh.2)] at h
        obtain ⟨rfl, rfl⟩ := Prod.mk.inj h
        exact (apply_rect (M := toM l0) hv.1.1 hv.1.2 hv.2.1.1 hv.2.1.2 hsq A0 c0 A1 c1 w (by rw [← toM_rows hb.1 hv.2.2]; exact hr0) hc0).mono fun e w' ⟨he, hbel⟩ => ⟨_, he, Kd.R_nil _ _ _ _ _, hbel⟩
    · rw [if_neg (fun hh => hv hh.1)] at h
      obtain ⟨rfl, rfl⟩ := Prod.mk.inj h
      exact (apply_bad hv A0 c0 A1 _ c1 w hr0 hc0).mono fun e w' ⟨he, hbel⟩ => ⟨_, he, Kd.R_nil _ _ _ _ _, hbel⟩
  · rw [if_neg hb] at h
    exact absurd h (by simp)
end Go.Proofs.Ytmlfpcnemganbaa.Q
