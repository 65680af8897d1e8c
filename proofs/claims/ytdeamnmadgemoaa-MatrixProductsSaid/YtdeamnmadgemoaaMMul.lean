/- matrix.Mul. -/
import Derived.Test.YtdeamnmadgemoaaMApp
namespace Go.Proofs.Ytdeamnmadgemoaa.Q
open Go.RowKit Go.Proofs.YtdeamnmadgemoaaW.PrintWords Go.Proofs.YtdeamnmadgemoaaW.PrintLast Go.Proofs.YtdeamnmadgemoaaW.PrintMore
open Go.Proofs.Ytdeamnmadgemoaa.Gf Go.Proofs.Ytdeamnmadgemoaa.Lin Go.Proofs.Ytdeamnmadgemoaa.Evs
set_option linter.unusedVariables false
set_option linter.unnecessarySimpa false
theorem empty_calls {N C : Nat} (h1 : 1 ≤ N) (h2 : N ≤ 64) (h3 : 1 ≤ C) (h4 : C ≤ 64) (w : World) :
    Calls Try.prog 32 #[.int .i64 (N : Nat), .int .i64 (C : Nat)] w fun e w' => ∃ (G cap : Nat) (g cp : Nat → Nat), e = .returned (.slice (some ⟨G, 0, none⟩) N cap) ∧ MatO w' w.heap.size G cap g cp N C (fun _ _ => 0) ∧ Below w.heap.size w w' := by
  obtain ⟨k, hk⟩ := Ev.rounds (empty_ev (N := N) (C := C) (by omega) (by omega))
  refine (matrix_empty.calls k _ _ _ w hk).mono fun e w' ⟨v, he, hS, hb⟩ => ?_
  obtain ⟨G, cap, g, cp, rfl, hm⟩ := MatO.of_S hS (by omega) (by omega)
  exact ⟨G, cap, g, cp, he, hm, hb⟩
set_option maxRecDepth 100000 in
set_option maxHeartbeats 4000000 in
theorem mul1_calls {K C : Nat} {M : Mat} (p q bd : Addr) (cb : Nat) (W : World) (hv : Kd.C (Kd.slice 5 (Kd.int .u8)) W (some bd) K (rowsL M K C)) (hp : W.cell? p = some (.slice (some bd) K cb)) {j : Nat} (hq : W.cell? q = some (.int .i64 (j : Nat))) (hj : j < C) (k : Nat) (hk : k < K) :
    Calls Try.prog 36 #[.int .i64 (k : Nat), .pointer (some p), .pointer (some q)] W fun e w' => e = .returned (.int .u8 ((M k j).v : Int)) ∧ ∃ n, w' = W.drewN n := by
  obtain ⟨A, c, hx, hc, hr⟩ := row_at hv hk
  obtain ⟨ad, rfl, hy⟩ := Kd.at_int hr (j : Int) (by omega) (by omega)
  rw [rowV_rd hj, Int.toNat_natCast] at hy
  have h1 : (k : Int) < (K : Int) := by omega
  have h2 : (j : Int) < (C : Int) := by omega
  clear hr
  go_enter Try.func36, Try.ntmps36
  go_wp2
  (first | go_region | fail)
  all_goals (
    go_wp2
    go_ret
    exact ⟨rfl, 1, rfl⟩)
def mulK (A B : Mat) (K i j : Nat) : Mat := fun r c => if r < i ∨ (r = i ∧ c < j) then mulF K A B r c else 0
theorem mulK_next (A B : Mat) (K N C i : Nat) : ∀ r, r < N → ∀ c, c < C → mulK A B K i C r c = mulK A B K (i + 1) 0 r c := fun r _ c hc => by
  unfold mulK
  by_cases h : r < i ∨ (r = i ∧ c < C)
  · rw [if_pos h, if_pos (by omega)]
  · rw [if_neg h, if_neg (by omega)]
theorem mulK_step (A B : Mat) (K i j : Nat) : updM (mulK A B K i j) i j (mulF K A B i j) = mulK A B K i (j + 1) := by
  funext r c
  unfold updM mulK
  by_cases h1 : r = i
  · rw [if_pos h1]
    by_cases h2 : c = j
    · rw [if_pos h2, if_pos (by omega), h1, h2]
    · rw [if_neg h2]
      by_cases h : r < i ∨ (r = i ∧ c < j)
      · rw [if_pos h, if_pos (by omega)]
      · rw [if_neg h, if_neg (by omega)]
  · rw [if_neg h1]
    by_cases h : r < i ∨ (r = i ∧ c < j)
    · rw [if_pos h, if_pos (by omega)]
    · rw [if_neg h, if_neg (by omega)]
theorem mulK_zero (A B : Mat) (K r c : Nat) : (0 : GF) = mulK A B K 0 0 r c := by
  unfold mulK
  rw [if_neg (by omega)]
set_option maxRecDepth 100000 in
set_option maxHeartbeats 4000000 in
theorem mul_walk {N K C : Nat} {A B : Mat} (h1 : 1 ≤ N) (h2 : N ≤ 64) (h3 : 1 ≤ K) (h4 : K ≤ 64) (h5 : 1 ≤ C) (h6 : C ≤ 64) (A0 : Option Addr) (c0 : Nat) (A1 : Option Addr) (c1 : Nat) (w : World)
    (hA : Kd.C (Kd.slice 5 (Kd.int .u8)) w A0 N (rowsL A N K)) (hc : N ≤ c0) (hB : Kd.C (Kd.slice 5 (Kd.int .u8)) w A1 K (rowsL B K C)) (hc1 : K ≤ c1) :
    Calls Try.prog 21 #[.slice A0 N c0, .slice A1 K c1] w fun e w' => ∃ v, e = .returned (.tuple #[v, .bool true]) ∧ Kd.S (Kd.slice 5 (Kd.int .u8)) 32 w' w.heap.size (fun _ => True) v (rowsL (mulF K A B) N C) ∧ Below w.heap.size w w' := by
  obtain ⟨ad, Ar, cr, rfl, hx⟩ := first_row h1 A0 w hA
  obtain ⟨bd, Br, br, rfl, hy⟩ := first_row h3 A1 w hB
  have HA := Aside0.mk hA
  have HBB := Aside0.mk hB
  clear hA hB
  have hn0 : (0 : Int) < (N : Int) := by omega
  have hn1 : 0 < N := by omega
  have hn2 : (0 : Int) < (K : Int) := by omega
  have hn3 : 0 < K := by omega
  go_enter Try.func21, Try.ntmps21
  go_wp2
  have HB1 : Aside0 (Below w.heap.size w (w.alloc (Obj.cells #[Value.slice (some bd) K c1] 22))) := ⟨by (with_reducible apply below_alloc); exact Below.refl _ _⟩
  have hp1 : (w.alloc (Obj.cells #[Value.slice (some bd) K c1] 22)).cell? ⟨w.heap.size, 0, none⟩ = some (.slice (some bd) K c1) := by go_simp
  have hx1 : (w.alloc (Obj.cells #[Value.slice (some bd) K c1] 22)).cell? ad = some (.slice Ar K cr) := pw_cell_below HB1.out hx
  have hy1 : (w.alloc (Obj.cells #[Value.slice (some bd) K c1] 22)).cell? bd = some (.slice Br C br) := pw_cell_below HB1.out hy
  have hs1 : w.heap.size < (w.alloc (Obj.cells #[Value.slice (some bd) K c1] 22)).heap.size := by simp
  generalize w.alloc (Obj.cells #[Value.slice (some bd) K c1] 22) = w1 at HB1 hp1 hx1 hy1 hs1 ⊢
  (first | (go_region_law (first | (go_simp; go_at_call 25; with_reducible refine (valid_calls2 h1 h2 h3 h4 (some ad) c0 _ (Kd.C_below HA.out (by repeat (first | exact HB1.out | apply below_drew1 | apply pw_below_drewN | apply below_drew))) hc).mono ?_; rintro e_ w_ ⟨rfl, nv, rfl⟩) | (go_simp; go_at_call 25; with_reducible refine (valid_calls2 h3 h4 h5 h6 (some bd) c1 _ (Kd.C_below HBB.out (by repeat (first | exact HB1.out | apply below_drew1 | apply pw_below_drewN | apply below_drew))) hc1).mono ?_; rintro e_ w_ ⟨rfl, nv2, rfl⟩))) | fail)
  all_goals (
    go_wp2_with (first | (go_at_call 32; refine (empty_calls h1 h2 h5 h6 _).mono ?_; rintro e_ w5 ⟨G, cap, g, cp, rfl, hm, hb⟩; have HM5 : Aside0 (MatO w5 w1.heap.size G cap g cp N C (fun _ _ => 0)) := ⟨hm⟩; have HBX : Aside0 (Below w1.heap.size w1 w5) := ⟨⟨hb.os, hb.tape, hb.output, hb.size, hb.block⟩⟩; clear hm hb))
    have hp5 : w5.cell? ⟨w.heap.size, 0, none⟩ = some (.slice (some bd) K c1) := pw_cell_below HBX.out hp1
    have HB5 : Aside0 (Below w.heap.size w w5) := ⟨HB1.out.trans (HBX.out.mono (by omega))⟩
    have HM0 : Aside0 (MatO w5 w1.heap.size G cap g cp N C (mulK A B K 0 0)) := ⟨HM5.out.agree (fun r _ c _ => mulK_zero A B K r c)⟩
    clear HM5 HBX HB1 hp1 hx1 hy1
    obtain ⟨z1, hz1⟩ : ∃ z, z = w1.heap.size := ⟨_, rfl⟩
    rw [← hz1] at HM0 hs1
    clear hz1
    go_loopg [36] (N + 1) (fun kq v36 W => ∃ i : Nat, Hid (kq + i = N + 1) ∧ i ≤ N ∧ v36 = .int .i64 (i : Nat) ∧ Aside0 (MatO W z1 G cap g cp N C (mulK A B K i 0)) ∧ Aside0 (Below w.heap.size w W) ∧ W.cell? ⟨w.heap.size, 0, none⟩ = some (.slice (some bd) K c1))
    case atStart => exact ⟨0, Lib.hid (by omega), Nat.zero_le _, rfl, HM0, HB5, hp5⟩
    case round =>
      clear HM0 HB5 hp5
      obtain ⟨i, HK, hi, rfl, HM, HB, hp⟩ := hrel
      by_cases hiN : i < N
      · have hi1 : decide ((i : Int) < (N : Int)) = true := decide_eq_true (by omega)
        have hi2 : decide (i < N) = true := decide_eq_true hiN
        have hi3 : (i : Int) < (N : Int) := by omega
        obtain ⟨A2, c2, hx0, hc2, hr2⟩ := row_at HA.out hiN
        have hx2 := pw_cell_below HB.out hx0
        obtain ⟨o1, o2⟩ := HM.out.outerCell hiN
        have HR2 := Aside0.mk hr2
        clear hr2 hx0
        go_wp2
        go_loopg [46] (C + 1) (fun kq2 v46 W => ∃ j : Nat, Hid (kq2 + j = C + 1) ∧ j ≤ C ∧ v46 = .int .i64 (j : Nat) ∧ Aside0 (MatO W z1 G cap g cp N C (mulK A B K i j)) ∧ Aside0 (Below w.heap.size w W) ∧ W.cell? ⟨w.heap.size, 0, none⟩ = some (.slice (some bd) K c1))
        case atStart => exact ⟨0, Lib.hid (by omega), Nat.zero_le _, rfl, HM, HB, hp⟩
        case round =>
          clear HM HB hp o1 o2 hx2
          obtain ⟨j, HK2, hj, rfl, HM, HB, hp⟩ := hrel
          by_cases hjC : j < C
          · have hj1 : decide ((j : Int) < (C : Int)) = true := decide_eq_true (by omega)
            have hj2 : decide (j < C) = true := decide_eq_true hjC
            have hj3 : (j : Int) < (C : Int) := by omega
            go_wp2
            have HBJ : Aside0 (Below wr.heap.size wr (wr.alloc (Obj.cells #[Value.int IntKind.i64 (j : Nat)] 3))) := ⟨by (with_reducible apply below_alloc); exact Below.refl _ _⟩
            have hq : (wr.alloc (Obj.cells #[Value.int IntKind.i64 (j : Nat)] 3)).cell? ⟨wr.heap.size, 0, none⟩ = some (.int .i64 (j : Nat)) := by go_simp
            have hpJ := pw_cell_below HBJ.out hp
            have HMJ := Aside0.mk (HM.out.below HBJ.out)
            have HBW : Aside0 (Below w.heap.size w (wr.alloc (Obj.cells #[Value.int IntKind.i64 (j : Nat)] 3))) := ⟨HB.out.trans (HBJ.out.mono HB.out.size)⟩
            obtain ⟨q, hqe⟩ : ∃ q : Addr, q = ⟨wr.heap.size, 0, none⟩ := ⟨_, rfl⟩
            rw [← hqe] at hq ⊢
            clear HBJ hqe HM HB hp
            generalize wr.alloc (Obj.cells #[Value.int IntKind.i64 (j : Nat)] 3) = w2 at hq hpJ HMJ HBW ⊢
            obtain ⟨o1, o2⟩ := HMJ.out.outerCell hiN
            obtain ⟨o3, o4⟩ := HMJ.out.elt hiN hjC
            have HD : Aside0 (∀ nn : Nat, Calls Try.prog 35 #[.slice A2 K c2, .func (.func 36) #[] #[.pointer (some ⟨w.heap.size, 0, none⟩), .pointer (some q)]] (w2.drewN nn) fun e w' => e = .returned (.int .u8 ((sum K fun k => A i k * B k j).v : Int)) ∧ ∃ n, w' = w2.drewN n) := ⟨fun nn => by
              have HCL : ∀ (k n : Nat), k < K → Calls Try.prog 36 #[.int .i64 (k : Nat), .pointer (some ⟨w.heap.size, 0, none⟩), .pointer (some q)] ((w2.drewN nn).drewN n) fun e W' => e = .returned (.int .u8 ((B k j).v : Int)) ∧ ∃ n, W' = (w2.drewN nn).drewN n := fun k n hk =>
                (mul1_calls (M := B) ⟨w.heap.size, 0, none⟩ q bd c1 ((w2.drewN nn).drewN n) (Kd.C_below HBB.out (pw_below_drewN (pw_below_drewN HBW.out nn) n)) hpJ hq hjC k hk).mono fun e W' he => ⟨he.1, he.2.elim fun m hm => ⟨n + m, by rw [hm, World.drewN_drewN]⟩⟩
              exact (dot_walk (C := K) (by omega) (A i) (fun k => B k j) 36 #[.pointer (some ⟨w.heap.size, 0, none⟩), .pointer (some q)] (fun k => #[.int .i64 (k : Nat), .pointer (some ⟨w.heap.size, 0, none⟩), .pointer (some q)]) (fun _ => by simp) A2 c2 (w2.drewN nn) (rowV A i K) (fun k hk => rowV_rd hk) (Kd.C_below HR2.out (pw_below_drewN HBW.out nn)) Try.call36 HCL).mono fun e W' he => ⟨he.1, he.2.elim fun m hm => ⟨nn + m, by rw [hm, World.drewN_drewN]⟩⟩⟩
            go_region_law (go_simp; go_at_call 35; (first | (refine (HD.out _).mono ?_) | (refine (HD.out 1).mono ?_)); rintro e_ w_ ⟨rfl, nd, rfl⟩)
            all_goals (
              go_wp2
              go_roundg (C + 1 - (j + 1))
              case measure => have := HK2.out; omega
              case rel =>
                have hm := HMJ.out.setElt (x := sum K fun k => A i k * B k j) j hiN
                have hgi := (own_block (HMJ.out.inner i hiN)).1
                have hb := HBW.out.setCell (p := ⟨g i, j, none⟩) (show w.heap.size ≤ g i by omega) (.int .u8 ((sum K fun k => A i k * B k j).v : Int))
                have hm2 := (show MatO _ z1 G cap g cp N C (mulK A B K i (j + 1)) by rw [← mulK_step]; exact hm)
                exact ⟨j + 1, Lib.hid (by have := HK2.out; omega), by omega, by go_num, ⟨hm2.step rfl (fun _ _ => rfl)⟩, ⟨⟨hb.os, hb.tape, hb.output, hb.size, hb.block⟩⟩, (World.cell?_setCell_other _ _ _ _ (fun e => by { have e1 : g i = w.heap.size := congrArg Addr.block e; omega })).trans hpJ⟩)
          · have hj1 : decide ((j : Int) < (C : Int)) = false := decide_eq_false (by omega)
            have hj2 : decide (j < C) = false := decide_eq_false hjC
            have HMN : Aside0 (MatO wr z1 G cap g cp N C (mulK A B K (i + 1) 0)) := ⟨HM.out.agree (by rw [show j = C by omega]; exact mulK_next A B K N C i)⟩
            go_wp2
            go_roundg (N + 1 - (i + 1))
            case measure => have := HK.out; omega
            case rel => exact ⟨i + 1, Lib.hid (by have := HK.out; omega), by omega, by go_num, HMN, HB, hp⟩
      · have hi1 : decide ((i : Int) < (N : Int)) = false := decide_eq_false (by omega)
        have hi2 : decide (i < N) = false := decide_eq_false hiN
        have HMF : Aside0 (MatO wr z1 G cap g cp N C (mulF K A B)) := ⟨HM.out.agree (fun r hr c _ => by unfold mulK; rw [if_pos (by omega)])⟩
        go_wp2
        go_ret2
        exact ⟨_, rfl, Kd.S_lower HMF.out.to_S (by omega), HB.out⟩)
set_option maxRecDepth 100000 in
set_option maxHeartbeats 4000000 in
theorem mul_bad {l : List (List Int)} (hv : ¬ isV l) (A0 : Option Addr) (c0 : Nat) (A1 : Option Addr) (n1 c1 : Nat) (w : World) (hC : Kd.C (Kd.slice 5 (Kd.int .u8)) w A0 l.length l) (hc : l.length ≤ c0) :
    Calls Try.prog 21 #[.slice A0 l.length c0, .slice A1 n1 c1] w fun e w' => e = .returned (.tuple #[.slice none 0 0, .bool false]) ∧ Below w.heap.size w w' := by
  have HC := Aside0.mk hC
  have HVV := Aside0.mk hv
  clear hC hv
  go_enter Try.func21, Try.ntmps21
  go_wp2
  have HB1 : Aside0 (Below w.heap.size w (w.alloc (Obj.cells #[Value.slice A1 n1 c1] 22))) := ⟨by (with_reducible apply below_alloc); exact Below.refl _ _⟩
  generalize w.alloc (Obj.cells #[Value.slice A1 n1 c1] 22) = w1 at HB1 ⊢
  (first | (go_region_law (go_simp; go_at_call 25; refine (valid_bad HVV.out _ _ _ (Kd.C_below HC.out (by repeat (first | exact HB1.out | apply below_drew1 | apply pw_below_drewN | apply below_drew))) hc).mono ?_; rintro e_ w_ ⟨rfl, nv, rfl⟩)) | fail)
  all_goals (
    go_wp2
    go_ret2
    exact ⟨rfl, by repeat (first | exact HB1.out | apply below_drew1 | apply pw_below_drewN | apply below_drew)⟩)
set_option maxRecDepth 100000 in
set_option maxHeartbeats 4000000 in
theorem mul_bad2 {N K : Nat} {A : Mat} {l : List (List Int)} (h1 : 1 ≤ N) (h2 : N ≤ 64) (h3 : 1 ≤ K) (h4 : K ≤ 64) (hv : ¬ isV l) (A0 : Option Addr) (c0 : Nat) (A1 : Option Addr) (c1 : Nat) (w : World)
    (hA : Kd.C (Kd.slice 5 (Kd.int .u8)) w A0 N (rowsL A N K)) (hc : N ≤ c0) (hB : Kd.C (Kd.slice 5 (Kd.int .u8)) w A1 l.length l) (hc1 : l.length ≤ c1) :
    Calls Try.prog 21 #[.slice A0 N c0, .slice A1 l.length c1] w fun e w' => e = .returned (.tuple #[.slice none 0 0, .bool false]) ∧ Below w.heap.size w w' := by
  have HA := Aside0.mk hA
  have HBB := Aside0.mk hB
  have HVV := Aside0.mk hv
  clear hA hB hv
  go_enter Try.func21, Try.ntmps21
  go_wp2
  have HB1 : Aside0 (Below w.heap.size w (w.alloc (Obj.cells #[Value.slice A1 l.length c1] 22))) := ⟨by (with_reducible apply below_alloc); exact Below.refl _ _⟩
  have hp1 : (w.alloc (Obj.cells #[Value.slice A1 l.length c1] 22)).cell? ⟨w.heap.size, 0, none⟩ = some (.slice A1 l.length c1) := by go_simp
  generalize w.alloc (Obj.cells #[Value.slice A1 l.length c1] 22) = w1 at HB1 hp1 ⊢
  (first | (go_region_law (first | (go_simp; go_at_call 25; with_reducible refine (valid_calls2 h1 h2 h3 h4 A0 c0 _ (Kd.C_below HA.out (by repeat (first | exact HB1.out | apply below_drew1 | apply pw_below_drewN | apply below_drew))) hc).mono ?_; rintro e_ w_ ⟨rfl, nv, rfl⟩) | (go_simp; go_at_call 25; with_reducible refine (valid_bad HVV.out A1 c1 _ (Kd.C_below HBB.out (by repeat (first | exact HB1.out | apply below_drew1 | apply pw_below_drewN | apply below_drew))) hc1).mono ?_; rintro e_ w_ ⟨rfl, nv2, rfl⟩))) | fail)
  all_goals (
    go_wp2
    go_ret2
    exact ⟨rfl, by repeat (first | exact HB1.out | apply below_drew1 | apply pw_below_drewN | apply below_drew)⟩)
set_option maxRecDepth 100000 in
set_option maxHeartbeats 4000000 in
theorem mul_rect {N K K2 C : Nat} {A B : Mat} (h1 : 1 ≤ N) (h2 : N ≤ 64) (h3 : 1 ≤ K) (h4 : K ≤ 64) (h7 : 1 ≤ K2) (h8 : K2 ≤ 64) (h5 : 1 ≤ C) (h6 : C ≤ 64) (hne : K ≠ K2) (A0 : Option Addr) (c0 : Nat) (A1 : Option Addr) (c1 : Nat) (w : World)
    (hA : Kd.C (Kd.slice 5 (Kd.int .u8)) w A0 N (rowsL A N K)) (hc : N ≤ c0) (hB : Kd.C (Kd.slice 5 (Kd.int .u8)) w A1 K2 (rowsL B K2 C)) (hc1 : K2 ≤ c1) :
    Calls Try.prog 21 #[.slice A0 N c0, .slice A1 K2 c1] w fun e w' => e = .returned (.tuple #[.slice none 0 0, .bool false]) ∧ Below w.heap.size w w' := by
  obtain ⟨ad, Ar, cr, rfl, hx⟩ := first_row h1 A0 w hA
  obtain ⟨bd, Br, br, rfl, hy⟩ := first_row h7 A1 w hB
  have HA := Aside0.mk hA
  have HBB := Aside0.mk hB
  clear hA hB
  have hn0 : (0 : Int) < (N : Int) := by omega
  have hn1 : 0 < N := by omega
  have hx1 : ((K : Int) == (K2 : Int)) = false := beq_eq_false_iff_ne.2 (by omega)
  have hx2 : ((K : Int) != (K2 : Int)) = true := bne_iff_ne.2 (by omega)
  have hx3 : (K == K2) = false := beq_eq_false_iff_ne.2 hne
  have hx4 : (K != K2) = true := bne_iff_ne.2 hne
  clear hne
  go_enter Try.func21, Try.ntmps21
  go_wp2
  have HB1 : Aside0 (Below w.heap.size w (w.alloc (Obj.cells #[Value.slice (some bd) K2 c1] 22))) := ⟨by (with_reducible apply below_alloc); exact Below.refl _ _⟩
  have hp1 : (w.alloc (Obj.cells #[Value.slice (some bd) K2 c1] 22)).cell? ⟨w.heap.size, 0, none⟩ = some (.slice (some bd) K2 c1) := by go_simp
  have hxx : (w.alloc (Obj.cells #[Value.slice (some bd) K2 c1] 22)).cell? ad = some (.slice Ar K cr) := pw_cell_below HB1.out hx
  generalize w.alloc (Obj.cells #[Value.slice (some bd) K2 c1] 22) = w1 at HB1 hp1 hxx ⊢
  (first | (go_region_law (first | (go_simp; go_at_call 25; with_reducible refine (valid_calls2 h1 h2 h3 h4 (some ad) c0 _ (Kd.C_below HA.out (by repeat (first | exact HB1.out | apply below_drew1 | apply pw_below_drewN | apply below_drew))) hc).mono ?_; rintro e_ w_ ⟨rfl, nv, rfl⟩) | (go_simp; go_at_call 25; with_reducible refine (valid_calls2 h7 h8 h5 h6 (some bd) c1 _ (Kd.C_below HBB.out (by repeat (first | exact HB1.out | apply below_drew1 | apply pw_below_drewN | apply below_drew))) hc1).mono ?_; rintro e_ w_ ⟨rfl, nv2, rfl⟩))) | fail)
  all_goals (
    go_wp2
    go_ret2
    exact ⟨rfl, by repeat (first | exact HB1.out | apply below_drew1 | apply pw_below_drewN | apply below_drew)⟩)
/-- What it answers. -/
def mulR (l m : List (List Int)) : List (List Int) × Bool :=
  if isV l ∧ isV m ∧ wid l = m.length then (rowsL (mulF (wid l) (toM l) (toM m)) l.length (wid m), true) else ([], false)
def matrix_Mul.f (l m : List (List Int)) : Option (List (List Int) × Bool) := if AllB l ∧ AllB m then some (mulR l m) else none
theorem matrix_Mul.calls (A0 : Option Addr) (c0 : Nat) (l0 : List (List Int)) (A1 : Option Addr) (c1 : Nat) (l1 : List (List Int)) (r1 : List (List Int)) (r2 : Bool) (w : World) (hr0 : Kd.C (Kd.slice 5 (Kd.int .u8)) w A0 l0.length l0) (hc0 : l0.length ≤ c0) (hr1 : Kd.C (Kd.slice 5 (Kd.int .u8)) w A1 l1.length l1) (hc1 : l1.length ≤ c1) (h : matrix_Mul.f l0 l1 = some (r1, r2)) :
    Calls Try.prog 21 #[.slice A0 l0.length c0, .slice A1 l1.length c1] w fun e w' => ∃ v0_ : Value, e = .returned (.tuple #[v0_, .bool r2]) ∧ Kd.S (Kd.slice 5 (Kd.int .u8)) 32 w' w.heap.size (fun _ => True) v0_ r1 ∧ Below w.heap.size w w' := by
  unfold matrix_Mul.f at h
  by_cases hb : AllB l0 ∧ AllB l1
  · rw [if_pos hb] at h
    have h := Option.some.inj h
    unfold mulR at h
    by_cases hv : isV l0
    · have hr0' : Kd.C (Kd.slice 5 (Kd.int .u8)) w A0 l0.length (rowsL (toM l0) l0.length (wid l0)) := by rw [← toM_rows hb.1 hv.2.2]; exact hr0
      by_cases hv1 : isV l1
      · have hr1' : Kd.C (Kd.slice 5 (Kd.int .u8)) w A1 l1.length (rowsL (toM l1) l1.length (wid l1)) := by rw [← toM_rows hb.2 hv1.2.2]; exact hr1
        by_cases hsq : wid l0 = l1.length
        · rw [if_pos ⟨hv, hv1, hsq⟩] at h
          obtain ⟨rfl, rfl⟩ := Prod.mk.inj h
          rw [hsq] at hr0' ⊢
          exact mul_walk hv.1.1 hv.1.2 hv1.1.1 hv1.1.2 hv1.2.1.1 hv1.2.1.2 A0 c0 A1 c1 w hr0' hc0 hr1' hc1
        · rw [if_neg (fun hh => hsq hh.2.2)] at h
          obtain ⟨rfl, rfl⟩ := Prod.mk.inj h
          exact (mul_rect hv.1.1 hv.1.2 hv.2.1.1 hv.2.1.2 hv1.1.1 hv1.1.2 hv1.2.1.1 hv1.2.1.2 hsq A0 c0 A1 c1 w hr0' hc0 hr1' hc1).mono fun e w' ⟨he, hbel⟩ => ⟨_, he, Kd.S_nil _ _ _ _ _, hbel⟩
      · rw [if_neg (fun hh => hv1 hh.2.1)] at h
        obtain ⟨rfl, rfl⟩ := Prod.mk.inj h
        exact (mul_bad2 hv.1.1 hv.1.2 hv.2.1.1 hv.2.1.2 hv1 A0 c0 A1 c1 w hr0' hc0 hr1 hc1).mono fun e w' ⟨he, hbel⟩ => ⟨_, he, Kd.S_nil _ _ _ _ _, hbel⟩
    · rw [if_neg (fun hh => hv hh.1)] at h
      obtain ⟨rfl, rfl⟩ := Prod.mk.inj h
      exact (mul_bad hv A0 c0 A1 _ c1 w hr0 hc0).mono fun e w' ⟨he, hbel⟩ => ⟨_, he, Kd.S_nil _ _ _ _ _, hbel⟩
  · rw [if_neg hb] at h
    exact absurd h (by simp)
end Go.Proofs.Ytdeamnmadgemoaa.Q
