/- The reference's apply, twice and Shift: what they answer. -/
import Derived.Test.YtlcopdlljeechaaCRUpd
import Derived.Test.YtlcopdlljeechaaCComb
import Derived.Deep.MidRow
import Derived.Deep.RegionHeld3
namespace Go.Proofs.Ytlcopdlljeechaa.Q
open Go.RowKit Go.Proofs.YtlcopdlljeechaaW.PrintWords Go.Proofs.YtlcopdlljeechaaW.PrintLast Go.Proofs.YtlcopdlljeechaaW.PrintMore
open Go.Proofs.Ytlcopdlljeechaa.Cr Go.Proofs.Ytlcopdlljeechaa.Evs
set_option linter.unusedVariables false

theorem rmap_info : ∀ n k, (Try.prog.info? 45).map (·.size) = some (mapK n k).size := fun n k => by rw [mapK_size]; kernel_rfl

/-- The cells of a copy of the map of n steps of which the first k have become those of 2 n steps. -/
def mixA (n k : Nat) : Array Value := ((List.range 32).map fun x => Value.int .u32 ((if x < k then stps (n + n) (2 ^ x) else stps n (2 ^ x) : Nat) : Int)).toArray
theorem mixA_size (n k : Nat) : (mixA n k).size = 32 := by simp [mixA]
theorem mixA_get {n k x : Nat} (hx : x < 32) : (mixA n k)[x]? = some (Value.int .u32 ((if x < k then stps (n + n) (2 ^ x) else stps n (2 ^ x) : Nat) : Int)) := by
  simp [mixA, List.getElem?_map, List.getElem?_range hx]
theorem mixA_zero (n : Nat) : mixA n 0 = mapA n := by
  apply Array.ext_getElem?
  intro x
  by_cases hx : x < 32
  · unfold mapA mapK
    rw [mixA_get hx, fillA_get hx, if_pos hx]
    rfl
  · rw [Array.getElem?_eq_none (by rw [mixA_size]; omega), Array.getElem?_eq_none (by rw [mapA_size]; omega)]
theorem mixA_end (n : Nat) : mixA n 32 = mapK (n + n) 32 := by
  apply Array.ext_getElem?
  intro x
  by_cases hx : x < 32
  · unfold mapK
    rw [mixA_get hx, fillA_get hx, if_pos hx, if_pos hx]
  · rw [Array.getElem?_eq_none (by rw [mixA_size]; omega), Array.getElem?_eq_none (by rw [mapK_size]; omega)]
theorem mixA_set {n k : Nat} : (mixA n k).setIfInBounds k (.int .u32 (stps (n + n) (2 ^ k) : Nat)) = mixA n (k + 1) := by
  apply Array.ext_getElem?
  intro x
  by_cases hx : x < 32
  · rw [mixA_get hx]
    by_cases e : k = x
    · subst e
      rw [Array.getElem?_setIfInBounds_self_of_lt (by rw [mixA_size]; omega), if_pos (by omega)]
    · rw [Array.getElem?_setIfInBounds_ne e, mixA_get hx]
      congr 3
      by_cases h : x < k
      · rw [if_pos h, if_pos (by omega)]
      · rw [if_neg h, if_neg (by omega)]
  · rw [Array.getElem?_eq_none (by simp [mixA_size]; omega), Array.getElem?_eq_none (by rw [mixA_size]; omega)]
theorem held_below {w w1 : World} {b o j : Nat} {cs : List Value} {v : Value} (h : w.rangeAt b o cs ∧ w.cell? ⟨b, j, none⟩ = some v) (hb : Below w.heap.size w w1) : w1.rangeAt b o cs ∧ w1.cell? ⟨b, j, none⟩ = some v :=
  ⟨fun i u hu => pw_cell_below hb (h.1 i u hu), pw_cell_below hb h.2⟩
theorem held_set {w : World} {b o j b' j' : Nat} {cs : List Value} {v u : Value} (h : w.rangeAt b o cs ∧ w.cell? ⟨b, j, none⟩ = some v) (hne : b ≠ b') : (w.setCell ⟨b', j', none⟩ u).rangeAt b o cs ∧ (w.setCell ⟨b', j', none⟩ u).cell? ⟨b, j, none⟩ = some v :=
  ⟨fun i x hx => (World.cell?_setCell_other _ _ _ _ (fun e => hne (by injection e with e1; exact e1.symm))).trans (h.1 i x hx), (World.cell?_setCell_other _ _ _ _ (fun e => hne (by injection e with e1; exact e1.symm))).trans h.2⟩
theorem frozen_below {w w1 : World} (hb : Below w.heap.size w w1) {p : Addr} {v : Value} (hc : w.cell? p = some v) (hf : w.frozen? p = false) : w1.frozen? p = false :=
  (hb.frozen (World.block_lt_of_cell? w p hc)).trans hf
theorem alloc_size (w : World) (o : Obj) : (w.alloc o).heap.size = w.heap.size + 1 := by
  show (w.heap.push o).size = _
  simp
theorem alloc3_new (w : World) (A B C : Obj) : (((w.alloc A).alloc B).alloc C).heap[w.heap.size + 1 + 1]? = some C := by
  have h := heap_alloc_new ((w.alloc A).alloc B) C
  rwa [alloc_size, alloc_size] at h
theorem alloc3_mid (w : World) (A B C : Obj) : (((w.alloc A).alloc B).alloc C).heap[w.heap.size + 1]? = some B := by
  rw [Below.heap_alloc _ _ _ (by rw [alloc_size, alloc_size]; omega)]
  exact heap_alloc2_new w A B
theorem alloc3_old (w : World) (A B C : Obj) : (((w.alloc A).alloc B).alloc C).heap[w.heap.size]? = some A := by
  rw [Below.heap_alloc _ _ _ (by rw [alloc_size, alloc_size]; omega)]
  exact heap_alloc2_old w A B
theorem bit_test (r i : Nat) : ((((r : Int) / 2 ^ i).tmod 2 == 1) = true) ↔ r / 2 ^ i % 2 = 1 := by
  have e : ((r : Int) / 2 ^ i) = ((r / 2 ^ i : Nat) : Int) := by
    rw [show (2 : Int) ^ i = ((2 ^ i : Nat) : Int) from (Int.natCast_pow 2 i).symm]
    exact (Int.natCast_ediv r (2 ^ i)).symm
  rw [e, beq_iff_eq]
  generalize r / 2 ^ i = q
  rw [Int.tmod_eq_emod_of_nonneg (by omega)]
  omega
set_option maxRecDepth 100000 in
set_option maxHeartbeats 4000000 in
theorem rapply_calls (n r0 : Nat) (hr0 : r0 < 4294967296) (w : World) :
    Calls Try.prog 30 #[.agg (mapA n), .int .u32 r0] w fun e w' => e = .returned (.int .u32 (stps n r0 : Nat)) ∧ Below w.heap.size w w' := by
  have hh : Holds (fun i => stps n (2 ^ i)) n := fun i _ => rfl
  have HF := Lib.hid (app_all hh hr0)
  clear hh
  go_enter Try.func30, Try.ntmps30
  go_wp2_with fail
  go_loopg [5, 6] 33 (fun kq v5 v6 w' => ∃ i out : Nat, kq + i = 33 ∧ i ≤ 32 ∧ out < 4294967296 ∧ v5 = .int .u32 (out : Nat) ∧ v6 = .int .i64 (i : Nat) ∧ Aside0 (app (fun i => stps n (2 ^ i)) (32 - i) i (r0 / 2 ^ i) out = stps n r0) ∧ Aside0 (w'.heap[w.heap.size]? = some (.cells (mapA n) 45 (0, 0))) ∧ Aside0 (Below w.heap.size w w'))
  case atStart => exact ⟨0, 0, rfl, by omega, by omega, rfl, rfl, ⟨by rw [Nat.pow_zero, Nat.div_one]; exact HF.out⟩, ⟨blk_new _ _⟩, ⟨below_alloc (Below.refl _ _) _⟩⟩
  case round =>
    clear HF
    obtain ⟨i, out, hk, hi, hout, rfl, rfl, HA, HT, HB⟩ := hrel
    have HK := Lib.hid hk
    clear hk
    by_cases hlt : i < 32
    · have c2 := blk_cell HT.out i
      unfold mapA mapK at c2
      rw [fillA_get hlt, if_pos hlt] at c2
      have hsm : stps n (2 ^ i) < 4294967296 := stps_lt n (pow_lt32 hlt)
      have hrest : app (fun i => stps n (2 ^ i)) (32 - (i + 1)) (i + 1) (r0 / 2 ^ (i + 1)) (if r0 / 2 ^ i % 2 = 1 then out ^^^ stps n (2 ^ i) else out) = stps n r0 := by
        rw [← HA.out, show 32 - i = (32 - (i + 1)) + 1 by omega, Nat.pow_succ, ← Nat.div_div_eq_div_mul]
        rfl
      have HREST := Lib.hid hrest
      clear hrest HA
      have ex := xor_u32 hout hsm
      have hox := xor_lt32 hout hsm
      generalize stps n (2 ^ i) = sm at c2 hsm HREST ex hox
      by_cases h1 : r0 / 2 ^ i % 2 = 1
      · have hb := (bit_test r0 i).2 h1
        rw [if_pos h1] at HREST
        generalize out ^^^ sm = o2 at ex hox HREST
        clear h1
        go_wp2_with fail
        go_roundg (33 - (i + 1))
        case measure => have := HK.out; clear ex; omega
        case rel =>
          exact ⟨i + 1, o2, by have := HK.out; clear ex; omega, by clear ex; omega, hox, rfl, by go_num, ⟨HREST.out⟩, HT, HB⟩
      · have hb : (((r0 : Int) / 2 ^ i).tmod 2 == 1) = false := by
          rw [Bool.eq_false_iff]
          exact fun h => h1 ((bit_test r0 i).1 h)
        rw [if_neg h1] at HREST
        clear h1 ex hox
        go_wp2_with fail
        go_roundg (33 - (i + 1))
        case measure => have := HK.out; omega
        case rel =>
          exact ⟨i + 1, out, by have := HK.out; omega, by omega, hout, rfl, by go_num, ⟨HREST.out⟩, HT, HB⟩
    · have hi3 : i = 32 := by omega
      subst hi3
      have hfin : stps n r0 = out := HA.out.symm
      have HFIN := Lib.hid hfin
      clear hfin HA HK
      go_wp2_with fail
      go_ret
      exact ⟨by rw [HFIN.out]; rfl, HB.out⟩

set_option maxRecDepth 100000 in
set_option maxHeartbeats 8000000 in
theorem rtwice_calls (n : Nat) (w : World) :
    Calls Try.prog 31 #[.agg (mapA n)] w fun e w' => e = .returned (.agg (mapA (n + n))) ∧ Below w.heap.size w w' := by
  have hHI := Lib.hid rmap_info
  have hHA : Hid (∀ i k, (mapK i k).all (·.oneCell') = true) := Lib.hid map_all
  have hHZ : Hid (∀ i j k l, (mapK i j).size = (mapK k l).size) := Lib.hid fun i j k l => by rw [mapK_size, mapK_size]
  go_enter Try.func31, Try.ntmps31
  go_wp2_with (first | (refine wpList_load_row rfl 45 _ rfl w.heap.size rfl 45 (mapA n) (0, 0) _ (heap_alloc2_old _ _ _) Try.underlying45 rfl (hHI.out _ _) ?_) | (refine wpList_store_row rfl 45 _ _ rfl (w.heap.size + 1 + 1) (mapA n) rfl rfl 45 (mapK n 0) (alloc3_new _ _ _ _) (hHI.out _ _) (hHZ.out _ _ _ _) (hHA.out _ _) ?_))
  go_loopg [4] 33 (fun kq v4 w' => ∃ j : Nat, kq + j = 33 ∧ j ≤ 32 ∧ v4 = .int .i64 (j : Nat) ∧ Aside0 (w'.heap[w.heap.size]? = some (.cells (mapA n) 45 (0, 0))) ∧ Aside0 (w'.heap[w.heap.size + 1]? = some (.cells (mapK n 0) 45 (0, 0))) ∧ Aside0 (w'.heap[w.heap.size + 1 + 1]? = some (.cells (mixA n j) 45 (0, 0))) ∧ Aside0 (Below w.heap.size w w'))
  case atStart =>
    refine ⟨0, rfl, by omega, rfl, ⟨?_⟩, ⟨?_⟩, ⟨?_⟩, ⟨below_setRow (below_alloc (below_alloc (below_alloc (Below.refl _ _) _) _) _) (by omega) _⟩⟩
    · rw [setRow_other _ _ _ _ (by omega)]
      exact alloc3_old _ _ _ _
    · rw [setRow_other _ _ _ _ (by omega)]
      exact alloc3_mid _ _ _ _
    · rw [mixA_zero]
      exact setRow_heap _ _ (mapK n 0) _ _ _ (alloc3_new _ _ _ _)
  case round =>
    obtain ⟨j, hj, hj8, rfl, HM, HZ, HT, HB⟩ := hrel
    have HJ := Lib.hid hj
    clear hj
    by_cases hlt : j < 32
    · have hp := stps_lt n (pow_lt32 hlt)
      have c1 := blk_cell HM.out j
      unfold mapA mapK at c1
      rw [fillA_get (by omega), if_pos (by omega)] at c1
      have HST := Lib.hid (stps_add n n (2 ^ j))
      generalize stps n (2 ^ j) = p at hp HST c1
      have c2 := blk_cell HT.out j
      rw [mixA_get (by omega)] at c2
      have f2 := blk_frozen HT.out j
      have hrg : wr.rangeAt w.heap.size 0 (mapA n).toList := by
        intro i v hv
        rw [Nat.zero_add, blk_cell HM.out i]
        simpa using hv
      have hu := Try.underlying45
      have hif : (Try.prog.info? 45).map (·.size) = some (mapA n).toList.length := by rw [Array.length_toList]; exact hHI.out n 32
      go_wp2_with fail
      go_region_held3 (fun w' => w'.rangeAt w.heap.size 0 (mapA n).toList ∧ w'.cell? ⟨w.heap.size, j, none⟩ = some (.int .u32 (p : Nat))) (first | exact ⟨hrg, c1⟩ | exact held_below (by assumption) (by assumption) | exact held_set (by assumption) (by omega)) (first | (go_at_call 30; refine (rapply_calls n p hp _).mono ?_; rintro e w' ⟨rfl, HB0⟩; have c3 := pw_cell_below HB0 c2; have f3 := frozen_below HB0 c2 f2))
      go_wp2
      go_roundg (33 - (j + 1))
      case measure => have := HJ.out; omega
      case rel =>
        have HB1 : Below wr.heap.size wr w' := ⟨HB0.os, HB0.tape, HB0.output, HB0.size, HB0.block⟩
        refine ⟨j + 1, by have := HJ.out; omega, by omega, by go_num, ⟨?_⟩, ⟨?_⟩, ⟨?_⟩, ⟨?_⟩⟩
        · exact blk_far (blk_below HM.out HB1) (show w.heap.size ≠ w.heap.size + 1 + 1 by omega) _
        · exact blk_far (blk_below HZ.out HB1) (show w.heap.size + 1 ≠ w.heap.size + 1 + 1 by omega) _
        · rw [← mixA_set, HST.out]
          exact blk_set (blk_below HT.out HB1) _ _
        · exact (HB.out.trans (HB1.mono HB.out.size)).setCell (show w.heap.size ≤ w.heap.size + 1 + 1 by omega) _
    · have hj3 : j = 32 := by omega
      subst hj3
      clear HJ
      rw [mixA_end] at HT
      go_wp2_with (first | (refine wpList_load_row rfl 45 _ rfl (w.heap.size + 1 + 1) rfl 45 (mapK (n + n) 32) (0, 0) _ HT.out Try.underlying45 rfl (hHI.out _ _) ?_) | (refine wpList_store_row rfl 45 _ _ rfl (w.heap.size + 1) (mapK (n + n) 32) rfl rfl 45 _ HZ.out (hHI.out _ _) (hHZ.out _ _ _ _) (hHA.out _ _) ?_))
      refine bodyPost_ret (results_cell_row rfl _ _ (w.heap.size + 1) 45 (mapK (n + n) 32) (0, 0) _ rfl (setRow_heap wr (w.heap.size + 1) _ _ 45 _ HZ.out) Try.underlying45 rfl (hHI.out _ _)) rfl ⟨rfl, below_setRow HB.out (by omega) _⟩

def tapearchiveref01_Shift.f (a0 a1 : Int) : Option Int := if 0 ≤ a0 ∧ a0 < 4294967296 ∧ 0 ≤ a1 ∧ a1 < 4611686018427387904 then some (shf a0.toNat a1.toNat : Nat) else none

theorem aft_zero (r : Nat) : aft r 0 = stps 8 r := by unfold aft; rw [Nat.xor_zero]
set_option maxRecDepth 100000 in
set_option maxHeartbeats 8000000 in
theorem rshift_calls (a n : Nat) (ha : a < 4294967296) (hn : n < 4611686018427387904) (w : World) :
    Calls Try.prog 27 #[.int .u32 a, .int .i64 n] w fun e w' => e = .returned (.int .u32 (shf a n : Nat)) ∧ Below w.heap.size w w' := by
  have hHI := Lib.hid rmap_info
  have hHA : Hid (∀ i k, (mapK i k).all (·.oneCell') = true) := Lib.hid map_all
  have hHZ : Hid (∀ i j k l, (mapK i j).size = (mapK k l).size) := Lib.hid fun i j k l => by rw [mapK_size, mapK_size]
  go_enter Try.func27, Try.ntmps27
  go_wp2_with fail
  go_loopg [6] 33 (fun kq v4 w' => ∃ j : Nat, kq + j = 33 ∧ j ≤ 32 ∧ v4 = .int .i64 (j : Nat) ∧ Aside0 (w'.heap[w.heap.size]? = some (.cells (mapK 8 j) 45 (0, 0))) ∧ Aside0 (Below w.heap.size w w'))
  case atStart => exact ⟨0, rfl, by omega, rfl, ⟨heap_alloc_new _ _⟩, ⟨below_alloc (Below.refl _ _) _⟩⟩
  case round =>
    obtain ⟨j, hj, hj8, rfl, HT, HB⟩ := hrel
    have HJ := Lib.hid hj
    clear hj
    obtain ⟨wo, rfl⟩ : ∃ wo : World, wo = wr := ⟨_, rfl⟩
    by_cases hlt : j < 32
    · have hp := pow_lt32 hlt
      have ep : (2 : Int) ^ j % 4294967296 = ((2 ^ j : Nat) : Int) := by
        rw [Int.natCast_pow]
        exact Int.emod_eq_of_lt (Int.pow_nonneg (by omega)) (by rw [show (2 : Int) ^ j = ((2 ^ j : Nat) : Int) from (Int.natCast_pow 2 j).symm]; omega)
      have c2 := blk_cell HT.out j
      unfold mapK at c2
      rw [fillA_get (by omega), if_neg (by omega)] at c2
      have f2 := blk_frozen HT.out j
      generalize hpp : 2 ^ j = p at hp ep
      have HP := Lib.hid hpp
      clear hpp
      obtain ⟨KM, hKM⟩ := after_ev (c := 0) hp (by omega)
      have HKM := Lib.hid (hKM KM (Nat.le_refl _))
      clear hKM
      go_wp2_with (first | (go_at_call 23; (refine (tapearchiveref01_after.calls KM (p : Nat) ((0 : Nat) : Int) _ _ HKM.out).mono ?_); rintro e w' ⟨rfl, ⟨nd, rfl⟩⟩))
      go_roundg (33 - (j + 1))
      case measure => have := HJ.out; clear ep; omega
      case rel =>
        refine ⟨j + 1, by have := HJ.out; clear ep; omega, by omega, by go_num, ⟨?_⟩, ⟨?_⟩⟩
        · unfold mapK
          rw [← fillA_set, HP.out, ← aft_zero]
          exact blk_set HT.out _ _
        · exact (pw_below_drewN HB.out _).setCell (by simp) _
    · have hj3 : j = 32 := by omega
      subst hj3
      clear HJ
      go_wp2_with fail
      go_loopg [0, 1] (n + 1) (fun kq v0 v2 W => ∃ x m e : Nat, m + 1 ≤ kq ∧ m ≤ n ∧ x < 4294967296 ∧ v0 = .int .u32 (x : Nat) ∧ v2 = .int .i64 (m : Nat) ∧ Aside0 (stps (e * m) x = shf a n) ∧ Aside0 (W.heap[w.heap.size]? = some (.cells (mapA e) 45 (0, 0))) ∧ Aside0 (Below w.heap.size w W))
      case atStart => exact ⟨a, n, 8, by omega, by omega, ha, rfl, rfl, ⟨rfl⟩, HT, HB⟩
      case round =>
        clear HT HB
        obtain ⟨x, m, e, hkm, hmn, hx, rfl, rfl, HX, HT, HB⟩ := hrel
        have HK := Lib.hid hkm
        clear hkm
        obtain ⟨wo, rfl⟩ : ∃ wo : World, wo = wr := ⟨_, rfl⟩
        by_cases h0 : m = 0
        · subst h0
          have hfin : shf a n = x := by
            rw [← HX.out, Nat.mul_zero]
            rfl
          have HFIN := Lib.hid hfin
          clear hfin
          go_wp2_with fail
          go_ret
          exact ⟨by rw [HFIN.out]; rfl, HB.out⟩
        · have hm0 : 0 < m := by omega
          have hstep : stps ((e + e) * (m / 2)) (if m % 2 = 1 then stps e x else x) = shf a n := by
            rw [← HX.out]
            by_cases h1 : m % 2 = 1
            · rw [if_pos h1, ← stps_add]
              congr 1
              have : m = (m / 2) * 2 + 1 := by omega
              conv => rhs; rw [this]
              rw [Nat.mul_add, Nat.mul_one, Nat.add_comm, Nat.mul_comm (m / 2) 2, ← Nat.mul_assoc, Nat.mul_two]
            · rw [if_neg h1]
              congr 1
              have : m = (m / 2) * 2 := by omega
              conv => rhs; rw [this]
              rw [Nat.mul_comm (m / 2) 2, ← Nat.mul_assoc, Nat.mul_two]
          have HST := Lib.hid hstep
          have hmm : m / 2 + 1 ≤ m := by omega
          have hdv : Int.tdiv (m : Int) 2 = ((m / 2 : Nat) : Int) := by rw [Int.tdiv_eq_ediv_of_nonneg (by omega)]; omega
          have ed : (m : Int) / 2 = ((m / 2 : Nat) : Int) := by omega
          have ht : Int.tmod (m : Int) 2 = ((m % 2 : Nat) : Int) := by rw [Int.tmod_eq_emod_of_nonneg (by omega)]; omega
          have ht2 : (m : Int) % 2 = ((m % 2 : Nat) : Int) := by omega
          clear hstep HX
          by_cases h1 : m % 2 = 1
          · rw [if_pos h1] at HST
            rw [h1] at ht ht2
            generalize m / 2 = m2 at hdv ed HST hmm
            have hsl := stps_lt e hx
            go_wp2_with (first | (go_at_call 30; (refine (rapply_calls e x hx _).mono ?_); rintro e1 w1 ⟨rfl, HB0⟩; have HB1 := Aside0.mk HB0; clear HB0; have HT1 := Aside0.mk (blk_below HT.out HB1.out)) | (go_at_call 31; (refine (rtwice_calls e _).mono ?_); rintro e2 w2 ⟨rfl, HB0⟩; have HB2 := Aside0.mk HB0; clear HB0; have HT2 := Aside0.mk (blk_below HT1.out HB2.out)) | (refine wpList_load_row rfl 45 _ rfl w.heap.size rfl 45 (mapA e) (0, 0) _ HT1.out Try.underlying45 rfl (hHI.out _ _) ?_) | (refine wpList_load_row rfl 45 _ rfl w.heap.size rfl 45 (mapA e) (0, 0) _ HT.out Try.underlying45 rfl (hHI.out _ _) ?_) | (refine wpList_store_row rfl 45 _ _ rfl w.heap.size (mapA (e + e)) rfl rfl 45 (mapA e) HT2.out (hHI.out _ _) (hHZ.out _ _ _ _) (hHA.out _ _) ?_))
            go_roundg (m2 + 1)
            case measure => have := HK.out; clear hdv ed ht ht2; omega
            case rel =>
              exact ⟨_, m2, e + e, by omega, by clear hdv ed ht ht2; omega, hsl, rfl, rfl, ⟨HST.out⟩, ⟨setRow_heap _ _ _ _ _ _ HT2.out⟩, ⟨below_setRow ((HB.out.trans (HB1.out.mono HB.out.size)).trans (HB2.out.mono (Nat.le_trans HB.out.size HB1.out.size))) (Nat.le_refl _) _⟩⟩
          · have h1' : m % 2 = 0 := by clear hdv ed ht ht2; omega
            rw [if_neg h1] at HST
            rw [h1'] at ht ht2
            generalize m / 2 = m2 at hdv ed HST hmm
            go_wp2_with (first | (go_at_call 31; (refine (rtwice_calls e _).mono ?_); rintro e2 w2 ⟨rfl, HB0⟩; have HB2 := Aside0.mk HB0; clear HB0; have HT2 := Aside0.mk (blk_below HT.out HB2.out)) | (refine wpList_load_row rfl 45 _ rfl w.heap.size rfl 45 (mapA e) (0, 0) _ HT.out Try.underlying45 rfl (hHI.out _ _) ?_) | (refine wpList_store_row rfl 45 _ _ rfl w.heap.size (mapA (e + e)) rfl rfl 45 (mapA e) HT2.out (hHI.out _ _) (hHZ.out _ _ _ _) (hHA.out _ _) ?_))
            go_roundg (m2 + 1)
            case measure => have := HK.out; clear hdv ed ht ht2; omega
            case rel =>
              exact ⟨_, m2, e + e, by omega, by clear hdv ed ht ht2; omega, hx, rfl, rfl, ⟨HST.out⟩, ⟨setRow_heap _ _ _ _ _ _ HT2.out⟩, ⟨below_setRow (HB.out.trans (HB2.out.mono HB.out.size)) (Nat.le_refl _) _⟩⟩
theorem tapearchiveref01_Shift.calls (a0 : Int) (a1 : Int) (r : Int) (w : World) (h : tapearchiveref01_Shift.f a0 a1 = some r) :
    Calls Try.prog 27 #[.int .u32 a0, .int .i64 a1] w fun e w' => e = .returned (.int .u32 r) ∧ Below w.heap.size w w' := by
  unfold tapearchiveref01_Shift.f at h
  by_cases hr : 0 ≤ a0 ∧ a0 < 4294967296 ∧ 0 ≤ a1 ∧ a1 < 4611686018427387904
  · rw [if_pos hr] at h
    obtain rfl := Option.some.inj h
    obtain ⟨a, rfl⟩ := Int.eq_ofNat_of_zero_le hr.1
    obtain ⟨n, rfl⟩ := Int.eq_ofNat_of_zero_le hr.2.2.1
    rw [Int.toNat_natCast, Int.toNat_natCast]
    exact rshift_calls a n (by omega) (by omega) w
  · rw [if_neg hr] at h
    cases h
end Go.Proofs.Ytlcopdlljeechaa.Q
