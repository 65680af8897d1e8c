/- checksum.one, apply, squared: maps of registers by the images of the single bits. -/
import Derived.Test.YtlcopdlljeechaaCrE
import Derived.Lib.Hide
import Derived.Outline
namespace Go.Proofs.Ytlcopdlljeechaa.Q
open Go.RowKit Go.Proofs.YtlcopdlljeechaaW.PrintWords Go.Proofs.YtlcopdlljeechaaW.PrintLast Go.Proofs.YtlcopdlljeechaaW.PrintMore
open Go.Proofs.Ytlcopdlljeechaa.Cr
set_option linter.unusedVariables false

/-- The cells of the map of n steps, the first k of them. -/
def mapK (n k : Nat) : Array Value := fillA 32 (fun i => stps n (2 ^ i)) k
def mapA (n : Nat) : Array Value := mapK n 32
theorem mapK_size (n k : Nat) : (mapK n k).size = 32 := fillA_size _ _ _
theorem mapA_size (n : Nat) : (mapA n).size = 32 := fillA_size _ _ _
theorem map_info : ∀ n k, (Try.prog.info? 46).map (·.size) = some (mapK n k).size := fun n k => by rw [mapK_size]; kernel_rfl
theorem map_all (n k : Nat) : (mapK n k).all (·.oneCell') = true := fillA_all _ _ _
theorem mapK_zero (n m : Nat) : mapK n 0 = mapK m 0 := by
  apply Array.ext_getElem?
  intro x
  by_cases hx : x < 32
  · unfold mapK
    rw [fillA_get hx, fillA_get hx]
    rfl
  · rw [Array.getElem?_eq_none (by rw [mapK_size]; omega), Array.getElem?_eq_none (by rw [mapK_size]; omega)]
theorem pow_lt32 {i : Nat} (hi : i < 32) : 2 ^ i < 4294967296 := by
  have := Nat.pow_lt_pow_right (a := 2) (by omega) hi
  simpa using this

set_option maxRecDepth 100000 in
set_option maxHeartbeats 4000000 in
theorem one_calls (w : World) :
    Calls Try.prog 24 #[] w fun e w' => e = .returned (.agg (mapA 1)) ∧ Below w.heap.size w w' := by
  have hHI := Lib.hid map_info
  go_enter Try.func24, Try.ntmps24
  go_wp2_with fail
  go_loopg [3] 33 (fun kq v4 w' => ∃ j : Nat, kq + j = 33 ∧ j ≤ 32 ∧ v4 = .int .i64 (j : Nat) ∧ Aside0 (w'.heap[w.heap.size + 1]? = some (.cells (mapK 1 j) 46 (0, 0))) ∧ Aside0 (w'.heap[w.heap.size]? = some (.cells (mapK 1 0) 46 (0, 0))) ∧ Aside0 (Below w.heap.size w w'))
  case atStart => exact ⟨0, rfl, by omega, rfl, ⟨heap_alloc2_new _ _ _⟩, ⟨heap_alloc2_old _ _ _⟩, ⟨below_alloc (below_alloc (Below.refl _ _) _) _⟩⟩
  case round =>
    obtain ⟨j, hj, hj8, rfl, HT, HZ, HB⟩ := hrel
    have HJ := Lib.hid hj
    clear hj
    by_cases hlt : j < 32
    · have hp := pow_lt32 hlt
      have ep : (2 : Int) ^ j % 4294967296 = ((2 ^ j : Nat) : Int) := by
        rw [Int.natCast_pow]
        exact Int.emod_eq_of_lt (Int.pow_nonneg (by omega)) (by rw [show (2 : Int) ^ j = ((2 ^ j : Nat) : Int) from (Int.natCast_pow 2 j).symm]; omega)
      have c2 := blk_cell HT.out j
      unfold mapK at c2
      rw [fillA_get (by omega), if_neg (by omega)] at c2
      have f2 := blk_frozen HT.out j
      generalize hpp : 2 ^ j = p at hp ep
      have HP := Lib.hid hpp
      clear hpp
      have HS := Lib.hid (step_ev hp)
      go_wp2_with (first | (go_at_call 28; (with_reducible refine (checksum_step.calls _ _ _ HS.out).mono ?_); rintro e w' ⟨rfl, ⟨nd, rfl⟩⟩))
      go_roundg (33 - (j + 1))
      case measure => have := HJ.out; omega
      case rel =>
        refine ⟨j + 1, by have := HJ.out; clear ep; omega, by omega, by go_num, ⟨?_⟩, ⟨?_⟩, ⟨?_⟩⟩
        · unfold mapK
          rw [← fillA_set, HP.out]
          exact blk_set HT.out _ _
        · exact blk_far HZ.out (show w.heap.size ≠ w.heap.size + 1 by omega) _
        · exact (pw_below_drewN HB.out _).setCell (by simp) _
    · have hj3 : j = 32 := by omega
      subst hj3
      clear HJ
      have hHS : Hid ((mapK 1 0).size = (mapK 1 32).size) := Lib.hid (by rw [mapK_size, mapK_size])
      have hHA : Hid ((mapK 1 32).all (·.oneCell') = true) := Lib.hid (map_all _ _)
      go_wp2_with (first | (refine wpList_load_row rfl 46 _ rfl (w.heap.size + 1) rfl 46 _ (0, 0) _ HT.out Try.underlying46 rfl (hHI.out _ _) ?_) | (refine wpList_store_row rfl 46 _ _ rfl w.heap.size (mapK 1 32) rfl rfl 46 _ HZ.out (hHI.out _ _) hHS.out hHA.out ?_))
      refine bodyPost_ret (results_cell_row rfl _ _ w.heap.size 46 (mapK 1 32) (0, 0) _ rfl (setRow_heap wr w.heap.size _ _ 46 _ HZ.out) Try.underlying46 rfl (hHI.out _ _)) rfl ⟨rfl, below_setRow HB.out (Nat.le_refl _) _⟩

set_option maxRecDepth 100000 in
set_option maxHeartbeats 4000000 in
theorem apply_calls (g n r0 : Nat) (hr0 : r0 < 4294967296) (w : World) (hg : w.heap[g]? = some (.cells (mapA n) 46 (0, 0))) :
    Calls Try.prog 26 #[.pointer (some ⟨g, 0, none⟩), .int .u32 r0] w fun e w' => e = .returned (.int .u32 (stps n r0 : Nat)) ∧ w = w' := by
  have HG := Aside0.mk hg
  clear hg
  have hh : Holds (fun i => stps n (2 ^ i)) n := fun i _ => rfl
  have HF := Lib.hid (app_all hh hr0)
  clear hh
  go_enter Try.func26, Try.ntmps26
  go_wp2_with fail
  go_loopg [1, 5, 6] 33 (fun kq v1 v5 v6 w' => ∃ i r out d : Nat, kq = d + 1 ∧ i + d = 32 ∧ r < 2 ^ d ∧ r < 4294967296 ∧ out < 4294967296 ∧ v1 = .int .u32 (r : Nat) ∧ v5 = .int .u32 (out : Nat) ∧ v6 = .int .i64 (i : Nat) ∧ Aside0 (app (fun i => stps n (2 ^ i)) d i r out = stps n r0) ∧ Aside0 (w = w'))
  case atStart => exact ⟨0, r0, 0, 32, rfl, rfl, by simpa using hr0, hr0, by omega, rfl, rfl, rfl, ⟨HF.out⟩, ⟨rfl⟩⟩
  case round =>
    clear HF
    obtain ⟨i, r, out, d, hkd, hid, hrd, hr, hout, rfl, rfl, rfl, HA, HW⟩ := hrel
    have HK := Lib.hid hkd
    have HI := Lib.hid hid
    have HD := Lib.hid hrd
    have hi : i ≤ 32 := by omega
    clear hkd hrd hid
    obtain ⟨wo, rfl⟩ : ∃ wo : World, wo = wr := ⟨_, rfl⟩
    obtain rfl := HW.out
    by_cases h0 : r = 0
    · subst h0
      have hfin : stps n r0 = out := by rw [← HA.out, app_zero]
      have HFIN := Lib.hid hfin
      clear hfin
      go_wp2_with fail
      go_ret
      exact ⟨by rw [HFIN.out]; rfl, rfl⟩
    · have hne : ((r : Int) != 0) = true := by rw [bne_iff_ne]; omega
      have hi2 : i < 32 := by
        have h1 := HI.out
        have h2 := HD.out
        rcases Nat.lt_or_ge i 32 with h | h
        · exact h
        · have : d = 0 := by omega
          rw [this] at h2
          omega
      obtain ⟨d', hd'⟩ : ∃ m, d = m + 1 := ⟨d - 1, by have := HI.out; omega⟩
      have c2 := blk_cell HG.out i
      unfold mapA mapK at c2
      rw [fillA_get hi2, if_pos hi2] at c2
      have hsm : stps n (2 ^ i) < 4294967296 := stps_lt n (pow_lt32 hi2)
      have hrest : app (fun i => stps n (2 ^ i)) d' (i + 1) (r / 2) (if r % 2 = 1 then out ^^^ stps n (2 ^ i) else out) = stps n r0 := by
        rw [← HA.out, hd']
        rfl
      have HREST := Lib.hid hrest
      have hr2 : r / 2 < 2 ^ d' := by
        have h2 := HD.out
        rw [hd', Nat.pow_succ] at h2
        omega
      have HR2 := Lib.hid hr2
      have HD' := Lib.hid hd'
      have ex := xor_u32 hout hsm
      have hox := xor_lt32 hout hsm
      have ea := and1_u32 hr
      have ed : (r : Int) / 2 = ((r / 2 : Nat) : Int) := by omega
      clear hrest hr2 hd' HA
      generalize stps n (2 ^ i) = sm at c2 hsm HREST ex hox
      by_cases h1 : r % 2 = 1
      · rw [if_pos h1] at HREST
        rw [h1] at ea
        generalize r / 2 = r2 at ed HREST HR2
        have hb2 : r2 < 4294967296 := by clear ex ea; omega
        generalize out ^^^ sm = o2 at ex hox HREST
        go_wp2_with fail
        go_roundg (d' + 1)
        case measure => have h1 := HK.out; have h2 := HD'.out; clear ex ea ed; omega
        case rel =>
          exact ⟨i + 1, r2, o2, d', by rfl, by have h1 := HI.out; have h2 := HD'.out; clear ex ea ed; omega, HR2.out, hb2, hox, rfl, rfl, by go_num, ⟨HREST.out⟩, ⟨rfl⟩⟩
      · have h1' : r % 2 = 0 := by clear ex ea; omega
        rw [if_neg h1] at HREST
        rw [h1'] at ea
        generalize r / 2 = r2 at ed HREST HR2
        have hb2 : r2 < 4294967296 := by clear ex ea; omega
        clear ex hox
        go_wp2_with fail
        go_roundg (d' + 1)
        case measure => have h1 := HK.out; have h2 := HD'.out; clear ea ed; omega
        case rel =>
          exact ⟨i + 1, r2, out, d', by rfl, by have h1 := HI.out; have h2 := HD'.out; clear ea ed; omega, HR2.out, hb2, hout, rfl, rfl, by go_num, ⟨HREST.out⟩, ⟨rfl⟩⟩

set_option maxRecDepth 100000 in
set_option maxHeartbeats 4000000 in
theorem squared_calls (g n : Nat) (w : World) (hg : w.heap[g]? = some (.cells (mapA n) 46 (0, 0))) :
    Calls Try.prog 25 #[.pointer (some ⟨g, 0, none⟩)] w fun e w' => e = .returned (.agg (mapA (n + n))) ∧ Below w.heap.size w w' := by
  have hHI := Lib.hid map_info
  have HG := Aside0.mk hg
  have hglt := blk_lt hg
  clear hg
  go_enter Try.func25, Try.ntmps25
  go_wp2_with fail
  go_loopg [7] 33 (fun kq v4 w' => ∃ j : Nat, kq + j = 33 ∧ j ≤ 32 ∧ v4 = .int .i64 (j : Nat) ∧ Aside0 (w'.heap[w.heap.size + 1]? = some (.cells (mapK (n + n) j) 46 (0, 0))) ∧ Aside0 (w'.heap[w.heap.size]? = some (.cells (mapK (n + n) 0) 46 (0, 0))) ∧ Aside0 (Below w.heap.size w w'))
  case atStart => exact ⟨0, rfl, by omega, rfl, ⟨heap_alloc2_new _ _ _⟩, ⟨heap_alloc2_old _ _ _⟩, ⟨below_alloc (below_alloc (Below.refl _ _) _) _⟩⟩
  case round =>
    obtain ⟨j, hj, hj8, rfl, HT, HZ, HB⟩ := hrel
    have HJ := Lib.hid hj
    clear hj
    by_cases hlt : j < 32
    · have hp := stps_lt n (pow_lt32 hlt)
      have HGr := blk_below HG.out HB.out
      have c1 := blk_cell HGr j
      unfold mapA mapK at c1
      rw [fillA_get (by omega), if_pos (by omega)] at c1
      have c2 := blk_cell HT.out j
      unfold mapK at c2
      rw [fillA_get (by omega), if_neg (by omega)] at c2
      have f2 := blk_frozen HT.out j
      have HST := Lib.hid (stps_add n n (2 ^ j))
      generalize stps n (2 ^ j) = p at hp HST c1
      have HGR := Lib.hid HGr
      clear HGr
      go_wp2_with fail
      go_quiet (fail)
      go_wp2_with (first | (go_at_call 26; (refine (apply_calls g n p hp _ (by exact HGR.out)).mono ?_); rintro e w' ⟨rfl, rfl⟩))
      go_roundg (33 - (j + 1))
      case measure => have := HJ.out; omega
      case rel =>
        refine ⟨j + 1, by have := HJ.out; omega, by omega, by go_num, ⟨?_⟩, ⟨?_⟩, ⟨?_⟩⟩
        · unfold mapK
          rw [← fillA_set, HST.out]
          exact blk_set HT.out _ _
        · exact blk_far HZ.out (show w.heap.size ≠ w.heap.size + 1 by omega) _
        · exact (pw_below_drewN HB.out _).setCell (by simp) _
    · have hj3 : j = 32 := by omega
      subst hj3
      clear HJ
      have hHS : Hid ((mapK (n + n) 0).size = (mapK (n + n) 32).size) := Lib.hid (by rw [mapK_size, mapK_size])
      have hHA : Hid ((mapK (n + n) 32).all (·.oneCell') = true) := Lib.hid (map_all _ _)
      go_wp2_with (first | (refine wpList_load_row rfl 46 _ rfl (w.heap.size + 1) rfl 46 _ (0, 0) _ HT.out Try.underlying46 rfl (hHI.out _ _) ?_) | (refine wpList_store_row rfl 46 _ _ rfl w.heap.size (mapK (n + n) 32) rfl rfl 46 _ HZ.out (hHI.out _ _) hHS.out hHA.out ?_))
      refine bodyPost_ret (results_cell_row rfl _ _ w.heap.size 46 (mapK (n + n) 32) (0, 0) _ rfl (setRow_heap wr w.heap.size _ _ 46 _ HZ.out) Try.underlying46 rfl (hHI.out _ _)) rfl ⟨rfl, below_setRow HB.out (Nat.le_refl _) _⟩
end Go.Proofs.Ytlcopdlljeechaa.Q
