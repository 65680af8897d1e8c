/- field.Scale: what it answers. -/
import Derived.Test.YtdeamnmadgemoaaMul
import Derived.RegionTactic
import Derived.ChangeAlike
import Derived.BigRegion
namespace Go.Proofs.Ytdeamnmadgemoaa.Q
open Go.RowKit Go.Proofs.YtdeamnmadgemoaaW.PrintWords Go.Proofs.YtdeamnmadgemoaaW.PrintLast Go.Proofs.YtdeamnmadgemoaaW.PrintMore
open Go.Proofs.Ytdeamnmadgemoaa.Gf
set_option linter.unusedVariables false

/-- A list of bytes. -/
def Bytes (l : List Int) : Prop := ∀ x ∈ l, 0 ≤ x ∧ x < 256
instance (l : List Int) : Decidable (Bytes l) := inferInstanceAs (Decidable (∀ x ∈ l, 0 ≤ x ∧ x < 256))
theorem Bytes.rd_ {l : List Int} (h : Bytes l) (i : Nat) : 0 ≤ rd l i ∧ rd l i < 256 := by
  unfold rd
  rw [Int.toNat_natCast, List.getD_eq_getElem?_getD]
  by_cases hi : i < l.length
  · rw [List.getElem?_eq_getElem hi, Option.getD_some]
    exact h _ (List.getElem_mem hi)
  · rw [List.getElem?_eq_none (by omega), Option.getD_none]
    omega
/-- One element of the result. -/
def scaleAt (l0 l1 : List Int) (b : Nat) (i : Nat) : Int := if i < l1.length then (((rd l0 i).toNat ^^^ gmul (rd l1 i).toNat b : Nat) : Int) else rd l0 i
def scaleL (l0 l1 : List Int) (b : Nat) : List Int := (List.range l0.length).map (scaleAt l0 l1 b)
def field_Scale.f (l0 l1 : List Int) (a2 : Int) : Option (List Int) :=
  if Bytes l0 ∧ Bytes l1 ∧ 0 ≤ a2 ∧ a2 < 256 ∧ l0.length ≤ 281474976710656 then some (scaleL l0 l1 a2.toNat) else none
/-- The cells of the row after k rounds. -/
def outA (l0 l1 : List Int) (b k : Nat) : Array Value := ((List.range l0.length).map fun i => if i < k then Value.int .u8 (scaleAt l0 l1 b i) else .int .u8 0).toArray
theorem outA_size (l0 l1 : List Int) (b k : Nat) : (outA l0 l1 b k).size = l0.length := by simp [outA]
theorem outA_get {l0 l1 : List Int} {b k x : Nat} (hx : x < l0.length) : (outA l0 l1 b k)[x]? = some (if x < k then Value.int .u8 (scaleAt l0 l1 b x) else .int .u8 0) := by
  simp [outA, List.getElem?_map, List.getElem?_range hx]
theorem outA_zero (l0 l1 : List Int) (b : Nat) : madeCells #[.int .u8 0] l0.length = outA l0 l1 b 0 := by
  apply Array.ext_getElem?
  intro x
  by_cases hx : x < l0.length
  · rw [outA_get hx]
    simp [madeCells, hx, Nat.mod_one]
  · rw [Array.getElem?_eq_none (by simp [madeCells]; omega), Array.getElem?_eq_none (by rw [outA_size]; omega)]
theorem outA_set {l0 l1 : List Int} {b n : Nat} : (outA l0 l1 b n).setIfInBounds n (.int .u8 (scaleAt l0 l1 b n)) = outA l0 l1 b (n + 1) := by
  apply Array.ext_getElem?
  intro x
  by_cases hx : x < l0.length
  · rw [outA_get hx]
    by_cases e : n = x
    · subst e
      rw [Array.getElem?_setIfInBounds_self_of_lt (by rw [outA_size]; omega), if_pos (by omega)]
    · rw [Array.getElem?_setIfInBounds_ne e, outA_get hx]
      congr 1
      by_cases h : x < n
      · rw [if_pos h, if_pos (by omega)]
      · rw [if_neg h, if_neg (by omega)]
  · rw [Array.getElem?_eq_none (by simp [outA_size]; omega), Array.getElem?_eq_none (by rw [outA_size]; omega)]

theorem outA_set2 {l0 l1 : List Int} {b n : Nat} (u : Value) : ((outA l0 l1 b n).setIfInBounds n u).setIfInBounds n (.int .u8 (scaleAt l0 l1 b n)) = outA l0 l1 b (n + 1) := by
  rw [← outA_set]
  apply Array.ext_getElem?
  intro x
  by_cases e : n = x
  · subst e
    by_cases hn : n < (outA l0 l1 b n).size
    · rw [Array.getElem?_setIfInBounds_self_of_lt (by simpa using hn), Array.getElem?_setIfInBounds_self_of_lt hn]
    · rw [Array.getElem?_eq_none (by simp; omega), Array.getElem?_eq_none (by simp; omega)]
  · rw [Array.getElem?_setIfInBounds_ne e, Array.getElem?_setIfInBounds_ne e, Array.getElem?_setIfInBounds_ne e]

set_option maxRecDepth 100000 in
set_option maxHeartbeats 8000000 in
theorem scale_walk (A0 : Option Addr) (c0 : Nat) (l0 : List Int) (A1 : Option Addr) (c1 : Nat) (l1 : List Int) (b : Nat) (w : World) (hr0 : Kd.C (Kd.int .u8) w A0 l0.length l0) (hc0 : l0.length ≤ c0) (hr1 : Kd.C (Kd.int .u8) w A1 l1.length l1) (hc1 : l1.length ≤ c1)
    (h0 : Bytes l0) (h1 : Bytes l1) (hb : b < 256) (hl : l0.length ≤ 281474976710656) :
    Calls Try.prog 40 #[.slice A0 l0.length c0, .slice A1 l1.length c1, .int .u8 b] w fun e w' => e = .returned (.slice (some ⟨w.heap.size, 0, none⟩) l0.length l0.length) ∧ w'.heap[w.heap.size]? = some (.cells (outA l0 l1 b l0.length) 5 (0, 0)) ∧ Below w.heap.size w w' := by
  have HR0 := Aside0.mk hr0
  have HR1 := Aside0.mk hr1
  clear hr0 hr1
  have H0 := Lib.hid h0
  have H1 := Lib.hid h1
  clear h0 h1
  have hmk := print_make (P := Try.prog) 32 5 .u8 1 Try.underlying32 info5 (by decide) l0.length (by omega)
  have hz : ∀ w : World, (zeroValue 59).run Try.prog w = .ok (.agg mulZ) w := zeroMul
  have hHI : Hid (∀ n, (Try.prog.info? 59).map (·.size) = some (mulA b n).size) := Lib.hid fun n => by rw [mulA_size]; kernel_rfl
  have hHA : Hid (∀ n, (mulA b n).all (·.oneCell') = true) := Lib.hid fun n => Array.all_eq_true_iff_forall_mem.2 (mulA_cell b n)
  have hHS : Hid (∀ n, mulZ.size = (mulA b n).size) := Lib.hid fun n => by rw [mulA_size]; simp [mulZ]
  go_enter Try.func40, Try.ntmps40
  go_wp2_with (first | (go_at_call 44; refine (multiples_calls b hb _).mono ?_; rintro e w' ⟨rfl, HB0⟩; have HB := Aside0.mk HB0; clear HB0) | (refine wpList_store_row rfl 59 _ _ rfl _ (mulA b 256) rfl rfl 59 mulZ (heap_alloc_new _ _) (hHI.out _) (hHS.out _) (hHA.out _) ?_))
  have hsz1 : w'.heap.size = w'.heap.size := rfl
  have hlt : w.heap.size < w'.heap.size := by have := HB.out.size; simp at this; omega
  have HT : Aside0 (((w'.alloc (.cells mulZ 59)).setRow w'.heap.size (mulA b 256)).heap[w'.heap.size]? = some (.cells (mulA b 256) 59 (0, 0))) := ⟨setRow_heap _ _ mulZ _ _ _ (heap_alloc_new _ _)⟩
  have HO : Aside0 (((w'.alloc (.cells mulZ 59)).setRow w'.heap.size (mulA b 256)).heap[w.heap.size]? = some (.cells (outA l0 l1 b 0) 5 (0, 0))) := ⟨by
    rw [setRow_other _ _ _ _ (by omega), Below.heap_alloc _ _ _ hlt, ← outA_zero]
    exact blk_below (blk_new _ _) HB.out⟩
  have HW : Aside0 (Below w.heap.size w ((w'.alloc (.cells mulZ 59)).setRow w'.heap.size (mulA b 256))) := ⟨below_setRow (((below_alloc (Below.refl _ _) _).trans (HB.out.mono (by simp))).alloc (by omega) _) (by omega) _⟩
  clear HB hsz1
  generalize w'.heap.size = tb at *
  go_loopg [18] (l0.length + 1) (fun kq v18 W => ∃ k : Nat, kq + k = l0.length + 1 ∧ k ≤ l0.length ∧ v18 = .int .i64 (k : Nat) ∧ Aside0 (W.heap[tb]? = some (.cells (mulA b 256) 59 (0, 0))) ∧ Aside0 (W.heap[w.heap.size]? = some (.cells (outA l0 l1 b k) 5 (0, 0))) ∧ Aside0 (Below w.heap.size w W))
  case atStart => exact ⟨0, by omega, by omega, rfl, HT, HO, HW⟩
  case round =>
    clear HT HO HW
    obtain ⟨k, hk, hkl, rfl, HT, HO, HW⟩ := hrel
    have HK := Lib.hid hk
    clear hk
    by_cases hlk : k < l0.length
    · obtain ⟨ad0, rfl, hx0⟩ := Kd.at_int (Kd.C_below HR0.out HW.out) (k : Int) (by omega) (by omega)
      obtain ⟨hx1, hx2⟩ := H0.out.rd_ k
      obtain ⟨x, hx⟩ := Int.eq_ofNat_of_zero_le hx1
      rw [hx] at hx0 hx2
      rw [Int.toNat_natCast] at hx0
      have o1 := blk_cell HO.out k
      rw [outA_get hlk, if_neg (by omega)] at o1
      have o2 := blk_frozen HO.out k
      by_cases hl1 : k < l1.length
      · have HW1 : Below w.heap.size w (wr.setCell ⟨w.heap.size, k, none⟩ (.int .u8 (x : Nat))) := HW.out.setCell (Nat.le_refl _) _
        obtain ⟨ad1, rfl, hy0⟩ := Kd.at_int (Kd.C_below HR1.out HW1) (k : Int) (by omega) (by omega)
        obtain ⟨hy1, hy2⟩ := H1.out.rd_ k
        obtain ⟨y, hy⟩ := Int.eq_ofNat_of_zero_le hy1
        rw [hy] at hy0 hy2
        rw [Int.toNat_natCast] at hy0
        have t1 := blk_cell (blk_far (p := ⟨w.heap.size, k, none⟩) HT.out (by simp; omega) (.int .u8 (x : Nat))) y
        rw [mulA_get (by omega), if_pos (by omega)] at t1
        have ex := xor_u8 (a := x) (b := gmul y b) (by omega) (gmul_lt (by omega))
        have esc : scaleAt l0 l1 b k = ((x ^^^ gmul y b : Nat) : Int) := by unfold scaleAt; rw [if_pos hl1, hx, hy]; rfl
        have ESC := Lib.hid esc
        have HX := Lib.hid hx
        have HY := Lib.hid hy
        clear esc hx hy hx1 hy1 HW1
        go_wp2_with fail
        go_region
        go_wp2
        go_roundg (l0.length + 1 - (k + 1))
        case measure => have := HK.out; omega
        case rel =>
          refine ⟨k + 1, by have := HK.out; omega, by omega, by go_num, ⟨?_⟩, ⟨?_⟩, ⟨?_⟩⟩
          · exact blk_far (blk_far HT.out (show tb ≠ w.heap.size by omega) _) (show tb ≠ w.heap.size by omega) _
          · rw [← outA_set2 (.int .u8 (x : Nat)), ESC.out]
            exact blk_set (blk_set HO.out _ _) _ _
          · exact below_drew ((HW.out.setCell (Nat.le_refl _) _).setCell (Nat.le_refl _) _)
      · have esc : scaleAt l0 l1 b k = (x : Int) := by unfold scaleAt; rw [if_neg hl1, hx]
        have ESC := Lib.hid esc
        clear esc hx hx1
        go_wp2
        go_roundg (l0.length + 1 - (k + 1))
        case measure => have := HK.out; omega
        case rel =>
          refine ⟨k + 1, by have := HK.out; omega, by omega, by go_num, ⟨?_⟩, ⟨?_⟩, ⟨?_⟩⟩
          · exact blk_far HT.out (show tb ≠ w.heap.size by omega) _
          · rw [← outA_set, ESC.out]
            exact blk_set HO.out _ _
          · exact HW.out.setCell (Nat.le_refl _) _
    · have hk3 : k = l0.length := by omega
      subst hk3
      clear HK
      go_wp2
      go_ret
      exact ⟨rfl, HO.out, HW.out⟩
theorem outA_list (l0 l1 : List Int) (b : Nat) : (outA l0 l1 b l0.length).toList = nums .u8 (scaleL l0 l1 b) := by
  apply List.ext_getElem?
  intro x
  rw [Array.getElem?_toList]
  by_cases hx : x < l0.length
  · rw [outA_get hx, if_pos hx]
    simp [nums, scaleL, List.getElem?_range hx]
  · rw [Array.getElem?_eq_none (by rw [outA_size]; omega), List.getElem?_eq_none (by simp [nums, scaleL]; omega)]
theorem field_Scale.calls (A0 : Option Addr) (c0 : Nat) (l0 : List Int) (A1 : Option Addr) (c1 : Nat) (l1 : List Int) (a2 : Int) (r : List Int) (w : World) (hr0 : Kd.C (Kd.int .u8) w A0 l0.length l0) (hc0 : l0.length ≤ c0) (hr1 : Kd.C (Kd.int .u8) w A1 l1.length l1) (hc1 : l1.length ≤ c1) (h : field_Scale.f l0 l1 a2 = some r) :
    Calls Try.prog 40 #[.slice A0 l0.length c0, .slice A1 l1.length c1, .int .u8 a2] w fun e w' => ∃ v0_ : Value, e = .returned (v0_) ∧ Kd.R (Kd.int .u8) 5 w' w.heap.size (fun _ => True) v0_ r ∧ Below w.heap.size w w' := by
  unfold field_Scale.f at h
  by_cases hr : Bytes l0 ∧ Bytes l1 ∧ 0 ≤ a2 ∧ a2 < 256 ∧ l0.length ≤ 281474976710656
  · rw [if_pos hr] at h
    obtain rfl := Option.some.inj h
    obtain ⟨b, rfl⟩ := Int.eq_ofNat_of_zero_le hr.2.2.1
    rw [Int.toNat_natCast]
    refine (scale_walk A0 c0 l0 A1 c1 l1 b w hr0 hc0 hr1 hc1 hr.1 hr.2.1 (by omega) hr.2.2.2.2).mono ?_
    rintro e w' ⟨rfl, hg, hb⟩
    have hlen : (scaleL l0 l1 b).length = l0.length := by simp [scaleL]
    refine ⟨_, rfl, Kd.R_of_own ?_ (fun _ _ => trivial), hb⟩
    rw [hlen]
    refine ⟨by simp [encs_length, hlen], .inr ⟨w.heap.size, l0.length, _, rfl, Nat.le_refl _, hg, Nat.le_refl _, by unfold maxLen; omega, by rw [outA_size]; omega, ?_⟩⟩
    rw [outA_list, List.take_of_length_le (by simp [nums, hlen])]
    rfl
  · rw [if_neg hr] at h
    cases h
end Go.Proofs.Ytdeamnmadgemoaa.Q
