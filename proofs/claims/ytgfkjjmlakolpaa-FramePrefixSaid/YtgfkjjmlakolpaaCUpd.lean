/- checksum.Update: what it answers. -/
import Derived.Test.YtgfkjjmlakolpaaRem
namespace Go.Proofs.Ytgfkjjmlakolpaa.Q
open Go.RowKit Go.Proofs.YtgfkjjmlakolpaaW.PrintWords Go.Proofs.YtgfkjjmlakolpaaW.PrintLast Go.Proofs.YtgfkjjmlakolpaaW.PrintMore
open Go.Proofs.Ytgfkjjmlakolpaa.Cr
set_option linter.unusedVariables false

/-- A list of bytes. -/
def Bytes (l : List Int) : Prop := ∀ x ∈ l, 0 ≤ x ∧ x < 256
instance (l : List Int) : Decidable (Bytes l) := inferInstanceAs (Decidable (∀ x ∈ l, 0 ≤ x ∧ x < 256))
def nats (l : List Int) : List Nat := l.map Int.toNat
theorem nats_length (l : List Int) : (nats l).length = l.length := by simp [nats]
theorem nats_lt {l : List Int} (h : Bytes l) : ∀ x ∈ nats l, x < 256 := by
  intro x hx
  simp only [nats, List.mem_map] at hx
  obtain ⟨y, hy, rfl⟩ := hx
  have := h y hy
  omega
theorem Bytes.rd_ {l : List Int} (h : Bytes l) {i : Nat} (hi : i < l.length) : rd l (i : Int) = (((nats l).getD i 0 : Nat) : Int) ∧ (nats l).getD i 0 < 256 := by
  have h1 := h l[i] (List.getElem_mem hi)
  have e : rd l (i : Int) = l[i] := by
    unfold rd
    rw [Int.toNat_natCast, List.getD_eq_getElem?_getD, List.getElem?_eq_getElem hi, Option.getD_some]
  have e2 : (nats l).getD i 0 = l[i].toNat := by
    unfold nats
    rw [List.getD_eq_getElem?_getD, List.getElem?_map, List.getElem?_eq_getElem hi]
    rfl
  rw [e, e2]
  omega
theorem upd_take (r : Nat) {l : List Nat} {i : Nat} (hi : i < l.length) : upd r (l.take (i + 1)) = aft (upd r (l.take i)) (l.getD i 0) := by
  have : l.take (i + 1) = l.take i ++ [l.getD i 0] := by
    rw [List.take_add_one, List.getD_eq_getElem?_getD, List.getElem?_eq_getElem hi]
    rfl
  rw [this, upd_append]
  rfl
theorem inv_u32 {s : Nat} (hs : s < 4294967296) : Go.bits .xor .u32 IntKind.u32.max (s : Int) = ((inv s : Nat) : Int) := by
  rw [show IntKind.u32.max = ((4294967295 : Nat) : Int) from rfl, xor_u32 (by omega) hs, inv_xor hs, Nat.xor_comm]
def checksum_Update.f (a0 : Int) (l1 : List Int) : Option Int := if 0 ≤ a0 ∧ a0 < 4294967296 ∧ Bytes l1 ∧ l1.length ≤ 4611686018427387904 then some (cup a0.toNat (nats l1) : Nat) else none

set_option maxRecDepth 100000 in
set_option maxHeartbeats 4000000 in
theorem update_walk (s : Nat) (hs : s < 4294967296) (A1 : Option Addr) (c1 : Nat) (l1 : List Int) (w : World) (hr1 : Kd.C (Kd.int .u8) w A1 l1.length l1) (hc1 : l1.length ≤ c1) (h1 : Bytes l1) (hl : l1.length ≤ 4611686018427387904) :
    Calls Try.prog 34 #[.int .u32 s, .slice A1 l1.length c1] w fun e w' => e = .returned (.int .u32 (cup s (nats l1) : Nat)) ∧ Below w.heap.size w w' := by
  have HR1 := Aside0.mk hr1
  have H1 := Lib.hid h1
  clear hr1 h1
  have hz := zeroRem
  have eI := inv_u32 hs
  have hHI := Lib.hid remA_info
  have hHS : Hid (remZ.size = (remA 256).size) := Lib.hid (by rw [remA_size]; simp [remZ])
  have hHA : Hid ((remA 256).all (·.oneCell') = true) := Lib.hid (fillA_all _ _ _)
  go_enter Try.func34, Try.ntmps34
  go_wp2_with (first | (go_at_call 39; refine (remainders_calls _).mono ?_; rintro e w' ⟨rfl, HB0⟩; have HB := Aside0.mk HB0; clear HB0) | (refine wpList_store_row rfl 57 _ _ rfl _ (remA 256) rfl rfl 57 remZ (heap_alloc_new _ _) (hHI.out _) hHS.out hHA.out ?_))
  clear eI hz
  have HT : Aside0 (((w'.alloc (.cells remZ 57)).setRow w'.heap.size (remA 256)).heap[w'.heap.size]? = some (.cells (remA 256) 57 (0, 0))) := ⟨setRow_heap _ _ remZ _ _ _ (heap_alloc_new _ _)⟩
  have HW : Aside0 (Below w.heap.size w ((w'.alloc (.cells remZ 57)).setRow w'.heap.size (remA 256))) := ⟨below_setRow (HB.out.alloc HB.out.size _) HB.out.size _⟩
  clear HB
  generalize w'.heap.size = tb at *
  go_loopg [6, 14] (l1.length + 1) (fun kq v6 v14 W => ∃ k : Nat, kq + k = l1.length + 1 ∧ k ≤ l1.length ∧ v6 = .int .u32 (upd (inv s) ((nats l1).take k) : Nat) ∧ v14 = .int .i64 (k : Nat) ∧ Aside0 (W.heap[tb]? = some (.cells (remA 256) 57 (0, 0))) ∧ Aside0 (Below w.heap.size w W))
  case atStart => exact ⟨0, by omega, by omega, rfl, rfl, HT, HW⟩
  case round =>
    clear HT HW
    obtain ⟨k, hk, hkl, rfl, rfl, HT, HW⟩ := hrel
    have HK := Lib.hid hk
    clear hk
    have hr : upd (inv s) ((nats l1).take k) < 4294967296 := upd_lt (inv_lt s) (fun x hx => nats_lt H1.out x (List.mem_of_mem_take hx))
    by_cases hlk : k < l1.length
    · obtain ⟨ad1, rfl, hy0⟩ := Kd.at_int (Kd.C_below HR1.out HW.out) (k : Int) (by omega) (by omega)
      obtain ⟨hy1, hy2⟩ := H1.out.rd_ hlk
      rw [hy1, Int.toNat_natCast] at hy0
      have hu := Lib.hid (upd_take (inv s) (l := nats l1) (i := k) (by rw [nats_length]; exact hlk))
      generalize (nats l1).getD k 0 = c at hy0 hy2 hu
      generalize upd (inv s) ((nats l1).take k) = r at hr hu
      clear hy1
      have hm : (r % 256) ^^^ c < 256 := Nat.xor_lt_two_pow (n := 8) (by omega) (by omega)
      have t1 := blk_cell HT.out ((r % 256) ^^^ c)
      unfold remA at t1
      rw [fillA_get hm, if_pos hm] at t1
      have hms := stps_lt 8 (r := (r % 256) ^^^ c) (by omega)
      have e1 : IntKind.u8.wrap (r : Int) = ((r % 256 : Nat) : Int) := by rw [IntKind.wrap_u8]; omega
      have e2 := xor_u8 (a := r % 256) (b := c) (by omega) hy2
      have e3 := xor_u32 (a := r / 256) (b := stps 8 ((r % 256) ^^^ c)) (by omega) hms
      rw [← aft_table r c hy2] at e3
      have e5 : (r : Int) / 256 = ((r / 256 : Nat) : Int) := by omega
      generalize aft r c = r' at e3 hu
      generalize r % 256 = m8 at *
      generalize r / 256 = q8 at *
      generalize m8 ^^^ c = m at hm t1 hms e2 e3
      generalize stps 8 m = sm at t1 e3 hms
      have hm' : (m : Int) < 256 := by omega
      go_wp2_with fail
      go_roundg (l1.length + 1 - (k + 1))
      case measure => have := HK.out; clear e1 e2 e3; omega
      case rel =>
        refine ⟨k + 1, by have := HK.out; clear e1 e2 e3; omega, by clear e1 e2 e3; omega, by rw [hu.out], by go_num, HT, HW⟩
    · have hk3 : k = l1.length := by omega
      subst hk3
      clear HK
      have hfin : upd (inv s) ((nats l1).take l1.length) = upd (inv s) (nats l1) := by rw [List.take_of_length_le (by rw [nats_length]; omega)]
      have HF := Lib.hid hfin
      clear hfin
      have eI := inv_u32 hr
      generalize upd (inv s) ((nats l1).take l1.length) = r at hr HF eI
      go_wp2_with fail
      go_ret
      refine ⟨?_, HW.out⟩
      unfold cup
      rw [← HF.out]
      rfl
theorem checksum_Update.calls (a0 : Int) (A1 : Option Addr) (c1 : Nat) (l1 : List Int) (r : Int) (w : World) (hr1 : Kd.C (Kd.int .u8) w A1 l1.length l1) (hc1 : l1.length ≤ c1) (h : checksum_Update.f a0 l1 = some r) :
    Calls Try.prog 34 #[.int .u32 a0, .slice A1 l1.length c1] w fun e w' => e = .returned (.int .u32 r) ∧ Below w.heap.size w w' := by
  unfold checksum_Update.f at h
  by_cases hr : 0 ≤ a0 ∧ a0 < 4294967296 ∧ Bytes l1 ∧ l1.length ≤ 4611686018427387904
  · rw [if_pos hr] at h
    obtain rfl := Option.some.inj h
    obtain ⟨s, rfl⟩ := Int.eq_ofNat_of_zero_le hr.1
    rw [Int.toNat_natCast]
    exact update_walk s (by omega) A1 c1 l1 w hr1 hc1 hr.2.2.1 hr.2.2.2
  · rw [if_neg hr] at h
    cases h
end Go.Proofs.Ytgfkjjmlakolpaa.Q
