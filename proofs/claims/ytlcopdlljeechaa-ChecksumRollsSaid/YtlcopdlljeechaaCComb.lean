/- checksum.Combine: what it answers. -/
import Derived.Test.YtlcopdlljeechaaCMap
namespace Go.Proofs.Ytlcopdlljeechaa.Q
open Go.RowKit Go.Proofs.YtlcopdlljeechaaW.PrintWords Go.Proofs.YtlcopdlljeechaaW.PrintLast Go.Proofs.YtlcopdlljeechaaW.PrintMore
open Go.Proofs.Ytlcopdlljeechaa.Cr
set_option linter.unusedVariables false

def checksum_Combine.f (a0 a1 a2 : Int) : Option Int := if 0 ≤ a0 ∧ a0 < 4294967296 ∧ 0 ≤ a1 ∧ a1 < 4294967296 then some (if a2 < 0 ∨ 1125899906842624 < a2 then 0 else ((comb a0.toNat a1.toNat a2.toNat : Nat) : Int)) else none
theorem and1_i64 {n : Nat} (h : n < 9223372036854775808) : Go.bits .and .i64 (n : Int) 1 = ((n % 2 : Nat) : Int) := by
  have := (bits_nat .i64 63 (by decide) (fun n h0 h1 => by rw [IntKind.wrap_i64]; omega) n 1 (by simpa using h) (by decide)).1
  rw [show (1 : Int) = ((1 : Nat) : Int) from rfl, this, nat_mask1]

set_option maxRecDepth 100000 in
set_option maxHeartbeats 4000000 in
theorem combine_out (a b n : Int) (hn : n < 0) (w : World) : Calls Try.prog 16 #[.int .u32 a, .int .u32 b, .int .i64 n] w fun e w' => e = .returned (.int .u32 0) ∧ Below w.heap.size w w' := by
  have hd : decide (n < 0) = true := decide_eq_true hn
  go_enter Try.func16, Try.ntmps16
  go_wp2_with fail
  go_ret
  exact ⟨rfl, Below.refl _ _⟩
set_option maxRecDepth 100000 in
set_option maxHeartbeats 4000000 in
theorem combine_over (a b n : Int) (h0 : 0 ≤ n) (hn : 1125899906842624 < n) (w : World) : Calls Try.prog 16 #[.int .u32 a, .int .u32 b, .int .i64 n] w fun e w' => e = .returned (.int .u32 0) ∧ Below w.heap.size w w' := by
  have hd : decide (n < 0) = false := decide_eq_false (by omega)
  have hd2 : decide (1125899906842624 < n) = true := decide_eq_true hn
  go_enter Try.func16, Try.ntmps16
  go_wp2_with fail
  go_ret
  exact ⟨rfl, Below.refl _ _⟩
set_option maxRecDepth 100000 in
set_option maxHeartbeats 8000000 in
theorem combine_in (a b n : Nat) (ha : a < 4294967296) (hb : b < 4294967296) (hn : n ≤ 1125899906842624) (w : World) :
    Calls Try.prog 16 #[.int .u32 a, .int .u32 b, .int .i64 n] w fun e w' => e = .returned (.int .u32 (comb a b n : Nat)) ∧ Below w.heap.size w w' := by
  have hHI := Lib.hid map_info
  have hHS : Hid (∀ i j, (mapA i).size = (mapA j).size) := Lib.hid fun i j => by rw [mapA_size, mapA_size]
  have hHA : Hid (∀ i, (mapA i).all (·.oneCell') = true) := Lib.hid fun i => map_all i 32
  have hHZ : Hid ((mapK 1 0).size = (mapA 1).size) := Lib.hid (by rw [mapA_size, mapK_size])
  have hd : decide ((n : Int) < 0) = false := decide_eq_false (by omega)
  have hd2 : decide (1125899906842624 < (n : Int)) = false := decide_eq_false (by omega)
  go_enter Try.func16, Try.ntmps16
  go_wp2_with (first | (go_at_call 24; (refine (one_calls _).mono ?_); rintro e w' ⟨rfl, HB0⟩; have HB := Aside0.mk HB0; clear HB0) | (refine wpList_store_row rfl 46 _ _ rfl _ (mapA 1) rfl rfl 46 (mapK 1 0) (heap_alloc_new _ _) (hHI.out _ _) hHZ.out (hHA.out _) ?_))
  have htb : w.heap.size ≤ w'.heap.size := HB.out.size
  go_loopg [15] 4 (fun kq v15 W => ∃ k e : Nat, kq + k = 4 ∧ k ≤ 3 ∧ e = 2 ^ k ∧ v15 = .int .i64 (k : Nat) ∧ Aside0 (W.heap[w'.heap.size]? = some (.cells (mapA e) 46 (0, 0))) ∧ Aside0 (Below w.heap.size w W))
  case atStart => exact ⟨0, 1, rfl, by omega, rfl, rfl, ⟨setRow_heap _ _ (mapK 1 0) _ _ _ (heap_alloc_new _ _)⟩, ⟨below_setRow (HB.out.alloc HB.out.size _) HB.out.size _⟩⟩
  case round =>
    clear HB
    obtain ⟨k, e, hk, hk3, he, rfl, HT, HB⟩ := hrel
    generalize w'.heap.size = tb at *
    have HK := Lib.hid hk
    have HE := Lib.hid he
    clear hk he
    obtain ⟨wo, rfl⟩ : ∃ wo : World, wo = wr := ⟨_, rfl⟩
    by_cases hlt : k < 3
    · go_wp2_with (first | (go_at_call 25; (refine (squared_calls tb e _ HT.out).mono ?_); rintro e1 w1 ⟨rfl, HB0⟩; have HB1 := Aside0.mk HB0; clear HB0; have HT1 := Aside0.mk (blk_below HT.out HB1.out)) | (refine wpList_store_row rfl 46 _ _ rfl tb (mapA (e + e)) rfl rfl 46 (mapA e) HT1.out (hHI.out _ _) (hHS.out _ _) (hHA.out _) ?_))
      go_roundg (4 - (k + 1))
      case measure => have := HK.out; omega
      case rel =>
        refine ⟨k + 1, e + e, by have := HK.out; omega, by omega, by rw [HE.out, Nat.pow_succ]; omega, by go_num, ⟨setRow_heap _ _ _ _ _ _ HT1.out⟩, ⟨below_setRow (HB.out.trans (HB1.out.mono HB.out.size)) htb _⟩⟩
    · have hk3 : k = 3 := by omega
      subst hk3
      have he8 : e = 8 := HE.out
      subst he8
      clear HK HE
      go_wp2_with fail
      go_outline
      go_loopg [0, 2] (n + 1) (fun kq v0 v2 W => ∃ x m e : Nat, m + 1 ≤ kq ∧ m ≤ n ∧ x < 4294967296 ∧ v0 = .int .u32 (x : Nat) ∧ v2 = .int .i64 (m : Nat) ∧ Aside0 (stps (e * m) x = shf a n) ∧ Aside0 (W.heap[tb]? = some (.cells (mapA e) 46 (0, 0))) ∧ Aside0 (Below w.heap.size w W))
      case atStart => exact ⟨a, n, 8, by omega, by omega, ha, rfl, rfl, ⟨rfl⟩, HT, HB⟩
      case round =>
        clear HT HB
        obtain ⟨x, m, e, hkm, hmn, hx, rfl, rfl, HX, HT, HB⟩ := hrel
        have HK := Lib.hid hkm
        clear hkm
        obtain ⟨wo, rfl⟩ : ∃ wo : World, wo = wr := ⟨_, rfl⟩
        by_cases h0 : m = 0
        · subst h0
          have hfin : comb a b n = b ^^^ x := by
            unfold comb
            rw [← HX.out, Nat.mul_zero]
            rfl
          have HFIN := Lib.hid hfin
          clear hfin
          have ex := xor_u32 hx hb
          generalize hxb : x ^^^ b = xb at ex
          have HXB := Lib.hid hxb
          clear hxb
          go_wp2_with fail
          go_ret
          exact ⟨by rw [HFIN.out, Nat.xor_comm, HXB.out]; rfl, HB.out⟩
        · have hm0 : 0 < m := by omega
          have hstep : stps ((e + e) * (m / 2)) (if m % 2 = 1 then stps e x else x) = shf a n := by
            rw [← HX.out]
            by_cases h1 : m % 2 = 1
            · rw [if_pos h1, ← stps_add]
              congr 1
              have : m = (m / 2) * 2 + 1 := by omega
              conv => rhs; rw [this]
              rw [Nat.mul_add, Nat.mul_one, Nat.add_comm, Nat.mul_comm (m / 2) 2, ← Nat.mul_assoc, Nat.mul_two]
            · rw [if_neg h1]
              congr 1
              have : m = (m / 2) * 2 := by omega
              conv => rhs; rw [this]
              rw [Nat.mul_comm (m / 2) 2, ← Nat.mul_assoc, Nat.mul_two]
          have HST := Lib.hid hstep
          have hmm : m / 2 + 1 ≤ m := by omega
          have ea := and1_i64 (n := m) (by omega)
          have ed : (m : Int) / 2 = ((m / 2 : Nat) : Int) := by omega
          clear hstep HX
          by_cases h1 : m % 2 = 1
          · rw [if_pos h1] at HST
            rw [h1] at ea
            generalize m / 2 = m2 at ed HST hmm
            have hsl := stps_lt e hx
            go_wp2_with (first | (go_at_call 26; (refine (apply_calls tb e x hx _ HT.out).mono ?_); rintro e1 w1 ⟨rfl, rfl⟩) | (go_at_call 25; (refine (squared_calls tb e _ HT.out).mono ?_); rintro e1 w1 ⟨rfl, HB0⟩; have HB1 := Aside0.mk HB0; clear HB0; have HT1 := Aside0.mk (blk_below HT.out HB1.out)) | (refine wpList_store_row rfl 46 _ _ rfl tb (mapA (e + e)) rfl rfl 46 (mapA e) HT1.out (hHI.out _ _) (hHS.out _ _) (hHA.out _) ?_))
            go_roundg (m2 + 1)
            case measure => have := HK.out; clear ea ed; omega
            case rel =>
              exact ⟨_, m2, e + e, by omega, by clear ea ed; omega, hsl, rfl, rfl, ⟨HST.out⟩, ⟨setRow_heap _ _ _ _ _ _ HT1.out⟩, ⟨below_setRow (HB.out.trans (HB1.out.mono HB.out.size)) htb _⟩⟩
          · have h1' : m % 2 = 0 := by clear ea ed; omega
            rw [if_neg h1] at HST
            rw [h1'] at ea
            generalize m / 2 = m2 at ed HST hmm
            go_wp2_with (first | (go_at_call 25; (refine (squared_calls tb e _ HT.out).mono ?_); rintro e1 w1 ⟨rfl, HB0⟩; have HB1 := Aside0.mk HB0; clear HB0; have HT1 := Aside0.mk (blk_below HT.out HB1.out)) | (refine wpList_store_row rfl 46 _ _ rfl tb (mapA (e + e)) rfl rfl 46 (mapA e) HT1.out (hHI.out _ _) (hHS.out _ _) (hHA.out _) ?_))
            go_roundg (m2 + 1)
            case measure => have := HK.out; clear ea ed; omega
            case rel =>
              exact ⟨_, m2, e + e, by omega, by clear ea ed; omega, hx, rfl, rfl, ⟨HST.out⟩, ⟨setRow_heap _ _ _ _ _ _ HT1.out⟩, ⟨below_setRow (HB.out.trans (HB1.out.mono HB.out.size)) htb _⟩⟩
theorem checksum_Combine.calls (a0 : Int) (a1 : Int) (a2 : Int) (r : Int) (w : World) (h : checksum_Combine.f a0 a1 a2 = some r) :
    Calls Try.prog 16 #[.int .u32 a0, .int .u32 a1, .int .i64 a2] w fun e w' => e = .returned (.int .u32 r) ∧ Below w.heap.size w w' := by
  unfold checksum_Combine.f at h
  by_cases hr : 0 ≤ a0 ∧ a0 < 4294967296 ∧ 0 ≤ a1 ∧ a1 < 4294967296
  · rw [if_pos hr] at h
    obtain rfl := Option.some.inj h
    by_cases h1 : a2 < 0
    · rw [if_pos (.inl h1)]
      exact combine_out _ _ _ h1 w
    · by_cases h2 : 1125899906842624 < a2
      · rw [if_pos (.inr h2)]
        exact combine_over _ _ _ (by omega) h2 w
      · rw [if_neg (by omega)]
        obtain ⟨a, rfl⟩ := Int.eq_ofNat_of_zero_le hr.1
        obtain ⟨b, rfl⟩ := Int.eq_ofNat_of_zero_le hr.2.2.1
        obtain ⟨n, rfl⟩ := Int.eq_ofNat_of_zero_le (show 0 ≤ a2 by omega)
        rw [Int.toNat_natCast, Int.toNat_natCast, Int.toNat_natCast]
        exact combine_in a b n (by omega) (by omega) (by omega) w
  · rw [if_neg hr] at h
    cases h
end Go.Proofs.Ytlcopdlljeechaa.Q
