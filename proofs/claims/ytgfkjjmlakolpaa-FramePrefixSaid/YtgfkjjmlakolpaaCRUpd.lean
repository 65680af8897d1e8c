/- The reference's Update: what it answers. -/
import Derived.Test.YtgfkjjmlakolpaaQ3
import Derived.Test.YtgfkjjmlakolpaaEv
import Derived.Test.YtgfkjjmlakolpaaCUpd
namespace Go.Proofs.Ytgfkjjmlakolpaa.Q
open Go.RowKit Go.Proofs.YtgfkjjmlakolpaaW.PrintWords Go.Proofs.YtgfkjjmlakolpaaW.PrintLast Go.Proofs.YtgfkjjmlakolpaaW.PrintMore
open Go.Proofs.Ytgfkjjmlakolpaa.Cr Go.Proofs.Ytgfkjjmlakolpaa.Evs
set_option linter.unusedVariables false

theorem rstep_ev {r : Nat} (h : r < 4294967296) : tapearchiveref01_step.f (r : Int) = some ((stp r : Nat) : Int) := by
  unfold tapearchiveref01_step.f stp
  have e1 : Int.tmod (r : Int) 2 = ((r % 2 : Nat) : Int) := by rw [Int.tmod_eq_emod_of_nonneg (by omega)]; omega
  rw [e1]
  by_cases c : r % 2 = 1
  · rw [if_pos (by omega), if_pos c]
    have : ((r : Int) / 2) = ((r / 2 : Nat) : Int) := by omega
    rw [this, show (2197175160 : Int) = ((2197175160 : Nat) : Int) from rfl, xor_u32 (by omega) (by omega)]
  · rw [if_neg (by omega), if_neg c]
    rfl
theorem after_loop : ∀ (d i r : Nat), i + d = 8 → r < 4294967296 → Ev (fun k => tapearchiveref01_after.l0 k (r : Int) (i : Int)) ((stps d r : Nat) : Int)
  | 0, i, r, hd, hr => by
    refine Ev.step (f := fun _ => some (r : Int)) (fun k => ?_) (Ev.now _)
    simp only [tapearchiveref01_after.l0]
    rw [if_neg (by omega)]
  | d + 1, i, r, hd, hr => by
    refine Ev.step (fun k => ?_) (after_loop d (i + 1) (stp r) (by omega) (stp_lt hr))
    simp only [tapearchiveref01_after.l0]
    rw [if_pos (by omega), rstep_ev hr, Option.bind_some, show wrap64 ((i : Int) + 1) = ((i + 1 : Nat) : Int) by unfold wrap64; omega]
theorem after_ev {r c : Nat} (hr : r < 4294967296) (hc : c < 256) : Ev (fun k => tapearchiveref01_after.f k (r : Int) (c : Int)) ((aft r c : Nat) : Int) := by
  unfold tapearchiveref01_after.f
  rw [show (c : Int) % 4294967296 = (c : Int) by omega, xor_u32 hr (by omega)]
  exact after_loop 8 0 _ rfl (xor_lt32 hr (by omega))
def tapearchiveref01_Update.f (a0 : Int) (l1 : List Int) : Option Int := checksum_Update.f a0 l1

set_option maxRecDepth 100000 in
set_option maxHeartbeats 4000000 in
theorem rupdate_walk (s : Nat) (hs : s < 4294967296) (A1 : Option Addr) (c1 : Nat) (l1 : List Int) (w : World) (hr1 : Kd.C (Kd.int .u8) w A1 l1.length l1) (hc1 : l1.length ≤ c1) (h1 : Bytes l1) (hl : l1.length ≤ 4611686018427387904) :
    Calls Try.prog 40 #[.int .u32 s, .slice A1 l1.length c1] w fun e w' => e = .returned (.int .u32 (cup s (nats l1) : Nat)) ∧ Drawn0 w w' := by
  have HR1 := Aside0.mk hr1
  have H1 := Lib.hid h1
  clear hr1 h1
  have eI := inv_u32 hs
  go_enter Try.func40, Try.ntmps40
  go_wp2_with fail
  clear eI
  go_loopg [5, 6] (l1.length + 1) (fun kq v6 v14 W => ∃ k : Nat, kq + k = l1.length + 1 ∧ k ≤ l1.length ∧ v6 = .int .u32 (upd (inv s) ((nats l1).take k) : Nat) ∧ v14 = .int .i64 (k : Nat) ∧ Aside0 (Drawn0 w W))
  case atStart => exact ⟨0, by omega, by omega, rfl, rfl, ⟨Drawn0.refl _⟩⟩
  case round =>
    obtain ⟨k, hk, hkl, rfl, rfl, HW⟩ := hrel
    have HK := Lib.hid hk
    clear hk
    have hr : upd (inv s) ((nats l1).take k) < 4294967296 := upd_lt (inv_lt s) (fun x hx => nats_lt H1.out x (List.mem_of_mem_take hx))
    by_cases hlk : k < l1.length
    · obtain ⟨ad1, rfl, hy0⟩ := Kd.at_int (Kd.C_below HR1.out HW.out.below) (k : Int) (by omega) (by omega)
      obtain ⟨hy1, hy2⟩ := H1.out.rd_ hlk
      rw [hy1, Int.toNat_natCast] at hy0
      have hu := Lib.hid (upd_take (inv s) (l := nats l1) (i := k) (by rw [nats_length]; exact hlk))
      generalize (nats l1).getD k 0 = c at hy0 hy2 hu
      generalize upd (inv s) ((nats l1).take k) = r at hr hu
      clear hy1
      obtain ⟨KM, hKM⟩ := after_ev hr hy2
      have HKM := Lib.hid (hKM KM (Nat.le_refl _))
      clear hKM
      have hd : decide ((k : Int) < (l1.length : Int)) = true := decide_eq_true (by omega)
      go_wp2_with (first | (go_at_call 42; (with_reducible refine (tapearchiveref01_after.calls KM _ _ _ _ HKM.out).mono ?_); rintro e w' ⟨rfl, ⟨nd, rfl⟩⟩))
      go_roundg (l1.length + 1 - (k + 1))
      case measure => have := HK.out; omega
      case rel =>
        refine ⟨k + 1, by have := HK.out; omega, by omega, by rw [hu.out], by go_num, ⟨HW.out.step _⟩⟩
    · have hk3 : k = l1.length := by omega
      subst hk3
      clear HK
      have hfin : upd (inv s) ((nats l1).take l1.length) = upd (inv s) (nats l1) := by rw [List.take_of_length_le (by rw [nats_length]; omega)]
      have HF := Lib.hid hfin
      clear hfin
      have eI := inv_u32 hr
      generalize upd (inv s) ((nats l1).take l1.length) = r at hr HF eI
      go_wp2_with fail
      go_ret
      refine ⟨?_, HW.out⟩
      unfold cup
      rw [← HF.out]
      rfl
theorem tapearchiveref01_Update.calls (a0 : Int) (A1 : Option Addr) (c1 : Nat) (l1 : List Int) (r : Int) (w : World) (hr1 : Kd.C (Kd.int .u8) w A1 l1.length l1) (hc1 : l1.length ≤ c1) (h : tapearchiveref01_Update.f a0 l1 = some r) :
    Calls Try.prog 40 #[.int .u32 a0, .slice A1 l1.length c1] w fun e w' => e = .returned (.int .u32 r) ∧ Drawn0 w w' := by
  unfold tapearchiveref01_Update.f checksum_Update.f at h
  by_cases hr : 0 ≤ a0 ∧ a0 < 4294967296 ∧ Bytes l1 ∧ l1.length ≤ 4611686018427387904
  · rw [if_pos hr] at h
    obtain rfl := Option.some.inj h
    obtain ⟨s, rfl⟩ := Int.eq_ofNat_of_zero_le hr.1
    rw [Int.toNat_natCast]
    exact rupdate_walk s (by omega) A1 c1 l1 w hr1 hc1 hr.2.2.1 hr.2.2.2
  · rw [if_neg hr] at h
    cases h
end Go.Proofs.Ytgfkjjmlakolpaa.Q
