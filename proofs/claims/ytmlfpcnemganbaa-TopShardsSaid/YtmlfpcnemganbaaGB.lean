/- The tables of powers and logarithms: what field.tables makes. -/
import Derived.Test.YtmlfpcnemganbaaGA
import Derived.Lib.Hide
import Derived.Outline
import Derived.RegionTactic
import Derived.ChangeAlike
import Derived.BigRegion
namespace Go.Proofs.Ytmlfpcnemganbaa.Q
open Go.RowKit Go.Proofs.YtmlfpcnemganbaaW.PrintWords Go.Proofs.YtmlfpcnemganbaaW.PrintLast Go.Proofs.YtmlfpcnemganbaaW.PrintMore
open Go.Proofs.Ytmlfpcnemganbaa.Gf
set_option linter.unusedVariables false

/-- The cells of a new table. -/
def tabZ : Array Value := Array.replicate 255 (.int .u8 0) ++ Array.replicate 256 (.int .i64 0)
theorem zeroTab (w : World) : (zeroValue 74).run Try.prog w = .ok (.agg tabZ) w := by kernel_rfl
/-- The cells after k rounds. -/
def tabA : Nat → Array Value
  | 0 => tabZ
  | k + 1 => ((tabA k).setIfInBounds k (.int .u8 (pw k : Nat))).setIfInBounds (255 + pw k) (.int .i64 (k : Nat))
theorem tabA_size : ∀ k, (tabA k).size = 511
  | 0 => by simp [tabA, tabZ]
  | k + 1 => by simp [tabA, tabA_size k]

set_option maxRecDepth 100000 in
set_option maxHeartbeats 4000000 in
theorem tables_calls (w : World) :
    Calls Try.prog 55 #[] w fun e w' => e = .returned (.pointer (some ⟨w.heap.size, 0, none⟩)) ∧ w'.heap[w.heap.size]? = some (.cells (tabA 255) 74 (0, 0)) ∧ Below w.heap.size w w' := by
  have hz := zeroTab
  go_enter Try.func55, Try.ntmps55
  go_wp2_with fail
  clear hz
  go_loopg [2, 5] 255 (fun kq v2 v5 w' => ∃ k : Nat, kq + k = 255 ∧ v2 = .int .u8 (pw k : Nat) ∧ v5 = .int .i64 (k : Nat) ∧ Aside0 (w'.heap[w.heap.size]? = some (.cells (tabA k) 74 (0, 0))) ∧ Aside0 (Below w.heap.size w w'))
  case atStart => exact ⟨0, rfl, rfl, rfl, ⟨blk_new _ _⟩, ⟨below_alloc (Below.refl _ _) _⟩⟩
  case round =>
    obtain ⟨k, hk, rfl, rfl, HT, HB⟩ := hrel
    have HK := Lib.hid hk
    have hk2 : k ≤ 255 := by omega
    have hp := pw_lt k
    have hp1 := pw_ne k
    clear hk
    by_cases hlt : k < 255
    · have hsz := tabA_size k
      have c1 := blk_cell HT.out k
      have f1 := blk_frozen HT.out k
      rw [Array.getElem?_eq_getElem (by omega)] at c1
      generalize (tabA k)[k] = u1 at c1
      have c2 := blk_cell HT.out (255 + pw k)
      have f2 := blk_frozen HT.out (255 + pw k)
      rw [Array.getElem?_eq_getElem (by omega)] at c2
      generalize (tabA k)[255 + pw k] = u2 at c2
      clear hsz
      go_wp2_with (first | (go_at_call 56; (with_reducible refine (field_double.calls (pw k : Nat) (dbl (pw k) : Nat) _ (double_ev hp)).mono ?_); rintro e w' ⟨rfl, ⟨nd, rfl⟩⟩))
      go_roundg (255 - (k + 1))
      case measure => have := HK.out; omega
      case rel =>
        refine ⟨k + 1, by have := HK.out; omega, rfl, by go_num, ⟨?_⟩, ⟨?_⟩⟩
        · exact blk_drewN (blk_set (blk_set HT.out _ _) _ _) _
        · exact pw_below_drewN ((HB.out.setCell (Nat.le_refl _) _).setCell (Nat.le_refl _) _) _
    · have hk3 : k = 255 := by omega
      clear HK
      go_wp2_with fail
      go_ret
      subst hk3
      exact ⟨rfl, HT.out, HB.out⟩
end Go.Proofs.Ytmlfpcnemganbaa.Q
/- field.Inv and field.Pow: what they answer. -/
namespace Go.Proofs.Ytmlfpcnemganbaa.Q
open Go.RowKit Go.Proofs.YtmlfpcnemganbaaW.PrintWords Go.Proofs.YtmlfpcnemganbaaW.PrintLast Go.Proofs.YtmlfpcnemganbaaW.PrintMore
open Go.Proofs.Ytmlfpcnemganbaa.Gf
set_option linter.unusedVariables false

theorem tabA_pow : ∀ k j, k ≤ 255 → j < k → (tabA k)[j]? = some (.int .u8 (pw j : Nat))
  | 0, j, _, h => absurd h (by omega)
  | k + 1, j, hk, h => by
    have hs := tabA_size k
    unfold tabA
    rw [Array.getElem?_setIfInBounds_ne (by omega)]
    by_cases e : j = k
    · subst e
      rw [Array.getElem?_setIfInBounds_self_of_lt (by omega)]
    · rw [Array.getElem?_setIfInBounds_ne (by omega), tabA_pow k j (by omega) (by omega)]
theorem tabA_log : ∀ k x, k ≤ 255 → x < 256 → (tabA k)[255 + x]? = some (.int .i64 (lgr x k : Nat))
  | 0, x, _, hx => by
    show tabZ[255 + x]? = _
    unfold tabZ
    rw [Array.getElem?_append_right (by simp)]
    simp [lgr, hx]
  | k + 1, x, hk, hx => by
    have hs := tabA_size k
    have hp := pw_lt k
    unfold tabA
    by_cases e : pw k = x
    · subst e
      rw [Array.getElem?_setIfInBounds_self_of_lt (by simp; omega)]
      simp [lgr]
    · rw [Array.getElem?_setIfInBounds_ne (by omega), Array.getElem?_setIfInBounds_ne (by omega), tabA_log k x (by omega) hx]
      simp [lgr, e]

/-- field.Inv -/
def field_Inv.f (a0 : Int) : Option (Int × Bool) := if 0 ≤ a0 ∧ a0 < 256 then some (if a0 = 0 then (0, false) else ((ginv a0.toNat : Nat), true)) else none

set_option maxRecDepth 100000 in
set_option maxHeartbeats 4000000 in
theorem inv_zero (w : World) : Calls Try.prog 31 #[.int .u8 0] w fun e w' => e = .returned (.tuple #[.int .u8 0, .bool false]) ∧ Below w.heap.size w w' := by
  go_enter Try.func31, Try.ntmps31
  go_wp2_with fail
  go_ret2
  exact ⟨rfl, Below.refl _ _⟩
set_option maxRecDepth 100000 in
set_option maxHeartbeats 4000000 in
theorem inv_some (a : Nat) (ha : a < 256) (h0 : a ≠ 0) (w : World) : Calls Try.prog 31 #[.int .u8 a] w fun e w' => e = .returned (.tuple #[.int .u8 (ginv a : Nat), .bool true]) ∧ Below w.heap.size w w' := by
  have c1 : ((a : Int) == 0) = false := by simp; omega
  have hl : lg a < 255 := (pw_lg ha h0).2
  go_enter Try.func31, Try.ntmps31
  go_wp2_with (go_at_call 55; refine (tables_calls _).mono ?_; rintro e w' ⟨rfl, HT0, HB0⟩; have HT := Aside0.mk HT0; have HB := Aside0.mk HB0; clear HT0 HB0)
  have d1 := blk_cell HT.out (255 + a)
  rw [tabA_log 255 a (by omega) ha, show lgr a 255 = lg a from rfl] at d1
  have d2 := blk_cell HT.out ((255 - lg a) % 255)
  rw [tabA_pow 255 _ (by omega) (by omega)] at d2
  generalize hg : (255 - lg a) % 255 = g at d2
  have b1 : (a : Int) < 256 := by omega
  have b2 : IntKind.i64.wrap (255 - ((lg a : Nat) : Int)) = 255 - ((lg a : Nat) : Int) := IntWalk.i64_in _ (by omega)
  have b3 : (255 - ((lg a : Nat) : Int)).tmod 255 = (g : Int) := by
    rw [Int.tmod_eq_emod_of_nonneg (by omega)]
    omega
  have b4 : (g : Int) < 255 := by omega
  have Hg := Lib.hid hg
  clear hg hl
  go_quiet (fail)
  clear b2 b3
  go_wp2
  go_ret2
  refine ⟨?_, ?_⟩
  · rw [← Hg.out]
    rfl
  · exact pw_below_drewN HB.out _
theorem field_Inv.calls (a0 : Int) (r1 : Int) (r2 : Bool) (w : World) (h : field_Inv.f a0 = some (r1, r2)) :
    Calls Try.prog 31 #[.int .u8 a0] w fun e w' => e = .returned (.tuple #[.int .u8 r1, .bool r2]) ∧ Below w.heap.size w w' := by
  unfold field_Inv.f at h
  by_cases hr : 0 ≤ a0 ∧ a0 < 256
  · rw [if_pos hr] at h
    obtain ⟨a, rfl⟩ := Int.eq_ofNat_of_zero_le hr.1
    by_cases h0 : a = 0
    · subst h0
      rw [if_pos (by rfl)] at h
      simp only [Option.some.injEq, Prod.mk.injEq] at h
      obtain ⟨rfl, rfl⟩ := h
      exact inv_zero w
    · rw [if_neg (by omega)] at h
      simp only [Option.some.injEq, Prod.mk.injEq] at h
      obtain ⟨rfl, rfl⟩ := h
      exact inv_some a (by omega) h0 w
  · rw [if_neg hr] at h
    cases h

end Go.Proofs.Ytmlfpcnemganbaa.Q
/- The table of multiples: what field.multiples makes. -/
namespace Go.Proofs.Ytmlfpcnemganbaa.Q
open Go.RowKit Go.Proofs.YtmlfpcnemganbaaW.PrintWords Go.Proofs.YtmlfpcnemganbaaW.PrintLast Go.Proofs.YtmlfpcnemganbaaW.PrintMore
open Go.Proofs.Ytmlfpcnemganbaa.Gf
set_option linter.unusedVariables false

/-- The cells of a new table. -/
def mulZ : Array Value := Array.replicate 256 (.int .u8 0)
theorem zeroMul (w : World) : (zeroValue 80).run Try.prog w = .ok (.agg mulZ) w := by kernel_rfl
/-- The cells when the multiples below n stand. -/
def mulA (by_ n : Nat) : Array Value := ((List.range 256).map fun x => if x < n then Value.int .u8 (gmul x by_ : Nat) else .int .u8 0).toArray

theorem mulA_size (b n : Nat) : (mulA b n).size = 256 := by simp [mulA]
theorem mulA_get {b n x : Nat} (hx : x < 256) : (mulA b n)[x]? = some (if x < n then Value.int .u8 (gmul x b : Nat) else .int .u8 0) := by
  simp [mulA, List.getElem?_map, List.getElem?_range hx]
theorem mulA_cell (b n : Nat) : ∀ v ∈ mulA b n, v.oneCell' = true := by
  intro v hv
  simp only [mulA, List.mem_toArray, List.mem_map] at hv
  obtain ⟨x, _, rfl⟩ := hv
  split <;> rfl
theorem mulA_one (b : Nat) : mulA b 1 = mulZ := by
  apply Array.ext_getElem?
  intro x
  by_cases hx : x < 256
  · rw [mulA_get hx]
    have : mulZ[x]? = some (.int .u8 0) := by simp [mulZ, hx]
    rw [this]
    split
    · have : x = 0 := by omega
      subst this
      rw [zero_gmul]; rfl
    · rfl
  · rw [Array.getElem?_eq_none (by rw [mulA_size]; omega), Array.getElem?_eq_none (by simp [mulZ]; omega)]
theorem mulA_set {b n : Nat} (hn : n < 256) : (mulA b n).setIfInBounds n (.int .u8 (gmul n b : Nat)) = mulA b (n + 1) := by
  apply Array.ext_getElem?
  intro x
  by_cases hx : x < 256
  · rw [mulA_get hx]
    by_cases e : n = x
    · subst e
      rw [Array.getElem?_setIfInBounds_self_of_lt (by rw [mulA_size]; omega), if_pos (by omega)]
    · rw [Array.getElem?_setIfInBounds_ne e, mulA_get hx]
      congr 1
      by_cases h : x < n
      · rw [if_pos h, if_pos (by omega)]
      · rw [if_neg h, if_neg (by omega)]
  · rw [Array.getElem?_eq_none (by simp [mulA_size]; omega), Array.getElem?_eq_none (by rw [mulA_size]; omega)]
theorem gmul_split {b j k : Nat} (hj : j < 8) (hk : k < 2 ^ j) (hb : b < 256) : gmul (2 ^ j + k) b = gmul k b ^^^ gmul (2 ^ j) b := by
  have h1 := two_pow_lt hj
  have e : 2 ^ j + k = k ^^^ 2 ^ j := by
    apply Nat.eq_of_testBit_eq
    intro i
    rw [Nat.testBit_xor, Nat.testBit_two_pow]
    by_cases hi : j = i
    · subst hi
      rw [Nat.testBit_two_pow_add_eq, Nat.testBit_lt_two_pow hk]
      simp
    · have := Nat.two_pow_add_eq_or_of_lt hk 1
      rw [Nat.mul_one] at this
      rw [this, Nat.testBit_or, Nat.testBit_two_pow]
      simp [hi]
  rw [e, xor_gmul (by omega) h1]

theorem below_setRow {B : Nat} {w w1 : World} (h : Below B w w1) {g : Nat} (hg : B ≤ g) (cs : Array Value) : Below B w (w1.setRow g cs) :=
  ⟨h.os, h.tape, h.output, by simpa using h.size, fun i hi => (setRow_other w1 g i cs (by omega)).trans (h.block i hi)⟩

set_option maxRecDepth 100000 in
set_option maxHeartbeats 4000000 in
theorem multiples_calls (b : Nat) (hb : b < 256) (w : World) :
    Calls Try.prog 66 #[.int .u8 b] w fun e w' => e = .returned (.agg (mulA b 256)) ∧ Below w.heap.size w w' := by
  have hz := zeroMul
  go_enter Try.func66, Try.ntmps66
  go_wp2_with fail
  clear hz
  go_loopg [4] 9 (fun kq v4 w' => ∃ j : Nat, kq + j = 9 ∧ j ≤ 8 ∧ v4 = .int .i64 ((2 ^ j : Nat) : Int) ∧ Aside0 (w'.heap[w.heap.size + 1]? = some (.cells (mulA b (2 ^ j)) 80 (0, 0))) ∧ Aside0 (w'.heap[w.heap.size]? = some (.cells mulZ 80 (0, 0))) ∧ Aside0 (Below w.heap.size w w'))
  case atStart => exact ⟨0, rfl, by omega, rfl, ⟨by rw [Nat.pow_zero, mulA_one]; exact heap_alloc2_new _ _ _⟩, ⟨heap_alloc2_old _ _ _⟩, ⟨below_alloc (below_alloc (Below.refl _ _) _) _⟩⟩
  case round =>
    obtain ⟨j, hj, hj8, rfl, HT, HZ, HB⟩ := hrel
    obtain ⟨wo, rfl⟩ : ∃ wo : World, wo = wr := ⟨_, rfl⟩
    have HJ := Lib.hid hj
    clear hj
    by_cases hlt : j < 8
    · have hi2 := two_pow_lt hlt
      have hi0 : 0 < 2 ^ j := Nat.pow_pos (by omega)
      have hi3 : 2 ^ (j + 1) ≤ 256 := by have := Nat.pow_le_pow_right (n := 2) (by omega) (show j + 1 ≤ 8 by omega); simpa using this
      have hsp := fun k hk => gmul_split (b := b) (j := j) (k := k) hlt hk hb
      have hpe : 2 ^ (j + 1) = 2 * 2 ^ j := by rw [Nat.pow_succ]; omega
      generalize hpw : 2 ^ j = i at *
      have hi4 : i ≤ 128 := by omega
      have HSP := Lib.hid hsp
      have HPE := Lib.hid hpe
      have HPW := Lib.hid hpw
      have ew : IntKind.u8.wrap (i : Int) = (i : Int) := by rw [IntKind.wrap_u8]; omega
      have hm := gmul_lt (b := b) hi2
      obtain ⟨KM, hKM⟩ := mul_ev hi2 hb
      have HKM := Lib.hid (hKM KM (Nat.le_refl _))
      clear hsp hpe hpw hKM
      go_wp2_with (first | (go_at_call 32; (with_reducible refine (field_Mul.calls KM (i : Nat) b _ _ HKM.out).mono ?_); rintro e w' ⟨rfl, ⟨nd, rfl⟩⟩))
      clear HKM
      have hT0 : Aside0 ((wo.drewN nd).heap[w.heap.size + 1]? = some (.cells (mulA b (i + 0)) 80 (0, 0))) := HT
      have hZ0 : Aside0 ((wo.drewN nd).heap[w.heap.size]? = some (.cells mulZ 80 (0, 0))) := HZ
      have hB0 : Aside0 (Below w.heap.size w (wo.drewN nd)) := ⟨pw_below_drewN HB.out _⟩
      go_loopg [16] (i + 1) (fun kq v16 w' => ∃ k : Nat, kq + k = i + 1 ∧ k ≤ i ∧ v16 = .int .i64 (k : Nat) ∧ Aside0 (w'.heap[w.heap.size + 1]? = some (.cells (mulA b (i + k)) 80 (0, 0))) ∧ Aside0 (w'.heap[w.heap.size]? = some (.cells mulZ 80 (0, 0))) ∧ Aside0 (Below w.heap.size w w'))
      case atStart => exact ⟨0, by omega, by omega, rfl, hT0, hZ0, hB0⟩
      case round =>
        clear hT0 hZ0 hB0 HT HZ HB
        obtain ⟨k, hk, hki, rfl, HT, HZ, HB⟩ := hrel
        have HK := Lib.hid hk
        clear hk
        by_cases hlk : k < i
        · have c1 := blk_cell HT.out k
          rw [mulA_get (by omega), if_pos (by omega)] at c1
          have c2 := blk_cell HT.out (i + k)
          rw [mulA_get (by omega), if_neg (by omega)] at c2
          have f2 := blk_frozen HT.out (i + k)
          have ex := xor_u8 (gmul_lt (b := b) (show k < 256 by omega)) hm
          rw [← HSP.out k hlk] at ex
          go_wp2_with fail
          go_roundg (i + 1 - (k + 1))
          case measure => have := HK.out; omega
          case rel =>
            refine ⟨k + 1, by have := HK.out; omega, by omega, by go_num, ⟨?_⟩, ⟨?_⟩, ⟨?_⟩⟩
            · rw [← Nat.add_assoc, ← mulA_set (by omega)]
              exact blk_set HT.out _ _
            · exact blk_far HZ.out (by simp) _
            · exact HB.out.setCell (by simp) _
        · have hk3 : k = i := by omega
          subst hk3
          have es : IntKind.i64.wrap ((k : Int) * 2 ^ 1) = ((2 * k : Nat) : Int) := by
            rw [IntWalk.i64_in _ (by omega)]
            omega
          go_wp2_with fail
          go_roundg (8 - j)
          case measure => have := HJ.out; omega
          case rel =>
            have hpe := HPE.out
            refine ⟨j + 1, by have := HJ.out; omega, by omega, ?_, ⟨?_⟩, HZ, HB⟩
            · rw [hpe]
              go_num
            · rw [hpe, Nat.two_mul]
              exact HT.out
    · have hj3 : j = 8 := by omega
      subst hj3
      clear HJ
      have hinf : ∀ n, (Try.prog.info? 80).map (·.size) = some (mulA b n).size := fun n => by rw [mulA_size]; kernel_rfl
      have hall : ∀ n, (mulA b n).all (·.oneCell') = true := fun n => Array.all_eq_true_iff_forall_mem.2 (mulA_cell b n)
      have hsz : ∀ n, mulZ.size = (mulA b n).size := fun n => by rw [mulA_size]; simp [mulZ]
      have hHI := Lib.hid hinf
      have hHA := Lib.hid hall
      have hHS := Lib.hid hsz
      clear hinf hall hsz
      go_wp2_with (first | (refine wpList_load_row rfl 80 _ rfl (w.heap.size + 1) rfl 80 _ (0, 0) _ HT.out Try.underlying80 rfl (hHI.out _) ?_) | (refine wpList_store_row rfl 80 _ _ rfl w.heap.size (mulA b (2 ^ 8)) rfl rfl 80 _ HZ.out (hHI.out _) (hHS.out _) (hHA.out _) ?_))
      refine bodyPost_ret (results_cell_row rfl _ _ w.heap.size 80 (mulA b (2 ^ 8)) (0, 0) _ rfl (setRow_heap wo w.heap.size mulZ _ 80 _ HZ.out) Try.underlying80 rfl (hHI.out _)) rfl ⟨rfl, below_setRow HB.out (Nat.le_refl _) _⟩
end Go.Proofs.Ytmlfpcnemganbaa.Q
/- field.Scale: what it answers. -/
namespace Go.Proofs.Ytmlfpcnemganbaa.Q
open Go.RowKit Go.Proofs.YtmlfpcnemganbaaW.PrintWords Go.Proofs.YtmlfpcnemganbaaW.PrintLast Go.Proofs.YtmlfpcnemganbaaW.PrintMore
open Go.Proofs.Ytmlfpcnemganbaa.Gf
set_option linter.unusedVariables false

/-- A list of bytes. -/
def Bytes (l : List Int) : Prop := ∀ x ∈ l, 0 ≤ x ∧ x < 256
instance (l : List Int) : Decidable (Bytes l) := inferInstanceAs (Decidable (∀ x ∈ l, 0 ≤ x ∧ x < 256))
theorem Bytes.rd_ {l : List Int} (h : Bytes l) (i : Nat) : 0 ≤ rd l i ∧ rd l i < 256 := by
  unfold rd
  rw [Int.toNat_natCast, List.getD_eq_getElem?_getD]
  by_cases hi : i < l.length
  · rw [List.getElem?_eq_getElem hi, Option.getD_some]
    exact h _ (List.getElem_mem hi)
  · rw [List.getElem?_eq_none (by omega), Option.getD_none]
    omega
/-- One element of the result. -/
def scaleAt (l0 l1 : List Int) (b : Nat) (i : Nat) : Int := if i < l1.length then (((rd l0 i).toNat ^^^ gmul (rd l1 i).toNat b : Nat) : Int) else rd l0 i
def scaleL (l0 l1 : List Int) (b : Nat) : List Int := (List.range l0.length).map (scaleAt l0 l1 b)
def field_Scale.f (l0 l1 : List Int) (a2 : Int) : Option (List Int) :=
  if Bytes l0 ∧ Bytes l1 ∧ 0 ≤ a2 ∧ a2 < 256 ∧ l0.length ≤ 281474976710656 then some (scaleL l0 l1 a2.toNat) else none
/-- The cells of the row after k rounds. -/
def outA (l0 l1 : List Int) (b k : Nat) : Array Value := ((List.range l0.length).map fun i => if i < k then Value.int .u8 (scaleAt l0 l1 b i) else .int .u8 0).toArray
theorem outA_size (l0 l1 : List Int) (b k : Nat) : (outA l0 l1 b k).size = l0.length := by simp [outA]
theorem outA_get {l0 l1 : List Int} {b k x : Nat} (hx : x < l0.length) : (outA l0 l1 b k)[x]? = some (if x < k then Value.int .u8 (scaleAt l0 l1 b x) else .int .u8 0) := by
  simp [outA, List.getElem?_map, List.getElem?_range hx]
theorem outA_zero (l0 l1 : List Int) (b : Nat) : madeCells #[.int .u8 0] l0.length = outA l0 l1 b 0 := by
  apply Array.ext_getElem?
  intro x
  by_cases hx : x < l0.length
  · rw [outA_get hx]
    simp [madeCells, hx, Nat.mod_one]
  · rw [Array.getElem?_eq_none (by simp [madeCells]; omega), Array.getElem?_eq_none (by rw [outA_size]; omega)]
theorem outA_set {l0 l1 : List Int} {b n : Nat} : (outA l0 l1 b n).setIfInBounds n (.int .u8 (scaleAt l0 l1 b n)) = outA l0 l1 b (n + 1) := by
  apply Array.ext_getElem?
  intro x
  by_cases hx : x < l0.length
  · rw [outA_get hx]
    by_cases e : n = x
    · subst e
      rw [Array.getElem?_setIfInBounds_self_of_lt (by rw [outA_size]; omega), if_pos (by omega)]
    · rw [Array.getElem?_setIfInBounds_ne e, outA_get hx]
      congr 1
      by_cases h : x < n
      · rw [if_pos h, if_pos (by omega)]
      · rw [if_neg h, if_neg (by omega)]
  · rw [Array.getElem?_eq_none (by simp [outA_size]; omega), Array.getElem?_eq_none (by rw [outA_size]; omega)]

theorem outA_set2 {l0 l1 : List Int} {b n : Nat} (u : Value) : ((outA l0 l1 b n).setIfInBounds n u).setIfInBounds n (.int .u8 (scaleAt l0 l1 b n)) = outA l0 l1 b (n + 1) := by
  rw [← outA_set]
  apply Array.ext_getElem?
  intro x
  by_cases e : n = x
  · subst e
    by_cases hn : n < (outA l0 l1 b n).size
    · rw [Array.getElem?_setIfInBounds_self_of_lt (by simpa using hn), Array.getElem?_setIfInBounds_self_of_lt hn]
    · rw [Array.getElem?_eq_none (by simp; omega), Array.getElem?_eq_none (by simp; omega)]
  · rw [Array.getElem?_setIfInBounds_ne e, Array.getElem?_setIfInBounds_ne e, Array.getElem?_setIfInBounds_ne e]

set_option maxRecDepth 100000 in
set_option maxHeartbeats 8000000 in
theorem scale_walk (A0 : Option Addr) (c0 : Nat) (l0 : List Int) (A1 : Option Addr) (c1 : Nat) (l1 : List Int) (b : Nat) (w : World) (hr0 : Kd.C (Kd.int .u8) w A0 l0.length l0) (hc0 : l0.length ≤ c0) (hr1 : Kd.C (Kd.int .u8) w A1 l1.length l1) (hc1 : l1.length ≤ c1)
    (h0 : Bytes l0) (h1 : Bytes l1) (hb : b < 256) (hl : l0.length ≤ 281474976710656) :
    Calls Try.prog 59 #[.slice A0 l0.length c0, .slice A1 l1.length c1, .int .u8 b] w fun e w' => e = .returned (.slice (some ⟨w.heap.size, 0, none⟩) l0.length l0.length) ∧ w'.heap[w.heap.size]? = some (.cells (outA l0 l1 b l0.length) 5 (0, 0)) ∧ Below w.heap.size w w' := by
  have HR0 := Aside0.mk hr0
  have HR1 := Aside0.mk hr1
  clear hr0 hr1
  have H0 := Lib.hid h0
  have H1 := Lib.hid h1
  clear h0 h1
  have hmk := print_make (P := Try.prog) 33 5 .u8 1 Try.underlying33 info5 (by decide) l0.length (by omega)
  have hz : ∀ w : World, (zeroValue 80).run Try.prog w = .ok (.agg mulZ) w := zeroMul
  have hHI : Hid (∀ n, (Try.prog.info? 80).map (·.size) = some (mulA b n).size) := Lib.hid fun n => by rw [mulA_size]; kernel_rfl
  have hHA : Hid (∀ n, (mulA b n).all (·.oneCell') = true) := Lib.hid fun n => Array.all_eq_true_iff_forall_mem.2 (mulA_cell b n)
  have hHS : Hid (∀ n, mulZ.size = (mulA b n).size) := Lib.hid fun n => by rw [mulA_size]; simp [mulZ]
  go_enter Try.func59, Try.ntmps59
  go_wp2_with (first | (go_at_call 66; refine (multiples_calls b hb _).mono ?_; rintro e w' ⟨rfl, HB0⟩; have HB := Aside0.mk HB0; clear HB0) | (refine wpList_store_row rfl 80 _ _ rfl _ (mulA b 256) rfl rfl 80 mulZ (heap_alloc_new _ _) (hHI.out _) (hHS.out _) (hHA.out _) ?_))
  have hsz1 : w'.heap.size = w'.heap.size := rfl
  have hlt : w.heap.size < w'.heap.size := by have := HB.out.size; simp at this; omega
  have HT : Aside0 (((w'.alloc (.cells mulZ 80)).setRow w'.heap.size (mulA b 256)).heap[w'.heap.size]? = some (.cells (mulA b 256) 80 (0, 0))) := ⟨setRow_heap _ _ mulZ _ _ _ (heap_alloc_new _ _)⟩
  have HO : Aside0 (((w'.alloc (.cells mulZ 80)).setRow w'.heap.size (mulA b 256)).heap[w.heap.size]? = some (.cells (outA l0 l1 b 0) 5 (0, 0))) := ⟨by
    rw [setRow_other _ _ _ _ (by omega), Below.heap_alloc _ _ _ hlt, ← outA_zero]
    exact blk_below (blk_new _ _) HB.out⟩
  have HW : Aside0 (Below w.heap.size w ((w'.alloc (.cells mulZ 80)).setRow w'.heap.size (mulA b 256))) := ⟨below_setRow (((below_alloc (Below.refl _ _) _).trans (HB.out.mono (by simp))).alloc (by omega) _) (by omega) _⟩
  clear HB hsz1
  generalize w'.heap.size = tb at *
  go_loopg [18] (l0.length + 1) (fun kq v18 W => ∃ k : Nat, kq + k = l0.length + 1 ∧ k ≤ l0.length ∧ v18 = .int .i64 (k : Nat) ∧ Aside0 (W.heap[tb]? = some (.cells (mulA b 256) 80 (0, 0))) ∧ Aside0 (W.heap[w.heap.size]? = some (.cells (outA l0 l1 b k) 5 (0, 0))) ∧ Aside0 (Below w.heap.size w W))
  case atStart => exact ⟨0, by omega, by omega, rfl, HT, HO, HW⟩
  case round =>
    clear HT HO HW
    obtain ⟨k, hk, hkl, rfl, HT, HO, HW⟩ := hrel
    have HK := Lib.hid hk
    clear hk
    by_cases hlk : k < l0.length
    · obtain ⟨ad0, rfl, hx0⟩ := Kd.at_int (Kd.C_below HR0.out HW.out) (k : Int) (by omega) (by omega)
      obtain ⟨hx1, hx2⟩ := H0.out.rd_ k
      obtain ⟨x, hx⟩ := Int.eq_ofNat_of_zero_le hx1
      rw [hx] at hx0 hx2
      rw [Int.toNat_natCast] at hx0
      have o1 := blk_cell HO.out k
      rw [outA_get hlk, if_neg (by omega)] at o1
      have o2 := blk_frozen HO.out k
      by_cases hl1 : k < l1.length
      · have HW1 : Below w.heap.size w (wr.setCell ⟨w.heap.size, k, none⟩ (.int .u8 (x : Nat))) := HW.out.setCell (Nat.le_refl _) _
        obtain ⟨ad1, rfl, hy0⟩ := Kd.at_int (Kd.C_below HR1.out HW1) (k : Int) (by omega) (by omega)
        obtain ⟨hy1, hy2⟩ := H1.out.rd_ k
        obtain ⟨y, hy⟩ := Int.eq_ofNat_of_zero_le hy1
        rw [hy] at hy0 hy2
        rw [Int.toNat_natCast] at hy0
        have t1 := blk_cell (blk_far (p := ⟨w.heap.size, k, none⟩) HT.out (by simp; omega) (.int .u8 (x : Nat))) y
        rw [mulA_get (by omega), if_pos (by omega)] at t1
        have ex := xor_u8 (a := x) (b := gmul y b) (by omega) (gmul_lt (by omega))
        have esc : scaleAt l0 l1 b k = ((x ^^^ gmul y b : Nat) : Int) := by unfold scaleAt; rw [if_pos hl1, hx, hy]; rfl
        have ESC := Lib.hid esc
        have HX := Lib.hid hx
        have HY := Lib.hid hy
        clear esc hx hy hx1 hy1 HW1
        go_wp2_with fail
        go_region
        go_wp2
        go_roundg (l0.length + 1 - (k + 1))
        case measure => have := HK.out; omega
        case rel =>
          refine ⟨k + 1, by have := HK.out; omega, by omega, by go_num, ⟨?_⟩, ⟨?_⟩, ⟨?_⟩⟩
          · exact blk_far (blk_far HT.out (show tb ≠ w.heap.size by omega) _) (show tb ≠ w.heap.size by omega) _
          · rw [← outA_set2 (.int .u8 (x : Nat)), ESC.out]
            exact blk_set (blk_set HO.out _ _) _ _
          · exact below_drew ((HW.out.setCell (Nat.le_refl _) _).setCell (Nat.le_refl _) _)
      · have esc : scaleAt l0 l1 b k = (x : Int) := by unfold scaleAt; rw [if_neg hl1, hx]
        have ESC := Lib.hid esc
        clear esc hx hx1
        go_wp2
        go_roundg (l0.length + 1 - (k + 1))
        case measure => have := HK.out; omega
        case rel =>
          refine ⟨k + 1, by have := HK.out; omega, by omega, by go_num, ⟨?_⟩, ⟨?_⟩, ⟨?_⟩⟩
          · exact blk_far HT.out (show tb ≠ w.heap.size by omega) _
          · rw [← outA_set, ESC.out]
            exact blk_set HO.out _ _
          · exact HW.out.setCell (Nat.le_refl _) _
    · have hk3 : k = l0.length := by omega
      subst hk3
      clear HK
      go_wp2
      go_ret
      exact ⟨rfl, HO.out, HW.out⟩
theorem outA_list (l0 l1 : List Int) (b : Nat) : (outA l0 l1 b l0.length).toList = nums .u8 (scaleL l0 l1 b) := by
  apply List.ext_getElem?
  intro x
  rw [Array.getElem?_toList]
  by_cases hx : x < l0.length
  · rw [outA_get hx, if_pos hx]
    simp [nums, scaleL, List.getElem?_range hx]
  · rw [Array.getElem?_eq_none (by rw [outA_size]; omega), List.getElem?_eq_none (by simp [nums, scaleL]; omega)]
theorem field_Scale.calls (A0 : Option Addr) (c0 : Nat) (l0 : List Int) (A1 : Option Addr) (c1 : Nat) (l1 : List Int) (a2 : Int) (r : List Int) (w : World) (hr0 : Kd.C (Kd.int .u8) w A0 l0.length l0) (hc0 : l0.length ≤ c0) (hr1 : Kd.C (Kd.int .u8) w A1 l1.length l1) (hc1 : l1.length ≤ c1) (h : field_Scale.f l0 l1 a2 = some r) :
    Calls Try.prog 59 #[.slice A0 l0.length c0, .slice A1 l1.length c1, .int .u8 a2] w fun e w' => ∃ v0_ : Value, e = .returned (v0_) ∧ Kd.R (Kd.int .u8) 5 w' w.heap.size (fun _ => True) v0_ r ∧ Below w.heap.size w w' := by
  unfold field_Scale.f at h
  by_cases hr : Bytes l0 ∧ Bytes l1 ∧ 0 ≤ a2 ∧ a2 < 256 ∧ l0.length ≤ 281474976710656
  · rw [if_pos hr] at h
    obtain rfl := Option.some.inj h
    obtain ⟨b, rfl⟩ := Int.eq_ofNat_of_zero_le hr.2.2.1
    rw [Int.toNat_natCast]
    refine (scale_walk A0 c0 l0 A1 c1 l1 b w hr0 hc0 hr1 hc1 hr.1 hr.2.1 (by omega) hr.2.2.2.2).mono ?_
    rintro e w' ⟨rfl, hg, hb⟩
    have hlen : (scaleL l0 l1 b).length = l0.length := by simp [scaleL]
    refine ⟨_, rfl, Kd.R_of_own ?_ (fun _ _ => trivial), hb⟩
    rw [hlen]
    refine ⟨by simp [encs_length, hlen], .inr ⟨w.heap.size, l0.length, _, rfl, Nat.le_refl _, hg, Nat.le_refl _, by unfold maxLen; omega, by rw [outA_size]; omega, ?_⟩⟩
    rw [outA_list, List.take_of_length_le (by simp [nums, hlen])]
    rfl
  · rw [if_neg hr] at h
    cases h
end Go.Proofs.Ytmlfpcnemganbaa.Q
