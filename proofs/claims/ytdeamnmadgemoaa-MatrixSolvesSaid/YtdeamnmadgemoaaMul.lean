/- The table of multiples: what field.multiples makes. -/
import Derived.Test.YtdeamnmadgemoaaGfE
import Derived.Lib.Hide
import Derived.Outline
namespace Go.Proofs.Ytdeamnmadgemoaa.Q
open Go.RowKit Go.Proofs.YtdeamnmadgemoaaW.PrintWords Go.Proofs.YtdeamnmadgemoaaW.PrintLast Go.Proofs.YtdeamnmadgemoaaW.PrintMore
open Go.Proofs.Ytdeamnmadgemoaa.Gf
set_option linter.unusedVariables false

/-- The cells of a new table. -/
def mulZ : Array Value := Array.replicate 256 (.int .u8 0)
theorem zeroMul (w : World) : (zeroValue 59).run Try.prog w = .ok (.agg mulZ) w := by kernel_rfl
/-- The cells when the multiples below n stand. -/
def mulA (by_ n : Nat) : Array Value := ((List.range 256).map fun x => if x < n then Value.int .u8 (gmul x by_ : Nat) else .int .u8 0).toArray

theorem mulA_size (b n : Nat) : (mulA b n).size = 256 := by simp [mulA]
theorem mulA_get {b n x : Nat} (hx : x < 256) : (mulA b n)[x]? = some (if x < n then Value.int .u8 (gmul x b : Nat) else .int .u8 0) := by
  simp [mulA, List.getElem?_map, List.getElem?_range hx]
theorem mulA_cell (b n : Nat) : ∀ v ∈ mulA b n, v.oneCell' = true := by
  intro v hv
  simp only [mulA, List.mem_toArray, List.mem_map] at hv
  obtain ⟨x, _, rfl⟩ := hv
  split <;> rfl
theorem mulA_one (b : Nat) : mulA b 1 = mulZ := by
  apply Array.ext_getElem?
  intro x
  by_cases hx : x < 256
  · rw [mulA_get hx]
    have : mulZ[x]? = some (.int .u8 0) := by simp [mulZ, hx]
    rw [this]
    split
    · have : x = 0 := by omega
      subst this
      rw [zero_gmul]; rfl
    · rfl
  · rw [Array.getElem?_eq_none (by rw [mulA_size]; omega), Array.getElem?_eq_none (by simp [mulZ]; omega)]
theorem mulA_set {b n : Nat} (hn : n < 256) : (mulA b n).setIfInBounds n (.int .u8 (gmul n b : Nat)) = mulA b (n + 1) := by
  apply Array.ext_getElem?
  intro x
  by_cases hx : x < 256
  · rw [mulA_get hx]
    by_cases e : n = x
    · subst e
      rw [Array.getElem?_setIfInBounds_self_of_lt (by rw [mulA_size]; omega), if_pos (by omega)]
    · rw [Array.getElem?_setIfInBounds_ne e, mulA_get hx]
      congr 1
      by_cases h : x < n
      · rw [if_pos h, if_pos (by omega)]
      · rw [if_neg h, if_neg (by omega)]
  · rw [Array.getElem?_eq_none (by simp [mulA_size]; omega), Array.getElem?_eq_none (by rw [mulA_size]; omega)]
theorem gmul_split {b j k : Nat} (hj : j < 8) (hk : k < 2 ^ j) (hb : b < 256) : gmul (2 ^ j + k) b = gmul k b ^^^ gmul (2 ^ j) b := by
  have h1 := two_pow_lt hj
  have e : 2 ^ j + k = k ^^^ 2 ^ j := by
    apply Nat.eq_of_testBit_eq
    intro i
    rw [Nat.testBit_xor, Nat.testBit_two_pow]
    by_cases hi : j = i
    · subst hi
      rw [Nat.testBit_two_pow_add_eq, Nat.testBit_lt_two_pow hk]
      simp
    · have := Nat.two_pow_add_eq_or_of_lt hk 1
      rw [Nat.mul_one] at this
      rw [this, Nat.testBit_or, Nat.testBit_two_pow]
      simp [hi]
  rw [e, xor_gmul (by omega) h1]

theorem below_setRow {B : Nat} {w w1 : World} (h : Below B w w1) {g : Nat} (hg : B ≤ g) (cs : Array Value) : Below B w (w1.setRow g cs) :=
  ⟨h.os, h.tape, h.output, by simpa using h.size, fun i hi => (setRow_other w1 g i cs (by omega)).trans (h.block i hi)⟩

set_option maxRecDepth 100000 in
set_option maxHeartbeats 4000000 in
theorem multiples_calls (b : Nat) (hb : b < 256) (w : World) :
    Calls Try.prog 44 #[.int .u8 b] w fun e w' => e = .returned (.agg (mulA b 256)) ∧ Below w.heap.size w w' := by
  have hz := zeroMul
  go_enter Try.func44, Try.ntmps44
  go_wp2_with fail
  clear hz
  go_loopg [4] 9 (fun kq v4 w' => ∃ j : Nat, kq + j = 9 ∧ j ≤ 8 ∧ v4 = .int .i64 ((2 ^ j : Nat) : Int) ∧ Aside0 (w'.heap[w.heap.size + 1]? = some (.cells (mulA b (2 ^ j)) 59 (0, 0))) ∧ Aside0 (w'.heap[w.heap.size]? = some (.cells mulZ 59 (0, 0))) ∧ Aside0 (Below w.heap.size w w'))
  case atStart => exact ⟨0, rfl, by omega, rfl, ⟨by rw [Nat.pow_zero, mulA_one]; exact heap_alloc2_new _ _ _⟩, ⟨heap_alloc2_old _ _ _⟩, ⟨below_alloc (below_alloc (Below.refl _ _) _) _⟩⟩
  case round =>
    obtain ⟨j, hj, hj8, rfl, HT, HZ, HB⟩ := hrel
    obtain ⟨wo, rfl⟩ : ∃ wo : World, wo = wr := ⟨_, rfl⟩
    have HJ := Lib.hid hj
    clear hj
    by_cases hlt : j < 8
    · have hi2 := two_pow_lt hlt
      have hi0 : 0 < 2 ^ j := Nat.pow_pos (by omega)
      have hi3 : 2 ^ (j + 1) ≤ 256 := by have := Nat.pow_le_pow_right (n := 2) (by omega) (show j + 1 ≤ 8 by omega); simpa using this
      have hsp := fun k hk => gmul_split (b := b) (j := j) (k := k) hlt hk hb
      have hpe : 2 ^ (j + 1) = 2 * 2 ^ j := by rw [Nat.pow_succ]; omega
      generalize hpw : 2 ^ j = i at *
      have hi4 : i ≤ 128 := by omega
      have HSP := Lib.hid hsp
      have HPE := Lib.hid hpe
      have HPW := Lib.hid hpw
      have ew : IntKind.u8.wrap (i : Int) = (i : Int) := by rw [IntKind.wrap_u8]; omega
      have hm := gmul_lt (b := b) hi2
      obtain ⟨KM, hKM⟩ := mul_ev hi2 hb
      have HKM := Lib.hid (hKM KM (Nat.le_refl _))
      clear hsp hpe hpw hKM
      go_wp2_with (first | (go_at_call 39; (with_reducible refine (field_Mul.calls KM (i : Nat) b _ _ HKM.out).mono ?_); rintro e w' ⟨rfl, ⟨nd, rfl⟩⟩))
      clear HKM
      have hT0 : Aside0 ((wo.drewN nd).heap[w.heap.size + 1]? = some (.cells (mulA b (i + 0)) 59 (0, 0))) := HT
      have hZ0 : Aside0 ((wo.drewN nd).heap[w.heap.size]? = some (.cells mulZ 59 (0, 0))) := HZ
      have hB0 : Aside0 (Below w.heap.size w (wo.drewN nd)) := ⟨pw_below_drewN HB.out _⟩
      go_loopg [16] (i + 1) (fun kq v16 w' => ∃ k : Nat, kq + k = i + 1 ∧ k ≤ i ∧ v16 = .int .i64 (k : Nat) ∧ Aside0 (w'.heap[w.heap.size + 1]? = some (.cells (mulA b (i + k)) 59 (0, 0))) ∧ Aside0 (w'.heap[w.heap.size]? = some (.cells mulZ 59 (0, 0))) ∧ Aside0 (Below w.heap.size w w'))
      case atStart => exact ⟨0, by omega, by omega, rfl, hT0, hZ0, hB0⟩
      case round =>
        clear hT0 hZ0 hB0 HT HZ HB
        obtain ⟨k, hk, hki, rfl, HT, HZ, HB⟩ := hrel
        have HK := Lib.hid hk
        clear hk
        by_cases hlk : k < i
        · have c1 := blk_cell HT.out k
          rw [mulA_get (by omega), if_pos (by omega)] at c1
          have c2 := blk_cell HT.out (i + k)
          rw [mulA_get (by omega), if_neg (by omega)] at c2
          have f2 := blk_frozen HT.out (i + k)
          have ex := xor_u8 (gmul_lt (b := b) (show k < 256 by omega)) hm
          rw [← HSP.out k hlk] at ex
          go_wp2_with fail
          go_roundg (i + 1 - (k + 1))
          case measure => have := HK.out; omega
          case rel =>
            refine ⟨k + 1, by have := HK.out; omega, by omega, by go_num, ⟨?_⟩, ⟨?_⟩, ⟨?_⟩⟩
            · rw [← Nat.add_assoc, ← mulA_set (by omega)]
              exact blk_set HT.out _ _
            · exact blk_far HZ.out (by simp) _
            · exact HB.out.setCell (by simp) _
        · have hk3 : k = i := by omega
          subst hk3
          have es : IntKind.i64.wrap ((k : Int) * 2 ^ 1) = ((2 * k : Nat) : Int) := by
            rw [IntWalk.i64_in _ (by omega)]
            omega
          go_wp2_with fail
          go_roundg (8 - j)
          case measure => have := HJ.out; omega
          case rel =>
            have hpe := HPE.out
            refine ⟨j + 1, by have := HJ.out; omega, by omega, ?_, ⟨?_⟩, HZ, HB⟩
            · rw [hpe]
              go_num
            · rw [hpe, Nat.two_mul]
              exact HT.out
    · have hj3 : j = 8 := by omega
      subst hj3
      clear HJ
      have hinf : ∀ n, (Try.prog.info? 59).map (·.size) = some (mulA b n).size := fun n => by rw [mulA_size]; kernel_rfl
      have hall : ∀ n, (mulA b n).all (·.oneCell') = true := fun n => Array.all_eq_true_iff_forall_mem.2 (mulA_cell b n)
      have hsz : ∀ n, mulZ.size = (mulA b n).size := fun n => by rw [mulA_size]; simp [mulZ]
      have hHI := Lib.hid hinf
      have hHA := Lib.hid hall
      have hHS := Lib.hid hsz
      clear hinf hall hsz
      go_wp2_with (first | (refine wpList_load_row rfl 59 _ rfl (w.heap.size + 1) rfl 59 _ (0, 0) _ HT.out Try.underlying59 rfl (hHI.out _) ?_) | (refine wpList_store_row rfl 59 _ _ rfl w.heap.size (mulA b (2 ^ 8)) rfl rfl 59 _ HZ.out (hHI.out _) (hHS.out _) (hHA.out _) ?_))
      refine bodyPost_ret (results_cell_row rfl _ _ w.heap.size 59 (mulA b (2 ^ 8)) (0, 0) _ rfl (setRow_heap wo w.heap.size mulZ _ 59 _ HZ.out) Try.underlying59 rfl (hHI.out _)) rfl ⟨rfl, below_setRow HB.out (Nat.le_refl _) _⟩
end Go.Proofs.Ytdeamnmadgemoaa.Q
