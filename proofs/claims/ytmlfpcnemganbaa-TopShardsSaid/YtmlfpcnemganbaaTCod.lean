/- The example of chapter 6. -/
import Derived.Test.YtmlfpcnemganbaaEX
namespace Go.Proofs.Ytmlfpcnemganbaa.Q
open Go.RowKit Go.Proofs.YtmlfpcnemganbaaW.PrintWords Go.Proofs.YtmlfpcnemganbaaW.PrintLast Go.Proofs.YtmlfpcnemganbaaW.PrintMore
open Go.Proofs.Ytmlfpcnemganbaa.Gf Go.Proofs.Ytmlfpcnemganbaa.Lin Go.Proofs.Ytmlfpcnemganbaa.Evs
set_option linter.unusedVariables false
set_option linter.unnecessarySimpa false
theorem cod_par : parR [[1, 2], [3, 4]] 1 = ([[143, 246]], 0) := by decide +kernel
theorem cod_rec : recR [[], [3, 4], [143, 246]] [false, true, true] 1 = ([[1, 2], [3, 4], [143, 246]], 0) := by decide +kernel
def two : GF := ⟨2, by decide⟩
theorem two_ne : two ≠ 0 := by decide
theorem two_inv : ((inv two * two).v : Int) = 1 := by rw [inv_mul_ two_ne]; rfl
theorem str12 : strOfNums [1, 2] = ⟨#[1, 2]⟩ := by decide +kernel
theorem BC.str {w : World} {A : Option Addr} {n c : Nat} {l : List Int} (h : BC w A n c l) : (convert 33 9 (.slice A n c)).run Try.prog w = .ok (.string (strOfNums l)) w :=
  Kd.C_string Try.underlying33 Try.underlying5 Try.underlying9 h.row
set_option maxRecDepth 100000 in
set_option maxHeartbeats 4000000 in
theorem codes_c (w : World) : Calls Try.prog 11 #[] w fun e w' => e = .returned (.bool true) ∧ Below w.heap.size w w' := by
  have HP := Lib.hid cod_par
  have HR := Lib.hid cod_rec
  have HS := Lib.hid str12
  have HI := Lib.hid two_inv
  go_enter Try.func11, Try.ntmps11
  go_wp2_with (first
    | (go_at_call 12; obtain ⟨g1, g2, g3⟩ := heap_a3 w (.cells #[.int .u8 1, .int .u8 2] 5) (.cells #[.int .u8 3, .int .u8 4] 5) (.cells #[.slice (some ⟨w.heap.size, 0, none⟩) 2 2, .slice (some ⟨w.heap.size + 1, 0, none⟩) 2 2] 33); refine (par_c (l := [[1, 2], [3, 4]]) (n := 2) (c := 2) (rc_lit (l := [[1, 2], [3, 4]]) (us := [.slice (some ⟨w.heap.size, 0, none⟩) 2 2, .slice (some ⟨w.heap.size + 1, 0, none⟩) 2 2]) rfl (by decide) g3 (fun j hj => by { match j, hj with | 0, _ => exact rd_lit [1, 2] (by decide) (by decide) g1 | 1, _ => exact rd_lit [3, 4] (by decide) (by decide) g2 })) (small_allB (by decide)) (by decide) (by decide) 1).mono ?_; rw [HP.out]; rintro e_ w1 ⟨A1, c1, rfl, h1, hb1⟩; have H1 := Aside0.mk h1; have HB1 : Aside0 (Below w.heap.size w w1) := ⟨below_step (below_alloc (below_alloc (below_alloc (Below.refl _ _) _) _) _) hb1⟩; clear h1 hb1 g1 g2 g3; obtain ⟨us, hul, hcs, hrd⟩ := C_raw H1.out.row; obtain ⟨ad1, ea1, hx1⟩ := hcs 0 (by decide); obtain ⟨A3, c3, eu3, hc3, hC3⟩ := hrd 0 (by decide); subst ea1; rw [eu3, Addr.add_zero'] at hx1; replace hx1 : w1.cell? ad1 = some (.slice A3 2 c3) := hx1; have HRd3 : Aside0 (Rd w1 (.slice A3 2 c3) [143, 246]) := ⟨⟨A3, c3, rfl, hc3, hC3⟩⟩; have hx1b := (below_alloc (Below.refl w1.heap.size w1) (.cells #[.int .u8 3, .int .u8 4] 5)).cell (World.block_lt_of_cell? w1 _ hx1) |>.trans hx1; clear hcs hrd hc3 hC3 eu3 hul)
    | (go_at_call 16; obtain ⟨g1, g2, g3⟩ := heap_a3 w1 (.cells #[.int .u8 3, .int .u8 4] 5) (.cells #[nilV, .slice (some ⟨w1.heap.size, 0, none⟩) 2 2, .slice A3 2 c3] 33) (.cells #[.bool false, .bool true, .bool true] 4); have hbel := (below_alloc (below_alloc (below_alloc (Below.refl w1.heap.size w1) (.cells #[.int .u8 3, .int .u8 4] 5)) (.cells #[nilV, .slice (some ⟨w1.heap.size, 0, none⟩) 2 2, .slice A3 2 c3] 33)) (.cells #[.bool false, .bool true, .bool true] 4)); refine (rec_c (l := [[], [3, 4], [143, 246]]) (b := [false, true, true]) (n := 3) (c := 3) (n1 := 3) (c1 := 3) (rc_lit (l := [[], [3, 4], [143, 246]]) (us := [nilV, .slice (some ⟨w1.heap.size, 0, none⟩) 2 2, .slice A3 2 c3]) rfl (by decide) g2 (fun j hj => by { match j, hj with | 0, _ => exact rd_nil _ | 1, _ => exact rd_lit [3, 4] (by decide) (by decide) g1 | 2, _ => exact HRd3.out.below hbel })) (bools_lit [false, true, true] (by decide) g3) (Nat.le_refl _) (small_allB (by decide)) (by decide) (by decide) 1).mono ?_; rw [HR.out]; rintro e_ w2 ⟨A2, c2, rfl, h2, hb2⟩; have H2 := Aside0.mk h2; have HB2 : Aside0 (Below w.heap.size w w2) := ⟨below_step HB1.out (below_step hbel hb2)⟩; clear h2 hb2 g1 g2 g3 hbel hx1 hx1b)
    | (go_at_call 31; refine (inv_calls two two_ne _).mono ?_; rintro e_ w3 ⟨rfl, hb3⟩; have H23 := Aside0.mk (H2.out.below hb3); have HB3 := Aside0.mk (below_step HB2.out hb3); clear hb3; obtain ⟨us4, hul4, hcs4, hrd4⟩ := C_raw H23.out.row; obtain ⟨ad4, ea4, hx4⟩ := hcs4 0 (by decide); obtain ⟨A5, c5, eu5, hc5, hC5⟩ := hrd4 0 (by decide); subst ea4; rw [eu5, Addr.add_zero'] at hx4; replace hx4 : w3.cell? ad4 = some (.slice A5 2 c5) := hx4; have hcv : (convert 33 9 (.slice A5 2 c5)).run Try.prog w3 = .ok (.string ⟨#[1, 2]⟩) w3 := (by rw [← HS.out]; exact BC.str (l := [1, 2]) ⟨hC5, hc5⟩); clear hcs4 hrd4 hc5 hC5 eu5 hul4)
    | (go_at_call 32; refine (mul_calls (inv two) two _).mono ?_; rw [HI.out]; rintro e_ w_ ⟨rfl, nq, rfl⟩))
  go_ret
  exact ⟨rfl, pw_below_drewN HB3.out _⟩
end Go.Proofs.Ytmlfpcnemganbaa.Q
