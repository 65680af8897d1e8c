/- The layer's examples hold. -/
import Derived.Test.YtmlfpcnemganbaaEC
namespace Go.Proofs.Ytmlfpcnemganbaa.Q
open Go.RowKit Go.Proofs.YtmlfpcnemganbaaW.PrintWords Go.Proofs.YtmlfpcnemganbaaW.PrintLast Go.Proofs.YtmlfpcnemganbaaW.PrintMore
open Go.Proofs.Ytmlfpcnemganbaa.Gf Go.Proofs.Ytmlfpcnemganbaa.Lin Go.Proofs.Ytmlfpcnemganbaa.Evs
set_option linter.unusedVariables false
set_option linter.unnecessarySimpa false
theorem bc_lit {W : World} {g : Nat} (xs : List Int) (hl : xs.length ≤ 1000) (h : W.heap[g]? = some (Obj.cells (xs.map (Value.int .u8)).toArray 5 (0, 0))) : Kd.C (Kd.int .u8) W (some ⟨g, 0, none⟩) xs.length xs :=
  ⟨rfl, by omega, fun _ => ⟨_, rfl, fun j p hj => ⟨[.int .u8 p], rfl, rfl, fun i u hu => by
    cases i with
    | zero =>
      obtain rfl : Value.int .u8 p = u := by simpa using hu
      have hc := blk_cell h j
      rw [show (Kd.int .u8).sz = 1 from rfl, Nat.mul_one, Nat.add_zero, add_plain]
      rw [hc, List.getElem?_toArray, List.getElem?_map, hj]
      rfl
    | succ k => simp at hu⟩⟩⟩
theorem bools_lit {W : World} {g t : Nat} (xs : List Bool) (hl : xs.length ≤ 1000) (h : W.heap[g]? = some (Obj.cells (xs.map Value.bool).toArray t (0, 0))) : Kd.C Kd.bool W (some ⟨g, 0, none⟩) xs.length xs :=
  ⟨rfl, by omega, fun _ => ⟨_, rfl, fun j p hj => ⟨[.bool p], rfl, rfl, fun i u hu => by
    cases i with
    | zero =>
      obtain rfl : Value.bool p = u := by simpa using hu
      have hc := blk_cell h j
      rw [show Kd.bool.sz = 1 from rfl, Nat.mul_one, Nat.add_zero, add_plain]
      rw [hc, List.getElem?_toArray, List.getElem?_map, hj]
      rfl
    | succ k => simp at hu⟩⟩⟩
theorem rd_lit {W : World} {g k : Nat} (xs : List Int) (hl : xs.length ≤ 1000) (hk : xs.length ≤ k) (h : W.heap[g]? = some (Obj.cells (xs.map (Value.int .u8)).toArray 5 (0, 0))) : Rd W (.slice (some ⟨g, 0, none⟩) xs.length k) xs := ⟨_, _, rfl, hk, bc_lit xs hl h⟩
theorem rd_nil (W : World) : Rd W nilV [] := ⟨none, 0, rfl, Nat.le_refl _, ⟨rfl, Nat.zero_le _, fun h => absurd h (Nat.lt_irrefl _)⟩⟩
theorem rc_lit {W : World} {g : Nat} {us : List Value} {l : List (List Int)} (hl : us.length = l.length) (hs : l.length ≤ 1000) (h : W.heap[g]? = some (Obj.cells us.toArray 33 (0, 0))) (hr : ∀ j, j < l.length → Rd W (us.getD j nilV) (l.getD j [])) : RC W (some ⟨g, 0, none⟩) l.length l.length l := by
  refine ⟨⟨rfl, by omega, fun _ => ⟨_, rfl, fun j p hj => ?_⟩⟩, Nat.le_refl _⟩
  have hjl : j < l.length := (List.getElem?_eq_some_iff.1 hj).1
  obtain ⟨A, c, e, hc, hC⟩ := hr j hjl
  rw [List.getD_eq_getElem?_getD (l := l), hj, Option.getD_some] at hc hC
  refine ⟨[us.getD j nilV], rfl, ⟨A, c, ?_, hc, hC⟩, fun i u hu => ?_⟩
  · rw [e, List.getD_eq_getElem?_getD (l := l), hj]
    rfl
  · cases i with
    | zero =>
      obtain rfl : us.getD j nilV = u := by simpa using hu
      have hcell := blk_cell h j
      rw [show (Kd.slice 5 (Kd.int .u8)).sz = 1 from rfl, Nat.mul_one, Nat.add_zero, add_plain, hcell, List.getElem?_toArray, List.getElem?_eq_getElem (by omega), List.getD_eq_getElem?_getD, List.getElem?_eq_getElem (by omega)]
      rfl
    | succ k => simp at hu
theorem at_new (W : World) (o : Obj) {i : Nat} (hi : i = W.heap.size) : (W.alloc o).heap[i]? = some o := by rw [hi]; exact heap_alloc_new W o
theorem at_old {W : World} (o : Obj) {i : Nat} {x : Obj} (h : W.heap[i]? = some x) : (W.alloc o).heap[i]? = some x := (heap_alloc_old W o (Array.getElem?_eq_some_iff.1 h).1).trans h
theorem heap_a3 (w : World) (A B C : Obj) : (((w.alloc A).alloc B).alloc C).heap[w.heap.size]? = some A ∧ (((w.alloc A).alloc B).alloc C).heap[w.heap.size + 1]? = some B ∧ (((w.alloc A).alloc B).alloc C).heap[w.heap.size + 1 + 1]? = some C :=
  ⟨at_old _ (at_old _ (at_new _ _ rfl)), at_old _ (at_new _ _ (by rw [World.size_alloc])), at_new _ _ (by rw [World.size_alloc, World.size_alloc])⟩
theorem heap_a4 (w : World) (A B C D : Obj) : ((((w.alloc A).alloc B).alloc C).alloc D).heap[w.heap.size]? = some A ∧ ((((w.alloc A).alloc B).alloc C).alloc D).heap[w.heap.size + 1]? = some B ∧ ((((w.alloc A).alloc B).alloc C).alloc D).heap[w.heap.size + 1 + 1]? = some C ∧ ((((w.alloc A).alloc B).alloc C).alloc D).heap[w.heap.size + 1 + 1 + 1]? = some D :=
  ⟨at_old _ (heap_a3 w A B C).1, at_old _ (heap_a3 w A B C).2.1, at_old _ (heap_a3 w A B C).2.2, at_new _ _ (by rw [World.size_alloc, World.size_alloc, World.size_alloc])⟩
set_option maxRecDepth 100000 in
set_option maxHeartbeats 4000000 in
theorem awake_c (w : World) : Calls Try.prog 22 #[] w fun e w' => e = .returned (.bool true) ∧ Below w.heap.size w w' := by
  have hP := awk_par
  have hR := awk_rec
  have hK := awk_chk
  have HP := Lib.hid hP
  have HR := Lib.hid hR
  have HK := Lib.hid hK
  clear hP hR hK
  go_enter Try.func22, Try.ntmps22
  go_wp2_with (first
    | (go_at_call 12; (obtain ⟨g1, g2, g3⟩ := heap_a3 w (.cells #[.int .u8 1] 5) (.cells #[.int .u8 1] 5) (.cells #[.slice (some ⟨w.heap.size, 0, none⟩) 1 1, .slice (some ⟨w.heap.size + 1, 0, none⟩) 1 1] 33); refine (par_c (l := [[1], [1]]) (n := 2) (c := 2) (rc_lit (l := [[1], [1]]) (us := [.slice (some ⟨w.heap.size, 0, none⟩) 1 1, .slice (some ⟨w.heap.size + 1, 0, none⟩) 1 1]) rfl (by decide) g3 (fun j hj => by { match j, hj with | 0, _ => exact rd_lit [1] (by decide) (by decide) g1 | 1, _ => exact rd_lit [1] (by decide) (by decide) g2 })) (small_allB (by decide)) (by decide) (by decide) 1).mono ?_; rw [HP.out]; rintro e_ w1 ⟨A1, c1, rfl, h1, hb1⟩; have H1 := Aside0.mk h1; have HB1 : Aside0 (Below w.heap.size w w1) := ⟨below_step (below_alloc (below_alloc (below_alloc (Below.refl _ _) _) _) _) hb1⟩; clear h1 hb1 g1 g2 g3))
    | (go_at_call 16; obtain ⟨g1, g2, g3, g4⟩ := heap_a4 w1 (.cells #[.int .u8 1] 5) (.cells #[.int .u8 122] 5) (.cells #[nilV, .slice (some ⟨w1.heap.size, 0, none⟩) 1 1, .slice (some ⟨w1.heap.size + 1, 0, none⟩) 1 1] 33) (.cells #[.bool false, .bool true, .bool true] 4); refine (rec_c (l := [[], [1], [122]]) (b := [false, true, true]) (n := 3) (c := 3) (n1 := 3) (c1 := 3) (rc_lit (l := [[], [1], [122]]) (us := [nilV, .slice (some ⟨w1.heap.size, 0, none⟩) 1 1, .slice (some ⟨w1.heap.size + 1, 0, none⟩) 1 1]) rfl (by decide) g3 (fun j hj => by { match j, hj with | 0, _ => exact rd_nil _ | 1, _ => exact rd_lit [1] (by decide) (by decide) g1 | 2, _ => exact rd_lit [122] (by decide) (by decide) g2 })) (bools_lit [false, true, true] (by decide) g4) (Nat.le_refl _) (small_allB (by decide)) (by decide) (by decide) 1).mono ?_; rw [HR.out]; rintro e_ w2 ⟨A2, c2, rfl, h2, hb2⟩; have H2 := Aside0.mk h2; have hbel := below_step (below_alloc (below_alloc (below_alloc (below_alloc (Below.refl _ w1) _) _) _) _) hb2; have HB2 : Aside0 (Below w.heap.size w w2) := ⟨below_step HB1.out hbel⟩; have H12 := Aside0.mk (H1.out.below hbel); clear h2 hb2 g1 g2 g3 g4 hbel; obtain ⟨us, hul, hcs, hrd⟩ := C_raw H12.out.row; obtain ⟨ad1, ea1, hx1⟩ := hcs 0 (by decide); obtain ⟨A3, c3, eu3, hc3, hC3⟩ := hrd 0 (by decide); subst ea1; rw [eu3, Addr.add_zero'] at hx1; obtain ⟨ad3, ea3, hx3⟩ := Kd.at_int hC3 0 (by decide) (by decide); subst ea3; replace hx3 : w2.cell? ad3 = some (.int .u8 122) := (by { rw [show ((0 : Int)).toNat = 0 from rfl, Addr.add_zero'] at hx3; exact hx3 }); replace hx1 : w2.cell? ad1 = some (.slice (some ad3) 1 c3) := hx1; clear hcs hrd hc3 hC3 eu3 hul)
    | (go_at_call 19; obtain ⟨g1, g2, g3, g4⟩ := heap_a4 w2 (.cells #[.int .u8 1] 5) (.cells #[.int .u8 1] 5) (.cells #[.int .u8 122] 5) (.cells #[.slice (some ⟨w2.heap.size, 0, none⟩) 1 1, .slice (some ⟨w2.heap.size + 1, 0, none⟩) 1 1, .slice (some ⟨w2.heap.size + 1 + 1, 0, none⟩) 1 1] 33); have hbelA := below_alloc (below_alloc (below_alloc (below_alloc (Below.refl _ w2) (.cells #[.int .u8 1] 5)) (.cells #[.int .u8 1] 5)) (.cells #[.int .u8 122] 5)) (.cells #[.slice (some ⟨w2.heap.size, 0, none⟩) 1 1, .slice (some ⟨w2.heap.size + 1, 0, none⟩) 1 1, .slice (some ⟨w2.heap.size + 1 + 1, 0, none⟩) 1 1] 33); refine (same_c (l := [[1], [1], [122]]) (l1 := [[1], [1], [122]]) (n := 3) (n1 := 3) (c1 := 3) (H2.out.below hbelA) (rc_lit (l := [[1], [1], [122]]) (us := [.slice (some ⟨w2.heap.size, 0, none⟩) 1 1, .slice (some ⟨w2.heap.size + 1, 0, none⟩) 1 1, .slice (some ⟨w2.heap.size + 1 + 1, 0, none⟩) 1 1]) rfl (by decide) g4 (fun j hj => by { match j, hj with | 0, _ => exact rd_lit [1] (by decide) (by decide) g1 | 1, _ => exact rd_lit [1] (by decide) (by decide) g2 | 2, _ => exact rd_lit [122] (by decide) (by decide) g3 })) (small_allB (by decide)) (small_allB (by decide)) (by decide)).mono ?_; rw [decide_eq_true rfl]; rintro e_ w3 ⟨rfl, hb3⟩; have hbel := below_step hbelA hb3; have H3 := Aside0.mk (H2.out.below hbel); have HB3 : Aside0 (Below w.heap.size w w3) := ⟨below_step HB2.out hbel⟩; clear hb3 hbel hbelA g1 g2 g3 g4)
    | (go_at_call 20; refine (chk_c (l := [[1], [1], [122]]) H3.out (small_allB (by decide)) (by decide) (by decide) 1).mono ?_; rw [HK.out]; rintro e_ w4 ⟨rfl, hb4⟩; have HB4 : Aside0 (Below w.heap.size w w4) := ⟨below_step HB3.out hb4⟩; clear hb4))
  go_ret
  exact ⟨rfl, HB4.out⟩
end Go.Proofs.Ytmlfpcnemganbaa.Q
