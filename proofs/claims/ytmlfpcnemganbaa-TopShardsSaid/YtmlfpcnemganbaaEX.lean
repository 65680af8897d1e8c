/- Words for lists of shards that the statements build. -/
import Derived.Test.YtmlfpcnemganbaaEAwk
import Derived.Test.YtmlfpcnemganbaaERcv
import Derived.Lib.SlBytesConst
namespace Go.Proofs.Ytmlfpcnemganbaa.Q
open Go.RowKit Go.Proofs.YtmlfpcnemganbaaW.PrintWords Go.Proofs.YtmlfpcnemganbaaW.PrintLast Go.Proofs.YtmlfpcnemganbaaW.PrintMore
open Go.Proofs.Ytmlfpcnemganbaa.Gf Go.Proofs.Ytmlfpcnemganbaa.Lin Go.Proofs.Ytmlfpcnemganbaa.Evs
set_option linter.unusedVariables false
set_option linter.unnecessarySimpa false
theorem RC_raw {W : World} {A : Option Addr} {n c : Nat} {l : List (List Int)} (h : RC W A n c l) : ∃ us : List Value, us.length = n ∧ Kd.C (Kd.raw 1) W A n (ones us) ∧ ∀ j, j < n → Rd W (us.getD j nilV) (l.getD j []) := by
  obtain ⟨us, hl, hc, hr⟩ := C_raw h.row
  refine ⟨us, hl, ⟨by rw [ones_length]; exact hl, h.row.2.1, fun hp => ?_⟩, hr⟩
  obtain ⟨ad, hA, _⟩ := hc 0 hp
  refine ⟨ad, hA, fun j p hj => ?_⟩
  have hjl : j < us.length := by have := (List.getElem?_eq_some_iff.1 hj).1; rwa [ones_length] at this
  have e : p = [us.getD j nilV] := by
    have := ones_get us j hjl
    rw [List.getD_eq_getElem?_getD, hj, Option.getD_some] at this
    exact this
  obtain ⟨ad', hA', hx⟩ := hc j (by omega)
  rw [hA] at hA'
  injection hA' with hA'
  subst hA'
  refine ⟨p, by rw [e]; rfl, ⟨rfl, by rw [e]; rfl, by rw [e]; exact (hr j (by omega)).one⟩, fun i u hu => ?_⟩
  rw [e] at hu
  cases i with
  | zero =>
    obtain rfl : us.getD j nilV = u := by simpa using hu
    rw [show (Kd.raw 1).sz = 1 from rfl, Nat.mul_one, Nat.add_zero]
    exact hx
  | succ k => simp at hu
/-- A row that is read, by the blocks that it leads to. -/
theorem Rd.view {W : World} {u : Value} {row : List Int} (h : Rd W u row) : Kd.V (Kd.int .u8) 5 W 0 (fun k => k < W.heap.size) u row := by
  obtain ⟨A, c, rfl, hc, hC⟩ := h
  exact Kd.V_mk hc (Kd.C_F (Kd.heap_int .u8) hC)
theorem view_rd {W : World} {ok : Nat → Prop} {u : Value} {row : List Int} (h : Kd.V (Kd.int .u8) 5 W 0 ok u row) : Rd W u row := by
  obtain ⟨A, c, rfl⟩ := Kd.V_slice h
  have h := Kd.V_reads' h
  exact ⟨A, c, rfl, h.2.1, h.2.2⟩
def lostL : List Int := [108, 111, 115, 116]
theorem lost_view (W : World) : Kd.V (Kd.int .u8) 5 (W.alloc (Obj.cells #[.int .u8 108, .int .u8 111, .int .u8 115, .int .u8 116] 5 (4, 5))) 0 (fun k => k = W.heap.size) (.slice (some ⟨W.heap.size, 0, none⟩) 4 4) lostL := by
  refine Kd.V_mk (xs := lostL) (Nat.le_refl 4) (fun W' hW => ⟨rfl, by decide, fun _ => ⟨_, rfl, fun j p hj => ?_⟩⟩)
  have hh := (hW W.heap.size rfl (by rw [World.size_alloc]; omega)).trans (heap_alloc_new W _)
  refine ⟨[.int .u8 p], rfl, rfl, fun i u hu => ?_⟩
  cases i with
  | zero =>
    obtain rfl : Value.int .u8 p = u := by simpa using hu
    have hc := cell_of_row W' W.heap.size j _ _ _ hh
    rw [show (Kd.int .u8).sz = 1 from rfl, Nat.mul_one, Nat.add_zero, add_plain, hc]
    match j, hj with
    | 0, hj => simp [lostL] at hj; rw [← hj]; rfl
    | 1, hj => simp [lostL] at hj; rw [← hj]; rfl
    | 2, hj => simp [lostL] at hj; rw [← hj]; rfl
    | 3, hj => simp [lostL] at hj; rw [← hj]; rfl
    | j + 4, hj => simp [lostL] at hj
  | succ k => simp at hu
theorem lost_conv (W : World) : (convert 33 33 (.slice (some ⟨W.heap.size, 0, none⟩) 4 4)).run Try.prog (W.alloc (Obj.cells #[.int .u8 108, .int .u8 111, .int .u8 115, .int .u8 116] 5)) = .ok (.slice (some ⟨W.heap.size, 0, none⟩) 4 4) (W.alloc (Obj.cells #[.int .u8 108, .int .u8 111, .int .u8 115, .int .u8 116] 5 (4, 5))) :=
  Lib.run_convert_bytes_const W 33 5 #[.int .u8 108, .int .u8 111, .int .u8 115, .int .u8 116] 4 4 Try.underlying33 Try.underlying5
theorem par_ok {w : World} {A : Option Addr} {n c : Nat} {D : List (List Int)} {p : Nat} (h : RC w A n c D) (hs : Shards D p) :
    Calls Try.prog 12 #[.slice A n c, .int .i64 (p : Nat)] w fun e w' => ∃ A' c', e = .returned (.tuple #[.slice A' p c', .int .i64 0]) ∧ RC w' A' p c' (parD D p) ∧ Below w.heap.size w w' := by
  have hl := h.len
  have hfew := hs.few
  have hone := hs.one
  have hR : parR D (p : Int) = (parD D p, 0) := by
    unfold parR
    rw [if_pos (by unfold cOk; omega), if_pos hs.even, Int.toNat_natCast]
  have hc := par_c h hs.allB hs.wid_ (by omega) (p : Int)
  rw [hR] at hc
  dsimp only at hc
  rw [parD_length] at hc
  exact hc
theorem rec_eq {w : World} {A A1 : Option Addr} {n c n1 c1 m : Nat} {l X : List (List Int)} {b : List Bool} {p z : Int} (h : RC w A n c l) (h1 : Kd.C Kd.bool w A1 n1 b) (hc1 : n1 ≤ c1) (hb : AllB l) (hw : ∀ r ∈ l, r.length ≤ 1000) (hl : l.length ≤ 1000) (hR : recR l b p = (X, z)) (hX : X.length = m) :
    Calls Try.prog 16 #[.slice A n c, .slice A1 n1 c1, .int .i64 p] w fun e w' => ∃ A' c', e = .returned (.tuple #[.slice A' m c', .int .i64 z]) ∧ RC w' A' m c' X ∧ Below w.heap.size w w' := by
  have hc := rec_c h h1 hc1 hb hw hl p
  rw [hR] at hc
  dsimp only at hc
  rw [hX] at hc
  exact hc
end Go.Proofs.Ytmlfpcnemganbaa.Q
