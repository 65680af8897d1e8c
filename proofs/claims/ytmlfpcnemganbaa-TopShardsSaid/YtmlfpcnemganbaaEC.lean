/- The functions of layer 6 as contracts over rows that are read. -/
import Derived.Test.YtmlfpcnemganbaaEB
namespace Go.Proofs.Ytmlfpcnemganbaa.Q
open Go.RowKit Go.Proofs.YtmlfpcnemganbaaW.PrintWords Go.Proofs.YtmlfpcnemganbaaW.PrintLast Go.Proofs.YtmlfpcnemganbaaW.PrintMore
open Go.Proofs.Ytmlfpcnemganbaa.Gf Go.Proofs.Ytmlfpcnemganbaa.Lin Go.Proofs.Ytmlfpcnemganbaa.Evs
set_option linter.unusedVariables false
set_option linter.unnecessarySimpa false
/-- A row of rows that is read, as an argument. -/
structure RC (W : World) (A : Option Addr) (n c : Nat) (l : List (List Int)) : Prop where
  row : Kd.C (Kd.slice 5 (Kd.int .u8)) W A n l
  cap : n ≤ c
theorem RC.below {W W' : World} {A : Option Addr} {n c : Nat} {l : List (List Int)} (h : RC W A n c l) (hb : Below W.heap.size W W') : RC W' A n c l := ⟨Kd.C_below h.row hb, h.cap⟩
theorem RC.len {W : World} {A : Option Addr} {n c : Nat} {l : List (List Int)} (h : RC W A n c l) : l.length = n := h.row.1
/-- A row of bytes that is read, as an argument. -/
structure BC (W : World) (A : Option Addr) (n c : Nat) (l : List Int) : Prop where
  row : Kd.C (Kd.int .u8) W A n l
  cap : n ≤ c
theorem BC.below {W W' : World} {A : Option Addr} {n c : Nat} {l : List Int} (h : BC W A n c l) (hb : Below W.heap.size W W') : BC W' A n c l := ⟨Kd.C_below h.row hb, h.cap⟩
theorem BC.len {W : World} {A : Option Addr} {n c : Nat} {l : List Int} (h : BC W A n c l) : l.length = n := h.row.1
theorem S_rc {W : World} {base : Nat} {ok : Nat → Prop} {v : Value} {l : List (List Int)} (h : Kd.S (Kd.slice 5 (Kd.int .u8)) 33 W base ok v l) : ∃ A c, v = .slice A l.length c ∧ RC W A l.length c l := by
  obtain ⟨A, c, rfl⟩ := Kd.S_slice h
  have h := Kd.S_reads' h
  exact ⟨A, c, rfl, h.2.2, h.2.1⟩
theorem N_rc {W : World} {base : Nat} {ok : Nat → Prop} {v : Value} {l : List (List Int)} (h : Kd.N (Kd.slice 5 (Kd.int .u8)) 33 W base ok v l) : ∃ A c, v = .slice A l.length c ∧ RC W A l.length c l := by
  obtain ⟨A, c, rfl⟩ := Kd.N_slice h
  have h := Kd.N_reads' h
  exact ⟨A, c, rfl, h.2.2, h.2.1⟩
theorem V_bc {W : World} {base : Nat} {ok : Nat → Prop} {v : Value} {l : List Int} (h : Kd.V (Kd.int .u8) 5 W base ok v l) : ∃ A c, v = .slice A l.length c ∧ BC W A l.length c l := by
  obtain ⟨A, c, rfl⟩ := Kd.V_slice h
  have h := Kd.V_reads' h
  exact ⟨A, c, rfl, h.2.2, h.2.1⟩
theorem R_bc {W : World} {base : Nat} {ok : Nat → Prop} {v : Value} {l : List Int} (h : Kd.R (Kd.int .u8) 5 W base ok v l) : ∃ A c, v = .slice A l.length c ∧ BC W A l.length c l := by
  obtain ⟨A, c, rfl⟩ := Kd.R_slice h
  have h := Kd.R_reads' h
  exact ⟨A, c, rfl, h.2.2, h.2.1⟩
theorem few_c {w : World} {A : Option Addr} {n c : Nat} {l : List (List Int)} (h : RC w A n c l) :
    Calls Try.prog 17 #[.slice A n c] w fun e w' => ∃ A' c', e = .returned (.slice A' (fewV l).length c') ∧ RC w' A' (fewV l).length c' (fewV l) ∧ Below w.heap.size w w' := by
  obtain ⟨hC, hc⟩ := h
  obtain rfl := hC.1
  obtain ⟨k, hk⟩ := Ev.rounds (few6_ev l)
  refine (tapearchivelaw06_few.calls k (fun k_ => k_ < w.heap.size) A c l _ w (Kd.V_mk hc (Kd.C_F (Kd.heap_slice 5 (Kd.heap_int .u8)) hC)) hk).mono fun e w' ⟨v, he, hN, hb⟩ => ?_
  obtain ⟨A', c', rfl, hrc⟩ := N_rc hN
  exact ⟨A', c', he, hrc, hb⟩
theorem short_c {w : World} {A : Option Addr} {n c : Nat} {l : List Int} (h : BC w A n c l) :
    Calls Try.prog 24 #[.slice A n c] w fun e w' => ∃ A' c', e = .returned (.slice A' (l.take 40).length c') ∧ BC w' A' (l.take 40).length c' (l.take 40) ∧ Below w.heap.size w w' := by
  obtain ⟨hC, hc⟩ := h
  obtain rfl := hC.1
  refine (tapearchivelaw06_short.calls (fun k_ => k_ < w.heap.size) A c l _ w (Kd.V_mk hc (Kd.C_F (Kd.heap_int .u8) hC)) (short_ev l)).mono fun e w' ⟨v, he, hN, hb⟩ => ?_
  obtain ⟨A', c', rfl, hrc⟩ := V_bc hN
  exact ⟨A', c', he, hrc, hb⟩
theorem same_c {w : World} {A A1 : Option Addr} {n n1 c c1 : Nat} {l l1 : List (List Int)} (h : RC w A n c l) (h1 : RC w A1 n1 c1 l1) (hb : AllB l) (hb1 : AllB l1) (hl : l.length ≤ 1000) :
    Calls Try.prog 19 #[.slice A n c, .slice A1 n1 c1] w fun e w' => e = .returned (.bool (decide (l = l1))) ∧ Below w.heap.size w w' := by
  obtain ⟨hC, hc⟩ := h
  obtain ⟨hC1, hc1⟩ := h1
  obtain rfl := hC.1
  obtain rfl := hC1.1
  obtain ⟨k, hk⟩ := Ev.rounds (same6_ev hb hb1 hl)
  refine (tapearchiveref06_Same.calls k A c l A1 c1 l1 _ w hC hc hC1 hc1 hk).mono fun e w' ⟨he, nd, hd⟩ => ⟨he, ?_⟩
  subst hd
  exact pw_below_drewN (Below.refl _ _) _
theorem par_c {w : World} {A : Option Addr} {n c : Nat} {l : List (List Int)} (h : RC w A n c l) (hb : AllB l) (hw : wid l ≤ 1000) (hl : l.length ≤ 1000) (p : Int) :
    Calls Try.prog 12 #[.slice A n c, .int .i64 p] w fun e w' => ∃ A' c', e = .returned (.tuple #[.slice A' (parR l p).1.length c', .int .i64 (parR l p).2]) ∧ RC w' A' (parR l p).1.length c' (parR l p).1 ∧ Below w.heap.size w w' := by
  obtain ⟨hC, hc⟩ := h
  obtain rfl := hC.1
  obtain ⟨k, hk⟩ := Ev.rounds (parity_ev hb hw hl p)
  refine (erasure_Parity.calls k A c l p _ _ w hC hc hk).mono fun e w' ⟨v, he, hS, hbel⟩ => ?_
  obtain ⟨A', c', rfl, hrc⟩ := S_rc hS
  exact ⟨A', c', he, hrc, hbel⟩
theorem chk_c {w : World} {A : Option Addr} {n c : Nat} {l : List (List Int)} (h : RC w A n c l) (hb : AllB l) (hw : wid l ≤ 1000) (hl : l.length ≤ 1000) (p : Int) :
    Calls Try.prog 20 #[.slice A n c, .int .i64 p] w fun e w' => e = .returned (.bool (chkR l p)) ∧ Below w.heap.size w w' := by
  obtain ⟨hC, hc⟩ := h
  obtain rfl := hC.1
  obtain ⟨k, hk⟩ := Ev.rounds (check_ev hb hw hl p)
  exact erasure_Check.calls k A c l p _ w hC hc hk
theorem rec_c {w : World} {A A1 : Option Addr} {n c n1 c1 : Nat} {l : List (List Int)} {b : List Bool} (h : RC w A n c l) (h1 : Kd.C Kd.bool w A1 n1 b) (hc1 : n1 ≤ c1) (hb : AllB l) (hw : ∀ r ∈ l, r.length ≤ 1000) (hl : l.length ≤ 1000) (p : Int) :
    Calls Try.prog 16 #[.slice A n c, .slice A1 n1 c1, .int .i64 p] w fun e w' => ∃ A' c', e = .returned (.tuple #[.slice A' (recR l b p).1.length c', .int .i64 (recR l b p).2]) ∧ RC w' A' (recR l b p).1.length c' (recR l b p).1 ∧ Below w.heap.size w w' := by
  obtain ⟨hC, hc⟩ := h
  obtain rfl := hC.1
  obtain rfl := h1.1
  obtain ⟨k, hk⟩ := Ev.rounds (rec_ev (h := b) hb hw hl p)
  refine (erasure_Reconstruct.calls k A c l A1 c1 b p _ _ w hC hc h1 hc1 hk).mono fun e w' ⟨v, he, hS, hbel⟩ => ?_
  obtain ⟨A', c', rfl, hrc⟩ := N_rc hS
  exact ⟨A', c', he, hrc, hbel⟩
theorem fullV_allB (l : List (List Int)) (ix : List Nat) (p : Nat) : AllB (fullV l ix p) := fun r hr => by
  rcases List.mem_append.1 hr with h | h
  · exact solV_allB _ _ r h
  · exact parD_allB _ _ r h
theorem recR_allB (l : List (List Int)) (b : List Bool) (p : Int) : AllB (recR l b p).1 := by
  unfold recR
  repeat' split
  all_goals first | exact fullV_allB _ _ _ | exact fun r hr => absurd hr (by simp)
theorem recR_len (l : List (List Int)) (b : List Bool) (p : Int) (hl : l.length ≤ 400) : (recR l b p).1.length ≤ 1000 := by
  unfold recR
  split
  · rename_i h
    repeat' split
    all_goals first | exact Nat.zero_le _ | skip
    show (fullV l _ _).length ≤ 1000
    unfold fullV
    rw [List.length_append, solV_length, parD_length, List.length_take]
    have := h.2.2.1
    omega
  · exact Nat.zero_le _
end Go.Proofs.Ytmlfpcnemganbaa.Q
