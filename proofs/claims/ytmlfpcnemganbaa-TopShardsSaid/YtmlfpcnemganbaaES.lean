/- erasure.sum, rows and parities: what they answer, over matrices. -/
import Derived.Test.YtmlfpcnemganbaaGM
import Derived.Test.YtmlfpcnemganbaaQ2
import Derived.Test.YtmlfpcnemganbaaQ4
import Derived.Maps.OwnSet
import Derived.Maps.OwnOps
namespace Go.Proofs.Ytmlfpcnemganbaa.Q
open Go.RowKit Go.Proofs.YtmlfpcnemganbaaW.PrintWords Go.Proofs.YtmlfpcnemganbaaW.PrintLast Go.Proofs.YtmlfpcnemganbaaW.PrintMore
open Go.Proofs.Ytmlfpcnemganbaa.Gf Go.Proofs.Ytmlfpcnemganbaa.Lin Go.Proofs.Ytmlfpcnemganbaa.Evs
set_option linter.unusedVariables false
set_option linter.unnecessarySimpa false
/-- A row and a multiple of another one. -/
theorem scale_rows (A B : Mat) (i r C : Nat) (f : GF) (hC : C ≤ 1000) : field_Scale.f (rowV A i C) (rowV B r C) (f.v : Int) = some (rowV (fun _ c => A i c + f * B r c) i C) := by
  unfold field_Scale.f
  have h1 := rowV_length A i C
  have h2 := rowV_length B r C
  have h3 := f.h
  rw [if_pos ⟨rowV_bytes _ _ _, rowV_bytes _ _ _, by omega, by omega, by omega⟩]
  refine congrArg some ?_
  unfold scaleL
  rw [h1]
  unfold rowV
  refine List.map_congr_left fun c hc => ?_
  have hc := List.mem_range.1 hc
  show scaleAt (rowV A i C) (rowV B r C) _ c = _
  unfold scaleAt
  rw [if_pos (by rw [h2]; exact hc), rowV_rd hc, rowV_rd hc, Int.toNat_natCast, Int.toNat_natCast, Int.toNat_natCast]
  rw [add_v, mul_comm_, mul_v]
theorem sum_loop {R D : Mat} {i n C : Nat} (hn : n ≤ 1000) (hC : C ≤ 1000) : ∀ (d j : Nat), j + d = n → Ev (fun k => erasure_sum.l0 k (rowV R i n) (rowV (mulF j R D) i C) (rowsL D n C) (n : Int) (j : Int)) (rowV (mulF n R D) i C)
  | 0, j, h => by
    refine Ev.step (fun k => by simp only [erasure_sum.l0]; rfl) (Ev.neg (by omega) ?_)
    rw [show j = n by omega]
    exact Ev.now _
  | d + 1, j, h => by
    have hlen := rowsL_length D n C
    have hrl := rowV_length R i n
    refine Ev.step (fun k => by simp only [erasure_sum.l0]; rfl) (Ev.pos (by omega) (Ev.pos (by omega) (Ev.pos (by omega) (Ev.pos (by omega) ?_))))
    rw [rd_rows (by omega), rowV_rd (by omega), w_succ (by omega)]
    refine Ev.call (scale_rows _ _ _ _ _ _ hC) ?_
    have e : rowV (fun _ c => mulF j R D i c + R i j * D j c) i C = rowV (mulF (j + 1) R D) i C := rowV_congr fun c _ => rfl
    rw [e]
    exact sum_loop hn hC d (j + 1) (by omega)
theorem sum_ev (R D : Mat) (i : Nat) {n C : Nat} (hn : n ≤ 1000) (hC : C ≤ 1000) : Ev (fun k => erasure_sum.f k (C : Int) (rowV R i n) (rowsL D n C)) (rowV (mulF n R D) i C) := by
  unfold erasure_sum.f
  refine Ev.pos (by omega) (Ev.pos (by omega) ?_)
  rw [Int.toNat_natCast, rowsL_length, row_zero C i]
  have e : rowV (fun _ _ => 0) i C = rowV (mulF 0 R D) i C := rowV_congr fun c _ => rfl
  rw [e]
  exact sum_loop hn hC n 0 (by omega)
theorem rows_ev {n p : Nat} (hn : 1 ≤ n) (hnp : n + p ≤ 64) : Ev (fun k => erasure_rows.f k (n : Int) (p : Int)) (rowsL (cauM n) p n) := by
  unfold erasure_rows.f
  refine Ev.bind (cauchy_ev (p : Int) (n : Int)) ?_
  by_cases hp : 1 ≤ p
  · rw [if_pos ⟨⟨by omega, by omega⟩, ⟨by omega, by omega⟩, by omega⟩, Int.toNat_natCast, Int.toNat_natCast]
    exact Ev.now _
  · rw [if_neg (fun h => by have := h.1.1; omega)]
    refine Ev.eq (Ev.now _) ?_
    rw [show p = 0 by omega]
    rfl
theorem rowsL_snoc (M : Mat) (i C : Nat) : rowsL M i C ++ [rowV M i C] = rowsL M (i + 1) C := by
  unfold rowsL
  rw [List.range_succ, List.map_append]
  rfl
theorem par_loop {D : Mat} {n p C : Nat} (h1 : 1 ≤ n) (hn : n ≤ 64) (hp : p ≤ 64) (hC : C ≤ 1000) : ∀ (d j : Nat), j + d = p → Ev (fun k => erasure_parities.l0 k (rowsL D n C) (rowsL (mulF n (cauM n) D) j C) (rowsL (cauM n) p n) (p : Int) (j : Int)) (rowsL (mulF n (cauM n) D) p C)
  | 0, j, h => by
    refine Ev.step (fun k => by simp only [erasure_parities.l0]; rfl) (Ev.neg (by omega) ?_)
    rw [show j = p by omega]
    exact Ev.now _
  | d + 1, j, h => by
    have hl1 := rowsL_length D n C
    have hl2 := rowsL_length (cauM n) p n
    have hl3 := rowsL_length (mulF n (cauM n) D) j C
    refine Ev.step (fun k => by simp only [erasure_parities.l0]; rfl) (Ev.pos (by omega) (Ev.pos (by omega) (Ev.pos (by omega) (Ev.pos (by omega) ?_))))
    rw [rd_rows (show j < p by omega), show rd_L1 (rowsL D n C) 0 = rowV D 0 C from rd_rows (i := 0) (by omega), rowV_length, w_succ (by omega)]
    refine Ev.bind (sum_ev (cauM n) D j (by omega) hC) (Ev.pos (by omega) ?_)
    rw [rowsL_snoc]
    exact par_loop h1 hn hp hC d (j + 1) (by omega)
theorem par_ev (D : Mat) {n p C : Nat} (h1 : 1 ≤ n) (hnp : n + p ≤ 64) (hC : C ≤ 1000) : Ev (fun k => erasure_parities.f k (rowsL D n C) (p : Int)) (rowsL (mulF n (cauM n) D) p C) := by
  unfold erasure_parities.f
  rw [rowsL_length]
  refine Ev.bind (rows_ev h1 hnp) ?_
  rw [rowsL_length]
  have e : ([] : List (List Int)) = rowsL (mulF n (cauM n) D) 0 C := rfl
  rw [e]
  exact par_loop h1 (by omega) (by omega) hC p 0 (by omega)
end Go.Proofs.Ytmlfpcnemganbaa.Q
/- Words for erasure.solve: rows of values, a map of rows. -/
namespace Go.Proofs.Ytmlfpcnemganbaa.Q
open Go.RowKit Go.Proofs.YtmlfpcnemganbaaW.PrintWords Go.Proofs.YtmlfpcnemganbaaW.PrintLast Go.Proofs.YtmlfpcnemganbaaW.PrintMore
open Go.Proofs.Ytmlfpcnemganbaa.Gf Go.Proofs.Ytmlfpcnemganbaa.Lin Go.Proofs.Ytmlfpcnemganbaa.Evs
set_option linter.unusedVariables false
set_option linter.unnecessarySimpa false
/-- Each value as one cell. -/
def ones (us : List Value) : List (List Value) := us.map fun u => [u]
theorem ones_length (us : List Value) : (ones us).length = us.length := by simp [ones]
theorem ones_get (us : List Value) (j : Nat) (h : j < us.length) : (ones us).getD j [] = [us.getD j (.slice none 0 0)] := by
  unfold ones
  rw [List.getD_eq_getElem?_getD, List.getD_eq_getElem?_getD, List.getElem?_map, List.getElem?_eq_getElem h]
  rfl
theorem ones_snoc (us : List Value) (u : Value) : ones us ++ [[u]] = ones (us ++ [u]) := by simp [ones]
theorem ones_append (us vs : List Value) : ones us ++ ones vs = ones (us ++ vs) := by simp [ones]
/-- What a value of a row of bytes reads as. -/
def Rd (W : World) (u : Value) (row : List Int) : Prop := ∃ A c, u = .slice A row.length c ∧ row.length ≤ c ∧ Kd.C (Kd.int .u8) W A row.length row
theorem Rd.below {W W' : World} {u : Value} {row : List Int} (h : Rd W u row) (hb : Below W.heap.size W W') : Rd W' u row := by
  obtain ⟨A, c, e, hl, hC⟩ := h
  exact ⟨A, c, e, hl, Kd.C_below hC hb⟩
theorem Rd.one {W : World} {u : Value} {row : List Int} (h : Rd W u row) : ∀ x ∈ [u], x.oneCell' = true := by
  obtain ⟨A, c, rfl, _⟩ := h
  intro x hx
  rw [List.mem_singleton.1 hx]
  rfl
/-- A row of rows as a row of values. -/
theorem C_raw {W : World} {A : Option Addr} {n : Nat} {xs : List (List Int)} (h : Kd.C (Kd.slice 5 (Kd.int .u8)) W A n xs) :
    ∃ us : List Value, us.length = n ∧ (∀ j, j < n → ∃ ad, A = some ad ∧ W.cell? (ad.add j) = some (us.getD j (.slice none 0 0))) ∧ ∀ j, j < n → Rd W (us.getD j (.slice none 0 0)) (xs.getD j []) := by
  have hl : xs.length = n := h.1
  have key : ∀ j, ∃ u : Value, j < n → (∃ ad, A = some ad ∧ W.cell? (ad.add j) = some u) ∧ Rd W u (xs.getD j []) := fun j => by
    by_cases hj : j < n
    · obtain ⟨ad, c, hA, hcl, hK, hcc⟩ := Kd.C_get h [] (j : Int) (by omega) (by omega)
      rw [Int.toNat_natCast] at hK hcc
      obtain ⟨A', c', rfl, hlc, hC⟩ := hK
      refine ⟨_, fun _ => ⟨⟨ad, hA, ?_⟩, ⟨A', c', rfl, hlc, hC⟩⟩⟩
      have := hcc 0 _ rfl
      rwa [show (Kd.slice 5 (Kd.int .u8)).sz = 1 from rfl, Nat.mul_one, Nat.add_zero] at this
    · exact ⟨.slice none 0 0, fun hh => absurd hh hj⟩
  refine ⟨(List.range n).map fun j => Classical.choose (key j), by simp, fun j hj => ?_, fun j hj => ?_⟩
  all_goals
    have e : ((List.range n).map fun j => Classical.choose (key j)).getD j (.slice none 0 0) = Classical.choose (key j) := by
      rw [List.getD_eq_getElem?_getD, List.getElem?_map, List.getElem?_range hj]
      rfl
    rw [e]
  · exact (Classical.choose_spec (key j) hj).1
  · exact (Classical.choose_spec (key j) hj).2
/-- .. and back. -/
theorem C_of_raw {W : World} {A : Option Addr} {n : Nat} {us : List Value} {xs : List (List Int)} (hl : xs.length = n) (h : Kd.C (Kd.raw 1) W A n (ones us)) (hr : ∀ j, j < n → Rd W (us.getD j (.slice none 0 0)) (xs.getD j [])) :
    Kd.C (Kd.slice 5 (Kd.int .u8)) W A n xs := by
  have hul : us.length = n := by have := h.1; rwa [ones_length] at this
  refine ⟨hl, h.2.1, fun hp => ?_⟩
  obtain ⟨ad, hA, hc⟩ := h.2.2 hp
  refine ⟨ad, hA, fun j p hj => ?_⟩
  have hjn : j < n := by have := (List.getElem?_eq_some_iff.1 hj).1; omega
  obtain ⟨c, hcl, hK, hcc⟩ := hc j [us.getD j (.slice none 0 0)] (by
    have := ones_get us j (by omega)
    rw [List.getD_eq_getElem?_getD, List.getElem?_eq_getElem (by rw [ones_length]; omega), Option.getD_some] at this
    rw [List.getElem?_eq_getElem (by rw [ones_length]; omega), this])
  obtain ⟨A', c', he, hlc, hC⟩ := hr j hjn
  have ex : xs.getD j [] = p := by rw [List.getD_eq_getElem?_getD, hj]; rfl
  rw [ex] at he hlc hC
  exact ⟨c, hcl, ⟨A', c', by rw [hK.1, he], hlc, hC⟩, hcc⟩
/-- Rows of bytes of the call's own: known by their blocks' type. -/
def K5 (W W' : World) : Prop := ∀ (k : Nat) (cells : Array Value), W.heap[k]? = some (Obj.cells cells 5 (0, 0)) → W'.heap[k]? = W.heap[k]?
theorem K5.refl (W : World) : K5 W W := fun _ _ _ => rfl
theorem K5.trans {W W' W'' : World} (h : K5 W W') (h' : K5 W' W'') : K5 W W'' := fun k cells hk => (h' k cells ((h k cells hk).trans hk)).trans (h k cells hk)
theorem K5.below {W W' : World} (hb : Below W.heap.size W W') : K5 W W' := fun k cells hk => hb.block k (by have := (Array.getElem?_eq_some_iff.1 hk).1; exact this)
theorem K5.grown {W W' : World} {row : Option Nat} (hg : W.grownBy W' row) (hr : ∀ (k : Nat) (cells : Array Value), row = some k → W.heap[k]? ≠ some (Obj.cells cells 5 (0, 0))) : K5 W W' := fun k cells hk =>
  hg.block k (by have := (Array.getElem?_eq_some_iff.1 hk).1; exact this) (fun e => hr k cells e.symm hk)
def Rw (W : World) (u : Value) (row : List Int) : Prop := Kd.R (Kd.int .u8) 5 W 0 (fun k => some k = u.ownBlock) u row
theorem Rw.keep {W W' : World} {u : Value} {row : List Int} (h : Rw W u row) (hk : K5 W W') : Rw W' u row :=
  Kd.R_step h (fun k hk' _ => by obtain ⟨cells, hc⟩ := Kd.R_typed h k hk'.symm; exact hk k cells hc)
theorem Rw.rd {W : World} {u : Value} {row : List Int} (h : Rw W u row) : Rd W u row := by
  obtain ⟨A, c, e, hl, hC⟩ := Kd.R_reads h
  exact ⟨A, c, e, hl, hC⟩
/-- A row of rows of the call's own as a row of values. -/
theorem S_raw {W : World} {base : Nat} {ok : Nat → Prop} {v : Value} {xs : List (List Int)} (h : Kd.S (Kd.slice 5 (Kd.int .u8)) 33 W base ok v xs) :
    ∃ us : List Value, us.length = xs.length ∧ Kd.R (Kd.raw 1) 33 W base (fun _ => True) v (ones us) ∧ ∀ j, j < xs.length → Rw W (us.getD j (.slice none 0 0)) (xs.getD j []) := by
  have hR := Kd.S_R h
  obtain ⟨h0, inner, ho, hr⟩ := hR
  have hsz : (Kd.slice 5 (Kd.int .u8)).sz = 1 := rfl
  have hil : inner.length = xs.length := by have := hr.1; rw [hsz, Nat.mul_one] at this; exact this
  have hone : ∀ j, j < xs.length → (inner.drop (j * 1)).take 1 = [inner.getD j (.slice none 0 0)] := fun j hj => by
    rw [Nat.mul_one, List.getD_eq_getElem?_getD, List.getElem?_eq_getElem (by omega), List.drop_eq_getElem_cons (by omega)]
    rfl
  have hM : ∀ j, j < xs.length → ∃ u, [inner.getD j (.slice none 0 0)] = [u] ∧ Kd.R (Kd.int .u8) 5 W base (fun k => ok k ∧ some k ≠ v.ownBlock) u (xs.getD j []) := fun j hj => by
    have := hr.2 j xs[j] (List.getElem?_eq_getElem hj)
    rw [hsz, hone j hj] at this
    rw [List.getD_eq_getElem?_getD (l := xs), List.getElem?_eq_getElem hj, Option.getD_some]
    exact this
  refine ⟨inner, hil, ⟨fun _ _ => trivial, inner, ?_, ?_⟩, fun j hj => ?_⟩
  · rw [ones_length, hil]
    exact ho
  · refine ⟨by rw [ones_length, show (Kd.raw 1).sz = 1 from rfl, Nat.mul_one], fun j p hj => ?_⟩
    have hjl : j < inner.length := by have := (List.getElem?_eq_some_iff.1 hj).1; rwa [ones_length] at this
    have e : p = [inner.getD j (.slice none 0 0)] := by
      have := ones_get inner j hjl
      rw [List.getD_eq_getElem?_getD, hj, Option.getD_some] at this
      exact this
    rw [show (Kd.raw 1).sz = 1 from rfl, hone j (by omega), e]
    refine ⟨rfl, rfl, fun u hu => ?_⟩
    obtain ⟨u', hu', hR'⟩ := hM j (by omega)
    rw [hu'] at hu
    rw [List.mem_singleton.1 hu]
    exact (Kd.R_val hR').2
  · obtain ⟨u', hu', hR'⟩ := hM j hj
    rw [List.cons.inj hu' |>.1]
    exact Kd.R_lower (Kd.R_tight rfl hR') (Nat.zero_le _)
theorem raw_cell {W : World} {base N cap G : Nat} {ok : Nat → Prop} {us : List Value} (h : Kd.R (Kd.raw 1) 33 W base ok (.slice (some ⟨G, 0, none⟩) N cap) (ones us)) {j : Nat} (hj : j < us.length) :
    W.cell? ⟨G, j, none⟩ = some (us.getD j (.slice none 0 0)) := by
  have hN := (Kd.R_reads' h).1
  rw [ones_length] at hN
  obtain ⟨c, hcl, hM, hcc, _⟩ := Kd.R_elem h [] (j : Int) (by omega) (by omega)
  rw [Int.toNat_natCast] at hM hcc
  rw [ones_get us j hj] at hM
  have hM1 := hM.1
  subst hM1
  have := hcc 0 _ rfl
  rwa [show (Kd.raw 1).sz = 1 from rfl, Nat.mul_one, Nat.add_zero] at this
/-- A map's elements as they are. -/
def heldR (v : Value) : Option (DataW Value × List MemPlace) := some (.held v, [])
theorem wpList_lookup_held {P : Program} (w : World) {ops : Array Oper} {rest : List Oper} {o : Oper} {a : Act} {Q : Exit → Act → World → Prop}
    (hg : o.guard = none) (m x : Operand) (t : TypeId) (hop : o.op = Op.lookup t m x false)
    (k e : TypeId) (K : Go.Maps.Keyed P k) (ht : P.underlying t = some (.map k e)) (z : Value) (hz : (zeroValue e).run P w = .ok z w) (b n : Nat) (D : DataW Value)
    (hm : a.eval m = .map (some b)) (hown : w.ownsMap P k heldR b n D) (key : Value) (kl : Lit) (hx : a.eval x = key) (hkey : keyOf P k key = some kl) (u : Value) (hat : D.atKey kl (.held z) = .held u)
    (hK : wpList P ops Q rest (a.put o.dst u) w) :
    wpList P ops Q (o :: rest) a w := by
  refine wpList_plain hg fun K' hK' => ?_
  obtain ⟨v, ps, hrun, hv⟩ := hown.lookup K ht hz (zd := .held z) (zp := []) rfl hkey
  have e : v = u := by
    unfold heldR at hv
    simp only [Option.some.injEq, Prod.mk.injEq] at hv
    have h1 := hv.1
    rw [hat] at h1
    exact DataW.held.inj h1
  subst e
  unfold Oper.wp
  simp [execOp, hop, hm, hx, hrun, Result.andThen]
  exact hK' _ _ hK
/-- The map after j rows. -/
def KM (us : List Value) (j : Nat) (D : DataW Value) : Prop := Go.Maps.IsMap D ∧ ∀ i : Nat, i < j → D.atKey (.int .i64 (i : Int)) (.held (.slice none 0 0)) = .held (us.getD i (.slice none 0 0))
theorem KM.zero (us : List Value) : KM us 0 (.map []) := ⟨Go.Maps.isMap_empty, fun i hi => absurd hi (by omega)⟩
theorem KM.step {us : List Value} {j : Nat} {D : DataW Value} (h : KM us j D) : KM us (j + 1) (D.put (.int .i64 (j : Int)) (.held (us.getD j (.slice none 0 0)))) := by
  refine ⟨h.1.put _ _, fun i hi => ?_⟩
  by_cases e : i = j
  · subst e
    exact Go.Maps.atKey_put_same h.1 (by trivial) _ _
  · have hne : (Lit.int .i64 (i : Int)) ≠ (Lit.int .i64 (j : Int)) := fun he => by
      injection he with _ he
      omega
    rw [Go.Maps.atKey_put_other hne]
    exact h.2 i (by omega)
theorem law3 : Go.Maps.Keyed Try.prog 3 := Go.Maps.int_keyed Try.underlying3
end Go.Proofs.Ytmlfpcnemganbaa.Q
/- erasure.solve: what it answers. -/
namespace Go.Proofs.Ytmlfpcnemganbaa.Q
open Go.RowKit Go.Proofs.YtmlfpcnemganbaaW.PrintWords Go.Proofs.YtmlfpcnemganbaaW.PrintLast Go.Proofs.YtmlfpcnemganbaaW.PrintMore
open Go.Proofs.Ytmlfpcnemganbaa.Gf Go.Proofs.Ytmlfpcnemganbaa.Lin Go.Proofs.Ytmlfpcnemganbaa.Evs
open Go.Maps
set_option linter.unusedVariables false
set_option linter.unnecessarySimpa false
abbrev nilV : Value := .slice none 0 0
/-- The rows of the identity matrix and of the Cauchy matrix. -/
def gen (n : Nat) : Mat := fun i c => if i < n then dlt i c else cauM n (i - n) c
theorem gen_get {n p j : Nat} (hj : j < n + p) : (rowsL dlt n n ++ rowsL (cauM n) p n).getD j [] = rowV (gen n) j n := by
  rw [List.getD_eq_getElem?_getD]
  by_cases h : j < n
  · rw [List.getElem?_append_left (by rw [rowsL_length]; exact h), rowsL_get h]
    exact rowV_congr fun c _ => by unfold gen; rw [if_pos h]
  · rw [List.getElem?_append_right (by rw [rowsL_length]; omega), rowsL_length, rowsL_get (by omega)]
    exact rowV_congr fun c _ => by unfold gen; rw [if_neg h]
/-- The rows that belong to some shards. -/
def selM (n : Nat) (l : List Int) : Mat := fun j c => gen n (l.getD j 0).toNat c
def pickL (l0 : List (List Int)) (l1 : List Int) : List (List Int) := l1.map fun i => rd_L1 l0 i
/-- The values that some indices choose. -/
def pkV (us : List Value) (l : List Int) (j : Nat) : List Value := (List.range j).map fun t => us.getD (l.getD t 0).toNat nilV
theorem pkV_length (us : List Value) (l : List Int) (j : Nat) : (pkV us l j).length = j := by simp [pkV]
theorem pkV_get (us : List Value) (l : List Int) {j t : Nat} (h : t < j) : (pkV us l j).getD t nilV = us.getD (l.getD t 0).toNat nilV := by
  unfold pkV
  rw [List.getD_eq_getElem?_getD, List.getElem?_map, List.getElem?_range h]
  rfl
theorem pkV_snoc (us : List Value) (l : List Int) (j : Nat) : ones (pkV us l j) ++ [[us.getD (l.getD j 0).toNat nilV]] = ones (pkV us l (j + 1)) := by
  rw [ones_snoc]
  unfold pkV
  rw [List.range_succ, List.map_append]
  rfl
theorem ownsMap_below {H : Type} {P : Program} {k : TypeId} {R : Value → Option (DataW H × List MemPlace)} {b n : Nat} {D : DataW H} {W W' : World} (h : W.ownsMap P k R b n D) (hb : Below W.heap.size W W') : W'.ownsMap P k R b n D := by
  obtain ⟨es, clock, hm, F, hs, hD⟩ := h
  exact ⟨es, clock, (hb.block b (Array.getElem?_eq_some_iff.1 hm).1).trans hm, F, hs, hD⟩
theorem ownsMap_not {H : Type} {P : Program} {k : TypeId} {R : Value → Option (DataW H × List MemPlace)} {b n : Nat} {D : DataW H} {W : World} (h : W.ownsMap P k R b n D) (cells : Array Value) (t : Nat) (z : Nat × Nat) : W.heap[b]? ≠ some (Obj.cells cells t z) := by
  obtain ⟨es, clock, hm, _⟩ := h
  rw [hm]
  intro e
  cases e
/-- A row of values of the call's own, where the map is written. -/
theorem raw_map {H : Type} {P : Program} {k : TypeId} {R : Value → Option (DataW H × List MemPlace)} {b n : Nat} {D : DataW H} {W W' : World} (hm : W.ownsMap P k R b n D) {base : Nat} {ok : Nat → Prop} {v : Value} {xs : List (List Value)} (h : Kd.R (Kd.raw 1) 33 W base ok v xs) (hg : W.grownBy W' (some b)) : Kd.R (Kd.raw 1) 33 W' base ok v xs :=
  Kd.R_mono (Kd.R_move (Kd.R_bound h) (fun k hk => hg.block k hk.2.2.1 (fun e => by
    injection e with e
    obtain ⟨q, _, cells, hc⟩ := hk.2.2.2
    rw [e] at hc
    exact ownsMap_not hm _ _ _ hc))) (fun k hk => hk.1)
/-- The map, where a row of values of the call's own is written. -/
theorem map_raw {H : Type} {P : Program} {k : TypeId} {R : Value → Option (DataW H × List MemPlace)} {b n : Nat} {D : DataW H} {W W' : World} (hm : W.ownsMap P k R b n D) {base : Nat} {ok : Nat → Prop} {v : Value} {xs : List (List Value)} (h : Kd.R (Kd.raw 1) 33 W base ok v xs) (hg : W.grownBy W' v.ownBlock) : W'.ownsMap P k R b n D :=
  hm.kept hg (fun e => by
    obtain ⟨cells, hc⟩ := Kd.R_typed h b e.symm
    exact ownsMap_not hm _ _ _ hc)
theorem raw_K5 {W W' : World} {base : Nat} {ok : Nat → Prop} {v : Value} {xs : List (List Value)} (h : Kd.R (Kd.raw 1) 33 W base ok v xs) (hg : W.grownBy W' v.ownBlock) : K5 W W' :=
  K5.grown hg (fun k cells hk hc => by
    obtain ⟨cells', hc'⟩ := Kd.R_typed h k hk
    rw [hc'] at hc
    injection hc with hc
    injection hc with _ hc
    exact absurd hc (by decide))
theorem zero33 (W : World) : (zeroValue 33).run Try.prog W = .ok nilV W := by kernel_rfl
theorem sum_calls {R D : Mat} {i n C : Nat} (hn : n ≤ 1000) (hC : C ≤ 1000) (W : World) (Aj As : Option Addr) (cj cs : Nat) (hj : Kd.C (Kd.int .u8) W Aj n (rowV R i n)) (hcj : n ≤ cj) (hs : Kd.C (Kd.slice 5 (Kd.int .u8)) W As n (rowsL D n C)) (hcs : n ≤ cs) :
    Calls Try.prog 51 #[.int .i64 (C : Nat), .slice Aj n cj, .slice As n cs] W fun e w' => ∃ v, e = .returned v ∧ Kd.R (Kd.int .u8) 5 w' W.heap.size (fun _ => True) v (rowV (mulF n R D) i C) ∧ Below W.heap.size W w' := by
  obtain ⟨k, hk⟩ := Ev.rounds (sum_ev R D i hn hC)
  have h := erasure_sum.calls k (C : Int) Aj cj (rowV R i n) As cs (rowsL D n C) _ W (by rw [rowV_length]; exact hj) (by rw [rowV_length]; exact hcj) (by rw [rowsL_length]; exact hs) (by rw [rowsL_length]; exact hcs) hk
  rw [rowV_length, rowsL_length] at h
  exact h
set_option maxRecDepth 100000 in
set_option maxHeartbeats 8000000 in
theorem solve_walk {n p q : Nat} (hq : q = n + p) (h1 : 1 ≤ n) (hnp : q ≤ 64) {l0 : List (List Int)} {l1 : List Int} (hn : l1.length = n) (hi : ∀ i ∈ l1, 0 ≤ i ∧ i < (q : Int) ∧ i < (l0.length : Int)) {C : Nat} (hC : C ≤ 1000) {D : Mat} (hD : pickL l0 l1 = rowsL D n C)
    (hr : rankF n n (selM n l1) = n) (A0 : Option Addr) (c0 : Nat) (A1 : Option Addr) (c1 : Nat) (w : World) (hr0 : Kd.C (Kd.slice 5 (Kd.int .u8)) w A0 l0.length l0) (hc0 : l0.length ≤ c0) (hr1 : Kd.C (Kd.int .i64) w A1 n l1) (hc1 : n ≤ c1) :
    Calls Try.prog 44 #[.slice A0 l0.length c0, .slice A1 n c1, .int .i64 (p : Nat)] w fun e w' => ∃ v, e = .returned v ∧ Kd.S (Kd.slice 5 (Kd.int .u8)) 33 w' w.heap.size (fun _ => True) v (rowsL (mulF n (invF n (selM n l1)) D) n C) ∧ Below w.heap.size w w' := by
  have hidx : ∀ j, j < n → ∃ i : Nat, l1.getD j 0 = (i : Int) ∧ i < q ∧ i < l0.length := fun j hj => by
    have := hi (l1.getD j 0) (by rw [List.getD_eq_getElem?_getD, List.getElem?_eq_getElem (by omega)]; exact List.getElem_mem _)
    exact ⟨(l1.getD j 0).toNat, by omega, by omega, by omega⟩
  have hgetD : ∀ j, j < n → (rowsL D n C).getD j [] = rd_L1 l0 (l1.getD j 0) := fun j hj => by
    rw [← hD]
    unfold pickL
    rw [List.getD_eq_getElem?_getD, List.getElem?_map, List.getD_eq_getElem?_getD, List.getElem?_eq_getElem (by omega)]
    rfl
  obtain ⟨us0, hul0, hcell0, hrd0⟩ := C_raw hr0
  have hl0 : 0 < l0.length := by obtain ⟨i, _, _, h⟩ := hidx 0 (by omega); omega
  obtain ⟨ad0, rfl, _⟩ := hcell0 0 hl0
  obtain ⟨ad1, rfl, _⟩ := hr1.2.2 (by omega)
  have HR1 := Aside0.mk hr1
  have HRD := Aside0.mk hrd0
  have HIDX := Aside0.mk hidx
  have HGET := Aside0.mk hgetD
  have HC0 : Aside0 (∀ j, j < l0.length → w.cell? (ad0.add j) = some (us0.getD j nilV)) := ⟨fun j hj => by obtain ⟨ad, e, h⟩ := hcell0 j hj; cases e; exact h⟩
  clear hr0 hr1 hrd0 hcell0 hi hidx hgetD hD hn hul0
  obtain ⟨kI, hkI⟩ := Ev.rounds (ident_ev (n : Nat))
  rw [if_pos (by omega), Int.toNat_natCast] at hkI
  obtain ⟨kR, hkR⟩ := Ev.rounds (rows_ev (n := n) (p := p) h1 (by omega))
  have HKI := Aside0.mk hkI
  have HKR := Aside0.mk hkR
  clear hkI hkR
  have HQ := Lib.hid hq
  have hn64 : n ≤ 64 := by omega
  have hp64 : p ≤ 64 := by omega
  clear hq
  have hmm := @run_makeMap Try.prog
  have HB0 : Aside0 (Below w.heap.size w (w.alloc (.map #[] 0))) := ⟨below_alloc (Below.refl _ _) _⟩
  go_enter Try.func44, Try.ntmps44
  go_wp2_with (first
    | (go_at_call 36; refine (matrix_Identity.calls kI _ _ _ HKI.out).mono ?_; rintro e_ w2 ⟨v2, rfl, hs2, hb2⟩; obtain ⟨A2, c2, e2⟩ := Kd.S_slice hs2; rw [rowsL_length] at e2; subst e2; have HS2 := Aside0.mk hs2; have HB2 := Aside0.mk (below_step HB0.out hb2); have HM2 := Aside0.mk (ownsMap_below (World.ownsMap_made w Try.prog 3 heldR) hb2); clear hs2 hb2)
    | (go_at_call 52; refine (erasure_rows.calls kR _ _ _ _ HKR.out).mono ?_; rintro e_ w3 ⟨v3, rfl, hs3, hb3⟩; obtain ⟨A3, c3, e3⟩ := Kd.S_slice hs3; rw [rowsL_length] at e3; subst e3; have HS3 := Aside0.mk hs3; have HB3 := Aside0.mk (below_step HB2.out hb3); have HM3 := Aside0.mk (ownsMap_below HM2.out hb3); have HS23 := Aside0.mk (Kd.S_below HS2.out hb3); clear hs3 hb3 HS2 HB2 HM2)
    | ((with_reducible refine gate_builtin (b := .append) (xs := #[.tmp 24, .tmp 27]) rfl ?_); at_builtin; obtain ⟨us2, hu2, hr2, hw2⟩ := S_raw HS23.out; obtain ⟨us3, hu3, hr3, hw3⟩ := S_raw HS3.out; rw [rowsL_length] at hu2 hu3; refine Kd.R_append_rows (Kd.raw 1) (w0 := w) w.heap.size rfl (.tmp 24) (.tmp 27) 22 33 (.slice none 0 0) 24 rfl Try.underlying22 info33 rfl (by decide) (by omega) (.slice A2 n c2) (ones us2) (ones us3) A3 p c3 (fun _ => True) (fun _ => False) rfl rfl ?aO ?aR (fun _ _ h => h) (fun _ h => h.elim) (fun _ _ => trivial) ?aB ?aS ?aL ?_; (case aO => exact Kd.R_lower hr2 (by rw [World.size_alloc]; omega)); (case aR => (have h_ := (Kd.R_reads' hr3).2.2); rw [ones_length, hu3] at h_; exact h_); (case aB => exact HB3.out); (case aS => exact HB3.out.size); (case aL => rw [ones_length, hu2]; omega); intro v4 w4 ho4 hb4 hg4 hat4; have hM4 := HM3.out.kept hg4 (fun e => by { have := Kd.R_base hr2 _ e.symm; rw [World.size_alloc] at this; omega }); have hK4 := raw_K5 hr2 hg4; obtain ⟨G, cap, e4, hGb, hGl, _⟩ := Kd.R_form ho4 (by rw [ones_append, ones_length, List.length_append, hu2]; omega); rw [ones_append, ones_length, List.length_append, hu2, hu3, ← HQ.out] at e4; subst e4))
  rw [ones_append] at ho4
  obtain ⟨us, hus⟩ : ∃ us, us = us2 ++ us3 := ⟨_, rfl⟩
  rw [← hus] at ho4
  have hul : us.length = q := by rw [hus, List.length_append, hu2, hu3, HQ.out]
  have HW : Aside0 (∀ j, j < q → Rw w4 (us.getD j nilV) (rowV (gen n) j n)) := ⟨fun j hj => by
    have hj2 : j < n + p := by have := HQ.out; omega
    rw [← gen_get hj2, hus]
    by_cases h : j < n
    · rw [List.getD_eq_getElem?_getD, List.getElem?_append_left (by omega), ← List.getD_eq_getElem?_getD, List.getD_eq_getElem?_getD (l := rowsL dlt n n ++ rowsL (cauM n) p n), List.getElem?_append_left (by rw [rowsL_length]; omega), ← List.getD_eq_getElem?_getD]
      exact (hw2 j (by rw [rowsL_length]; exact h)).keep hK4
    · rw [List.getD_eq_getElem?_getD, List.getElem?_append_right (by omega), ← List.getD_eq_getElem?_getD, List.getD_eq_getElem?_getD (l := rowsL dlt n n ++ rowsL (cauM n) p n), List.getElem?_append_right (by rw [rowsL_length]; omega), ← List.getD_eq_getElem?_getD, rowsL_length, hu2]
      exact (hw3 (j - n) (by rw [rowsL_length]; omega)).keep hK4⟩
  have HO := Aside0.mk ho4
  have HB := Aside0.mk hb4
  have HM := Aside0.mk hM4
  clear ho4 hb4 hg4 hat4 hM4 hK4 hw2 hw3 hr2 hr3 HS23 HS3 HB3 HM3 HB0 hmm hus hu2 hu3 hGb hGl
  go_loopg [30] (q + 1) (fun kq v30 W => ∃ (j : Nat) (DM : DataW Value), Hid (kq + j = q + 1) ∧ j ≤ q ∧ v30 = .int .i64 (j : Nat) ∧ Aside0 (W.ownsMap Try.prog 3 heldR w.heap.size j DM) ∧ Aside0 (KM us j DM) ∧ Aside0 (K5 w4 W) ∧ Aside0 (Kd.R (Kd.raw 1) 33 W w.heap.size (fun _ => True) (.slice (some ⟨G, 0, none⟩) q cap) (ones us)) ∧ Aside0 (Below w.heap.size w W))
  case atStart => exact ⟨0, .map [], Lib.hid (by omega), Nat.zero_le _, rfl, HM, ⟨KM.zero us⟩, ⟨K5.refl _⟩, HO, HB⟩
  case round =>
    clear HO HB HM
    obtain ⟨j, DM, HK, hjq, rfl, HM, HKM, HK5, HO, HB⟩ := hrel
    by_cases hj : j < q
    · have hj1 : decide ((j : Int) < (q : Int)) = true := decide_eq_true (by omega)
      have hj2 : decide (j < q) = true := decide_eq_true hj
      have hj3 : (j : Int) < (q : Int) := by omega
      have e1 := raw_cell HO.out (show j < us.length by rw [hul]; exact hj)
      have hst := HKM.out.step
      obtain ⟨u, hu⟩ : ∃ u, u = us.getD j nilV := ⟨_, rfl⟩
      have hkey : keyOf Try.prog 3 (.int .i64 (j : Int)) = some (.int .i64 (j : Int)) := keyOf_int_mk Try.underlying3 (WalkArith.wf_i64 (by omega))
      rw [← hu] at e1 hst
      have HST := Aside0.mk hst
      clear hst hu
      go_wp2_with (first | (at_mapUpdate; refine wpList_mapUpdate_own _ rfl _ _ _ 79 rfl 3 33 law3 Try.underlying79 heldR w.heap.size j DM rfl HM.out (by unfold maxLen; omega) _ _ (.int .i64 (j : Int)) rfl rfl hkey (.held u) [] rfl ?_; intro w5 hm5 hg5; have HM5 := Aside0.mk hm5; have HO5 := Aside0.mk (raw_map HM.out HO.out hg5); have HB5 : Aside0 (Below w.heap.size w w5) := ⟨HB.out.grown hg5 HB.out.size (fun x hx => by cases hx; exact Nat.le_refl _)⟩; have HK55 : Aside0 (K5 w4 w5) := ⟨HK5.out.trans (K5.grown hg5 (fun k cells hk hc => by { injection hk with hk; rw [← hk] at hc; exact ownsMap_not HM.out _ _ _ hc }))⟩; clear hm5 hg5))
      go_roundg (q + 1 - (j + 1))
      case measure => have := HK.out; omega
      case rel => exact ⟨j + 1, _, Lib.hid (by have := HK.out; omega), by omega, by go_num, HM5, HST, HK55, HO5, HB5⟩
    · have hj1 : decide ((j : Int) < (q : Int)) = false := decide_eq_false (by omega)
      have hj2 : decide (j < q) = false := decide_eq_false hj
      have hjq2 : j = q := by omega
      subst hjq2
      go_wp2
      have HL : Aside0 (∀ i, i < j → DM.atKey (.int .i64 (i : Int)) (.held nilV) = .held (us.getD i nilV)) := ⟨HKM.out.2⟩
      clear HKM HK
      go_loopg [11, 12, 41] (n + 1) (fun kq v11 v12 v41 W => ∃ t : Nat, Hid (kq + t = n + 1) ∧ t ≤ n ∧ v41 = .int .i64 (t : Nat) ∧ Aside0 (W.ownsMap Try.prog 3 heldR w.heap.size j DM) ∧ Aside0 (K5 w4 W) ∧ Aside0 (Kd.R (Kd.raw 1) 33 W w.heap.size (fun k => some k ≠ (v12 : Value).ownBlock) v11 (ones (pkV us l1 t))) ∧ Aside0 (Kd.R (Kd.raw 1) 33 W w.heap.size (fun k => some k ≠ (v11 : Value).ownBlock) v12 (ones (pkV us0 l1 t))) ∧ Aside0 (Below w.heap.size w W))
      case atStart => exact ⟨0, Lib.hid (by omega), Nat.zero_le _, rfl, HM, HK5, ⟨Kd.R_nil _ _ _ _ _⟩, ⟨Kd.R_nil _ _ _ _ _⟩, HB⟩
      case round =>
        clear HO HB HM HK5
        obtain ⟨t, HK, htn, rfl, HM, HK5, HO1, HO2, HB⟩ := hrel
        by_cases ht : t < n
        · have ht1 : decide ((t : Int) < (n : Int)) = true := decide_eq_true (by omega)
          have ht2 : decide (t < n) = true := decide_eq_true ht
          have ht3 : (t : Int) < (n : Int) := by omega
          obtain ⟨i, hi0, hiq, hil⟩ := HIDX.out t ht
          obtain ⟨ad, ea, hx1⟩ := Kd.at_int HR1.out (t : Int) (by omega) (by omega)
          injection ea with ea
          subst ea
          have hrd : rd l1 (t : Int) = (i : Int) := by unfold rd; rw [Int.toNat_natCast]; exact hi0
          rw [hrd, Int.toNat_natCast] at hx1
          replace hx1 := (HB.out.cell (World.block_lt_of_cell? w _ hx1)).trans hx1
          have hx0 := HC0.out i hil
          replace hx0 := (HB.out.cell (World.block_lt_of_cell? w _ hx0)).trans hx0
          have hi1 : decide ((i : Int) < (l0.length : Int)) = true := decide_eq_true (by omega)
          have hi2 : decide (i < l0.length) = true := decide_eq_true hil
          have hi3 : (i : Int) < (l0.length : Int) := by omega
          have hkey : keyOf Try.prog 3 (.int .i64 (i : Int)) = some (.int .i64 (i : Int)) := keyOf_int_mk Try.underlying3 (WalkArith.wf_i64 (by omega))
          have hlk := HL.out i hiq
          have hp1 : ones (pkV us l1 t) ++ [[us.getD i nilV]] = ones (pkV us l1 (t + 1)) := by rw [← pkV_snoc, hi0, Int.toNat_natCast]
          have hp2 : ones (pkV us0 l1 t) ++ [[us0.getD i nilV]] = ones (pkV us0 l1 (t + 1)) := by rw [← pkV_snoc, hi0, Int.toNat_natCast]
          obtain ⟨Au, cu, eu, _, _⟩ := ((HW.out i hiq).keep HK5.out).rd
          obtain ⟨As, cs, es, _, _⟩ := HRD.out i hil
          generalize (rowV (gen n) i n).length = lu at eu
          generalize (l0.getD i []).length = ls at es
          have es' : us0.getD i nilV = .slice As ls cs := es
          rw [eu] at hlk hp1
          rw [es'] at hx0 hp2
          have hol1 : (ones (pkV us l1 t)).length = t := by rw [ones_length, pkV_length]
          have hol2 : (ones (pkV us0 l1 t)).length = t := by rw [ones_length, pkV_length]
          have HP1 := Lib.hid hp1
          have HP2 := Lib.hid hp2
          have HLE := Lib.hid hol1
          have HLE2 := Lib.hid hol2
          have HLK := Aside0.mk hlk
          have HX0 : Aside0 (w.cell? (ad0.add i) = some (.slice As ls cs)) := ⟨by rw [← es']; exact HC0.out i hil⟩
          clear hp1 hp2 hol1 hol2 hlk hrd eu es es'
          go_wp2_with (first
            | (at_lookup; refine wpList_lookup_held _ rfl _ _ 79 rfl 3 33 law3 Try.underlying79 nilV (zero33 _) w.heap.size j DM rfl HM.out (.int .i64 (i : Int)) (.int .i64 (i : Int)) rfl hkey (.slice Au lu cu) HLK.out ?_)
            | ((with_reducible refine gate_builtin (b := .append) (xs := #[.tmp 45, .tmp 49]) rfl ?_); at_builtin; refine Kd.R_append (Kd.raw 1) (w0 := w) w.heap.size rfl (.tmp 45) (.tmp 49) 22 33 (.slice none 0 0) 24 rfl Try.underlying22 info33 rfl (by decide) (by omega) u11 (ones (pkV us l1 t)) [.slice Au lu cu] [.slice Au lu cu] (fun k => some k ≠ (u12 : Value).ownBlock) (fun _ => False) rfl rfl ?aP (fun _ hk => hk.elim) ?aF ?aO ?aB ?aS ?aL ?_; (case aP => exact ⟨rfl, rfl, fun x hx => by { rw [List.mem_singleton.1 hx]; rfl }⟩); (case aF => exact Kd.fresh' (Kd.R_lt HO2.out)); (case aO => exact HO1.out); (case aB => exact HB.out); (case aS => exact HB.out.size); (case aL => rw [HLE.out]; omega); intro v5 w5 ho5 hb5 hg5 hat5; rw [HP1.out] at ho5; have HO15 := Aside0.mk ho5; have HB5 := Aside0.mk hb5; have HO25 : Aside0 (Kd.R (Kd.raw 1) 33 w5 w.heap.size (fun k => True ∧ some k ≠ v5.ownBlock) u12 (ones (pkV us0 l1 t))) := ⟨Kd.R_after (ok := fun _ => True) (Kd.R_mono HO2.out (fun k hk => ⟨trivial, hk⟩)) hg5 hat5⟩; have HM5 := Aside0.mk (map_raw HM.out HO1.out hg5); have HK55 : Aside0 (K5 w4 w5) := ⟨HK5.out.trans (raw_K5 HO1.out hg5)⟩; have hx2 := (hb5.cell (World.block_lt_of_cell? w _ HX0.out)).trans HX0.out; clear ho5 hb5 hg5 hat5)
            | ((with_reducible refine gate_builtin (b := .append) (xs := #[.tmp 51, .tmp 56]) rfl ?_); at_builtin; refine Kd.R_append (Kd.raw 1) (w0 := w) w.heap.size rfl (.tmp 51) (.tmp 56) 22 33 (.slice none 0 0) 24 rfl Try.underlying22 info33 rfl (by decide) (by omega) u12 (ones (pkV us0 l1 t)) [.slice As ls cs] [.slice As ls cs] (fun k => True ∧ some k ≠ (v5 : Value).ownBlock) (fun _ => False) rfl rfl ?aP (fun _ hk => hk.elim) ?aF ?aO ?aB ?aS ?aL ?_; (case aP => exact ⟨rfl, rfl, fun x hx => by { rw [List.mem_singleton.1 hx]; rfl }⟩); (case aF => exact fun k hk => ⟨trivial, Kd.fresh' (Kd.R_lt HO15.out) k hk⟩); (case aO => exact HO25.out); (case aB => exact HB5.out); (case aS => exact HB5.out.size); (case aL => rw [HLE2.out]; omega); intro v6 w6 ho6 hb6 hg6 hat6; rw [HP2.out] at ho6; have HO26 := Aside0.mk ho6; have HB6 := Aside0.mk hb6; have HO16 : Aside0 (Kd.R (Kd.raw 1) 33 w6 w.heap.size (fun k => True ∧ some k ≠ v6.ownBlock) v5 (ones (pkV us l1 (t + 1)))) := ⟨Kd.R_after (ok := fun _ => True) (Kd.R_mono (Kd.R_tight rfl HO15.out) (fun k hk => ⟨trivial, fun e => by { have := HO15.out.1 k hk.symm; exact this e }⟩)) hg6 hat6⟩; have HM6 := Aside0.mk (map_raw HM5.out HO25.out hg6); have HK56 : Aside0 (K5 w4 w6) := ⟨HK55.out.trans (raw_K5 HO25.out hg6)⟩; clear ho6 hb6 hg6 hat6))
          go_roundg (n + 1 - (t + 1))
          case measure => have := HK.out; omega
          case rel => exact ⟨t + 1, Lib.hid (by have := HK.out; omega), by omega, by go_num, HM6, HK56, ⟨Kd.R_mono HO16.out (fun k hk => hk.2)⟩, ⟨Kd.R_mono HO26.out (fun k hk => hk.2)⟩, HB6⟩
        · have ht1 : decide ((t : Int) < (n : Int)) = false := decide_eq_false (by omega)
          have ht2 : decide (t < n) = false := decide_eq_false ht
          have htn2 : n = t := by omega
          subst htn2
          obtain ⟨A11, c11, e11⟩ := Kd.R_slice HO1.out
          obtain ⟨A12, c12, e12⟩ := Kd.R_slice HO2.out
          rw [ones_length, pkV_length] at e11 e12
          subst e11 e12
          have hC1 := (Kd.R_reads' HO1.out).2
          have hC2 := (Kd.R_reads' HO2.out).2
          rw [ones_length, pkV_length] at hC1 hC2
          have HCM : Aside0 (Kd.C (Kd.slice 5 (Kd.int .u8)) wr A11 n (rowsL (selM n l1) n n)) := ⟨C_of_raw (rowsL_length _ _ _) hC1.2 (fun k hk => by
            obtain ⟨i, hi0, hiq, hil⟩ := HIDX.out k hk
            have h := ((HW.out i hiq).keep HK5.out).rd
            have e : (rowsL (selM n l1) n n).getD k [] = rowV (gen n) i n := by
              rw [List.getD_eq_getElem?_getD, rowsL_get hk]
              exact rowV_congr fun c _ => by unfold selM; rw [hi0, Int.toNat_natCast]
            rw [e, pkV_get _ _ hk, hi0, Int.toNat_natCast]
            exact h)⟩
          have HCS : Aside0 (Kd.C (Kd.slice 5 (Kd.int .u8)) wr A12 n (rowsL D n C)) := ⟨C_of_raw (rowsL_length _ _ _) hC2.2 (fun k hk => by
            obtain ⟨i, hi0, hiq, hil⟩ := HIDX.out k hk
            have h := (HRD.out i hil).below HB.out
            rw [HGET.out k hk, pkV_get _ _ hk, hi0, Int.toNat_natCast]
            have e : rd_L1 l0 (i : Int) = l0.getD i [] := by unfold rd_L1; rw [Int.toNat_natCast]
            rw [e]
            exact h)⟩
          have HC11 := Aside0.mk hC1.1
          have HC12 := Aside0.mk hC2.1
          clear hC1 hC2 HO1 HO2 HM HK5 HL HK
          go_wp2_with (first | (go_at_call 14; refine (invert_walk (n := n) (M := selM n l1) h1 (by omega) A11 c11 _ HCM.out HC11.out).mono ?_; rintro e_ w6 ⟨hp, hb6⟩; rw [if_pos hr] at hp; obtain ⟨v6, rfl, hs6⟩ := hp; obtain ⟨A6, c6, e6⟩ := Kd.S_slice hs6; rw [rowsL_length] at e6; subst e6; have hrd6 := (Kd.S_reads' hs6).2; rw [rowsL_length] at hrd6; have HCI := Aside0.mk hrd6; have HB6 := Aside0.mk (below_step HB.out hb6); have HCS6 := Aside0.mk (Kd.C_below HCS.out hb6); clear hs6 hb6 hrd6))
          obtain ⟨usI, _, hcI, hrI⟩ := C_raw HCI.out.2
          obtain ⟨usS, _, hcS, hrS⟩ := C_raw HCS6.out
          obtain ⟨ad6, rfl, _⟩ := hcI 0 h1
          obtain ⟨ad12, rfl, hcs0⟩ := hcS 0 h1
          have eD0 : (rowsL D n C).getD 0 [] = rowV D 0 C := by rw [List.getD_eq_getElem?_getD, rowsL_get h1]; rfl
          obtain ⟨AsS, csS, esS, _, _⟩ := hrS 0 h1
          rw [eD0, rowV_length] at esS
          rw [Addr.add_zero', esS] at hcs0
          have HS0 := Aside0.mk hcs0
          have HRI : Aside0 (∀ k, k < n → ∃ Ak ck, w6.cell? (ad6.add k) = some (.slice Ak n ck) ∧ n ≤ ck ∧ Kd.C (Kd.int .u8) w6 Ak n (rowV (invF n (selM n l1)) k n)) := ⟨fun k hk => by
            obtain ⟨ad, ea, hx⟩ := hcI k hk
            injection ea with ea
            subst ea
            obtain ⟨Ak, ck, ek, hck, hC⟩ := hrI k hk
            have e : (rowsL (invF n (selM n l1)) n n).getD k [] = rowV (invF n (selM n l1)) k n := by rw [List.getD_eq_getElem?_getD, rowsL_get hk]; rfl
            rw [e, rowV_length] at ek hck hC
            exact ⟨Ak, ck, by rw [hx, ek], hck, hC⟩⟩
          clear hcI hrI hcS hrS hcs0 eD0 esS HCM HCS HC11 HB
          go_loopg [17, 66] (n + 1) (fun kq v17 v66 W => ∃ t : Nat, Hid (kq + t = n + 1) ∧ t ≤ n ∧ v66 = .int .i64 (t : Nat) ∧ Aside0 (Kd.S (Kd.slice 5 (Kd.int .u8)) 33 W w6.heap.size (fun _ => True) v17 (rowsL (mulF n (invF n (selM n l1)) D) t C)) ∧ Aside0 (Below w6.heap.size w6 W))
          case atStart => exact ⟨0, Lib.hid (by omega), Nat.zero_le _, rfl, ⟨Kd.S_nil _ _ _ _ _⟩, ⟨Below.refl _ _⟩⟩
          case round =>
            obtain ⟨t, HK, htn, rfl, HO, HB⟩ := hrel
            by_cases ht : t < n
            · have ht1 : decide ((t : Int) < (n : Int)) = true := decide_eq_true (by omega)
              have ht2 : decide (t < n) = true := decide_eq_true ht
              have ht3 : (t : Int) < (n : Int) := by omega
              have hn1 : decide ((0 : Int) < (n : Int)) = true := decide_eq_true (by omega)
              have hn2 : (0 < n) = True := eq_true (by omega)
              have hn3 : (0 : Int) < (n : Int) := by omega
              obtain ⟨Ak, ck, hx1, hck, hCk⟩ := HRI.out t ht
              replace hx1 := (HB.out.cell (World.block_lt_of_cell? w6 _ hx1)).trans hx1
              have hx2 := (HB.out.cell (World.block_lt_of_cell? w6 _ HS0.out)).trans HS0.out
              have HSUM := Aside0.mk (sum_calls (R := invF n (selM n l1)) (D := D) (i := t) (by omega) hC wr Ak (some ad12) ck c12 (Kd.C_below hCk HB.out) hck (Kd.C_below HCS6.out HB.out) HC12.out)
              have HLL := Lib.hid (rowsL_length (mulF n (invF n (selM n l1)) D) t C)
              have HRL := Lib.hid (rowV_length (mulF n (invF n (selM n l1)) D) t C)
              have HSN := Lib.hid (rowsL_snoc (mulF n (invF n (selM n l1)) D) t C)
              obtain ⟨rw_, hrw⟩ : ∃ r, r = rowV (mulF n (invF n (selM n l1)) D) t C := ⟨_, rfl⟩
              rw [← hrw] at HSUM HRL HSN
              clear hck hCk hrw
              go_wp2_with (first
                | (go_at_call 51; refine HSUM.out.mono ?_; rintro e_ w7 ⟨v7, rfl, ho7, hb7⟩; have HO8 := Aside0.mk (Kd.S_elder' HO.out (Kd.R_base ho7) hb7); have HB7 : Aside0 (Below w6.heap.size w6 w7) := ⟨below_step HB.out hb7⟩; obtain ⟨Ao, co, eo⟩ := Kd.R_slice ho7; subst eo; have HV7 := Aside0.mk (Kd.R_lower ho7 HB.out.size); clear ho7 hb7)
                | ((with_reducible refine gate_builtin (b := .append) (xs := #[.tmp 70, .tmp 78]) rfl ?_); at_builtin; refine Kd.S_append (Kd.slice 5 (Kd.int .u8)) (w0 := w6) w6.heap.size rfl (.tmp 70) (.tmp 78) 22 33 (.slice none 0 0) 24 rfl Try.underlying22 info33 rfl (by decide) (by omega) u17 (rowsL (mulF n (invF n (selM n l1)) D) t C) rw_ [.slice Ao rw_.length co] (fun _ => True) (fun k_ => some k_ = (.slice Ao rw_.length co : Value).ownBlock) rfl rfl ?aP (fun k_ hk_ => ((Kd.R_mono (ok' := fun k_ => ((fun _ => True)) k_ ∧ some k_ ≠ (u17 : Value).ownBlock) (Kd.R_apart' (HV7.out) (Kd.S_typed HO8.out) (by decide)) (fun k_ hk => ⟨trivial, hk.2⟩))).1 k_ hk_.symm) ?aF ?aO ?aB ?aS ?aL ?_; (case aP => exact Kd.M_row (Kd.R_mono (Kd.R_tight rfl (Kd.R_mono (ok' := fun k_ => ((fun _ => True)) k_ ∧ some k_ ≠ (u17 : Value).ownBlock) (Kd.R_apart' (HV7.out) (Kd.S_typed HO8.out) (by decide)) (fun k_ hk => ⟨trivial, hk.2⟩))) (fun _ h_ => h_))); (case aB => exact HB7.out); (case aF => exact (fun _ _ => trivial)); (case aO => exact Kd.S_mono HO8.out (fun k_ hk => ⟨trivial, fun e_ => hk.2 e_⟩)); (case aS => exact HB7.out.size); (case aL => have := HLL.out; omega); intro v9 w9 ho9 hb9 hg9 hat9; rw [HSN.out] at ho9; have HO9 := Aside0.mk ho9; have HB9 := Aside0.mk hb9; clear ho9 hb9 hg9 hat9))
              go_roundg (n + 1 - (t + 1))
              case measure => have := HK.out; omega
              case rel => exact ⟨t + 1, Lib.hid (by have := HK.out; omega), by omega, by go_num, HO9, HB9⟩
            · have ht1 : decide ((t : Int) < (n : Int)) = false := decide_eq_false (by omega)
              have ht2 : decide (t < n) = false := decide_eq_false ht
              have htn2 : n = t := by omega
              subst htn2
              go_wp2
              go_ret
              exact ⟨_, rfl, Kd.S_lower HO.out HB6.out.size, below_step HB6.out HB.out⟩
/-- Where it is asked: enough shards of one length, whose rows have an inverse. -/
def solOk (l0 : List (List Int)) (l1 : List Int) (a2 : Int) : Prop :=
  (1 ≤ l1.length ∧ 0 ≤ a2 ∧ (l1.length : Int) + a2 ≤ 64) ∧ (∀ i ∈ l1, 0 ≤ i ∧ i < (l1.length : Int) + a2 ∧ i < (l0.length : Int)) ∧ AllB (pickL l0 l1) ∧ (∀ r ∈ pickL l0 l1, r.length = wid (pickL l0 l1)) ∧ wid (pickL l0 l1) ≤ 1000 ∧ rankF l1.length l1.length (selM l1.length l1) = l1.length
instance (l0 : List (List Int)) (l1 : List Int) (a2 : Int) : Decidable (solOk l0 l1 a2) := inferInstanceAs (Decidable (_ ∧ _ ∧ _ ∧ _ ∧ _ ∧ _))
def solV (l0 : List (List Int)) (l1 : List Int) : List (List Int) := rowsL (mulF l1.length (invF l1.length (selM l1.length l1)) (toM (pickL l0 l1))) l1.length (wid (pickL l0 l1))
def erasure_solve.f (l0 : List (List Int)) (l1 : List Int) (a2 : Int) : Option (List (List Int)) := if solOk l0 l1 a2 then some (solV l0 l1) else none
theorem erasure_solve.calls (A0 : Option Addr) (c0 : Nat) (l0 : List (List Int)) (A1 : Option Addr) (c1 : Nat) (l1 : List Int) (a2 : Int) (r : List (List Int)) (w : World) (hr0 : Kd.C (Kd.slice 5 (Kd.int .u8)) w A0 l0.length l0) (hc0 : l0.length ≤ c0) (hr1 : Kd.C (Kd.int .i64) w A1 l1.length l1) (hc1 : l1.length ≤ c1) (h : erasure_solve.f l0 l1 a2 = some r) :
    Calls Try.prog 44 #[.slice A0 l0.length c0, .slice A1 l1.length c1, .int .i64 a2] w fun e w' => ∃ v0_ : Value, e = .returned (v0_) ∧ Kd.S (Kd.slice 5 (Kd.int .u8)) 33 w' w.heap.size (fun _ => True) v0_ r ∧ Below w.heap.size w w' := by
  unfold erasure_solve.f at h
  by_cases hs : solOk l0 l1 a2
  · rw [if_pos hs] at h
    have h := Option.some.inj h
    subst h
    obtain ⟨⟨h1, h2, h3⟩, hi, hb, hw, hC, hr⟩ := hs
    obtain ⟨p, rfl⟩ := Int.eq_ofNat_of_zero_le h2
    refine (solve_walk (n := l1.length) (p := p) (q := l1.length + p) rfl h1 (by omega) rfl (fun i hm => ?_) (C := wid (pickL l0 l1)) hC (D := toM (pickL l0 l1)) ?_ hr A0 c0 A1 c1 w hr0 hc0 hr1 hc1).mono fun e w' hh => hh
    · have := hi i hm
      omega
    · have hh := toM_rows hb hw
      have e : (pickL l0 l1).length = l1.length := by unfold pickL; rw [List.length_map]
      rw [e] at hh
      exact hh
  · rw [if_neg hs] at h
    exact absurd h (by simp)
end Go.Proofs.Ytmlfpcnemganbaa.Q
/- As many rows of the identity and Cauchy matrices as there are columns have an inverse. -/
namespace Go.Proofs.Ytmlfpcnemganbaa.Q
open Go.RowKit Go.Proofs.YtmlfpcnemganbaaW.PrintWords Go.Proofs.YtmlfpcnemganbaaW.PrintLast Go.Proofs.YtmlfpcnemganbaaW.PrintMore
open Go.Proofs.Ytmlfpcnemganbaa.Gf Go.Proofs.Ytmlfpcnemganbaa.Lin Go.Proofs.Ytmlfpcnemganbaa.Evs
set_option linter.unusedVariables false
set_option linter.unnecessarySimpa false
theorem nodup_le : ∀ {l m : List Nat}, l.Nodup → (∀ x ∈ l, x ∈ m) → l.length ≤ m.length
  | [], m, _, _ => Nat.zero_le _
  | a :: l, m, hn, hs => by
    have ha := hs a (by simp)
    have h := nodup_le (l := l) (m := m.erase a) (List.nodup_cons.1 hn).2 (fun x hx => (List.mem_erase_of_ne (fun e => (List.nodup_cons.1 hn).1 (by rw [← e]; exact hx))).2 (hs x (by simp [hx])))
    rw [List.length_erase_of_mem ha] at h
    have := List.length_pos_of_mem ha
    rw [List.length_cons]
    omega
theorem filter_split (q : Nat → Bool) : ∀ l : List Nat, (l.filter q).length + (l.filter fun x => !q x).length = l.length
  | [] => rfl
  | a :: l => by
    have := filter_split q l
    rw [List.filter_cons, List.filter_cons]
    cases q a <;> simp <;> omega
theorem lsum_filter (f : Nat → GF) (q : Nat → Bool) : ∀ l : List Nat, (∀ a ∈ l, q a = false → f a = 0) → lsum f (l.filter q) = lsum f l
  | [], _ => rfl
  | a :: l, h => by
    have ih := lsum_filter f q l (fun b hb => h b (by simp [hb]))
    rw [List.filter_cons]
    cases hq : q a
    · rw [if_neg (by decide), ih]
      show lsum f l = f a + lsum f l
      rw [h a (by simp) hq, zero_add_]
    · rw [if_pos rfl]
      show f a + lsum f (l.filter q) = f a + lsum f l
      rw [ih]
theorem nodup_map_ {l : List Nat} {f : Nat → GF} (hl : l.Nodup) (hf : ∀ a, a ∈ l → ∀ b, b ∈ l → f a = f b → a = b) : (l.map f).Nodup := by
  unfold List.Nodup at hl ⊢
  rw [List.pairwise_map]
  exact hl.imp_of_mem fun ha hb hne e => hne (hf _ ha _ hb e)
theorem ints_getD (L : List Nat) (j : Nat) : ((ints L).getD j 0).toNat = L.getD j 0 := by
  unfold ints
  rw [List.getD_eq_getElem?_getD, List.getElem?_map, List.getD_eq_getElem?_getD]
  cases L[j]? <;> rfl
theorem sel_full {n p : Nat} (hnp : n + p ≤ 64) {L : List Nat} (hL : L.Nodup) (hlen : L.length = n) (hlt : ∀ x ∈ L, x < n + p) : rankF n n (selM n (ints L)) = n := by
  refine rank_ker fun v hv k hk => ?_
  have hv' : ∀ x ∈ L, sum n (fun c => gen n x c * v c) = 0 := fun x hx => by
    obtain ⟨j, hj, rfl⟩ := List.getElem_of_mem hx
    have h := hv j (by omega)
    rw [← h]
    refine sum_congr fun c _ => ?_
    unfold selM
    rw [ints_getD, List.getD_eq_getElem?_getD, List.getElem?_eq_getElem hj]
    rfl
  have hz : ∀ c, c < n → c ∈ L → v c = 0 := fun c hc hm => by
    have h := hv' c hm
    rw [sum_one hc (fun i hi hne => by
      unfold gen dlt
      rw [if_pos hc, if_neg (Ne.symm hne), zero_mul_])] at h
    unfold gen dlt at h
    rw [if_pos hc, if_pos rfl, one_mul_] at h
    exact h
  by_cases hm : k ∈ L
  · exact hz k hk hm
  have hLs := filter_split (fun x => decide (n ≤ x)) L
  have hRs := filter_split (fun x => decide (x ∉ L)) (List.range n)
  rw [List.length_range] at hRs
  have hle : (L.filter fun x => !decide (n ≤ x)).length ≤ ((List.range n).filter fun x => !decide (x ∉ L)).length := nodup_le (hL.sublist (List.filter_sublist)) (fun x hx => by
    obtain ⟨h1, h2⟩ := List.mem_filter.1 hx
    have h3 : ¬ n ≤ x := by simpa using h2
    exact List.mem_filter.2 ⟨List.mem_range.2 (by omega), by simpa using h1⟩)
  have key := cauchyL (((List.range n).filter fun x => decide (x ∉ L)).map fun c => (ofN c, v c)) ((L.filter fun x => decide (n ≤ x)).map ofN)
    (by rw [List.length_map, List.length_map]; omega)
    (nodup_map_ (hL.sublist (List.filter_sublist)) fun a ha b hb e => by
      have h1 := hlt a (List.mem_filter.1 ha).1
      have h2 := hlt b (List.mem_filter.1 hb).1
      exact ofN_inj (by omega) (by omega) e)
    (by
      rw [List.map_map]
      exact nodup_map_ (f := Prod.fst ∘ fun c => (ofN c, v c)) (List.nodup_range.sublist (List.filter_sublist)) fun a ha b hb e => by
        have h1 := List.mem_range.1 (List.mem_filter.1 ha).1
        have h2 := List.mem_range.1 (List.mem_filter.1 hb).1
        exact ofN_inj (by omega) (by omega) e)
    (fun x hx q hq => by
      obtain ⟨a, ha, rfl⟩ := List.mem_map.1 hx
      obtain ⟨b, hb, rfl⟩ := List.mem_map.1 hq
      have h1 := hlt a (List.mem_filter.1 ha).1
      have h2 : n ≤ a := by simpa using (List.mem_filter.1 ha).2
      have h3 := List.mem_range.1 (List.mem_filter.1 hb).1
      intro e
      have := ofN_inj (by omega) (by omega) e
      omega)
    (fun x hx => by
      obtain ⟨a, ha, rfl⟩ := List.mem_map.1 hx
      have h1 := hlt a (List.mem_filter.1 ha).1
      have h2 : n ≤ a := by simpa using (List.mem_filter.1 ha).2
      have h := hv' a (List.mem_filter.1 ha).1
      rw [lsum_map, lsum_filter _ _ _ (fun c hc hq => by
        have hcl : c ∈ L := by simpa using hq
        show v c * _ = 0
        rw [hz c (List.mem_range.1 hc) hcl, zero_mul_]), lsum_range, ← h]
      refine sum_congr fun c _ => ?_
      show v c * inv (ofN a + ofN c) = gen n a c * v c
      unfold gen cauM
      rw [if_neg (by omega), show n + (a - n) = a by omega, mul_comm_])
  exact key (ofN k, v k) (List.mem_map.2 ⟨k, List.mem_filter.2 ⟨List.mem_range.2 hk, by simpa using hm⟩, rfl⟩)
/-- What the data shards are determined by. -/
theorem solve_back {n C : Nat} {L : List Nat} (hr : rankF n n (selM n (ints L)) = n) {S D : Mat} (hS : ∀ j, j < n → ∀ c, c < C → S j c = mulF n (selM n (ints L)) D j c) : ∀ j, j < n → ∀ c, c < C → mulF n (invF n (selM n (ints L))) S j c = D j c := fun j hj c hc => by
  refine inv_apply hr (u := fun k => S k c) (v := fun k => D k c) (fun i hi => ?_) j hj
  exact hS i hi c hc
end Go.Proofs.Ytmlfpcnemganbaa.Q
