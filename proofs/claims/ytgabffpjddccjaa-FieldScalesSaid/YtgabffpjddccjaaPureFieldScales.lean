/- FieldScales: the pure statement. -/
import Derived.Test.YtgabffpjddccjaaLawA
import Derived.Test.YtgabffpjddccjaaOwn2
import Derived.Test.YtgabffpjddccjaaQ8
namespace Go.Proofs.Ytgabffpjddccjaa.Pure
open Go.RowKit Go.Proofs.Ytgabffpjddccjaa.Q Go.Proofs.YtgabffpjddccjaaW.PrintWords Go.Proofs.YtgabffpjddccjaaW.PrintLast
open Go.Proofs.Ytgabffpjddccjaa.Gf Go.Proofs.Ytgabffpjddccjaa.Evs
set_option linter.unusedVariables false

/-- A list to which a multiple of another one was added. -/
def scAt (p q : List Nat) (b i : Nat) : Nat := if i < q.length then p.getD i 0 ^^^ gmul (q.getD i 0) b else p.getD i 0
def sc (p q : List Nat) (b : Nat) : List Nat := (List.range p.length).map (scAt p q b)
theorem sc_length (p q : List Nat) (b : Nat) : (sc p q b).length = p.length := by simp [sc]
theorem scAt_lt {p q : List Nat} (hp : ∀ y ∈ p, y < 256) (hq : ∀ y ∈ q, y < 256) (b i : Nat) : scAt p q b i < 256 := by
  unfold scAt
  split
  · exact xor_lt (getD_lt hp i) (gmul_lt (getD_lt hq i))
  · exact getD_lt hp i
theorem sc_lt {p q : List Nat} (hp : ∀ y ∈ p, y < 256) (hq : ∀ y ∈ q, y < 256) (b : Nat) : ∀ y ∈ sc p q b, y < 256 := by
  intro y hy
  simp only [sc, List.mem_map] at hy
  obtain ⟨i, _, rfl⟩ := hy
  exact scAt_lt hp hq b i
theorem sc_get {p q : List Nat} {b i : Nat} (hi : i < p.length) : (sc p q b).getD i 0 = scAt p q b i := by
  rw [List.getD_eq_getElem?_getD]
  simp [sc, List.getElem?_range hi]
theorem ints_bytes {p : List Nat} (hp : ∀ y ∈ p, y < 256) : Bytes (ints p) := by
  intro x hx
  simp only [ints, List.mem_map] at hx
  obtain ⟨a, ha, rfl⟩ := hx
  have := hp a ha
  omega
theorem scaleL_ints (p q : List Nat) (b : Nat) : scaleL (ints p) (ints q) b = ints (sc p q b) := by
  unfold scaleL sc
  rw [ints_length]
  unfold ints
  rw [List.map_map]
  apply List.map_congr_left
  intro i _
  show scaleAt (ints p) (ints q) b i = ((scAt p q b i : Nat) : Int)
  unfold scaleAt scAt
  rw [ints_length, ints_rd, ints_rd, Int.toNat_natCast, Int.toNat_natCast]
  split <;> rfl
theorem scale_ev {p q : List Nat} (hp : ∀ y ∈ p, y < 256) (hq : ∀ y ∈ q, y < 256) {b : Nat} (hb : b < 256) (hl : p.length ≤ 1000) : field_Scale.f (ints p) (ints q) (b : Int) = some (ints (sc p q b)) := by
  unfold field_Scale.f
  rw [if_pos ⟨ints_bytes hp, ints_bytes hq, by omega, by omega, by rw [ints_length]; omega⟩, Int.toNat_natCast, scaleL_ints]
theorem same_loop {l : List Int} (hl : l.length ≤ 1000) : ∀ (d i : Nat), i + d = l.length → Ev (fun k => tapearchivelaw04_same.l0 k l l (i : Int)) true
  | 0, i, hd => by
    refine Ev.step (f := fun _ => some true) (fun k => ?_) (Ev.now _)
    simp only [tapearchivelaw04_same.l0]
    rw [if_neg (by omega)]
  | d + 1, i, hd => by
    refine Ev.step (fun k => ?_) (same_loop hl d (i + 1) (by omega))
    simp only [tapearchivelaw04_same.l0]
    rw [if_pos (by omega), if_pos (by omega), if_pos (by omega), if_pos trivial]
    congr 1
    unfold wrap64
    omega
theorem same_ev {l : List Int} (hl : l.length ≤ 1000) : Ev (fun k => tapearchivelaw04_same.f k l l) true := by
  unfold tapearchivelaw04_same.f
  exact Ev.pos rfl (same_loop hl l.length 0 (by omega))
/-- The list after i rounds. -/
def part_ (p q : List Nat) (b i : Nat) : List Nat := (List.range p.length).map fun j => if j < i then scAt p q b j else p.getD j 0
theorem part_zero (p q : List Nat) (b : Nat) : part_ p q b 0 = p := by
  apply List.ext_getElem?
  intro j
  by_cases hj : j < p.length
  · simp [part_, List.getElem?_range hj, List.getElem?_eq_getElem hj]
  · rw [List.getElem?_eq_none (by simp [part_]; omega), List.getElem?_eq_none (by omega)]
theorem part_length (p q : List Nat) (b i : Nat) : (part_ p q b i).length = p.length := by simp [part_]
theorem part_get {p q : List Nat} {b i j : Nat} (hj : j < p.length) : (part_ p q b i).getD j 0 = if j < i then scAt p q b j else p.getD j 0 := by
  rw [List.getD_eq_getElem?_getD]
  simp [part_, List.getElem?_range hj]
theorem part_set {p q : List Nat} {b i : Nat} : (part_ p q b i).set i (scAt p q b i) = part_ p q b (i + 1) := by
  apply List.ext_getElem?
  intro j
  by_cases hj : j < p.length
  · by_cases e : i = j
    · subst e
      rw [List.getElem?_set_self (by rw [part_length]; omega)]
      simp [part_, List.getElem?_range hj]
    · rw [List.getElem?_set_ne e]
      simp only [part_, List.getElem?_map, List.getElem?_range hj, Option.map_some]
      congr 1
      by_cases h : j < i
      · rw [if_pos h, if_pos (by omega)]
      · rw [if_neg h, if_neg (by omega)]
  · rw [List.getElem?_eq_none (by rw [List.length_set, part_length]; omega), List.getElem?_eq_none (by rw [part_length]; omega)]
theorem part_end {p q : List Nat} {b i : Nat} (h : p.length ≤ i ∨ q.length ≤ i) : part_ p q b i = sc p q b := by
  unfold part_ sc
  apply List.map_congr_left
  intro j hj
  have hj' := List.mem_range.1 hj
  by_cases c : j < i
  · rw [if_pos c]
  · rw [if_neg c]
    unfold scAt
    rw [if_neg (by omega)]
theorem refscale_loop {p q : List Nat} (hp : ∀ y ∈ p, y < 256) (hq : ∀ y ∈ q, y < 256) {b : Nat} (hb : b < 256) (hl : p.length ≤ 1000) : ∀ (d i : Nat), i + d = p.length →
    Ev (fun k => tapearchiveref04_Scale.l0 k (ints q) (b : Int) (ints (part_ p q b i)) (i : Int)) (ints (sc p q b))
  | 0, i, hd => by
    refine Ev.step (f := fun _ => some (ints (sc p q b))) (fun k => ?_) (Ev.now _)
    simp only [tapearchiveref04_Scale.l0]
    rw [if_neg (by rw [ints_length, part_length]; omega), part_end (.inl (by omega))]
  | d + 1, i, hd => by
    by_cases hi : i < q.length
    · have hqi := getD_lt hq i
      have hm := gmul_lt (b := b) hqi
      have hv : Go.bits .xor .u8 (((part_ p q b i).getD i 0 : Nat) : Int) ((gmul (q.getD i 0) b : Nat) : Int) = ((scAt p q b i : Nat) : Int) := by
        rw [part_get (by omega), if_neg (by omega), xor_u8 (getD_lt hp i) hm]
        unfold scAt
        rw [if_pos hi]
      refine Ev.step (f := fun k => (tapearchiveref04_Mul.f k ((q.getD i 0 : Nat) : Int) (b : Int)).bind fun t => tapearchiveref04_Scale.l0 k (ints q) (b : Int) ((ints (part_ p q b i)).set i (Go.bits .xor .u8 (((part_ p q b i).getD i 0 : Nat) : Int) t)) ((i + 1 : Nat) : Int)) (fun k => ?_) (Ev.bind (refmul_ev hqi hb) ?_)
      · simp only [tapearchiveref04_Scale.l0]
        rw [if_pos (by rw [ints_length, part_length]; omega), if_pos (by rw [ints_length]; omega), if_pos (by omega), ints_rd, ints_rd, Int.toNat_natCast, show wrap64 ((i : Int) + 1) = ((i + 1 : Nat) : Int) by unfold wrap64; omega]
      · rw [hv, show (ints (part_ p q b i)).set i ((scAt p q b i : Nat) : Int) = ints (part_ p q b (i + 1)) by rw [← part_set]; unfold ints; rw [List.map_set]]
        exact refscale_loop hp hq hb hl d (i + 1) (by omega)
    · refine Ev.step (f := fun _ => some (ints (sc p q b))) (fun k => ?_) (Ev.now _)
      simp only [tapearchiveref04_Scale.l0]
      rw [if_pos (by rw [ints_length, part_length]; omega), if_neg (by rw [ints_length]; omega), part_end (.inr (by omega))]
theorem refscale_ev {p q : List Nat} (hp : ∀ y ∈ p, y < 256) (hq : ∀ y ∈ q, y < 256) {b : Nat} (hb : b < 256) (hl : p.length ≤ 1000) : Ev (fun k => tapearchiveref04_Scale.f k (ints p) (ints q) (b : Int)) (ints (sc p q b)) := by
  unfold tapearchiveref04_Scale.f
  refine Ev.call rfl (Ev.pos (by rw [ints_length]; show 0 + _ < _; omega) ?_)
  have := refscale_loop hp hq hb hl p.length 0 (by omega)
  rw [part_zero] at this
  exact this
theorem sc_twice {p q : List Nat} (hp : ∀ y ∈ p, y < 256) (hq : ∀ y ∈ q, y < 256) {a b : Nat} (ha : a < 256) (hb : b < 256) : sc (sc p q a) q b = sc p q (a ^^^ b) := by
  have e : (sc (sc p q a) q b) = (List.range p.length).map (scAt (sc p q a) q b) := by unfold sc; rw [List.length_map, List.length_range]
  rw [e]
  unfold sc
  apply List.map_congr_left
  intro i hi
  have hi' := List.mem_range.1 hi
  show scAt (sc p q a) q b i = _
  unfold scAt
  rw [sc_get hi']
  unfold scAt
  split
  · rw [gmul_xor, Nat.xor_assoc]
  · rfl
theorem scales {p q : List Nat} (hp : ∀ y ∈ p, y < 256) (hq : ∀ y ∈ q, y < 256) {a b : Nat} (ha : a < 256) (hb : b < 256) : ∃ k, tapearchivelaw04_FieldScales.f k (ints p) (ints q) (a : Int) (b : Int) = some true := by
  refine Ev.rounds ?_
  unfold tapearchivelaw04_FieldScales.f
  have long : Ev (fun k => tapearchivelaw04_FieldScales.j0 k true (ints p) (ints q) (a : Int) (b : Int)) true := by
    refine Ev.step (fun k => by simp only [tapearchivelaw04_FieldScales.j0]; rfl) ?_
    exact Ev.pos (by simp) (Ev.bind awake_ev (Ev.now true))
  refine Ev.pick (fun _ => long) fun c1 => ?_
  by_cases c2 : ((ints q).length : Int) > 300
  · rw [decide_eq_true c2]
    exact long
  · rw [decide_eq_false c2]
    rw [ints_length] at c1 c2
    have l1 : p.length ≤ 1000 := by omega
    have l2 : q.length ≤ 1000 := by omega
    refine Ev.step (fun k => by simp only [tapearchivelaw04_FieldScales.j0]; rfl) ?_
    refine Ev.neg (by simp) ?_
    refine Ev.call rfl (Ev.pos (by rw [ints_length]; show 0 + _ < _; omega) (Ev.call (a := ints p) rfl ?_))
    refine Ev.call rfl (Ev.pos (by rw [ints_length]; show 0 + _ < _; omega) (Ev.call (a := ints q) rfl ?_))
    have hs := sc_lt hp hq a
    have ls : (sc p q a).length ≤ 1000 := by rw [sc_length]; exact l1
    refine Ev.call (scale_ev hp hq ha l1) (Ev.bind (refscale_ev hp hq ha l1) ?_)
    refine Ev.bind (same_ev (by rw [ints_length]; exact ls)) (Ev.pos rfl ?_)
    refine Ev.bind (same_ev (by rw [ints_length]; exact l1)) (Ev.pos rfl ?_)
    refine Ev.bind (same_ev (by rw [ints_length]; exact l2)) ?_
    refine Ev.step (fun k => by simp only [tapearchivelaw04_FieldScales.j1]; rfl) ?_
    refine Ev.neg (by simp) ?_
    rw [xor_u8 ha hb]
    refine Ev.call (scale_ev hs hq hb ls) (Ev.call (scale_ev hp hq (xor_lt ha hb) l1) ?_)
    rw [sc_twice hp hq ha hb]
    refine Ev.bind (same_ev (by rw [ints_length, sc_length]; exact l1)) (Ev.pos rfl ?_)
    exact Ev.bind awake_ev (Ev.now true)
end Go.Proofs.Ytgabffpjddccjaa.Pure
