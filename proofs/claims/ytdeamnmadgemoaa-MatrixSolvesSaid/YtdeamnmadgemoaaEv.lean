/- Words for 'with enough rounds': tests, calls without rounds, loops. -/
import Derived.Test.YtdeamnmadgemoaaWWords
namespace Go.Proofs.Ytdeamnmadgemoaa.Evs
open Go.RowKit Go.Proofs.YtdeamnmadgemoaaW.PrintWords
variable {α β : Type}

theorem Ev.pos {c : Prop} [Decidable c] {g f : Nat → Option α} {r : α} (hc : c) (h : Ev g r) : Ev (fun k => if c then g k else f k) r :=
  Ev.congr (f := g) (fun _ => if_pos hc) h
theorem Ev.neg {c : Prop} [Decidable c] {g f : Nat → Option α} {r : α} (hc : ¬ c) (h : Ev f r) : Ev (fun k => if c then g k else f k) r :=
  Ev.congr (f := f) (fun _ => if_neg hc) h
theorem Ev.pick {c : Prop} [Decidable c] {g f : Nat → Option α} {r : α} (h1 : c → Ev g r) (h2 : ¬ c → Ev f r) : Ev (fun k => if c then g k else f k) r := by
  by_cases hc : c
  · exact Ev.pos hc (h1 hc)
  · exact Ev.neg hc (h2 hc)
/-- A call without rounds. -/
theorem Ev.call {o : Option α} {a : α} {f : Nat → α → Option β} {r : β} (h : o = some a) (k : Ev (fun n => f n a) r) : Ev (fun n => o.bind (f n)) r :=
  Ev.congr (f := fun n => f n a) (fun n => by rw [h]; rfl) k
theorem Ev.eq {g : Nat → Option α} {r r' : α} (h : Ev g r) (e : r = r') : Ev g r' := e ▸ h
theorem Ev.val {o : Option α} {r : α} (h : o = some r) : Ev (fun _ => o) r := ⟨0, fun _ _ => h⟩
theorem byte_of {x : Int} (h : (Lit.int .u8 x).wf = true) : ∃ a : Nat, x = (a : Int) ∧ a < 256 := by
  have hx : 0 ≤ x ∧ x ≤ 255 := by simpa [Lit.wf, IntKind.min, IntKind.max, IntKind.signed, IntKind.bits] using h
  obtain ⟨a, rfl⟩ := Int.eq_ofNat_of_zero_le hx.1
  exact ⟨a, rfl, by omega⟩
theorem int_of {x : Int} (h : (Lit.int .i64 x).wf = true) : -9223372036854775808 ≤ x ∧ x ≤ 9223372036854775807 := by
  simpa [Lit.wf, IntKind.min, IntKind.max, IntKind.signed, IntKind.bits] using h
theorem u32_of {x : Int} (h : (Lit.int .u32 x).wf = true) : ∃ a : Nat, x = (a : Int) ∧ a < 4294967296 := by
  have hx : 0 ≤ x ∧ x ≤ 4294967295 := by simpa [Lit.wf, IntKind.min, IntKind.max, IntKind.signed, IntKind.bits] using h
  obtain ⟨a, rfl⟩ := Int.eq_ofNat_of_zero_le hx.1
  exact ⟨a, rfl, by omega⟩
/-- Plain numbers as whole numbers. -/
def ints (m : List Nat) : List Int := m.map fun n : Nat => (n : Int)
theorem ints_length (m : List Nat) : (ints m).length = m.length := by simp [ints]
theorem ints_cons (a : Nat) (m : List Nat) : ints (a :: m) = (a : Int) :: ints m := rfl
theorem ints_append (a b : List Nat) : ints (a ++ b) = ints a ++ ints b := by simp [ints]
theorem ints_rd (p : List Nat) (i : Nat) : rd (ints p) (i : Int) = ((p.getD i 0 : Nat) : Int) := by
  unfold rd ints
  rw [Int.toNat_natCast, List.getD_eq_getElem?_getD, List.getD_eq_getElem?_getD, List.getElem?_map]
  cases p[i]? <;> rfl
theorem getD_lt {p : List Nat} (hp : ∀ x ∈ p, x < 256) (i : Nat) : p.getD i 0 < 256 := by
  rw [List.getD_eq_getElem?_getD]
  by_cases hi : i < p.length
  · rw [List.getElem?_eq_getElem hi]
    exact hp _ (List.getElem_mem hi)
  · rw [List.getElem?_eq_none (by omega)]
    decide
/-- A list of bytes, as numbers. -/
theorem bytes_of {l : List Int} (h : ∀ x ∈ l, (Lit.int .u8 x).wf = true) : ∃ m : List Nat, l = ints m ∧ ∀ x ∈ m, x < 256 := by
  induction l with
  | nil => exact ⟨[], rfl, by simp⟩
  | cons x l ih =>
    obtain ⟨a, rfl, ha⟩ := byte_of (h x List.mem_cons_self)
    obtain ⟨m, rfl, hm⟩ := ih (fun y hy => h y (List.mem_cons_of_mem _ hy))
    exact ⟨a :: m, rfl, by simpa [ha] using hm⟩
end Go.Proofs.Ytdeamnmadgemoaa.Evs
