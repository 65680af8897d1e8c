/-
  No cell of these rows narrows 'for every input' (looked for: loops, veiled, ifaces, maps, wideKeys, modest, calm, conditions, laid).
  DERIVED. THE GIVEN ROWS OF THIS SEAT. 8 by the template 'for every input the law returns true; each argument reads behind the call as it read before'; 0 by the template 'total and deterministic' (their statements: YtlcopdlljeechaaTotals.lean).
  GIVEN WITH THE SEED: the statements are not yours to turn. If you find one false, say at which input.
  Laid BY PROGRAM, IN A SANDBOX (cutbox-rows.mjs): the forced cells as the released guide's own fill.sh prints them over the translation 111ae7892dffd642… (all of the seat's roots in one cut). By AI agents, Wed Nov 11 2026. No macro, syntax, notation, axiom, sorry.
-/
import Derived.Test.YtlcopdlljeechaaChecked
import GoSem.Claim
import GoSem.ClaimJoined
import GoSem.ClaimMapViews
import Derived.JoinedTies
import Derived.KernelRfl
namespace Go.Proofs.Ytlcopdlljeechaa
/- THE CELL 'sum', in the pinned program and in every row, IS THE sha256 OF THE DUMP (.gsa) THAT YtlcopdlljeechaaProg.lean LOADS. Nothing in Lean hashes anything: it is a label: what it is worth is what the hold of that sum in a sandbox is worth. -/
noncomputable def Try.pinned : Pinned := { name := "ytlcopdlljeechaa", sum := "111ae7892dffd64206ac0e8ffd1a2c2f57dd3a8d4dfebd66175876dacf49102a", checked := Try.checked }
namespace Rows
def none {H : Type} : Left H := { results := [], args := [] }

/-- 'tapearchivelaw01.ChecksumSums': WHATEVER THE INPUT: true; the input reads as it did. -/
def checksumSumsSpec : ChangeSpec := { name := "checksumSums", fn := fun _ => fun
  | [d1, d2] => { results := [.lit (.bool true)], args := [d1, d2] }
  | _ => none }
def checksumSumsRow : OpenClaim := { program := "ytlcopdlljeechaa", sum := "111ae7892dffd64206ac0e8ffd1a2c2f57dd3a8d4dfebd66175876dacf49102a", func := "tapearchive/tapearchivelaw01.ChecksumSums", spec := "checksumSums", apart := false }
def ChecksumSumsSaid : Prop := checksumSumsRow.holds Try.pinned (OpenSpec.ofChange checksumSumsSpec)

/-- ITS FALSE NEIGHBOUR: 'it returns false'. Refute it at one input. -/
def checksumSumsWrong : ChangeSpec := { name := "checksumSums", fn := fun _ => fun
  | [d1, d2] => { results := [.lit (.bool false)], args := [d1, d2] }
  | _ => none }
def ChecksumSumsWrongFalsely : Prop := checksumSumsRow.holds Try.pinned (OpenSpec.ofChange checksumSumsWrong)

/-- 'tapearchivelaw01.ChecksumCombines': WHATEVER THE INPUT: true; the input reads as it did. -/
def checksumCombinesSpec : ChangeSpec := { name := "checksumCombines", fn := fun _ => fun
  | [d1, d2] => { results := [.lit (.bool true)], args := [d1, d2] }
  | _ => none }
def checksumCombinesRow : OpenClaim := { program := "ytlcopdlljeechaa", sum := "111ae7892dffd64206ac0e8ffd1a2c2f57dd3a8d4dfebd66175876dacf49102a", func := "tapearchive/tapearchivelaw01.ChecksumCombines", spec := "checksumCombines", apart := false }
def ChecksumCombinesSaid : Prop := checksumCombinesRow.holds Try.pinned (OpenSpec.ofChange checksumCombinesSpec)

/-- ITS FALSE NEIGHBOUR: 'it returns false'. Refute it at one input. -/
def checksumCombinesWrong : ChangeSpec := { name := "checksumCombines", fn := fun _ => fun
  | [d1, d2] => { results := [.lit (.bool false)], args := [d1, d2] }
  | _ => none }
def ChecksumCombinesWrongFalsely : Prop := checksumCombinesRow.holds Try.pinned (OpenSpec.ofChange checksumCombinesWrong)

/-- 'tapearchivelaw01.ChecksumShifts': WHATEVER THE INPUT: true; the input reads as it did. -/
def checksumShiftsSpec : ChangeSpec := { name := "checksumShifts", fn := fun _ => fun
  | [d] => { results := [.lit (.bool true)], args := [d] }
  | _ => none }
def checksumShiftsRow : OpenClaim := { program := "ytlcopdlljeechaa", sum := "111ae7892dffd64206ac0e8ffd1a2c2f57dd3a8d4dfebd66175876dacf49102a", func := "tapearchive/tapearchivelaw01.ChecksumShifts", spec := "checksumShifts", apart := false }
def ChecksumShiftsSaid : Prop := checksumShiftsRow.holds Try.pinned (OpenSpec.ofChange checksumShiftsSpec)

/-- ITS FALSE NEIGHBOUR: 'it returns false'. Refute it at one input. -/
def checksumShiftsWrong : ChangeSpec := { name := "checksumShifts", fn := fun _ => fun
  | [d] => { results := [.lit (.bool false)], args := [d] }
  | _ => none }
def ChecksumShiftsWrongFalsely : Prop := checksumShiftsRow.holds Try.pinned (OpenSpec.ofChange checksumShiftsWrong)

/-- 'tapearchivelaw01.ChecksumAssociates': WHATEVER THE INPUT: true; the input reads as it did. -/
def checksumAssociatesSpec : ChangeSpec := { name := "checksumAssociates", fn := fun _ => fun
  | [d1, d2] => { results := [.lit (.bool true)], args := [d1, d2] }
  | _ => none }
def checksumAssociatesRow : OpenClaim := { program := "ytlcopdlljeechaa", sum := "111ae7892dffd64206ac0e8ffd1a2c2f57dd3a8d4dfebd66175876dacf49102a", func := "tapearchive/tapearchivelaw01.ChecksumAssociates", spec := "checksumAssociates", apart := false }
def ChecksumAssociatesSaid : Prop := checksumAssociatesRow.holds Try.pinned (OpenSpec.ofChange checksumAssociatesSpec)

/-- ITS FALSE NEIGHBOUR: 'it returns false'. Refute it at one input. -/
def checksumAssociatesWrong : ChangeSpec := { name := "checksumAssociates", fn := fun _ => fun
  | [d1, d2] => { results := [.lit (.bool false)], args := [d1, d2] }
  | _ => none }
def ChecksumAssociatesWrongFalsely : Prop := checksumAssociatesRow.holds Try.pinned (OpenSpec.ofChange checksumAssociatesWrong)

/-- 'tapearchivelaw01.ChecksumDetects': WHATEVER THE INPUT: true; the input reads as it did. -/
def checksumDetectsSpec : ChangeSpec := { name := "checksumDetects", fn := fun _ => fun
  | [d1, d2, d3] => { results := [.lit (.bool true)], args := [d1, d2, d3] }
  | _ => none }
def checksumDetectsRow : OpenClaim := { program := "ytlcopdlljeechaa", sum := "111ae7892dffd64206ac0e8ffd1a2c2f57dd3a8d4dfebd66175876dacf49102a", func := "tapearchive/tapearchivelaw01.ChecksumDetects", spec := "checksumDetects", apart := false }
def ChecksumDetectsSaid : Prop := checksumDetectsRow.holds Try.pinned (OpenSpec.ofChange checksumDetectsSpec)

/-- ITS FALSE NEIGHBOUR: 'it returns false'. Refute it at one input. -/
def checksumDetectsWrong : ChangeSpec := { name := "checksumDetects", fn := fun _ => fun
  | [d1, d2, d3] => { results := [.lit (.bool false)], args := [d1, d2, d3] }
  | _ => none }
def ChecksumDetectsWrongFalsely : Prop := checksumDetectsRow.holds Try.pinned (OpenSpec.ofChange checksumDetectsWrong)

/-- 'tapearchivelaw01.ChecksumWeak': WHATEVER THE INPUT: true; the input reads as it did. -/
def checksumWeakSpec : ChangeSpec := { name := "checksumWeak", fn := fun _ => fun
  | [d] => { results := [.lit (.bool true)], args := [d] }
  | _ => none }
def checksumWeakRow : OpenClaim := { program := "ytlcopdlljeechaa", sum := "111ae7892dffd64206ac0e8ffd1a2c2f57dd3a8d4dfebd66175876dacf49102a", func := "tapearchive/tapearchivelaw01.ChecksumWeak", spec := "checksumWeak", apart := false }
def ChecksumWeakSaid : Prop := checksumWeakRow.holds Try.pinned (OpenSpec.ofChange checksumWeakSpec)

/-- ITS FALSE NEIGHBOUR: 'it returns false'. Refute it at one input. -/
def checksumWeakWrong : ChangeSpec := { name := "checksumWeak", fn := fun _ => fun
  | [d] => { results := [.lit (.bool false)], args := [d] }
  | _ => none }
def ChecksumWeakWrongFalsely : Prop := checksumWeakRow.holds Try.pinned (OpenSpec.ofChange checksumWeakWrong)

/-- 'tapearchivelaw01.ChecksumSlides': WHATEVER THE INPUT: true; the input reads as it did. -/
def checksumSlidesSpec : ChangeSpec := { name := "checksumSlides", fn := fun _ => fun
  | [d1, d2] => { results := [.lit (.bool true)], args := [d1, d2] }
  | _ => none }
def checksumSlidesRow : OpenClaim := { program := "ytlcopdlljeechaa", sum := "111ae7892dffd64206ac0e8ffd1a2c2f57dd3a8d4dfebd66175876dacf49102a", func := "tapearchive/tapearchivelaw01.ChecksumSlides", spec := "checksumSlides", apart := false }
def ChecksumSlidesSaid : Prop := checksumSlidesRow.holds Try.pinned (OpenSpec.ofChange checksumSlidesSpec)

/-- ITS FALSE NEIGHBOUR: 'it returns false'. Refute it at one input. -/
def checksumSlidesWrong : ChangeSpec := { name := "checksumSlides", fn := fun _ => fun
  | [d1, d2] => { results := [.lit (.bool false)], args := [d1, d2] }
  | _ => none }
def ChecksumSlidesWrongFalsely : Prop := checksumSlidesRow.holds Try.pinned (OpenSpec.ofChange checksumSlidesWrong)

/-- 'tapearchivelaw01.ChecksumRolls': WHATEVER THE INPUT: true; the input reads as it did. -/
def checksumRollsSpec : ChangeSpec := { name := "checksumRolls", fn := fun _ => fun
  | [d] => { results := [.lit (.bool true)], args := [d] }
  | _ => none }
def checksumRollsRow : OpenClaim := { program := "ytlcopdlljeechaa", sum := "111ae7892dffd64206ac0e8ffd1a2c2f57dd3a8d4dfebd66175876dacf49102a", func := "tapearchive/tapearchivelaw01.ChecksumRolls", spec := "checksumRolls", apart := false }
def ChecksumRollsSaid : Prop := checksumRollsRow.holds Try.pinned (OpenSpec.ofChange checksumRollsSpec)

/-- ITS FALSE NEIGHBOUR: 'it returns false'. Refute it at one input. -/
def checksumRollsWrong : ChangeSpec := { name := "checksumRolls", fn := fun _ => fun
  | [d] => { results := [.lit (.bool false)], args := [d] }
  | _ => none }
def ChecksumRollsWrongFalsely : Prop := checksumRollsRow.holds Try.pinned (OpenSpec.ofChange checksumRollsWrong)

/- THE SECOND FORM. 'bulk': how many values and letters a reading holds, each counted each time it is reached (what is shared counts as often as it is met; a slice's spare places count too). A statement '..UptoSaid' is the law's where the arguments, and the package variables that the reading takes, are together of bulk at most 1048576: NARROWER than '..Said'. Prove '..Said' where nothing that the law and all that it calls make is longer than what came in: it says more and counts as full. Else prove '..UptoSaid'. A law counts once. -/
mutual
def uptoBulk {H : Type} : DataW H → Nat
  | .lit (.string bytes) => bytes.length + 1
  | .lit _ => 1
  | .nil => 1
  | .ptr d => uptoBulk d + 1
  | .slice elems spare => uptoBulkAll elems + uptoBulkAll spare + 1
  | .agg parts => uptoBulkAll parts + 1
  | .iface _ d => uptoBulk d + 1
  | .map entries => uptoBulkEntries entries + 1
  | .held _ => 1
def uptoBulkAll {H : Type} : List (DataW H) → Nat
  | [] => 0
  | d :: r => uptoBulk d + uptoBulkAll r
def uptoBulkEntries {H : Type} : List (Lit × DataW H) → Nat
  | [] => 0
  | x :: r => uptoBulkEntry x + uptoBulkEntries r
def uptoBulkEntry {H : Type} : Lit × DataW H → Nat
  | (.string bytes, d) => bytes.length + uptoBulk d + 1
  | (_, d) => uptoBulk d + 1
 end
def uptoSmall : (H : Type) → List (DataW H) → Bool := fun _ ds => decide (uptoBulkAll ds ≤ 1048576)
def OpenSpec.upto (s : _root_.Go.ChangeSpec) : _root_.Go.OpenSpec := { _root_.Go.OpenSpec.ofChange s with cond := some uptoSmall }

/-- 'tapearchivelaw01.ChecksumSums', WHERE WHAT IT READS IS OF BULK AT MOST 1048576: true; the input reads as it did. -/
def checksumSumsUptoRow : OpenClaim := { program := "ytlcopdlljeechaa", sum := "111ae7892dffd64206ac0e8ffd1a2c2f57dd3a8d4dfebd66175876dacf49102a", func := "tapearchive/tapearchivelaw01.ChecksumSums", spec := "checksumSums", apart := false, narrowed := true }
def ChecksumSumsUptoSaid : Prop := checksumSumsUptoRow.holds Try.pinned (OpenSpec.upto checksumSumsSpec)

/-- 'tapearchivelaw01.ChecksumCombines', WHERE WHAT IT READS IS OF BULK AT MOST 1048576: true; the input reads as it did. -/
def checksumCombinesUptoRow : OpenClaim := { program := "ytlcopdlljeechaa", sum := "111ae7892dffd64206ac0e8ffd1a2c2f57dd3a8d4dfebd66175876dacf49102a", func := "tapearchive/tapearchivelaw01.ChecksumCombines", spec := "checksumCombines", apart := false, narrowed := true }
def ChecksumCombinesUptoSaid : Prop := checksumCombinesUptoRow.holds Try.pinned (OpenSpec.upto checksumCombinesSpec)

/-- 'tapearchivelaw01.ChecksumShifts', WHERE WHAT IT READS IS OF BULK AT MOST 1048576: true; the input reads as it did. -/
def checksumShiftsUptoRow : OpenClaim := { program := "ytlcopdlljeechaa", sum := "111ae7892dffd64206ac0e8ffd1a2c2f57dd3a8d4dfebd66175876dacf49102a", func := "tapearchive/tapearchivelaw01.ChecksumShifts", spec := "checksumShifts", apart := false, narrowed := true }
def ChecksumShiftsUptoSaid : Prop := checksumShiftsUptoRow.holds Try.pinned (OpenSpec.upto checksumShiftsSpec)

/-- 'tapearchivelaw01.ChecksumAssociates', WHERE WHAT IT READS IS OF BULK AT MOST 1048576: true; the input reads as it did. -/
def checksumAssociatesUptoRow : OpenClaim := { program := "ytlcopdlljeechaa", sum := "111ae7892dffd64206ac0e8ffd1a2c2f57dd3a8d4dfebd66175876dacf49102a", func := "tapearchive/tapearchivelaw01.ChecksumAssociates", spec := "checksumAssociates", apart := false, narrowed := true }
def ChecksumAssociatesUptoSaid : Prop := checksumAssociatesUptoRow.holds Try.pinned (OpenSpec.upto checksumAssociatesSpec)

/-- 'tapearchivelaw01.ChecksumDetects', WHERE WHAT IT READS IS OF BULK AT MOST 1048576: true; the input reads as it did. -/
def checksumDetectsUptoRow : OpenClaim := { program := "ytlcopdlljeechaa", sum := "111ae7892dffd64206ac0e8ffd1a2c2f57dd3a8d4dfebd66175876dacf49102a", func := "tapearchive/tapearchivelaw01.ChecksumDetects", spec := "checksumDetects", apart := false, narrowed := true }
def ChecksumDetectsUptoSaid : Prop := checksumDetectsUptoRow.holds Try.pinned (OpenSpec.upto checksumDetectsSpec)

/-- 'tapearchivelaw01.ChecksumWeak', WHERE WHAT IT READS IS OF BULK AT MOST 1048576: true; the input reads as it did. -/
def checksumWeakUptoRow : OpenClaim := { program := "ytlcopdlljeechaa", sum := "111ae7892dffd64206ac0e8ffd1a2c2f57dd3a8d4dfebd66175876dacf49102a", func := "tapearchive/tapearchivelaw01.ChecksumWeak", spec := "checksumWeak", apart := false, narrowed := true }
def ChecksumWeakUptoSaid : Prop := checksumWeakUptoRow.holds Try.pinned (OpenSpec.upto checksumWeakSpec)

/-- 'tapearchivelaw01.ChecksumSlides', WHERE WHAT IT READS IS OF BULK AT MOST 1048576: true; the input reads as it did. -/
def checksumSlidesUptoRow : OpenClaim := { program := "ytlcopdlljeechaa", sum := "111ae7892dffd64206ac0e8ffd1a2c2f57dd3a8d4dfebd66175876dacf49102a", func := "tapearchive/tapearchivelaw01.ChecksumSlides", spec := "checksumSlides", apart := false, narrowed := true }
def ChecksumSlidesUptoSaid : Prop := checksumSlidesUptoRow.holds Try.pinned (OpenSpec.upto checksumSlidesSpec)

/-- 'tapearchivelaw01.ChecksumRolls', WHERE WHAT IT READS IS OF BULK AT MOST 1048576: true; the input reads as it did. -/
def checksumRollsUptoRow : OpenClaim := { program := "ytlcopdlljeechaa", sum := "111ae7892dffd64206ac0e8ffd1a2c2f57dd3a8d4dfebd66175876dacf49102a", func := "tapearchive/tapearchivelaw01.ChecksumRolls", spec := "checksumRolls", apart := false, narrowed := true }
def ChecksumRollsUptoSaid : Prop := checksumRollsUptoRow.holds Try.pinned (OpenSpec.upto checksumRollsSpec)

end Rows
end Go.Proofs.Ytlcopdlljeechaa
