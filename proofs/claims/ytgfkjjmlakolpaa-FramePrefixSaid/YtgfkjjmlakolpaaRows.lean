/-
  No cell of these rows narrows 'for every input' (looked for: loops, veiled, ifaces, maps, wideKeys, modest, calm, conditions, laid).
  DERIVED. THE GIVEN ROWS OF THIS SEAT. 6 by the template 'for every input the law returns true; each argument reads behind the call as it read before'; 0 by the template 'total and deterministic' (their statements: YtgfkjjmlakolpaaTotals.lean).
  GIVEN WITH THE SEED: the statements are not yours to turn. If you find one false, say at which input.
  Laid BY PROGRAM, IN A SANDBOX (cutbox-rows.mjs): the forced cells as the released guide's own fill.sh prints them over the translation 4424efdd2b686a95… (all of the seat's roots in one cut). By AI agents, Wed Nov 11 2026. No macro, syntax, notation, axiom, sorry.
-/
import Derived.Test.YtgfkjjmlakolpaaChecked
import GoSem.Claim
import GoSem.ClaimJoined
import GoSem.ClaimMapViews
import Derived.JoinedTies
import Derived.KernelRfl
namespace Go.Proofs.Ytgfkjjmlakolpaa
/- THE CELL 'sum', in the pinned program and in every row, IS THE sha256 OF THE DUMP (.gsa) THAT YtgfkjjmlakolpaaProg.lean LOADS. Nothing in Lean hashes anything: it is a label: what it is worth is what the hold of that sum in a sandbox is worth. -/
noncomputable def Try.pinned : Pinned := { name := "ytgfkjjmlakolpaa", sum := "4424efdd2b686a958675c766911b43efecdae3e8aa2546a200d76bc0f2fc2ba3", checked := Try.checked }
namespace Rows
def none {H : Type} : Left H := { results := [], args := [] }

/-- 'tapearchivelaw03.FrameAppends': WHATEVER THE INPUT: true; the input reads as it did. -/
def frameAppendsSpec : ChangeSpec := { name := "frameAppends", fn := fun _ => fun
  | [d1, d2, d3] => { results := [.lit (.bool true)], args := [d1, d2, d3] }
  | _ => none }
def frameAppendsRow : OpenClaim := { program := "ytgfkjjmlakolpaa", sum := "4424efdd2b686a958675c766911b43efecdae3e8aa2546a200d76bc0f2fc2ba3", func := "tapearchive/tapearchivelaw03.FrameAppends", spec := "frameAppends", apart := false }
def FrameAppendsSaid : Prop := frameAppendsRow.holds Try.pinned (OpenSpec.ofChange frameAppendsSpec)

/-- ITS FALSE NEIGHBOUR: 'it returns false'. Refute it at one input. -/
def frameAppendsWrong : ChangeSpec := { name := "frameAppends", fn := fun _ => fun
  | [d1, d2, d3] => { results := [.lit (.bool false)], args := [d1, d2, d3] }
  | _ => none }
def FrameAppendsWrongFalsely : Prop := frameAppendsRow.holds Try.pinned (OpenSpec.ofChange frameAppendsWrong)

/-- 'tapearchivelaw03.FrameNexts': WHATEVER THE INPUT: true; the input reads as it did. -/
def frameNextsSpec : ChangeSpec := { name := "frameNexts", fn := fun _ => fun
  | [d1, d2] => { results := [.lit (.bool true)], args := [d1, d2] }
  | _ => none }
def frameNextsRow : OpenClaim := { program := "ytgfkjjmlakolpaa", sum := "4424efdd2b686a958675c766911b43efecdae3e8aa2546a200d76bc0f2fc2ba3", func := "tapearchive/tapearchivelaw03.FrameNexts", spec := "frameNexts", apart := false }
def FrameNextsSaid : Prop := frameNextsRow.holds Try.pinned (OpenSpec.ofChange frameNextsSpec)

/-- ITS FALSE NEIGHBOUR: 'it returns false'. Refute it at one input. -/
def frameNextsWrong : ChangeSpec := { name := "frameNexts", fn := fun _ => fun
  | [d1, d2] => { results := [.lit (.bool false)], args := [d1, d2] }
  | _ => none }
def FrameNextsWrongFalsely : Prop := frameNextsRow.holds Try.pinned (OpenSpec.ofChange frameNextsWrong)

/-- 'tapearchivelaw03.FrameDetects': WHATEVER THE INPUT: true; the input reads as it did. -/
def frameDetectsSpec : ChangeSpec := { name := "frameDetects", fn := fun _ => fun
  | [d1, d2, d3] => { results := [.lit (.bool true)], args := [d1, d2, d3] }
  | _ => none }
def frameDetectsRow : OpenClaim := { program := "ytgfkjjmlakolpaa", sum := "4424efdd2b686a958675c766911b43efecdae3e8aa2546a200d76bc0f2fc2ba3", func := "tapearchive/tapearchivelaw03.FrameDetects", spec := "frameDetects", apart := false }
def FrameDetectsSaid : Prop := frameDetectsRow.holds Try.pinned (OpenSpec.ofChange frameDetectsSpec)

/-- ITS FALSE NEIGHBOUR: 'it returns false'. Refute it at one input. -/
def frameDetectsWrong : ChangeSpec := { name := "frameDetects", fn := fun _ => fun
  | [d1, d2, d3] => { results := [.lit (.bool false)], args := [d1, d2, d3] }
  | _ => none }
def FrameDetectsWrongFalsely : Prop := frameDetectsRow.holds Try.pinned (OpenSpec.ofChange frameDetectsWrong)

/-- 'tapearchivelaw03.FrameScan': WHATEVER THE INPUT: true; the input reads as it did. -/
def frameScanSpec : ChangeSpec := { name := "frameScan", fn := fun _ => fun
  | [d1, d2] => { results := [.lit (.bool true)], args := [d1, d2] }
  | _ => none }
def frameScanRow : OpenClaim := { program := "ytgfkjjmlakolpaa", sum := "4424efdd2b686a958675c766911b43efecdae3e8aa2546a200d76bc0f2fc2ba3", func := "tapearchive/tapearchivelaw03.FrameScan", spec := "frameScan", unfollowed := true, recurses := true, apart := false }
def FrameScanSaid : Prop := frameScanRow.holds Try.pinned (OpenSpec.ofChange frameScanSpec)

/-- ITS FALSE NEIGHBOUR: 'it returns false'. Refute it at one input. -/
def frameScanWrong : ChangeSpec := { name := "frameScan", fn := fun _ => fun
  | [d1, d2] => { results := [.lit (.bool false)], args := [d1, d2] }
  | _ => none }
def FrameScanWrongFalsely : Prop := frameScanRow.holds Try.pinned (OpenSpec.ofChange frameScanWrong)

/-- 'tapearchivelaw03.FrameFinds': WHATEVER THE INPUT: true; the input reads as it did. -/
def frameFindsSpec : ChangeSpec := { name := "frameFinds", fn := fun _ => fun
  | [d1, d2] => { results := [.lit (.bool true)], args := [d1, d2] }
  | _ => none }
def frameFindsRow : OpenClaim := { program := "ytgfkjjmlakolpaa", sum := "4424efdd2b686a958675c766911b43efecdae3e8aa2546a200d76bc0f2fc2ba3", func := "tapearchive/tapearchivelaw03.FrameFinds", spec := "frameFinds", unfollowed := true, recurses := true, apart := false }
def FrameFindsSaid : Prop := frameFindsRow.holds Try.pinned (OpenSpec.ofChange frameFindsSpec)

/-- ITS FALSE NEIGHBOUR: 'it returns false'. Refute it at one input. -/
def frameFindsWrong : ChangeSpec := { name := "frameFinds", fn := fun _ => fun
  | [d1, d2] => { results := [.lit (.bool false)], args := [d1, d2] }
  | _ => none }
def FrameFindsWrongFalsely : Prop := frameFindsRow.holds Try.pinned (OpenSpec.ofChange frameFindsWrong)

/-- 'tapearchivelaw03.FramePrefix': WHATEVER THE INPUT: true; the input reads as it did. -/
def framePrefixSpec : ChangeSpec := { name := "framePrefix", fn := fun _ => fun
  | [d1, d2] => { results := [.lit (.bool true)], args := [d1, d2] }
  | _ => none }
def framePrefixRow : OpenClaim := { program := "ytgfkjjmlakolpaa", sum := "4424efdd2b686a958675c766911b43efecdae3e8aa2546a200d76bc0f2fc2ba3", func := "tapearchive/tapearchivelaw03.FramePrefix", spec := "framePrefix", unfollowed := true, recurses := true, apart := false }
def FramePrefixSaid : Prop := framePrefixRow.holds Try.pinned (OpenSpec.ofChange framePrefixSpec)

/-- ITS FALSE NEIGHBOUR: 'it returns false'. Refute it at one input. -/
def framePrefixWrong : ChangeSpec := { name := "framePrefix", fn := fun _ => fun
  | [d1, d2] => { results := [.lit (.bool false)], args := [d1, d2] }
  | _ => none }
def FramePrefixWrongFalsely : Prop := framePrefixRow.holds Try.pinned (OpenSpec.ofChange framePrefixWrong)

/- THE SECOND FORM. 'bulk': how many values and letters a reading holds, each counted each time it is reached (what is shared counts as often as it is met; a slice's spare places count too). A statement '..UptoSaid' is the law's where the arguments, and the package variables that the reading takes, are together of bulk at most 1048576: NARROWER than '..Said'. Prove '..Said' where nothing that the law and all that it calls make is longer than what came in: it says more and counts as full. Else prove '..UptoSaid'. A law counts once. -/
mutual
def uptoBulk {H : Type} : DataW H → Nat
  | .lit (.string bytes) => bytes.length + 1
  | .lit _ => 1
  | .nil => 1
  | .ptr d => uptoBulk d + 1
  | .slice elems spare => uptoBulkAll elems + uptoBulkAll spare + 1
  | .agg parts => uptoBulkAll parts + 1
  | .iface _ d => uptoBulk d + 1
  | .map entries => uptoBulkEntries entries + 1
  | .held _ => 1
def uptoBulkAll {H : Type} : List (DataW H) → Nat
  | [] => 0
  | d :: r => uptoBulk d + uptoBulkAll r
def uptoBulkEntries {H : Type} : List (Lit × DataW H) → Nat
  | [] => 0
  | x :: r => uptoBulkEntry x + uptoBulkEntries r
def uptoBulkEntry {H : Type} : Lit × DataW H → Nat
  | (.string bytes, d) => bytes.length + uptoBulk d + 1
  | (_, d) => uptoBulk d + 1
 end
def uptoSmall : (H : Type) → List (DataW H) → Bool := fun _ ds => decide (uptoBulkAll ds ≤ 1048576)
def OpenSpec.upto (s : _root_.Go.ChangeSpec) : _root_.Go.OpenSpec := { _root_.Go.OpenSpec.ofChange s with cond := some uptoSmall }

/-- 'tapearchivelaw03.FrameAppends', WHERE WHAT IT READS IS OF BULK AT MOST 1048576: true; the input reads as it did. -/
def frameAppendsUptoRow : OpenClaim := { program := "ytgfkjjmlakolpaa", sum := "4424efdd2b686a958675c766911b43efecdae3e8aa2546a200d76bc0f2fc2ba3", func := "tapearchive/tapearchivelaw03.FrameAppends", spec := "frameAppends", apart := false, narrowed := true }
def FrameAppendsUptoSaid : Prop := frameAppendsUptoRow.holds Try.pinned (OpenSpec.upto frameAppendsSpec)

/-- 'tapearchivelaw03.FrameNexts', WHERE WHAT IT READS IS OF BULK AT MOST 1048576: true; the input reads as it did. -/
def frameNextsUptoRow : OpenClaim := { program := "ytgfkjjmlakolpaa", sum := "4424efdd2b686a958675c766911b43efecdae3e8aa2546a200d76bc0f2fc2ba3", func := "tapearchive/tapearchivelaw03.FrameNexts", spec := "frameNexts", apart := false, narrowed := true }
def FrameNextsUptoSaid : Prop := frameNextsUptoRow.holds Try.pinned (OpenSpec.upto frameNextsSpec)

/-- 'tapearchivelaw03.FrameDetects', WHERE WHAT IT READS IS OF BULK AT MOST 1048576: true; the input reads as it did. -/
def frameDetectsUptoRow : OpenClaim := { program := "ytgfkjjmlakolpaa", sum := "4424efdd2b686a958675c766911b43efecdae3e8aa2546a200d76bc0f2fc2ba3", func := "tapearchive/tapearchivelaw03.FrameDetects", spec := "frameDetects", apart := false, narrowed := true }
def FrameDetectsUptoSaid : Prop := frameDetectsUptoRow.holds Try.pinned (OpenSpec.upto frameDetectsSpec)

/-- 'tapearchivelaw03.FrameScan', WHERE WHAT IT READS IS OF BULK AT MOST 1048576: true; the input reads as it did. -/
def frameScanUptoRow : OpenClaim := { program := "ytgfkjjmlakolpaa", sum := "4424efdd2b686a958675c766911b43efecdae3e8aa2546a200d76bc0f2fc2ba3", func := "tapearchive/tapearchivelaw03.FrameScan", spec := "frameScan", unfollowed := true, recurses := true, apart := false, narrowed := true }
def FrameScanUptoSaid : Prop := frameScanUptoRow.holds Try.pinned (OpenSpec.upto frameScanSpec)

/-- 'tapearchivelaw03.FrameFinds', WHERE WHAT IT READS IS OF BULK AT MOST 1048576: true; the input reads as it did. -/
def frameFindsUptoRow : OpenClaim := { program := "ytgfkjjmlakolpaa", sum := "4424efdd2b686a958675c766911b43efecdae3e8aa2546a200d76bc0f2fc2ba3", func := "tapearchive/tapearchivelaw03.FrameFinds", spec := "frameFinds", unfollowed := true, recurses := true, apart := false, narrowed := true }
def FrameFindsUptoSaid : Prop := frameFindsUptoRow.holds Try.pinned (OpenSpec.upto frameFindsSpec)

/-- 'tapearchivelaw03.FramePrefix', WHERE WHAT IT READS IS OF BULK AT MOST 1048576: true; the input reads as it did. -/
def framePrefixUptoRow : OpenClaim := { program := "ytgfkjjmlakolpaa", sum := "4424efdd2b686a958675c766911b43efecdae3e8aa2546a200d76bc0f2fc2ba3", func := "tapearchive/tapearchivelaw03.FramePrefix", spec := "framePrefix", unfollowed := true, recurses := true, apart := false, narrowed := true }
def FramePrefixUptoSaid : Prop := framePrefixUptoRow.holds Try.pinned (OpenSpec.upto framePrefixSpec)

end Rows
end Go.Proofs.Ytgfkjjmlakolpaa
