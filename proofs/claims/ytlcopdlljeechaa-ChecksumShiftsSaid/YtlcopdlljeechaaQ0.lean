-- Written for this claim by a program (see NOTES.md): functions of the translation as plain Lean functions, with proofs. Lean checks it.
import Derived.Test.YtlcopdlljeechaaProg
import Derived.Below
import Derived.Deep.Draws
import Derived.Deep.AppendLies
import Derived.Maps.AppendAt
import Derived.OwnWalk
import Derived.Laws.BytesArg
import Derived.Laws.MakeOwn
import Derived.Laws.OwnMore
import Derived.Deep.OwnRows
import Derived.Tactics
import Derived.Lib.ConvBytes
import Derived.Laws.Slices
import Derived.WalkKit
import Derived.KernelRfl
import Derived.RowKit3
import Derived.Deep.LoopGhost
import Derived.Deep.QuietTactic
import Derived.BigQuiet
import Derived.WideLaws
import Derived.Deep.DeepCutAuto
import Derived.Deep.CutBlock
import Derived.Deep.RegionHeld3
import Derived.Laws.Rows
import Derived.Lib.AppendStr
import Derived.ArgAppend
import Derived.Laws.IdiomCopy
import Derived.OrdersHeld
import Derived.Laws.BitsLemmas
import Derived.RowKit
import Derived.Test.YtlcopdlljeechaaWWords
import Derived.Test.YtlcopdlljeechaaWLast
import Derived.Test.YtlcopdlljeechaaWTab
import Derived.Test.YtlcopdlljeechaaWFour
import Derived.Test.YtlcopdlljeechaaWQPut
import Derived.Test.YtlcopdlljeechaaWApart
import Derived.Test.YtlcopdlljeechaaWArr
import Derived.Test.YtlcopdlljeechaaWZeros
import Derived.Test.YtlcopdlljeechaaWFoot
import Derived.Test.YtlcopdlljeechaaWKept
import Derived.Test.YtlcopdlljeechaaWShare
import Derived.Test.YtlcopdlljeechaaWN
import Derived.Test.YtlcopdlljeechaaWFootNe
import Derived.Test.YtlcopdlljeechaaWAt
import Derived.Test.YtlcopdlljeechaaWEqStruct
import Derived.Test.YtlcopdlljeechaaWRepsOne
import Derived.Test.YtlcopdlljeechaaWInv
import Derived.Test.YtlcopdlljeechaaWInvWords
import Derived.Test.YtlcopdlljeechaaWGuard
import Derived.Test.YtlcopdlljeechaaWNEv
import Derived.Test.YtlcopdlljeechaaWMore
namespace Go.Proofs.Ytlcopdlljeechaa.Q
open Go.RowKit Go.Proofs.YtlcopdlljeechaaW.PrintWords Go.Proofs.YtlcopdlljeechaaW.PrintLast Go.Proofs.YtlcopdlljeechaaW.PrintMore
attribute [local go_sem] max2_int min2_int max_two min_two max_three min_three max_four min_four   -- for this text's walks alone
set_option linter.unusedVariables false
set_option linter.unusedSimpArgs false



def errW : Option Int → Value
  | none => .nilIface
  | some c => .iface 0 (.int .i64 c)
theorem errW_none : errW none = .nilIface := rfl
theorem errW_some (c : Int) : errW (some c) = .iface 0 (.int .i64 c) := rfl

theorem info5 : (Try.prog.info? 5).map (fun i => (i.zero, i.size, i.bytes)) = some (some (.int .u8 0), 1, 1) := by kernel_rfl
-- the values' own types

end Go.Proofs.Ytlcopdlljeechaa.Q
