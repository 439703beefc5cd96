-- Written by a program of this session (xp.py over the kit's printer, with functions proved by hand). Lean checks it.
import Derived.Test.YtdogliilbgnbnaaProg
import Derived.Below
import Derived.Deep.Draws
import Derived.Deep.AppendLies
import Derived.Maps.AppendAt
import Derived.OwnWalk
import Derived.Laws.BytesArg
import Derived.Laws.MakeOwn
import Derived.Laws.OwnMore
import Derived.Deep.OwnRows
import Derived.Tactics
import Derived.Lib.ConvBytes
import Derived.Laws.Slices
import Derived.WalkKit
import Derived.KernelRfl
import Derived.RowKit3
import Derived.Deep.LoopGhost
import Derived.Deep.QuietTactic
import Derived.BigQuiet
import Derived.WideLaws
import Derived.Deep.DeepCutAuto
import Derived.Deep.CutBlock
import Derived.Deep.RegionHeld3
import Derived.Laws.Rows
import Derived.Lib.AppendStr
import Derived.ArgAppend
import Derived.Laws.IdiomCopy
import Derived.OrdersHeld
import Derived.Laws.BitsLemmas
import Derived.RowKit
import Derived.Test.YtdogliilbgnbnaaWWords
import Derived.Test.YtdogliilbgnbnaaWLast
import Derived.Test.YtdogliilbgnbnaaWTab
import Derived.Test.YtdogliilbgnbnaaWFour
import Derived.Test.YtdogliilbgnbnaaWQPut
import Derived.Test.YtdogliilbgnbnaaWApart
import Derived.Test.YtdogliilbgnbnaaWArr
import Derived.Test.YtdogliilbgnbnaaWZeros
import Derived.Test.YtdogliilbgnbnaaWFoot
import Derived.Test.YtdogliilbgnbnaaWKept
import Derived.Test.YtdogliilbgnbnaaWShare
import Derived.Test.YtdogliilbgnbnaaWN
import Derived.Test.YtdogliilbgnbnaaWFootNe
import Derived.Test.YtdogliilbgnbnaaWAt
import Derived.Test.YtdogliilbgnbnaaWEqStruct
import Derived.Test.YtdogliilbgnbnaaWRepsOne
import Derived.Test.YtdogliilbgnbnaaWInv
import Derived.Test.YtdogliilbgnbnaaWInvWords
import Derived.Test.YtdogliilbgnbnaaWGuard
import Derived.Test.YtdogliilbgnbnaaWNEv
import Derived.Test.YtdogliilbgnbnaaWMore
namespace Go.Proofs.Ytdogliilbgnbnaa.XN
open Go.RowKit Go.Proofs.YtdogliilbgnbnaaW.PrintWords Go.Proofs.YtdogliilbgnbnaaW.PrintLast Go.Proofs.YtdogliilbgnbnaaW.PrintMore
attribute [local go_sem] max2_int min2_int max_two min_two max_three min_three max_four min_four   -- for this text's walks alone
set_option linter.unusedVariables false
set_option linter.unusedSimpArgs false



def errW : Option Int → Value
  | none => .nilIface
  | some c => .iface 0 (.int .i64 c)
theorem errW_none : errW none = .nilIface := rfl
theorem errW_some (c : Int) : errW (some c) = .iface 0 (.int .i64 c) := rfl

-- the values' own types

end Go.Proofs.Ytdogliilbgnbnaa.XN
