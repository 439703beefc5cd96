-- Written by a program of this session (xp.py over the kit's printer, with functions proved by hand). Lean checks it.
import Derived.Test.YtlphppkhihabdaaProg
import Derived.Below
import Derived.Deep.Draws
import Derived.Deep.AppendLies
import Derived.Maps.AppendAt
import Derived.OwnWalk
import Derived.Laws.BytesArg
import Derived.Laws.MakeOwn
import Derived.Laws.OwnMore
import Derived.Deep.OwnRows
import Derived.Tactics
import Derived.Lib.ConvBytes
import Derived.Laws.Slices
import Derived.WalkKit
import Derived.KernelRfl
import Derived.RowKit3
import Derived.Deep.LoopGhost
import Derived.Deep.QuietTactic
import Derived.BigQuiet
import Derived.WideLaws
import Derived.Deep.DeepCutAuto
import Derived.Deep.CutBlock
import Derived.Deep.RegionHeld3
import Derived.Laws.Rows
import Derived.Lib.AppendStr
import Derived.ArgAppend
import Derived.Laws.IdiomCopy
import Derived.OrdersHeld
import Derived.Laws.BitsLemmas
import Derived.RowKit
import Derived.Test.YtlphppkhihabdaaYLimb
import Derived.Test.YtlphppkhihabdaaYArr
import Derived.Test.YtlphppkhihabdaaYFldA
import Derived.Test.YtlphppkhihabdaaYFldB
import Derived.Test.YtlphppkhihabdaaYFldC
import Derived.Test.YtlphppkhihabdaaYFldS
import Derived.Test.YtlphppkhihabdaaYSt
import Derived.Test.YtlphppkhihabdaaYOpenS
import Derived.Test.YtlphppkhihabdaaYStOps
import Derived.Test.YtlphppkhihabdaaYStMid
import Derived.Test.YtlphppkhihabdaaYStIdx
import Derived.Test.YtlphppkhihabdaaYStPt
import Derived.Test.YtlphppkhihabdaaYStBd
import Derived.Test.YtlphppkhihabdaaYShaA
import Derived.Test.YtlphppkhihabdaaYShaB
import Derived.Test.YtlphppkhihabdaaYShaS
import Derived.Test.YtlphppkhihabdaaWWords
import Derived.Test.YtlphppkhihabdaaWLast
import Derived.Test.YtlphppkhihabdaaWTab
import Derived.Test.YtlphppkhihabdaaWFour
import Derived.Test.YtlphppkhihabdaaWQPut
import Derived.Test.YtlphppkhihabdaaWApart
import Derived.Test.YtlphppkhihabdaaWArr
import Derived.Test.YtlphppkhihabdaaWZeros
import Derived.Test.YtlphppkhihabdaaWFoot
import Derived.Test.YtlphppkhihabdaaWKept
import Derived.Test.YtlphppkhihabdaaWShare
import Derived.Test.YtlphppkhihabdaaWN
import Derived.Test.YtlphppkhihabdaaWFootNe
import Derived.Test.YtlphppkhihabdaaWAt
import Derived.Test.YtlphppkhihabdaaWEqStruct
import Derived.Test.YtlphppkhihabdaaWRepsOne
import Derived.Test.YtlphppkhihabdaaWInv
import Derived.Test.YtlphppkhihabdaaWInvWords
import Derived.Test.YtlphppkhihabdaaWGuard
import Derived.Test.YtlphppkhihabdaaWNEv
import Derived.Test.YtlphppkhihabdaaWMore
namespace Go.Proofs.Ytlphppkhihabdaa.XN
open Go.Proofs.Ytlphppkhihabdaa.Limb Go.Proofs.Ytlphppkhihabdaa.Arr Go.Proofs.Ytlphppkhihabdaa.FldA Go.Proofs.Ytlphppkhihabdaa.FldB Go.Proofs.Ytlphppkhihabdaa.FldC Go.Proofs.Ytlphppkhihabdaa.FldS Go.Proofs.Ytlphppkhihabdaa.St Go.Proofs.Ytlphppkhihabdaa.OpenS Go.Proofs.Ytlphppkhihabdaa.StOps Go.Proofs.Ytlphppkhihabdaa.StMid Go.Proofs.Ytlphppkhihabdaa.StIdx Go.Proofs.Ytlphppkhihabdaa.StPt Go.Proofs.Ytlphppkhihabdaa.StBd Go.Proofs.Ytlphppkhihabdaa.ShaA Go.Proofs.Ytlphppkhihabdaa.ShaB Go.Proofs.Ytlphppkhihabdaa.ShaS
open Go.RowKit Go.Proofs.YtlphppkhihabdaaW.PrintWords Go.Proofs.YtlphppkhihabdaaW.PrintLast Go.Proofs.YtlphppkhihabdaaW.PrintMore
attribute [local go_sem] max2_int min2_int max_two min_two max_three min_three max_four min_four   -- for this text's walks alone
set_option linter.unusedVariables false
set_option linter.unusedSimpArgs false



def errW : Option Int → Value
  | none => .nilIface
  | some c => .iface 0 (.int .i64 c)
theorem errW_none : errW none = .nilIface := rfl
theorem errW_some (c : Int) : errW (some c) = .iface 0 (.int .i64 c) := rfl

theorem info3 : (Try.prog.info? 3).map (fun i => (i.zero, i.size, i.bytes)) = some (some (.int .i64 0), 1, 8) := by kernel_rfl
theorem info5 : (Try.prog.info? 5).map (fun i => (i.zero, i.size, i.bytes)) = some (some (.int .u8 0), 1, 1) := by kernel_rfl
-- the values' own types

end Go.Proofs.Ytlphppkhihabdaa.XN
