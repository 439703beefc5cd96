-- Written by a program of this session (xp.py over the kit's printer, with functions proved by hand). Lean checks it.
import Derived.Test.YtijeackkgcnbgaaProg
import Derived.Below
import Derived.Deep.Draws
import Derived.Deep.AppendLies
import Derived.Maps.AppendAt
import Derived.OwnWalk
import Derived.Laws.BytesArg
import Derived.Laws.MakeOwn
import Derived.Laws.OwnMore
import Derived.Deep.OwnRows
import Derived.Tactics
import Derived.Lib.ConvBytes
import Derived.Laws.Slices
import Derived.WalkKit
import Derived.KernelRfl
import Derived.RowKit3
import Derived.Deep.LoopGhost
import Derived.Deep.QuietTactic
import Derived.BigQuiet
import Derived.WideLaws
import Derived.Deep.DeepCutAuto
import Derived.Deep.CutBlock
import Derived.Deep.RegionHeld3
import Derived.Laws.Rows
import Derived.Lib.AppendStr
import Derived.ArgAppend
import Derived.Laws.IdiomCopy
import Derived.OrdersHeld
import Derived.Laws.BitsLemmas
import Derived.RowKit
import Derived.Test.YtijeackkgcnbgaaYLimb
import Derived.Test.YtijeackkgcnbgaaYArr
import Derived.Test.YtijeackkgcnbgaaYFldA
import Derived.Test.YtijeackkgcnbgaaYFldB
import Derived.Test.YtijeackkgcnbgaaYFldC
import Derived.Test.YtijeackkgcnbgaaYFldS
import Derived.Test.YtijeackkgcnbgaaYFldP
import Derived.Test.YtijeackkgcnbgaaYFldW
import Derived.Test.YtijeackkgcnbgaaYFldM
import Derived.Test.YtijeackkgcnbgaaYFldT
import Derived.Test.YtijeackkgcnbgaaYFldRoot
import Derived.Test.YtijeackkgcnbgaaYFldRoot2
import Derived.Test.YtijeackkgcnbgaaYFldPt
import Derived.Test.YtijeackkgcnbgaaYSt
import Derived.Test.YtijeackkgcnbgaaYStOps
import Derived.Test.YtijeackkgcnbgaaYStMid
import Derived.Test.YtijeackkgcnbgaaYStEq
import Derived.Test.YtijeackkgcnbgaaYStPt
import Derived.Test.YtijeackkgcnbgaaYStIdx
import Derived.Test.YtijeackkgcnbgaaWWords
import Derived.Test.YtijeackkgcnbgaaWLast
import Derived.Test.YtijeackkgcnbgaaWTab
import Derived.Test.YtijeackkgcnbgaaWFour
import Derived.Test.YtijeackkgcnbgaaWQPut
import Derived.Test.YtijeackkgcnbgaaWApart
import Derived.Test.YtijeackkgcnbgaaWArr
import Derived.Test.YtijeackkgcnbgaaWZeros
import Derived.Test.YtijeackkgcnbgaaWFoot
import Derived.Test.YtijeackkgcnbgaaWKept
import Derived.Test.YtijeackkgcnbgaaWShare
import Derived.Test.YtijeackkgcnbgaaWN
import Derived.Test.YtijeackkgcnbgaaWFootNe
import Derived.Test.YtijeackkgcnbgaaWAt
import Derived.Test.YtijeackkgcnbgaaWEqStruct
import Derived.Test.YtijeackkgcnbgaaWRepsOne
import Derived.Test.YtijeackkgcnbgaaWInv
import Derived.Test.YtijeackkgcnbgaaWInvWords
import Derived.Test.YtijeackkgcnbgaaWGuard
import Derived.Test.YtijeackkgcnbgaaWNEv
import Derived.Test.YtijeackkgcnbgaaWMore
namespace Go.Proofs.Ytijeackkgcnbgaa.XO
open Go.Proofs.Ytijeackkgcnbgaa.Limb Go.Proofs.Ytijeackkgcnbgaa.Arr Go.Proofs.Ytijeackkgcnbgaa.FldA Go.Proofs.Ytijeackkgcnbgaa.FldB Go.Proofs.Ytijeackkgcnbgaa.FldC Go.Proofs.Ytijeackkgcnbgaa.FldS Go.Proofs.Ytijeackkgcnbgaa.FldP Go.Proofs.Ytijeackkgcnbgaa.FldW Go.Proofs.Ytijeackkgcnbgaa.FldM Go.Proofs.Ytijeackkgcnbgaa.FldT Go.Proofs.Ytijeackkgcnbgaa.FldRoot Go.Proofs.Ytijeackkgcnbgaa.FldRoot2 Go.Proofs.Ytijeackkgcnbgaa.FldPt Go.Proofs.Ytijeackkgcnbgaa.St Go.Proofs.Ytijeackkgcnbgaa.StOps Go.Proofs.Ytijeackkgcnbgaa.StMid Go.Proofs.Ytijeackkgcnbgaa.StEq Go.Proofs.Ytijeackkgcnbgaa.StPt Go.Proofs.Ytijeackkgcnbgaa.StIdx
open Go.RowKit Go.Proofs.YtijeackkgcnbgaaW.PrintWords Go.Proofs.YtijeackkgcnbgaaW.PrintLast Go.Proofs.YtijeackkgcnbgaaW.PrintMore
attribute [local go_sem] max2_int min2_int max_two min_two max_three min_three max_four min_four   -- for this text's walks alone
set_option linter.unusedVariables false
set_option linter.unusedSimpArgs false



def errW : Option Int → Value
  | none => .nilIface
  | some c => .iface 0 (.int .i64 c)
theorem errW_none : errW none = .nilIface := rfl
theorem errW_some (c : Int) : errW (some c) = .iface 0 (.int .i64 c) := rfl

theorem info5 : (Try.prog.info? 5).map (fun i => (i.zero, i.size, i.bytes)) = some (some (.int .u8 0), 1, 1) := by kernel_rfl
-- the values' own types

end Go.Proofs.Ytijeackkgcnbgaa.XO
