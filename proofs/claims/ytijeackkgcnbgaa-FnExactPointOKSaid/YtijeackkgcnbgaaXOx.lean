-- Written by a program of this session (xp.py over the kit's printer, with functions proved by hand). Lean checks it.
import Derived.Test.YtijeackkgcnbgaaXOx0
import Derived.Test.YtijeackkgcnbgaaXOx1
import Derived.Test.YtijeackkgcnbgaaXOx2
import Derived.Test.YtijeackkgcnbgaaXOx3
import Derived.Test.YtijeackkgcnbgaaXOx4
import Derived.Test.YtijeackkgcnbgaaXOx5
import Derived.Test.YtijeackkgcnbgaaXOx6
import Derived.Test.YtijeackkgcnbgaaXOx7
import Derived.Test.YtijeackkgcnbgaaXOx10
namespace Go.Proofs.Ytijeackkgcnbgaa.XO
open Go.Proofs.Ytijeackkgcnbgaa.Limb Go.Proofs.Ytijeackkgcnbgaa.Arr Go.Proofs.Ytijeackkgcnbgaa.FldA Go.Proofs.Ytijeackkgcnbgaa.FldB Go.Proofs.Ytijeackkgcnbgaa.FldC Go.Proofs.Ytijeackkgcnbgaa.FldS Go.Proofs.Ytijeackkgcnbgaa.FldP Go.Proofs.Ytijeackkgcnbgaa.FldW Go.Proofs.Ytijeackkgcnbgaa.FldM Go.Proofs.Ytijeackkgcnbgaa.FldT Go.Proofs.Ytijeackkgcnbgaa.FldRoot Go.Proofs.Ytijeackkgcnbgaa.FldRoot2 Go.Proofs.Ytijeackkgcnbgaa.FldPt Go.Proofs.Ytijeackkgcnbgaa.St Go.Proofs.Ytijeackkgcnbgaa.StOps Go.Proofs.Ytijeackkgcnbgaa.StMid Go.Proofs.Ytijeackkgcnbgaa.StEq Go.Proofs.Ytijeackkgcnbgaa.StPt Go.Proofs.Ytijeackkgcnbgaa.StIdx
open Go.RowKit Go.Proofs.YtijeackkgcnbgaaW.PrintWords Go.Proofs.YtijeackkgcnbgaaW.PrintLast Go.Proofs.YtijeackkgcnbgaaW.PrintMore
attribute [local go_sem] max2_int min2_int max_two min_two max_three min_three max_four min_four   -- for this text's walks alone
set_option linter.unusedVariables false
set_option linter.unusedSimpArgs false

end Go.Proofs.Ytijeackkgcnbgaa.XO
