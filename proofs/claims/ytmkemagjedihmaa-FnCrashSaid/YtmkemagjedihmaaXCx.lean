-- Written by a program of this session (xp.py over the kit's printer, with functions proved by hand). Lean checks it.
import Derived.Test.YtmkemagjedihmaaXCx0
import Derived.Test.YtmkemagjedihmaaXCx1
import Derived.Test.YtmkemagjedihmaaXCx2
import Derived.Test.YtmkemagjedihmaaXCx3
import Derived.Test.YtmkemagjedihmaaXCx4
import Derived.Test.YtmkemagjedihmaaXCx5
import Derived.Test.YtmkemagjedihmaaXCx6
import Derived.Test.YtmkemagjedihmaaXCx7
namespace Go.Proofs.Ytmkemagjedihmaa.XC
open Go.Proofs.Ytmkemagjedihmaa.Limb Go.Proofs.Ytmkemagjedihmaa.Arr Go.Proofs.Ytmkemagjedihmaa.FldA Go.Proofs.Ytmkemagjedihmaa.FldB Go.Proofs.Ytmkemagjedihmaa.FldC Go.Proofs.Ytmkemagjedihmaa.FldS Go.Proofs.Ytmkemagjedihmaa.FldP Go.Proofs.Ytmkemagjedihmaa.FldW Go.Proofs.Ytmkemagjedihmaa.St Go.Proofs.Ytmkemagjedihmaa.OpenS Go.Proofs.Ytmkemagjedihmaa.StOps Go.Proofs.Ytmkemagjedihmaa.Open Go.Proofs.Ytmkemagjedihmaa.OpenWin Go.Proofs.Ytmkemagjedihmaa.OpenCopy Go.Proofs.Ytmkemagjedihmaa.OpenCopy2 Go.Proofs.Ytmkemagjedihmaa.StSrc
open Go.RowKit Go.Proofs.YtmkemagjedihmaaW.PrintWords Go.Proofs.YtmkemagjedihmaaW.PrintLast Go.Proofs.YtmkemagjedihmaaW.PrintMore
attribute [local go_sem] max2_int min2_int max_two min_two max_three min_three max_four min_four   -- for this text's walks alone
set_option linter.unusedVariables false
set_option linter.unusedSimpArgs false

end Go.Proofs.Ytmkemagjedihmaa.XC
