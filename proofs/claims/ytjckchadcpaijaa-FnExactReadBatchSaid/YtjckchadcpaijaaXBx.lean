-- Written by a program of this session (xp.py over the kit's printer, with functions proved by hand). Lean checks it.
import Derived.Test.YtjckchadcpaijaaXBx0
import Derived.Test.YtjckchadcpaijaaXBx1
import Derived.Test.YtjckchadcpaijaaXBx2
import Derived.Test.YtjckchadcpaijaaXBx3
import Derived.Test.YtjckchadcpaijaaXBx4
import Derived.Test.YtjckchadcpaijaaXBx5
import Derived.Test.YtjckchadcpaijaaXBx6
import Derived.Test.YtjckchadcpaijaaXBx7
namespace Go.Proofs.Ytjckchadcpaijaa.XB
open Go.Proofs.Ytjckchadcpaijaa.Open Go.Proofs.Ytjckchadcpaijaa.OpenWin Go.Proofs.Ytjckchadcpaijaa.OpenCopy Go.Proofs.Ytjckchadcpaijaa.OpenStr
open Go.RowKit Go.Proofs.YtjckchadcpaijaaW.PrintWords Go.Proofs.YtjckchadcpaijaaW.PrintLast Go.Proofs.YtjckchadcpaijaaW.PrintMore
attribute [local go_sem] max2_int min2_int max_two min_two max_three min_three max_four min_four   -- for this text's walks alone
set_option linter.unusedVariables false
set_option linter.unusedSimpArgs false

end Go.Proofs.Ytjckchadcpaijaa.XB
