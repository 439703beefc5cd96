-- Written by a program of this session (xp.py over the kit's printer, with functions proved by hand). Lean checks it.
import Derived.Test.YthojdfndgfpkpaaXAx0
import Derived.Test.YthojdfndgfpkpaaXAx1
import Derived.Test.YthojdfndgfpkpaaXAx2
import Derived.Test.YthojdfndgfpkpaaXAx3
import Derived.Test.YthojdfndgfpkpaaXAx4
import Derived.Test.YthojdfndgfpkpaaXAx5
import Derived.Test.YthojdfndgfpkpaaXAx6
import Derived.Test.YthojdfndgfpkpaaXAx7
import Derived.Test.YthojdfndgfpkpaaXAx8
import Derived.Test.YthojdfndgfpkpaaXAx9
import Derived.Test.YthojdfndgfpkpaaXAx10
import Derived.Test.YthojdfndgfpkpaaXAx11
namespace Go.Proofs.Ythojdfndgfpkpaa.XA
open Go.Proofs.Ythojdfndgfpkpaa.Open Go.Proofs.Ythojdfndgfpkpaa.OpenWin Go.Proofs.Ythojdfndgfpkpaa.OpenRow Go.Proofs.Ythojdfndgfpkpaa.OpenFlat Go.Proofs.Ythojdfndgfpkpaa.OpenOrd
open Go.RowKit Go.Proofs.YthojdfndgfpkpaaW.PrintWords Go.Proofs.YthojdfndgfpkpaaW.PrintLast Go.Proofs.YthojdfndgfpkpaaW.PrintMore
attribute [local go_sem] max2_int min2_int max_two min_two max_three min_three max_four min_four   -- for this text's walks alone
set_option linter.unusedVariables false
set_option linter.unusedSimpArgs false

end Go.Proofs.Ythojdfndgfpkpaa.XA
