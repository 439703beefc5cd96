-- Written by a program of this session (xp.py over the kit's printer, with functions proved by hand). Lean checks it.
import Derived.Test.YthojdfndgfpkpaaXLx0
import Derived.Test.YthojdfndgfpkpaaXLx1
import Derived.Test.YthojdfndgfpkpaaXLx2
import Derived.Test.YthojdfndgfpkpaaXLx3
import Derived.Test.YthojdfndgfpkpaaXLx4
import Derived.Test.YthojdfndgfpkpaaXLx5
import Derived.Test.YthojdfndgfpkpaaXLx6
namespace Go.Proofs.Ythojdfndgfpkpaa.XL
open Go.Proofs.Ythojdfndgfpkpaa.Open Go.Proofs.Ythojdfndgfpkpaa.OpenWin Go.Proofs.Ythojdfndgfpkpaa.OpenCopy
open Go.RowKit Go.Proofs.YthojdfndgfpkpaaW.PrintWords Go.Proofs.YthojdfndgfpkpaaW.PrintLast Go.Proofs.YthojdfndgfpkpaaW.PrintMore
attribute [local go_sem] max2_int min2_int max_two min_two max_three min_three max_four min_four   -- for this text's walks alone
set_option linter.unusedVariables false
set_option linter.unusedSimpArgs false

end Go.Proofs.Ythojdfndgfpkpaa.XL
