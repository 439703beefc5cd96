-- Written by a program of this session (xp.py over the kit's printer, with functions proved by hand). Lean checks it.
import Derived.Test.YthojdfndgfpkpaaXPx0
import Derived.Test.YthojdfndgfpkpaaXPx1
import Derived.Test.YthojdfndgfpkpaaXPx2
import Derived.Test.YthojdfndgfpkpaaXPx3
import Derived.Test.YthojdfndgfpkpaaXPx4
import Derived.Test.YthojdfndgfpkpaaXPx5
import Derived.Test.YthojdfndgfpkpaaXPx6
import Derived.Test.YthojdfndgfpkpaaXPx7
namespace Go.Proofs.Ythojdfndgfpkpaa.XP
open Go.Proofs.Ythojdfndgfpkpaa.Open Go.Proofs.Ythojdfndgfpkpaa.OpenWin Go.Proofs.Ythojdfndgfpkpaa.OpenCopy Go.Proofs.Ythojdfndgfpkpaa.OpenStr Go.Proofs.Ythojdfndgfpkpaa.OpenRow
open Go.RowKit Go.Proofs.YthojdfndgfpkpaaW.PrintWords Go.Proofs.YthojdfndgfpkpaaW.PrintLast Go.Proofs.YthojdfndgfpkpaaW.PrintMore
attribute [local go_sem] max2_int min2_int max_two min_two max_three min_three max_four min_four   -- for this text's walks alone
set_option linter.unusedVariables false
set_option linter.unusedSimpArgs false

end Go.Proofs.Ythojdfndgfpkpaa.XP
