-- Written by a program of this session (xp.py over the kit's printer, with functions proved by hand). Lean checks it.
import Derived.Test.YtdogliilbgnbnaaXNx0
import Derived.Test.YtdogliilbgnbnaaXNx1
namespace Go.Proofs.Ytdogliilbgnbnaa.XN
open Go.RowKit Go.Proofs.YtdogliilbgnbnaaW.PrintWords Go.Proofs.YtdogliilbgnbnaaW.PrintLast Go.Proofs.YtdogliilbgnbnaaW.PrintMore
attribute [local go_sem] max2_int min2_int max_two min_two max_three min_three max_four min_four   -- for this text's walks alone
set_option linter.unusedVariables false
set_option linter.unusedSimpArgs false

end Go.Proofs.Ytdogliilbgnbnaa.XN
