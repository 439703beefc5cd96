/- The Go law on the constants returns true: it takes no argument and bears no condition. -/
import Derived.Test.YtdogliilbgnbnaaPFnExactConstantsx1
namespace Go.Proofs.Ytdogliilbgnbnaa.Pure
open Go.RowKit Go.Proofs.Ytdogliilbgnbnaa.PFnExactConstants Go.Proofs.YtdogliilbgnbnaaW.PrintWords Go.Proofs.YtdogliilbgnbnaaW.PrintLast

theorem FnExactConstants : laws_FnExactConstants.Pure := rfl

end Go.Proofs.Ytdogliilbgnbnaa.Pure
