/- Contracts of the two square roots, and of sort.Search with a closure that only reads. -/
import Derived.Test.YtnaggimfialbfaaNum
import Derived.Test.YtnaggimfialbfaaRoot
import Derived.Test.YtnaggimfialbfaaMem
import Derived.Shelf.Abstract
namespace Go.Proofs.Ytnaggimfialbfaa
set_option linter.unusedVariables false
set_option linter.unusedSimpArgs false
open Go.RowKit
end Go.Proofs.Ytnaggimfialbfaa
