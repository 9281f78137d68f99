/- Contracts of the two square roots, and of sort.Search with a closure that only reads. -/
import Derived.Test.YtdooajiobpjihaaDoorNum
import Derived.Test.YtdooajiobpjihaaDoorRoot
import Derived.Test.YtdooajiobpjihaaDoorMem
import Derived.Shelf.Abstract
namespace Go.Proofs.YtdooajiobpjihaaDoor
set_option linter.unusedVariables false
set_option linter.unusedSimpArgs false
open Go.RowKit
end Go.Proofs.YtdooajiobpjihaaDoor
