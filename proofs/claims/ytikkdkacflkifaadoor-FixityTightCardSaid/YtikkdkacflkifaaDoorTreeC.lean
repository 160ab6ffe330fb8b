/- DERIVED. The walk of Size: a closure that counts. -/
import Derived.Test.YtikkdkacflkifaaDoorTreeA
import Derived.Laws.EntriesVeiled
set_option linter.unusedSimpArgs false
set_option linter.unusedVariables false
namespace Go.Proofs.YtikkdkacflkifaaDoor
open Go.RowKit
end Go.Proofs.YtikkdkacflkifaaDoor
