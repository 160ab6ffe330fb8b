/- DERIVED. The witness of a row that lists a pointer. -/
import Derived.Test.YtikkdkacflkifaaDoorFrame
import Derived.Deep.DeepWitnessRowRef
set_option linter.unusedSimpArgs false
set_option linter.unusedVariables false
