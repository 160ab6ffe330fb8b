/- DERIVED. PLAIN: what layer 16's awake resolves. -/
import Derived.Test.YtikkdkacflkifaaDoorL16A
set_option linter.unusedSimpArgs false
set_option linter.unusedVariables false
namespace Go.Proofs.YtikkdkacflkifaaDoor
open Go.RowKit

def xT : Tr := leafT 1 ⟨#[120]⟩
def A1 : Tr := nodeOf 17 [xT, operT ⟨#[43]⟩, xT, operT ⟨#[42]⟩, xT]
def A2 : Tr := nodeOf 17 [xT, operT ⟨#[61, 61]⟩, xT, operT ⟨#[61, 61]⟩, xT]
theorem a1_val : resolveX [] A1 = (nodeOf 20 [xT, operT ⟨#[43]⟩, nodeOf 20 [xT, operT ⟨#[42]⟩, xT]], 0) := by kernel_rfl
theorem a2_val : resolveX [] A2 = (zeroT, 160) := by kernel_rfl
end Go.Proofs.YtikkdkacflkifaaDoor
