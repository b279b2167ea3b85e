/- Closed facts of the program and of DescribeModels's row, each by the kernel: its cells are what the program forces. Conditions: none. -/
import Derived.Test.YtcandidgaegghaaGreatDoorMoFactDZ
import Derived.Test.YtcandidgaegghaaGreatDoorMoFactEZ
set_option maxRecDepth 10000
set_option linter.unusedSimpArgs false
set_option linter.unusedVariables false
namespace Go.Proofs.YtcandidgaegghaaGreatDoor.DescModels
open Go Go.RowKit
theorem closed : joinedFacts Tryz.pinned.checked.prog 4 Tryz.f4 (OpenSpec.ofChange Rows.describeModelsSpec).bare Rows.describeModelsRow = true:=by
 unfold joinedFacts
 rw [inPlace_ok,unfollowed_ok,recurses_ok,named_ok]
 kernel_rfl
end Go.Proofs.YtcandidgaegghaaGreatDoor.DescModels
