/- Closed facts of the program and of DescribeWrong's row, each by the kernel: its cells are what the program forces. Conditions: none. -/
import Derived.Test.YtcandidgaegghaaGreatDoorCards
import Derived.ProofKit
import Derived.JoinedCond
namespace Go.Proofs.YtcandidgaegghaaGreatDoor.DescWrong
open Go Go.RowKit
set_option maxRecDepth 10000
theorem closed : joinedFacts Tryz.pinned.checked.prog 11 Tryz.f11 (OpenSpec.ofChange Rows.describeWrongSpec).bare Rows.describeWrongRow = true := by kernel_rfl
end Go.Proofs.YtcandidgaegghaaGreatDoor.DescWrong
