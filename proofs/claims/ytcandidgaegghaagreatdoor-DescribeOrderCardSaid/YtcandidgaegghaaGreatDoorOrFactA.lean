/- Closed facts of the program and of DescribeOrder's row, each by the kernel: its cells are what the program forces. Conditions: none. -/
import Derived.Test.YtcandidgaegghaaGreatDoorCards
import Derived.ProofKit
import Derived.JoinedCond
namespace Go.Proofs.YtcandidgaegghaaGreatDoor.DescOrder
open Go Go.RowKit
set_option maxRecDepth 10000
theorem closed : joinedFacts Tryz.pinned.checked.prog 8 Tryz.f8 (OpenSpec.ofChange Rows.describeOrderSpec).bare Rows.describeOrderRow = true := by kernel_rfl
end Go.Proofs.YtcandidgaegghaaGreatDoor.DescOrder
