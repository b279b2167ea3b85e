/- Closed facts of the program and of DescribeOutline's row, each by the kernel: its cells are what the program forces. Conditions: none. -/
import Derived.Test.YtcandidgaegghaaGreatDoorCards
import Derived.ProofKit
import Derived.JoinedCond
namespace Go.Proofs.YtcandidgaegghaaGreatDoor.DescOutline
open Go Go.RowKit
set_option maxRecDepth 10000
theorem closed : joinedFacts Tryz.pinned.checked.prog 7 Tryz.f7 (OpenSpec.ofChange Rows.describeOutlineSpec).bare Rows.describeOutlineRow = true := by kernel_rfl
end Go.Proofs.YtcandidgaegghaaGreatDoor.DescOutline
