/- Closed facts of the program and of DescribeApart's row, each by the kernel: its cells are what the program forces. Conditions: none. -/
import Derived.Test.YtcandidgaegghaaGreatDoorCards
import Derived.ProofKit
import Derived.JoinedCond
namespace Go.Proofs.YtcandidgaegghaaGreatDoor.DescApart
open Go Go.RowKit
set_option maxRecDepth 10000
theorem closed : joinedFacts Tryz.pinned.checked.prog 5 Tryz.f5 (OpenSpec.ofChange Rows.describeApartSpec).bare Rows.describeApartRow = true := by kernel_rfl
end Go.Proofs.YtcandidgaegghaaGreatDoor.DescApart
