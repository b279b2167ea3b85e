/- Closed facts of the program and of DescribeReads's row, each by the kernel: its cells are what the program forces. Conditions: none. -/
import Derived.Test.YtcandidgaegghaaGreatDoorCards
import Derived.ProofKit
import Derived.JoinedCond
namespace Go.Proofs.YtcandidgaegghaaGreatDoor.DescReads
open Go Go.RowKit
set_option maxRecDepth 10000
theorem closed : joinedFacts Tryz.pinned.checked.prog 10 Tryz.f10 (OpenSpec.ofChange Rows.describeReadsSpec).bare Rows.describeReadsRow = true := by kernel_rfl
end Go.Proofs.YtcandidgaegghaaGreatDoor.DescReads
