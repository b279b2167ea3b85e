/- Closed facts of the program and of DescribeClaims's row, each by the kernel: by what it goes. Conditions: none. -/
import Derived.Test.YtcandidgaegghaaGreatDoorCards
import Derived.ProofKit
import Derived.JoinedCond
namespace Go.Proofs.YtcandidgaegghaaGreatDoor.DescClaims
open Go Go.RowKit
set_option maxRecDepth 10000
theorem goes : false = Rows.describeClaimsRow.goesBy Tryz.pinned.checked.prog := by kernel_rfl
end Go.Proofs.YtcandidgaegghaaGreatDoor.DescClaims
