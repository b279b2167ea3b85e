/- Closed facts of the program and of DescribeClaims's row, each by the kernel: which functions are in place, which are not followed. Conditions: none. -/
import Derived.Test.YtcandidgaegghaaGreatDoorCards
import Derived.ProofKit
import Derived.JoinedCond
namespace Go.Proofs.YtcandidgaegghaaGreatDoor.DescClaims
open Go Go.RowKit
set_option maxRecDepth 10000
theorem inPlace_ok : (Rows.describeClaimsRow.inPlace == Tryz.pinned.checked.prog.inPlace 6) = true := by kernel_rfl
theorem unfollowed_ok : (Rows.describeClaimsRow.unfollowed == Tryz.pinned.checked.prog.unfollowed 6) = true := by kernel_rfl
end Go.Proofs.YtcandidgaegghaaGreatDoor.DescClaims
