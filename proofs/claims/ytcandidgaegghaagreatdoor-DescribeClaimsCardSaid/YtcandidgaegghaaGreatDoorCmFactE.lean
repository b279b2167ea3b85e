/- Closed facts of the program and of DescribeClaims's row, each by the kernel: recursion, the variables that are named. Conditions: none. -/
import Derived.Test.YtcandidgaegghaaGreatDoorCards
import Derived.ProofKit
import Derived.JoinedCond
namespace Go.Proofs.YtcandidgaegghaaGreatDoor.DescClaims
open Go Go.RowKit
set_option maxRecDepth 10000
theorem recurses_ok : (Rows.describeClaimsRow.recurses == Tryz.pinned.checked.prog.recurses 6) = true := by kernel_rfl
theorem named_ok : (Rows.describeClaimsRow.named == Tryz.pinned.checked.prog.varsNamed 6) = true := by kernel_rfl
end Go.Proofs.YtcandidgaegghaaGreatDoor.DescClaims
