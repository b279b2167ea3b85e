/- Closed facts of the program and of DescribeClaims's row, each by the kernel: its cells are what the program forces. Conditions: none. -/
import Derived.Test.YtcandidgaegghaaGreatDoorCmFactD
import Derived.Test.YtcandidgaegghaaGreatDoorCmFactE
namespace Go.Proofs.YtcandidgaegghaaGreatDoor.DescClaims
open Go Go.RowKit
set_option maxRecDepth 10000
theorem closed : joinedFacts Tryz.pinned.checked.prog 6 Tryz.f6 (OpenSpec.ofChange Rows.describeClaimsSpec).bare Rows.describeClaimsRow = true := by
  unfold joinedFacts
  rw [inPlace_ok, unfollowed_ok, recurses_ok, named_ok]
  kernel_rfl
end Go.Proofs.YtcandidgaegghaaGreatDoor.DescClaims
