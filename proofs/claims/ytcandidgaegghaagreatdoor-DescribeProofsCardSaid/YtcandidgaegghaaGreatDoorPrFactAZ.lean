/- Closed facts of the program and of DescribeProofs's row, each by the kernel: its cells are what the program forces. Conditions: none. -/
import Derived.Test.YtcandidgaegghaaGreatDoorPrFactDZ
import Derived.Test.YtcandidgaegghaaGreatDoorPrFactEZ
set_option maxRecDepth 10000
set_option linter.unusedSimpArgs false
set_option linter.unusedVariables false
namespace Go.Proofs.YtcandidgaegghaaGreatDoor.DescProofs
open Go Go.RowKit
theorem closed : joinedFacts Tryz.pinned.checked.prog 9 Tryz.f9 (OpenSpec.ofChange Rows.describeProofsSpec).bare Rows.describeProofsRow = true:=by
 unfold joinedFacts
 rw [inPlace_ok,unfollowed_ok,recurses_ok,named_ok]
 kernel_rfl
end Go.Proofs.YtcandidgaegghaaGreatDoor.DescProofs
