/- Closed facts of the program and of DescribeModels's row, each by the kernel: which functions are in place, which are not followed. Conditions: none. -/
import Derived.Test.YtcandidgaegghaaGreatDoorCards
import Derived.ProofKit
import Derived.JoinedCond
set_option maxRecDepth 10000
set_option linter.unusedSimpArgs false
set_option linter.unusedVariables false
namespace Go.Proofs.YtcandidgaegghaaGreatDoor.DescModels
open Go Go.RowKit
theorem inPlace_ok : (Rows.describeModelsRow.inPlace == Tryz.pinned.checked.prog.inPlace 4) = true:=by kernel_rfl
theorem unfollowed_ok : (Rows.describeModelsRow.unfollowed == Tryz.pinned.checked.prog.unfollowed 4) = true:=by kernel_rfl
end Go.Proofs.YtcandidgaegghaaGreatDoor.DescModels
