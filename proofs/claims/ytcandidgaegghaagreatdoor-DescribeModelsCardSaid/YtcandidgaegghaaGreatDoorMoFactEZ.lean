/- Closed facts of the program and of DescribeModels's row, each by the kernel: recursion, the variables that are named. Conditions: none. -/
import Derived.Test.YtcandidgaegghaaGreatDoorCards
import Derived.ProofKit
import Derived.JoinedCond
set_option maxRecDepth 10000
set_option linter.unusedSimpArgs false
set_option linter.unusedVariables false
namespace Go.Proofs.YtcandidgaegghaaGreatDoor.DescModels
open Go Go.RowKit
theorem recurses_ok : (Rows.describeModelsRow.recurses == Tryz.pinned.checked.prog.recurses 4) = true:=by kernel_rfl
theorem named_ok : (Rows.describeModelsRow.named == Tryz.pinned.checked.prog.varsNamed 4) = true:=by kernel_rfl
end Go.Proofs.YtcandidgaegghaaGreatDoor.DescModels
