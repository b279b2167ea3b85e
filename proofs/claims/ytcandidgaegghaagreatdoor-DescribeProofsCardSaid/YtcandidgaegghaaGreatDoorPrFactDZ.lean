/- Closed facts of the program and of DescribeProofs's row, each by the kernel: which functions are in place, which are not followed. Conditions: none. -/
import Derived.Test.YtcandidgaegghaaGreatDoorCards
import Derived.ProofKit
import Derived.JoinedCond
set_option maxRecDepth 10000
set_option linter.unusedSimpArgs false
set_option linter.unusedVariables false
namespace Go.Proofs.YtcandidgaegghaaGreatDoor.DescProofs
open Go Go.RowKit
theorem inPlace_ok : (Rows.describeProofsRow.inPlace == Tryz.pinned.checked.prog.inPlace 9) = true:=by kernel_rfl
theorem unfollowed_ok : (Rows.describeProofsRow.unfollowed == Tryz.pinned.checked.prog.unfollowed 9) = true:=by kernel_rfl
end Go.Proofs.YtcandidgaegghaaGreatDoor.DescProofs
