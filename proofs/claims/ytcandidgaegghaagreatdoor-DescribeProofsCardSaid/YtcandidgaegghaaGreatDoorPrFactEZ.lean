/- Closed facts of the program and of DescribeProofs's row, each by the kernel: recursion, the variables that are named. Conditions: none. -/
import Derived.Test.YtcandidgaegghaaGreatDoorCards
import Derived.ProofKit
import Derived.JoinedCond
set_option maxRecDepth 10000
set_option linter.unusedSimpArgs false
set_option linter.unusedVariables false
namespace Go.Proofs.YtcandidgaegghaaGreatDoor.DescProofs
open Go Go.RowKit
theorem recurses_ok : (Rows.describeProofsRow.recurses == Tryz.pinned.checked.prog.recurses 9) = true:=by kernel_rfl
theorem named_ok : (Rows.describeProofsRow.named == Tryz.pinned.checked.prog.varsNamed 9) = true:=by kernel_rfl
end Go.Proofs.YtcandidgaegghaaGreatDoor.DescProofs
