/- Closed facts of the program and of DescribeProofs's row, each by the kernel: its form, the harness, the looks. Conditions: none. -/
import Derived.Test.YtcandidgaegghaaGreatDoorCards
import Derived.ProofKit
import Derived.JoinedCond
set_option maxRecDepth 10000
set_option linter.unusedSimpArgs false
set_option linter.unusedVariables false
namespace Go.Proofs.YtcandidgaegghaaGreatDoor.DescProofs
open Go Go.RowKit
theorem words : Rows.describeProofsRow.wfByText (OpenSpec.ofChange Rows.describeProofsSpec) = true:=by kernel_rfl
theorem mainIs : Tryz.pinned.checked.prog.mainIs = some (true,"b1526886b5da05c0f233c69841071b05a68f327f1bb3e6a347bc9df069afccc5".toList):=by kernel_rfl
theorem looks : true = Tryz.pinned.checked.prog.looks []:=by kernel_rfl
end Go.Proofs.YtcandidgaegghaaGreatDoor.DescProofs
