/- Closed facts of the program and of DescribeProofs's row, each by the kernel: by what it goes. Conditions: none. -/
import Derived.Test.YtcandidgaegghaaGreatDoorCards
import Derived.ProofKit
import Derived.JoinedCond
set_option maxRecDepth 10000
set_option linter.unusedSimpArgs false
set_option linter.unusedVariables false
namespace Go.Proofs.YtcandidgaegghaaGreatDoor.DescProofs
open Go Go.RowKit
theorem goes : false = Rows.describeProofsRow.goesBy Tryz.pinned.checked.prog:=by kernel_rfl
end Go.Proofs.YtcandidgaegghaaGreatDoor.DescProofs
