/- Closed facts of the program and of DescribeForms's row, each by the kernel: recursion, the variables that are named. Conditions: none. -/
import Derived.Test.YtcandidgaegghaaGreatDoorCards
import Derived.ProofKit
import Derived.JoinedCond
namespace Go.Proofs.YtcandidgaegghaaGreatDoor.DescForms
open Go Go.RowKit
set_option maxRecDepth 10000
theorem recurses_ok : (Rows.describeFormsRow.recurses == Tryz.pinned.checked.prog.recurses 3) = true := by kernel_rfl
theorem named_ok : (Rows.describeFormsRow.named == Tryz.pinned.checked.prog.varsNamed 3) = true := by kernel_rfl
end Go.Proofs.YtcandidgaegghaaGreatDoor.DescForms
