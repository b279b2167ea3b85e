/- Closed facts of the program and of DescribeForms's row, each by the kernel: by what it goes. Conditions: none. -/
import Derived.Test.YtcandidgaegghaaGreatDoorCards
import Derived.ProofKit
import Derived.JoinedCond
namespace Go.Proofs.YtcandidgaegghaaGreatDoor.DescForms
open Go Go.RowKit
set_option maxRecDepth 10000
theorem goes : false = Rows.describeFormsRow.goesBy Tryz.pinned.checked.prog := by kernel_rfl
end Go.Proofs.YtcandidgaegghaaGreatDoor.DescForms
