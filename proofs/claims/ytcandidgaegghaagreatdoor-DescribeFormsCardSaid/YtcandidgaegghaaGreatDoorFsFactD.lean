/- Closed facts of the program and of DescribeForms's row, each by the kernel: which functions are in place, which are not followed. Conditions: none. -/
import Derived.Test.YtcandidgaegghaaGreatDoorCards
import Derived.ProofKit
import Derived.JoinedCond
namespace Go.Proofs.YtcandidgaegghaaGreatDoor.DescForms
open Go Go.RowKit
set_option maxRecDepth 10000
theorem inPlace_ok : (Rows.describeFormsRow.inPlace == Tryz.pinned.checked.prog.inPlace 3) = true := by kernel_rfl
theorem unfollowed_ok : (Rows.describeFormsRow.unfollowed == Tryz.pinned.checked.prog.unfollowed 3) = true := by kernel_rfl
end Go.Proofs.YtcandidgaegghaaGreatDoor.DescForms
