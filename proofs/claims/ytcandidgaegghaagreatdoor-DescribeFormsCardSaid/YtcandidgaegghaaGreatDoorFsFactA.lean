/- Closed facts of the program and of DescribeForms's row, each by the kernel: its cells are what the program forces. Conditions: none. -/
import Derived.Test.YtcandidgaegghaaGreatDoorFsFactD
import Derived.Test.YtcandidgaegghaaGreatDoorFsFactE
namespace Go.Proofs.YtcandidgaegghaaGreatDoor.DescForms
open Go Go.RowKit
set_option maxRecDepth 10000
theorem closed : joinedFacts Tryz.pinned.checked.prog 3 Tryz.f3 (OpenSpec.ofChange Rows.describeFormsSpec).bare Rows.describeFormsRow = true := by
  unfold joinedFacts
  rw [inPlace_ok, unfollowed_ok, recurses_ok, named_ok]
  kernel_rfl
end Go.Proofs.YtcandidgaegghaaGreatDoor.DescForms
