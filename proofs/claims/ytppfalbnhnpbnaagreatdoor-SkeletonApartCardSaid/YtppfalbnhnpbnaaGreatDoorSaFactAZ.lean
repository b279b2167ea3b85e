/- Closed facts of the program and of SkeletonApart's row, each by the kernel: its cells are what the program forces. Conditions: none. -/
import Derived.Test.YtppfalbnhnpbnaaGreatDoorCards
import Derived.ProofKit
import Derived.JoinedCond
set_option linter.unusedSimpArgs false
set_option linter.unusedVariables false
namespace Go.Proofs.YtppfalbnhnpbnaaGreatDoor.SkelApart
open Go Go.RowKit
set_option maxRecDepth 10000
theorem closed : joinedFacts Tryz.pinned.checked.prog 4 Tryz.f4 (OpenSpec.ofChange Rows.skeletonApartSpec).bare Rows.skeletonApartRow = true := by kernel_rfl
end Go.Proofs.YtppfalbnhnpbnaaGreatDoor.SkelApart
