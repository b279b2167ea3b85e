/- Closed facts of the program and of SkeletonOf's row, each by the kernel: its cells are what the program forces. Conditions: none. -/
import Derived.Test.YtppfalbnhnpbnaaGreatDoorCards
import Derived.ProofKit
import Derived.JoinedCond
set_option linter.unusedSimpArgs false
set_option linter.unusedVariables false
namespace Go.Proofs.YtppfalbnhnpbnaaGreatDoor.SkelOf
open Go Go.RowKit
set_option maxRecDepth 10000
theorem closed : joinedFacts Tryz.pinned.checked.prog 3 Tryz.f3 (OpenSpec.ofChange Rows.skeletonOfSpec).bare Rows.skeletonOfRow = true := by kernel_rfl
end Go.Proofs.YtppfalbnhnpbnaaGreatDoor.SkelOf
