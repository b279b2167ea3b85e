/- Closed facts of the program and of SkeletonClasses's row, each by the kernel: its cells are what the program forces. Conditions: none. -/
import Derived.Test.YtppfalbnhnpbnaaGreatDoorCards
import Derived.ProofKit
import Derived.JoinedCond
set_option linter.unusedSimpArgs false
set_option linter.unusedVariables false
namespace Go.Proofs.YtppfalbnhnpbnaaGreatDoor.SkelClasses
open Go Go.RowKit
set_option maxRecDepth 10000
theorem closed : joinedFacts Tryz.pinned.checked.prog 8 Tryz.f8 (OpenSpec.ofChange Rows.skeletonClassesSpec).bare Rows.skeletonClassesRow = true:=by kernel_rfl
end Go.Proofs.YtppfalbnhnpbnaaGreatDoor.SkelClasses
