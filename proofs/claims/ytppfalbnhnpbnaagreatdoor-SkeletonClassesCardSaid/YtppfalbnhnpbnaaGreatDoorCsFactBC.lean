/- Closed facts of the program and of SkeletonClasses's row, each by the kernel: by what it goes. Conditions: none. -/
import Derived.Test.YtppfalbnhnpbnaaGreatDoorCards
import Derived.ProofKit
import Derived.JoinedCond
set_option linter.unusedSimpArgs false
set_option linter.unusedVariables false
namespace Go.Proofs.YtppfalbnhnpbnaaGreatDoor.SkelClasses
open Go Go.RowKit
set_option maxRecDepth 10000
theorem goes : false = Rows.skeletonClassesRow.goesBy Tryz.pinned.checked.prog:=by kernel_rfl
end Go.Proofs.YtppfalbnhnpbnaaGreatDoor.SkelClasses
