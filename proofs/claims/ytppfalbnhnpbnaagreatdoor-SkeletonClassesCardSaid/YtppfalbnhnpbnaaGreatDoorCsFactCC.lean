/- Closed facts of the program and of SkeletonClasses's row, each by the kernel: its form, the harness, the looks. Conditions: none. -/
import Derived.Test.YtppfalbnhnpbnaaGreatDoorCards
import Derived.ProofKit
import Derived.JoinedCond
set_option linter.unusedSimpArgs false
set_option linter.unusedVariables false
namespace Go.Proofs.YtppfalbnhnpbnaaGreatDoor.SkelClasses
open Go Go.RowKit
set_option maxRecDepth 10000
theorem words : Rows.skeletonClassesRow.wfByText (OpenSpec.ofChange Rows.skeletonClassesSpec) = true:=by kernel_rfl
theorem mainIs : Tryz.pinned.checked.prog.mainIs = some (true,"e6e8d273c3a532af08bc278c225d929b183b5905833cf90f291e22b4edbb329f".toList):=by kernel_rfl
theorem looks : false = Tryz.pinned.checked.prog.looks []:=by kernel_rfl
end Go.Proofs.YtppfalbnhnpbnaaGreatDoor.SkelClasses
