/- slices.SortFunc at symbols, laid at this program in plain words. Conditions: none. -/
import Derived.Shelf.SlLaysF0
import Derived.Test.YtppfalbnhnpbnaaGreatDoorProg
set_option linter.unusedSimpArgs false
set_option linter.unusedVariables false
namespace Go.Proofs
open Go.Shelf
def Tryz.sortFn234_ren : Go.Shelf.Ren:=⟨fun | 6=>234 | 15=>219 | 14=>256 | 28=>252 | 29=>239 | 20=>267 | 21=>268 | 22=>269 | 23=>270 | 24=>271 | 25=>272 | 26=>273 | 27=>274 | 46=>276 | 47=>262 | 48=>263 | 49=>277 | 50=>278 | 57=>279 | n=>n,fun | 22=>155 | 24=>51 | 25=>227 | 3=>3 | 39=>247 | 0=>0 | 53=>259 | 55=>239 | 4=>4 | 46=>263 | 45=>262 | 50=>114 | 5=>5 | 9=>9 | 66=>274 | 70=>278 | 76=>287 | 77=>288 | n=>n,fun n=>n⟩
theorem Tryz.sortFn234 : Go.Proofs.SlLaysF0.n6 Go.Proofs.Tryz.prog Go.Proofs.Tryz.sortFn234_ren:={
 mixed:=by kernel_rfl
 f6:=⟨"slices.SortFunc[[]lyceum/syntax.Symbol,lyceum/syntax.Symbol]",of_decide_eq_true (by kernel_rfl),Tryz.func234.trans (congrArg some (by kernel_rfl))⟩
 f14:=⟨"slices.pdqsortCmpFunc[lyceum/syntax.Symbol]",of_decide_eq_true (by kernel_rfl),Tryz.func256.trans (congrArg some (by kernel_rfl))⟩
 f15:=Tryz.func219.trans (congrArg some (by kernel_rfl))
 f20:=⟨"slices.insertionSortCmpFunc[lyceum/syntax.Symbol]",of_decide_eq_true (by kernel_rfl),Tryz.func267.trans (congrArg some (by kernel_rfl))⟩
 f21:=⟨"slices.heapSortCmpFunc[lyceum/syntax.Symbol]",of_decide_eq_true (by kernel_rfl),Tryz.func268.trans (congrArg some (by kernel_rfl))⟩
 f22:=⟨"slices.breakPatternsCmpFunc[lyceum/syntax.Symbol]",of_decide_eq_true (by kernel_rfl),Tryz.func269.trans (congrArg some (by kernel_rfl))⟩
 f23:=⟨"slices.choosePivotCmpFunc[lyceum/syntax.Symbol]",of_decide_eq_true (by kernel_rfl),Tryz.func270.trans (congrArg some (by kernel_rfl))⟩
 f24:=⟨"slices.reverseRangeCmpFunc[lyceum/syntax.Symbol]",of_decide_eq_true (by kernel_rfl),Tryz.func271.trans (congrArg some (by kernel_rfl))⟩
 f25:=⟨"slices.partialInsertionSortCmpFunc[lyceum/syntax.Symbol]",of_decide_eq_true (by kernel_rfl),Tryz.func272.trans (congrArg some (by kernel_rfl))⟩
 f26:=⟨"slices.partitionEqualCmpFunc[lyceum/syntax.Symbol]",of_decide_eq_true (by kernel_rfl),Tryz.func273.trans (congrArg some (by kernel_rfl))⟩
 f27:=⟨"slices.partitionCmpFunc[lyceum/syntax.Symbol]",of_decide_eq_true (by kernel_rfl),Tryz.func274.trans (congrArg some (by kernel_rfl))⟩
 f28:=Tryz.func252.trans (congrArg some (by kernel_rfl))
 f29:=Tryz.func239.trans (congrArg some (by kernel_rfl))
 f46:=⟨"slices.siftDownCmpFunc[lyceum/syntax.Symbol]",of_decide_eq_true (by kernel_rfl),Tryz.func276.trans (congrArg some (by kernel_rfl))⟩
 f47:=Tryz.func262.trans (congrArg some (by kernel_rfl))
 f48:=Tryz.func263.trans (congrArg some (by kernel_rfl))
 f49:=⟨"slices.medianAdjacentCmpFunc[lyceum/syntax.Symbol]",of_decide_eq_true (by kernel_rfl),Tryz.func277.trans (congrArg some (by kernel_rfl))⟩
 f50:=⟨"slices.medianCmpFunc[lyceum/syntax.Symbol]",of_decide_eq_true (by kernel_rfl),Tryz.func278.trans (congrArg some (by kernel_rfl))⟩
 f57:=⟨"slices.order2CmpFunc[lyceum/syntax.Symbol]",of_decide_eq_true (by kernel_rfl),Tryz.func279.trans (congrArg some (by kernel_rfl))⟩
 t0:=Tryz.underlying0
 a0:=Tryz.isAgg0
 z0:=Tryz.sizeOf0
 v0:=Tryz.zeroValue0
 t3:=Tryz.underlying3
 a3:=Tryz.isAgg3
 z3:=Tryz.sizeOf3
 v3:=Tryz.zeroValue3
 t4:=Tryz.underlying4
 a4:=Tryz.isAgg4
 z4:=Tryz.sizeOf4
 v4:=Tryz.zeroValue4
 t5:=Tryz.underlying5
 a5:=Tryz.isAgg5
 z5:=Tryz.sizeOf5
 v5:=Tryz.zeroValue5
 t9:=Tryz.underlying9
 a9:=Tryz.isAgg9
 z9:=Tryz.sizeOf9
 v9:=Tryz.zeroValue9
 t22:=Tryz.underlying155
 a22:=Tryz.isAgg155
 z22:=Tryz.sizeOf155
 v22:=Tryz.zeroValue155
 t25:=Tryz.underlying227
 a25:=Tryz.isAgg227
 z25:=Tryz.sizeOf227
 v25:=Tryz.zeroValue227
 t39:=Tryz.underlying247
 a39:=Tryz.isAgg247
 z39:=Tryz.sizeOf247
 v39:=Tryz.zeroValue247
 t45:=Tryz.underlying262
 a45:=Tryz.isAgg262
 z45:=Tryz.sizeOf262
 v45:=Tryz.zeroValue262
 t46:=Tryz.underlying263
 a46:=Tryz.isAgg263
 z46:=Tryz.sizeOf263
 v46:=Tryz.zeroValue263
 t50:=Tryz.underlying114
 a50:=Tryz.isAgg114
 z50:=Tryz.sizeOf114
 v50:=Tryz.zeroValue114
 t53:=Tryz.underlying259
 a53:=Tryz.isAgg259
 z53:=Tryz.sizeOf259
 v53:=Tryz.zeroValue259
 t55:=Tryz.underlying239
 a55:=Tryz.isAgg239
 z55:=Tryz.sizeOf239
 v55:=Tryz.zeroValue239
 t66:=Tryz.underlying274
 a66:=Tryz.isAgg274
 z66:=Tryz.sizeOf274
 v66:=Tryz.zeroValue274
 t70:=Tryz.underlying278
 a70:=Tryz.isAgg278
 z70:=Tryz.sizeOf278
 v70:=Tryz.zeroValue278
 t76:=Tryz.underlying287
 a76:=Tryz.isAgg287
 z76:=Tryz.sizeOf287
 v76:=Tryz.zeroValue287
 t77:=Tryz.underlying288
 a77:=Tryz.isAgg288
 z77:=Tryz.sizeOf288
 v77:=Tryz.zeroValue288 }
end Go.Proofs
