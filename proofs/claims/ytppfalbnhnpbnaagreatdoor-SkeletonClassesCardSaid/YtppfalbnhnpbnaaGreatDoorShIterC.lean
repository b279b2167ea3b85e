/- The contracts of maps.Keys and slices.Sorted at a map of texts, laid at this program in plain words. Conditions: those of each statement. -/
import Derived.Shelf.SlIter.Nil
import Derived.Shelf.SortM.Plain
import Derived.Shelf.SortM.SortNone
import Derived.Test.YtppfalbnhnpbnaaGreatDoorProg
set_option linter.unusedSimpArgs false
set_option linter.unusedVariables false
namespace Go.Proofs
open Go.RowKit Go.Maps Go.Sort Go.Shelf

def Tryz.keys122_ren : Go.Shelf.Ren:=⟨fun | 7=>122 | 10=>176 | n=>n,fun | 23=>93 | 26=>9 | 3=>4 | 28=>96 | 0=>0 | 27=>95 | 33=>151 | 4=>4 | n=>n,fun n=>n⟩
theorem Tryz.keys122 : Go.Proofs.SlLaysZ.n7 Go.Proofs.Tryz.prog Go.Proofs.Tryz.keys122_ren:={
 mixed:=by kernel_rfl
 f7:=⟨"maps.Keys[map[string]bool,string,bool]",of_decide_eq_true (by kernel_rfl),Tryz.func122.trans (congrArg some (by kernel_rfl))⟩
 f10:=⟨"maps.Keys[map[string]bool,string,bool]$1",of_decide_eq_true (by kernel_rfl),Tryz.func176.trans (congrArg some (by kernel_rfl))⟩
 t0:=Tryz.underlying0
 a0:=Tryz.isAgg0
 z0:=Tryz.sizeOf0
 v0:=Tryz.zeroValue0
 t4:=Tryz.underlying4
 a4:=Tryz.isAgg4
 z4:=Tryz.sizeOf4
 v4:=Tryz.zeroValue4
 t23:=Tryz.underlying93
 a23:=Tryz.isAgg93
 z23:=Tryz.sizeOf93
 v23:=Tryz.zeroValue93
 t26:=Tryz.underlying9
 a26:=Tryz.isAgg9
 z26:=Tryz.sizeOf9
 v26:=Tryz.zeroValue9
 t27:=Tryz.underlying95
 a27:=Tryz.isAgg95
 z27:=Tryz.sizeOf95
 v27:=Tryz.zeroValue95
 t28:=Tryz.underlying96
 a28:=Tryz.isAgg96
 z28:=Tryz.sizeOf96
 v28:=Tryz.zeroValue96
 t33:=Tryz.underlying151
 a33:=Tryz.isAgg151
 z33:=Tryz.sizeOf151
 v33:=Tryz.zeroValue151 }
def Tryz.sorted121_ren : Go.Shelf.Ren:=⟨fun | 6=>121 | 8=>174 | 9=>175 | 11=>217 | 13=>219 | 12=>218 | 23=>252 | 24=>239 | 14=>243 | 15=>244 | 16=>245 | 17=>246 | 18=>247 | 19=>248 | 20=>249 | 21=>250 | 22=>251 | 25=>261 | 26=>262 | 27=>263 | 28=>264 | 29=>265 | 30=>266 | 31=>275 | n=>n,fun | 26=>9 | 28=>96 | 24=>78 | 0=>0 | 3=>3 | 37=>247 | 48=>259 | 50=>239 | 4=>4 | 40=>263 | 39=>262 | 45=>114 | 5=>5 | 9=>9 | 51=>274 | 55=>278 | 57=>287 | 58=>288 | 33=>151 | n=>n,fun n=>n⟩
theorem Tryz.sorted121 : Go.Proofs.SlLaysZ.n6 Go.Proofs.Tryz.prog Go.Proofs.Tryz.sorted121_ren:={
 mixed:=by kernel_rfl
 f6:=⟨"slices.Sorted[string]",of_decide_eq_true (by kernel_rfl),Tryz.func121.trans (congrArg some (by kernel_rfl))⟩
 f8:=⟨"slices.Collect[string]",of_decide_eq_true (by kernel_rfl),Tryz.func174.trans (congrArg some (by kernel_rfl))⟩
 f11:=⟨"slices.AppendSeq[[]string,string]",of_decide_eq_true (by kernel_rfl),Tryz.func217.trans (congrArg some (by kernel_rfl))⟩
 t0:=Tryz.underlying0
 a0:=Tryz.isAgg0
 z0:=Tryz.sizeOf0
 v0:=Tryz.zeroValue0
 t24:=Tryz.underlying78
 a24:=Tryz.isAgg78
 z24:=Tryz.sizeOf78
 v24:=Tryz.zeroValue78
 t26:=Tryz.underlying9
 a26:=Tryz.isAgg9
 z26:=Tryz.sizeOf9
 v26:=Tryz.zeroValue9
 t28:=Tryz.underlying96
 a28:=Tryz.isAgg96
 z28:=Tryz.sizeOf96
 v28:=Tryz.zeroValue96
 i26:=by kernel_rfl }
def Tryz.sort175_ren : Go.Shelf.Ren:=⟨fun | 6=>175 | 8=>219 | 9=>218 | 19=>252 | 20=>239 | 21=>243 | 22=>244 | 23=>245 | 24=>246 | 25=>247 | 26=>248 | 27=>249 | 28=>250 | 29=>251 | 36=>261 | 31=>262 | 32=>263 | 37=>264 | 38=>265 | 39=>266 | 41=>275 | n=>n,fun | 27=>78 | 29=>9 | 3=>3 | 32=>247 | 26=>78 | 0=>0 | 44=>259 | 46=>239 | 4=>4 | 36=>263 | 35=>262 | 41=>114 | 5=>5 | 9=>9 | 53=>274 | 57=>278 | 63=>287 | 64=>288 | n=>n,fun n=>n⟩
theorem Tryz.sort175 : Go.Proofs.SlLaysM.n6 Go.Proofs.Tryz.prog Go.Proofs.Tryz.sort175_ren:={
 mixed:=by kernel_rfl
 f6:=⟨"slices.Sort[[]string,string]",of_decide_eq_true (by kernel_rfl),Tryz.func175.trans (congrArg some (by kernel_rfl))⟩
 f8:=Tryz.func219.trans (congrArg some (by kernel_rfl))
 f9:=⟨"slices.pdqsortOrdered[string]",of_decide_eq_true (by kernel_rfl),Tryz.func218.trans (congrArg some (by kernel_rfl))⟩
 f19:=Tryz.func252.trans (congrArg some (by kernel_rfl))
 f20:=Tryz.func239.trans (congrArg some (by kernel_rfl))
 f21:=⟨"slices.insertionSortOrdered[string]",of_decide_eq_true (by kernel_rfl),Tryz.func243.trans (congrArg some (by kernel_rfl))⟩
 f22:=⟨"slices.heapSortOrdered[string]",of_decide_eq_true (by kernel_rfl),Tryz.func244.trans (congrArg some (by kernel_rfl))⟩
 f23:=⟨"slices.breakPatternsOrdered[string]",of_decide_eq_true (by kernel_rfl),Tryz.func245.trans (congrArg some (by kernel_rfl))⟩
 f24:=⟨"slices.choosePivotOrdered[string]",of_decide_eq_true (by kernel_rfl),Tryz.func246.trans (congrArg some (by kernel_rfl))⟩
 f25:=⟨"slices.reverseRangeOrdered[string]",of_decide_eq_true (by kernel_rfl),Tryz.func247.trans (congrArg some (by kernel_rfl))⟩
 f26:=⟨"slices.partialInsertionSortOrdered[string]",of_decide_eq_true (by kernel_rfl),Tryz.func248.trans (congrArg some (by kernel_rfl))⟩
 f27:=⟨"cmp.Less[string]",of_decide_eq_true (by kernel_rfl),Tryz.func249.trans (congrArg some (by kernel_rfl))⟩
 f28:=⟨"slices.partitionEqualOrdered[string]",of_decide_eq_true (by kernel_rfl),Tryz.func250.trans (congrArg some (by kernel_rfl))⟩
 f29:=⟨"slices.partitionOrdered[string]",of_decide_eq_true (by kernel_rfl),Tryz.func251.trans (congrArg some (by kernel_rfl))⟩
 f31:=Tryz.func262.trans (congrArg some (by kernel_rfl))
 f32:=Tryz.func263.trans (congrArg some (by kernel_rfl))
 f36:=⟨"slices.siftDownOrdered[string]",of_decide_eq_true (by kernel_rfl),Tryz.func261.trans (congrArg some (by kernel_rfl))⟩
 f37:=⟨"slices.medianAdjacentOrdered[string]",of_decide_eq_true (by kernel_rfl),Tryz.func264.trans (congrArg some (by kernel_rfl))⟩
 f38:=⟨"slices.medianOrdered[string]",of_decide_eq_true (by kernel_rfl),Tryz.func265.trans (congrArg some (by kernel_rfl))⟩
 f39:=⟨"cmp.isNaN[string]",of_decide_eq_true (by kernel_rfl),Tryz.func266.trans (congrArg some (by kernel_rfl))⟩
 f41:=⟨"slices.order2Ordered[string]",of_decide_eq_true (by kernel_rfl),Tryz.func275.trans (congrArg some (by kernel_rfl))⟩
 t0:=Tryz.underlying0
 a0:=Tryz.isAgg0
 z0:=Tryz.sizeOf0
 v0:=Tryz.zeroValue0
 t3:=Tryz.underlying3
 a3:=Tryz.isAgg3
 z3:=Tryz.sizeOf3
 v3:=Tryz.zeroValue3
 t4:=Tryz.underlying4
 a4:=Tryz.isAgg4
 z4:=Tryz.sizeOf4
 v4:=Tryz.zeroValue4
 t5:=Tryz.underlying5
 a5:=Tryz.isAgg5
 z5:=Tryz.sizeOf5
 v5:=Tryz.zeroValue5
 t9:=Tryz.underlying9
 a9:=Tryz.isAgg9
 z9:=Tryz.sizeOf9
 v9:=Tryz.zeroValue9
 t26:=Tryz.underlying78
 a26:=Tryz.isAgg78
 z26:=Tryz.sizeOf78
 v26:=Tryz.zeroValue78
 t27:=Tryz.underlying78
 a27:=Tryz.isAgg78
 z27:=Tryz.sizeOf78
 v27:=Tryz.zeroValue78
 t29:=Tryz.underlying9
 a29:=Tryz.isAgg9
 z29:=Tryz.sizeOf9
 v29:=Tryz.zeroValue9
 t32:=Tryz.underlying247
 a32:=Tryz.isAgg247
 z32:=Tryz.sizeOf247
 v32:=Tryz.zeroValue247
 t35:=Tryz.underlying262
 a35:=Tryz.isAgg262
 z35:=Tryz.sizeOf262
 v35:=Tryz.zeroValue262
 t36:=Tryz.underlying263
 a36:=Tryz.isAgg263
 z36:=Tryz.sizeOf263
 v36:=Tryz.zeroValue263
 t41:=Tryz.underlying114
 a41:=Tryz.isAgg114
 z41:=Tryz.sizeOf114
 v41:=Tryz.zeroValue114
 t44:=Tryz.underlying259
 a44:=Tryz.isAgg259
 z44:=Tryz.sizeOf259
 v44:=Tryz.zeroValue259
 t46:=Tryz.underlying239
 a46:=Tryz.isAgg239
 z46:=Tryz.sizeOf239
 v46:=Tryz.zeroValue239
 t53:=Tryz.underlying274
 a53:=Tryz.isAgg274
 z53:=Tryz.sizeOf274
 v53:=Tryz.zeroValue274
 t57:=Tryz.underlying278
 a57:=Tryz.isAgg278
 z57:=Tryz.sizeOf278
 v57:=Tryz.zeroValue278
 t63:=Tryz.underlying287
 a63:=Tryz.isAgg287
 z63:=Tryz.sizeOf287
 v63:=Tryz.zeroValue287
 t64:=Tryz.underlying288
 a64:=Tryz.isAgg288
 z64:=Tryz.sizeOf288
 v64:=Tryz.zeroValue288 }

theorem Tryz.sorts121 (m : Nat) : AnyZ.SortsIn Tryz.prog Tryz.sorted121_ren Fence.wide m :=
 ⟨fun blk off cap ss W hH hblk hsz=>callsIn_wide.2 (AnyM.slices_Sort_string Tryz.sort175 blk off cap ss W hH hblk hsz),
  fun p cap W=>callsIn_wide.2 (AnyM.slices_Sort_string_none Tryz.sort175 p cap W)⟩

theorem Tryz.maps_Keys_122 (mb : Option Nat) (W : World) : CallsIn Fence.wide 5 Tryz.prog 122 #[.map mb] W fun e w'=>e = .returned (.func (.func 176) #[] #[.pointer (some ⟨W.heap.size,0,none⟩)]) ∧ w' = W.alloc (.cells #[.map mb] 93) :=
 AnyZ.keys_in Tryz.keys122 Fence.wide 5 trivial rfl mb W

set_option maxHeartbeats 1000000 in
theorem Tryz.slices_Sorted_keys_121_122 {H : Type} (b nn : Nat) (D0 : DataW H) (R : Value → Option (DataW H × List MemPlace)) (w : World) (hown : w.ownsMap Tryz.prog 9 R b nn D0) (hmax : Maps.size D0 ≤ maxLen) (hbytes : Maps.size D0 * 16 ≤ 140737488355328) :
  CallsIn Fence.wide 5 Tryz.prog 121 #[.func (.func 176) #[] #[.pointer (some ⟨w.heap.size,0,none⟩)]] (w.alloc (.cells #[.map (some b)] 93)) fun e w'=>∃ (v : Value) (ss : List (List UInt8)),e = .returned v ∧ ss.Perm (strKeys D0) ∧
   w'.ownsRow (w.alloc (.cells #[.map (some b)] 93)).heap.size 9 1 v ss.length ((ss.mergeSort (fun x y=>decide (x ≤ y))).map encStr) ∧ (v = .slice none 0 0 ↔ ss = []) ∧ Below (w.alloc (.cells #[.map (some b)] 93)).heap.size (w.alloc (.cells #[.map (some b)] 93)) w':=by
 have hbl:=hown.lt
 have hseq : SeqGives Fence.wide 2 Tryz.prog 176 #[.pointer (some ⟨w.heap.size,0,none⟩)] encStr (fun ss=>ss.Perm (strKeys D0)) (Maps.size D0) (w.alloc (.cells #[.map (some b)] 93)) :=
  AnyZ.keys_gives (ρ:=Tryz.keys122_ren) { Tryz.keys122 with } Fence.wide _ trivial rfl (by omega) w.heap.size b nn D0 _ (by simp) (by simp) (by
   obtain ⟨es,clock,hb,Ft,hs,hD⟩:=hown
   exact ⟨es,clock,(Below.heap_alloc _ _ b hbl).trans hb,Ft,hs,hD⟩)
 exact AnyZ.sorted_in Tryz.sorted121 Fence.wide 5 trivial trivial trivial trivial rfl (by omega) (Tryz.sorts121 _) (enters_of Tryz.func175 (by kernel_rfl) rfl) 176 #[.pointer (some ⟨w.heap.size,0,none⟩)] trivial (enters_of Tryz.func176 (by kernel_rfl) rfl) _ _ hmax hbytes _ hseq


end Go.Proofs
