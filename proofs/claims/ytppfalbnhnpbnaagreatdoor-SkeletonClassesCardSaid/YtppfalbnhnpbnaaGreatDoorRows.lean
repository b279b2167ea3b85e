/-
  NARROWER THAN 'FOR EVERY INPUT', by the rows' own cells (each row's printed sentence says how): SkeletonOf: laid · SkeletonApart: laid · SkeletonTells: loops, laid · SkeletonRenames: laid · SkeletonSorts: loops, laid · SkeletonClasses: laid.
  DERIVED. THE GIVEN ROWS OF THIS SEAT. 6 by the template 'for every input the law returns true; each argument reads behind the call as it read before'; 0 by the template 'total and deterministic' (their statements: YtppfalbnhnpbnaaGreatDoorTotals.lean).
  GIVEN WITH THE SEED: the statements are not yours to turn. If you find one false, say at which input.
  Laid BY PROGRAM, IN A SANDBOX (cutbox-rows.mjs): the forced cells as the released guide's own fill.sh prints them over the translation e77213a03146a83c… (all of the seat's roots in one cut). By AI agents, Wed Nov 11 2026. No macro, syntax, notation, axiom, sorry.
-/
import Derived.Test.YtppfalbnhnpbnaaGreatDoorChecked
import GoSem.Claim
import GoSem.ClaimJoined
import GoSem.ClaimMapViews
import Derived.JoinedTies
import Derived.KernelRfl
namespace Go.Proofs.YtppfalbnhnpbnaaGreatDoor
/- THE CELL 'sum', in the pinned program and in every row, IS THE sha256 OF THE DUMP (.gsa) THAT YtppfalbnhnpbnaaGreatDoorProg.lean LOADS. Nothing in Lean hashes anything: it is a label: what it is worth is what the hold of that sum in a sandbox is worth. -/
noncomputable def Tryz.pinned : Pinned := { name := "ytppfalbnhnpbnaagreatdoor", sum := "e77213a03146a83c1f0fc26c54cebfa9b11427618f6916445cb5287082d1dac1", checked := Tryz.checked }
namespace Rows
def none {H : Type} : Left H := { results := [], args := [] }

/- WHAT THE LISTED PACKAGE-LEVEL VARIABLES READ AS WHEN THE CALL BEGINS. Each datum BY PROGRAM (the guide's laid-datum.mjs) off the statement by which the dump's own 'gosem.cut.vars' lays the variable. In a bare row this is a premise. The card (YtppfalbnhnpbnaaGreatDoorCards.lean) ties it to the program's text. -/
def laid_math_bits_deBruijn32tab {H : Type} : DataW H := .agg [.lit (.int .u8 0), .lit (.int .u8 1), .lit (.int .u8 28), .lit (.int .u8 2), .lit (.int .u8 29), .lit (.int .u8 14), .lit (.int .u8 24), .lit (.int .u8 3), .lit (.int .u8 30), .lit (.int .u8 22), .lit (.int .u8 20), .lit (.int .u8 15), .lit (.int .u8 25), .lit (.int .u8 17), .lit (.int .u8 4), .lit (.int .u8 8), .lit (.int .u8 31), .lit (.int .u8 27), .lit (.int .u8 13), .lit (.int .u8 23), .lit (.int .u8 21), .lit (.int .u8 19), .lit (.int .u8 16), .lit (.int .u8 7), .lit (.int .u8 26), .lit (.int .u8 12), .lit (.int .u8 18), .lit (.int .u8 6), .lit (.int .u8 11), .lit (.int .u8 5), .lit (.int .u8 10), .lit (.int .u8 9)]
def laid_math_bits_deBruijn64tab {H : Type} : DataW H := .agg [.lit (.int .u8 0), .lit (.int .u8 1), .lit (.int .u8 56), .lit (.int .u8 2), .lit (.int .u8 57), .lit (.int .u8 49), .lit (.int .u8 28), .lit (.int .u8 3), .lit (.int .u8 61), .lit (.int .u8 58), .lit (.int .u8 42), .lit (.int .u8 50), .lit (.int .u8 38), .lit (.int .u8 29), .lit (.int .u8 17), .lit (.int .u8 4), .lit (.int .u8 62), .lit (.int .u8 47), .lit (.int .u8 59), .lit (.int .u8 36), .lit (.int .u8 45), .lit (.int .u8 43), .lit (.int .u8 51), .lit (.int .u8 22), .lit (.int .u8 53), .lit (.int .u8 39), .lit (.int .u8 33), .lit (.int .u8 30), .lit (.int .u8 24), .lit (.int .u8 18), .lit (.int .u8 12), .lit (.int .u8 5), .lit (.int .u8 63), .lit (.int .u8 55), .lit (.int .u8 48), .lit (.int .u8 27), .lit (.int .u8 60), .lit (.int .u8 41), .lit (.int .u8 37), .lit (.int .u8 16), .lit (.int .u8 46), .lit (.int .u8 35), .lit (.int .u8 44), .lit (.int .u8 21), .lit (.int .u8 52), .lit (.int .u8 32), .lit (.int .u8 23), .lit (.int .u8 11), .lit (.int .u8 54), .lit (.int .u8 26), .lit (.int .u8 40), .lit (.int .u8 15), .lit (.int .u8 34), .lit (.int .u8 20), .lit (.int .u8 31), .lit (.int .u8 10), .lit (.int .u8 25), .lit (.int .u8 14), .lit (.int .u8 19), .lit (.int .u8 9), .lit (.int .u8 13), .lit (.int .u8 8), .lit (.int .u8 7), .lit (.int .u8 6)]
def laid_internal_strconv_uint64pow10 {H : Type} : DataW H := .agg [.lit (.int .u64 1), .lit (.int .u64 10), .lit (.int .u64 100), .lit (.int .u64 1000), .lit (.int .u64 10000), .lit (.int .u64 100000), .lit (.int .u64 1000000), .lit (.int .u64 10000000), .lit (.int .u64 100000000), .lit (.int .u64 1000000000), .lit (.int .u64 10000000000), .lit (.int .u64 100000000000), .lit (.int .u64 1000000000000), .lit (.int .u64 10000000000000), .lit (.int .u64 100000000000000), .lit (.int .u64 1000000000000000), .lit (.int .u64 10000000000000000), .lit (.int .u64 100000000000000000), .lit (.int .u64 1000000000000000000), .lit (.int .u64 10000000000000000000)]
def laid_lyceum_syntax_rows {H : Type} : DataW H := .agg [.agg [.lit (.bool false), .lit (.bool false), .lit (.int .u8 0), .lit (.int .i64 0), .lit (.int .i64 0)], .agg [.lit (.bool true), .lit (.bool true), .lit (.int .u8 1), .lit (.int .i64 4), .lit (.int .i64 0)], .agg [.lit (.bool true), .lit (.bool true), .lit (.int .u8 0), .lit (.int .i64 0), .lit (.int .i64 0)], .agg [.lit (.bool true), .lit (.bool true), .lit (.int .u8 0), .lit (.int .i64 0), .lit (.int .i64 1)], .agg [.lit (.bool true), .lit (.bool true), .lit (.int .u8 0), .lit (.int .i64 0), .lit (.int .i64 2)], .agg [.lit (.bool true), .lit (.bool true), .lit (.int .u8 0), .lit (.int .i64 0), .lit (.int .i64 2)], .agg [.lit (.bool true), .lit (.bool true), .lit (.int .u8 0), .lit (.int .i64 0), .lit (.int .i64 2)], .agg [.lit (.bool true), .lit (.bool true), .lit (.int .u8 0), .lit (.int .i64 0), .lit (.int .i64 2)], .agg [.lit (.bool true), .lit (.bool true), .lit (.int .u8 2), .lit (.int .i64 0), .lit (.int .i64 1)], .agg [.lit (.bool true), .lit (.bool true), .lit (.int .u8 2), .lit (.int .i64 0), .lit (.int .i64 1)], .agg [.lit (.bool true), .lit (.bool true), .lit (.int .u8 0), .lit (.int .i64 0), .lit (.int .i64 1)], .agg [.lit (.bool true), .lit (.bool true), .lit (.int .u8 0), .lit (.int .i64 0), .lit (.int .i64 1)], .agg [.lit (.bool true), .lit (.bool true), .lit (.int .u8 0), .lit (.int .i64 0), .lit (.int .i64 1)], .agg [.lit (.bool true), .lit (.bool true), .lit (.int .u8 0), .lit (.int .i64 0), .lit (.int .i64 1)], .agg [.lit (.bool true), .lit (.bool true), .lit (.int .u8 0), .lit (.int .i64 0), .lit (.int .i64 2)], .agg [.lit (.bool false), .lit (.bool true), .lit (.int .u8 3), .lit (.int .i64 0), .lit (.int .i64 0)], .agg [.lit (.bool false), .lit (.bool true), .lit (.int .u8 3), .lit (.int .i64 2), .lit (.int .i64 0)]]
def laid_lyceum_format_operators {H : Type} : DataW H := .agg [.agg [.lit (.string []), .lit (.int .i64 0)], .agg [.lit (.string []), .lit (.int .i64 6)], .agg [.lit (.string [102, 97, 108, 115, 101]), .lit (.int .i64 6)], .agg [.lit (.string [126]), .lit (.int .i64 6)], .agg [.lit (.string [38]), .lit (.int .i64 5)], .agg [.lit (.string [124]), .lit (.int .i64 4)], .agg [.lit (.string [45, 62]), .lit (.int .i64 2)], .agg [.lit (.string [60, 45, 62]), .lit (.int .i64 1)], .agg [.lit (.string [97, 108, 108]), .lit (.int .i64 6)], .agg [.lit (.string [115, 111, 109, 101]), .lit (.int .i64 6)], .agg [.lit (.string [91, 93]), .lit (.int .i64 6)], .agg [.lit (.string [60, 62]), .lit (.int .i64 6)], .agg [.lit (.string [110, 101, 120, 116]), .lit (.int .i64 6)], .agg [.lit (.string [97, 108, 119, 97, 121, 115]), .lit (.int .i64 6)], .agg [.lit (.string [117, 110, 116, 105, 108]), .lit (.int .i64 3)], .agg [.lit (.string []), .lit (.int .i64 6)], .agg [.lit (.string []), .lit (.int .i64 6)]]

/-- 'lyceumlaw30.SkeletonOf': WHATEVER THE INPUT: true; the input reads as it did. -/
def skeletonOfSpec : ChangeSpec := { name := "skeletonOf", fn := fun _ => fun
  | [d1, d2] => { results := [.lit (.bool true)], args := [d1, d2] }
  | _ => none }
def skeletonOfRow : OpenClaim := { program := "ytppfalbnhnpbnaagreatdoor", sum := "e77213a03146a83c1f0fc26c54cebfa9b11427618f6916445cb5287082d1dac1", func := "lyceum/lyceumlaw30.SkeletonOf", spec := "skeletonOf", inPlace := ["internal/bytealg.abigen_runtime_cmpstring"], unfollowed := true, recurses := true, named := ["lyceum/syntax.rows", "internal/strconv.uint64pow10", "math/bits.deBruijn32tab", "math/bits.deBruijn64tab"], plainKeys := false, apart := false, laid := [("math/bits.deBruijn32tab", laid_math_bits_deBruijn32tab), ("math/bits.deBruijn64tab", laid_math_bits_deBruijn64tab), ("internal/strconv.uint64pow10", laid_internal_strconv_uint64pow10), ("lyceum/syntax.rows", laid_lyceum_syntax_rows)] }
def SkeletonOfSaid : Prop := skeletonOfRow.holds Tryz.pinned (OpenSpec.ofChange skeletonOfSpec)

/-- ITS FALSE NEIGHBOUR: 'it returns false'. Refute it at one input. -/
def skeletonOfWrong : ChangeSpec := { name := "skeletonOf", fn := fun _ => fun
  | [d1, d2] => { results := [.lit (.bool false)], args := [d1, d2] }
  | _ => none }
def SkeletonOfWrongFalsely : Prop := skeletonOfRow.holds Tryz.pinned (OpenSpec.ofChange skeletonOfWrong)

/-- 'lyceumlaw30.SkeletonApart': WHATEVER THE INPUT: true; the input reads as it did. -/
def skeletonApartSpec : ChangeSpec := { name := "skeletonApart", fn := fun _ => fun
  | [d1, d2] => { results := [.lit (.bool true)], args := [d1, d2] }
  | _ => none }
def skeletonApartRow : OpenClaim := { program := "ytppfalbnhnpbnaagreatdoor", sum := "e77213a03146a83c1f0fc26c54cebfa9b11427618f6916445cb5287082d1dac1", func := "lyceum/lyceumlaw30.SkeletonApart", spec := "skeletonApart", inPlace := ["internal/bytealg.abigen_runtime_cmpstring"], unfollowed := true, recurses := true, named := ["lyceum/syntax.rows", "internal/strconv.uint64pow10", "math/bits.deBruijn32tab", "math/bits.deBruijn64tab"], plainKeys := false, apart := false, laid := [("math/bits.deBruijn32tab", laid_math_bits_deBruijn32tab), ("math/bits.deBruijn64tab", laid_math_bits_deBruijn64tab), ("internal/strconv.uint64pow10", laid_internal_strconv_uint64pow10), ("lyceum/syntax.rows", laid_lyceum_syntax_rows)] }
def SkeletonApartSaid : Prop := skeletonApartRow.holds Tryz.pinned (OpenSpec.ofChange skeletonApartSpec)

/-- ITS FALSE NEIGHBOUR: 'it returns false'. Refute it at one input. -/
def skeletonApartWrong : ChangeSpec := { name := "skeletonApart", fn := fun _ => fun
  | [d1, d2] => { results := [.lit (.bool false)], args := [d1, d2] }
  | _ => none }
def SkeletonApartWrongFalsely : Prop := skeletonApartRow.holds Tryz.pinned (OpenSpec.ofChange skeletonApartWrong)

/-- 'lyceumlaw30.SkeletonTells': WHATEVER THE INPUT: true; the input reads as it did. -/
def skeletonTellsSpec : ChangeSpec := { name := "skeletonTells", fn := fun _ => fun
  | [d1, d2, d3, d4] => { results := [.lit (.bool true)], args := [d1, d2, d3, d4] }
  | _ => none }
def skeletonTellsRow : OpenClaim := { program := "ytppfalbnhnpbnaagreatdoor", sum := "e77213a03146a83c1f0fc26c54cebfa9b11427618f6916445cb5287082d1dac1", func := "lyceum/lyceumlaw30.SkeletonTells", spec := "skeletonTells", inPlace := ["internal/bytealg.abigen_runtime_cmpstring"], unfollowed := true, recurses := true, named := ["lyceum/syntax.rows", "internal/strconv.uint64pow10", "math/bits.deBruijn32tab", "math/bits.deBruijn64tab"], loops := true, plainKeys := false, apart := false, laid := [("math/bits.deBruijn32tab", laid_math_bits_deBruijn32tab), ("math/bits.deBruijn64tab", laid_math_bits_deBruijn64tab), ("internal/strconv.uint64pow10", laid_internal_strconv_uint64pow10), ("lyceum/syntax.rows", laid_lyceum_syntax_rows)] }
def SkeletonTellsSaid : Prop := skeletonTellsRow.holds Tryz.pinned (OpenSpec.ofChange skeletonTellsSpec)

/-- ITS FALSE NEIGHBOUR: 'it returns false'. Refute it at one input. -/
def skeletonTellsWrong : ChangeSpec := { name := "skeletonTells", fn := fun _ => fun
  | [d1, d2, d3, d4] => { results := [.lit (.bool false)], args := [d1, d2, d3, d4] }
  | _ => none }
def SkeletonTellsWrongFalsely : Prop := skeletonTellsRow.holds Tryz.pinned (OpenSpec.ofChange skeletonTellsWrong)

/-- 'lyceumlaw30.SkeletonRenames': WHATEVER THE INPUT: true; the input reads as it did. -/
def skeletonRenamesSpec : ChangeSpec := { name := "skeletonRenames", fn := fun _ => fun
  | [d1, d2, d3, d4] => { results := [.lit (.bool true)], args := [d1, d2, d3, d4] }
  | _ => none }
def skeletonRenamesRow : OpenClaim := { program := "ytppfalbnhnpbnaagreatdoor", sum := "e77213a03146a83c1f0fc26c54cebfa9b11427618f6916445cb5287082d1dac1", func := "lyceum/lyceumlaw30.SkeletonRenames", spec := "skeletonRenames", inPlace := ["internal/bytealg.abigen_runtime_cmpstring"], unfollowed := true, recurses := true, named := ["lyceum/syntax.rows", "internal/strconv.uint64pow10", "math/bits.deBruijn32tab", "math/bits.deBruijn64tab"], plainKeys := false, apart := false, laid := [("math/bits.deBruijn32tab", laid_math_bits_deBruijn32tab), ("math/bits.deBruijn64tab", laid_math_bits_deBruijn64tab), ("internal/strconv.uint64pow10", laid_internal_strconv_uint64pow10), ("lyceum/syntax.rows", laid_lyceum_syntax_rows)] }
def SkeletonRenamesSaid : Prop := skeletonRenamesRow.holds Tryz.pinned (OpenSpec.ofChange skeletonRenamesSpec)

/-- ITS FALSE NEIGHBOUR: 'it returns false'. Refute it at one input. -/
def skeletonRenamesWrong : ChangeSpec := { name := "skeletonRenames", fn := fun _ => fun
  | [d1, d2, d3, d4] => { results := [.lit (.bool false)], args := [d1, d2, d3, d4] }
  | _ => none }
def SkeletonRenamesWrongFalsely : Prop := skeletonRenamesRow.holds Tryz.pinned (OpenSpec.ofChange skeletonRenamesWrong)

/-- 'lyceumlaw30.SkeletonSorts': WHATEVER THE INPUT: true; the input reads as it did. -/
def skeletonSortsSpec : ChangeSpec := { name := "skeletonSorts", fn := fun _ => fun
  | [d] => { results := [.lit (.bool true)], args := [d] }
  | _ => none }
def skeletonSortsRow : OpenClaim := { program := "ytppfalbnhnpbnaagreatdoor", sum := "e77213a03146a83c1f0fc26c54cebfa9b11427618f6916445cb5287082d1dac1", func := "lyceum/lyceumlaw30.SkeletonSorts", spec := "skeletonSorts", inPlace := ["internal/bytealg.abigen_runtime_cmpstring", "internal/abi.NoEscape"], unfollowed := true, recurses := true, named := ["lyceum/syntax.rows", "internal/strconv.uint64pow10", "math/bits.deBruijn32tab", "math/bits.deBruijn64tab", "lyceum/format.operators"], loops := true, plainKeys := false, apart := false, laid := [("math/bits.deBruijn32tab", laid_math_bits_deBruijn32tab), ("math/bits.deBruijn64tab", laid_math_bits_deBruijn64tab), ("internal/strconv.uint64pow10", laid_internal_strconv_uint64pow10), ("lyceum/syntax.rows", laid_lyceum_syntax_rows), ("lyceum/format.operators", laid_lyceum_format_operators)] }
def SkeletonSortsSaid : Prop := skeletonSortsRow.holds Tryz.pinned (OpenSpec.ofChange skeletonSortsSpec)

/-- ITS FALSE NEIGHBOUR: 'it returns false'. Refute it at one input. -/
def skeletonSortsWrong : ChangeSpec := { name := "skeletonSorts", fn := fun _ => fun
  | [d] => { results := [.lit (.bool false)], args := [d] }
  | _ => none }
def SkeletonSortsWrongFalsely : Prop := skeletonSortsRow.holds Tryz.pinned (OpenSpec.ofChange skeletonSortsWrong)

/-- 'lyceumlaw30.SkeletonClasses': WHATEVER THE INPUT: true; the input reads as it did. -/
def skeletonClassesSpec : ChangeSpec := { name := "skeletonClasses", fn := fun _ => fun
  | [d1, d2, d3] => { results := [.lit (.bool true)], args := [d1, d2, d3] }
  | _ => none }
def skeletonClassesRow : OpenClaim := { program := "ytppfalbnhnpbnaagreatdoor", sum := "e77213a03146a83c1f0fc26c54cebfa9b11427618f6916445cb5287082d1dac1", func := "lyceum/lyceumlaw30.SkeletonClasses", spec := "skeletonClasses", inPlace := ["internal/bytealg.abigen_runtime_cmpstring", "internal/abi.NoEscape"], unfollowed := true, recurses := true, named := ["lyceum/syntax.rows", "internal/strconv.uint64pow10", "math/bits.deBruijn32tab", "math/bits.deBruijn64tab", "lyceum/format.operators"], plainKeys := false, apart := false, laid := [("math/bits.deBruijn32tab", laid_math_bits_deBruijn32tab), ("math/bits.deBruijn64tab", laid_math_bits_deBruijn64tab), ("internal/strconv.uint64pow10", laid_internal_strconv_uint64pow10), ("lyceum/syntax.rows", laid_lyceum_syntax_rows), ("lyceum/format.operators", laid_lyceum_format_operators)] }
def SkeletonClassesSaid : Prop := skeletonClassesRow.holds Tryz.pinned (OpenSpec.ofChange skeletonClassesSpec)

/-- ITS FALSE NEIGHBOUR: 'it returns false'. Refute it at one input. -/
def skeletonClassesWrong : ChangeSpec := { name := "skeletonClasses", fn := fun _ => fun
  | [d1, d2, d3] => { results := [.lit (.bool false)], args := [d1, d2, d3] }
  | _ => none }
def SkeletonClassesWrongFalsely : Prop := skeletonClassesRow.holds Tryz.pinned (OpenSpec.ofChange skeletonClassesWrong)

/- THE SECOND FORM. 'bulk': how many values and letters a reading holds, each counted each time it is reached (what is shared counts as often as it is met; a slice's spare places count too). A statement '..UptoSaid' is the law's where the arguments, and the package variables that the reading takes, are together of bulk at most 1048576: NARROWER than '..Said'. Prove '..Said' where nothing that the law and all that it calls make is longer than what came in: it says more and counts as full. Else prove '..UptoSaid'. A law counts once. -/
mutual
def uptoBulk {H : Type} : DataW H → Nat
  | .lit (.string bytes) => bytes.length + 1
  | .lit _ => 1
  | .nil => 1
  | .ptr d => uptoBulk d + 1
  | .slice elems spare => uptoBulkAll elems + uptoBulkAll spare + 1
  | .agg parts => uptoBulkAll parts + 1
  | .iface _ d => uptoBulk d + 1
  | .map entries => uptoBulkEntries entries + 1
  | .held _ => 1
def uptoBulkAll {H : Type} : List (DataW H) → Nat
  | [] => 0
  | d :: r => uptoBulk d + uptoBulkAll r
def uptoBulkEntries {H : Type} : List (Lit × DataW H) → Nat
  | [] => 0
  | x :: r => uptoBulkEntry x + uptoBulkEntries r
def uptoBulkEntry {H : Type} : Lit × DataW H → Nat
  | (.string bytes, d) => bytes.length + uptoBulk d + 1
  | (_, d) => uptoBulk d + 1
 end
def uptoSmall : (H : Type) → List (DataW H) → Bool := fun _ ds => decide (uptoBulkAll ds ≤ 1048576)
def OpenSpec.upto (s : _root_.Go.ChangeSpec) : _root_.Go.OpenSpec := { _root_.Go.OpenSpec.ofChange s with cond := some uptoSmall }

/-- 'lyceumlaw30.SkeletonOf', WHERE WHAT IT READS IS OF BULK AT MOST 1048576: true; the input reads as it did. -/
def skeletonOfUptoRow : OpenClaim := { program := "ytppfalbnhnpbnaagreatdoor", sum := "e77213a03146a83c1f0fc26c54cebfa9b11427618f6916445cb5287082d1dac1", func := "lyceum/lyceumlaw30.SkeletonOf", spec := "skeletonOf", inPlace := ["internal/bytealg.abigen_runtime_cmpstring"], unfollowed := true, recurses := true, named := ["lyceum/syntax.rows", "internal/strconv.uint64pow10", "math/bits.deBruijn32tab", "math/bits.deBruijn64tab"], plainKeys := false, apart := false, laid := [("math/bits.deBruijn32tab", laid_math_bits_deBruijn32tab), ("math/bits.deBruijn64tab", laid_math_bits_deBruijn64tab), ("internal/strconv.uint64pow10", laid_internal_strconv_uint64pow10), ("lyceum/syntax.rows", laid_lyceum_syntax_rows)], narrowed := true }
def SkeletonOfUptoSaid : Prop := skeletonOfUptoRow.holds Tryz.pinned (OpenSpec.upto skeletonOfSpec)

/-- 'lyceumlaw30.SkeletonApart', WHERE WHAT IT READS IS OF BULK AT MOST 1048576: true; the input reads as it did. -/
def skeletonApartUptoRow : OpenClaim := { program := "ytppfalbnhnpbnaagreatdoor", sum := "e77213a03146a83c1f0fc26c54cebfa9b11427618f6916445cb5287082d1dac1", func := "lyceum/lyceumlaw30.SkeletonApart", spec := "skeletonApart", inPlace := ["internal/bytealg.abigen_runtime_cmpstring"], unfollowed := true, recurses := true, named := ["lyceum/syntax.rows", "internal/strconv.uint64pow10", "math/bits.deBruijn32tab", "math/bits.deBruijn64tab"], plainKeys := false, apart := false, laid := [("math/bits.deBruijn32tab", laid_math_bits_deBruijn32tab), ("math/bits.deBruijn64tab", laid_math_bits_deBruijn64tab), ("internal/strconv.uint64pow10", laid_internal_strconv_uint64pow10), ("lyceum/syntax.rows", laid_lyceum_syntax_rows)], narrowed := true }
def SkeletonApartUptoSaid : Prop := skeletonApartUptoRow.holds Tryz.pinned (OpenSpec.upto skeletonApartSpec)

/-- 'lyceumlaw30.SkeletonTells', WHERE WHAT IT READS IS OF BULK AT MOST 1048576: true; the input reads as it did. -/
def skeletonTellsUptoRow : OpenClaim := { program := "ytppfalbnhnpbnaagreatdoor", sum := "e77213a03146a83c1f0fc26c54cebfa9b11427618f6916445cb5287082d1dac1", func := "lyceum/lyceumlaw30.SkeletonTells", spec := "skeletonTells", inPlace := ["internal/bytealg.abigen_runtime_cmpstring"], unfollowed := true, recurses := true, named := ["lyceum/syntax.rows", "internal/strconv.uint64pow10", "math/bits.deBruijn32tab", "math/bits.deBruijn64tab"], loops := true, plainKeys := false, apart := false, laid := [("math/bits.deBruijn32tab", laid_math_bits_deBruijn32tab), ("math/bits.deBruijn64tab", laid_math_bits_deBruijn64tab), ("internal/strconv.uint64pow10", laid_internal_strconv_uint64pow10), ("lyceum/syntax.rows", laid_lyceum_syntax_rows)], narrowed := true }
def SkeletonTellsUptoSaid : Prop := skeletonTellsUptoRow.holds Tryz.pinned (OpenSpec.upto skeletonTellsSpec)

/-- 'lyceumlaw30.SkeletonRenames', WHERE WHAT IT READS IS OF BULK AT MOST 1048576: true; the input reads as it did. -/
def skeletonRenamesUptoRow : OpenClaim := { program := "ytppfalbnhnpbnaagreatdoor", sum := "e77213a03146a83c1f0fc26c54cebfa9b11427618f6916445cb5287082d1dac1", func := "lyceum/lyceumlaw30.SkeletonRenames", spec := "skeletonRenames", inPlace := ["internal/bytealg.abigen_runtime_cmpstring"], unfollowed := true, recurses := true, named := ["lyceum/syntax.rows", "internal/strconv.uint64pow10", "math/bits.deBruijn32tab", "math/bits.deBruijn64tab"], plainKeys := false, apart := false, laid := [("math/bits.deBruijn32tab", laid_math_bits_deBruijn32tab), ("math/bits.deBruijn64tab", laid_math_bits_deBruijn64tab), ("internal/strconv.uint64pow10", laid_internal_strconv_uint64pow10), ("lyceum/syntax.rows", laid_lyceum_syntax_rows)], narrowed := true }
def SkeletonRenamesUptoSaid : Prop := skeletonRenamesUptoRow.holds Tryz.pinned (OpenSpec.upto skeletonRenamesSpec)

/-- 'lyceumlaw30.SkeletonSorts', WHERE WHAT IT READS IS OF BULK AT MOST 1048576: true; the input reads as it did. -/
def skeletonSortsUptoRow : OpenClaim := { program := "ytppfalbnhnpbnaagreatdoor", sum := "e77213a03146a83c1f0fc26c54cebfa9b11427618f6916445cb5287082d1dac1", func := "lyceum/lyceumlaw30.SkeletonSorts", spec := "skeletonSorts", inPlace := ["internal/bytealg.abigen_runtime_cmpstring", "internal/abi.NoEscape"], unfollowed := true, recurses := true, named := ["lyceum/syntax.rows", "internal/strconv.uint64pow10", "math/bits.deBruijn32tab", "math/bits.deBruijn64tab", "lyceum/format.operators"], loops := true, plainKeys := false, apart := false, laid := [("math/bits.deBruijn32tab", laid_math_bits_deBruijn32tab), ("math/bits.deBruijn64tab", laid_math_bits_deBruijn64tab), ("internal/strconv.uint64pow10", laid_internal_strconv_uint64pow10), ("lyceum/syntax.rows", laid_lyceum_syntax_rows), ("lyceum/format.operators", laid_lyceum_format_operators)], narrowed := true }
def SkeletonSortsUptoSaid : Prop := skeletonSortsUptoRow.holds Tryz.pinned (OpenSpec.upto skeletonSortsSpec)

/-- 'lyceumlaw30.SkeletonClasses', WHERE WHAT IT READS IS OF BULK AT MOST 1048576: true; the input reads as it did. -/
def skeletonClassesUptoRow : OpenClaim := { program := "ytppfalbnhnpbnaagreatdoor", sum := "e77213a03146a83c1f0fc26c54cebfa9b11427618f6916445cb5287082d1dac1", func := "lyceum/lyceumlaw30.SkeletonClasses", spec := "skeletonClasses", inPlace := ["internal/bytealg.abigen_runtime_cmpstring", "internal/abi.NoEscape"], unfollowed := true, recurses := true, named := ["lyceum/syntax.rows", "internal/strconv.uint64pow10", "math/bits.deBruijn32tab", "math/bits.deBruijn64tab", "lyceum/format.operators"], plainKeys := false, apart := false, laid := [("math/bits.deBruijn32tab", laid_math_bits_deBruijn32tab), ("math/bits.deBruijn64tab", laid_math_bits_deBruijn64tab), ("internal/strconv.uint64pow10", laid_internal_strconv_uint64pow10), ("lyceum/syntax.rows", laid_lyceum_syntax_rows), ("lyceum/format.operators", laid_lyceum_format_operators)], narrowed := true }
def SkeletonClassesUptoSaid : Prop := skeletonClassesUptoRow.holds Tryz.pinned (OpenSpec.upto skeletonClassesSpec)

end Rows
end Go.Proofs.YtppfalbnhnpbnaaGreatDoor
