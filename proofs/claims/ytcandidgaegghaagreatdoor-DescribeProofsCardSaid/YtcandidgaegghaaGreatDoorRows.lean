/-
  NARROWER THAN 'FOR EVERY INPUT', by the rows' own cells (each row's printed sentence says how): DescribeForms: loops, laid · DescribeModels: laid · DescribeApart: laid · DescribeClaims: loops, laid · DescribeOutline: laid · DescribeOrder: laid · DescribeProofs: loops, laid · DescribeReads: laid · DescribeWrong: laid.
  DERIVED. THE GIVEN ROWS OF THIS SEAT. 9 by the template 'for every input the law returns true; each argument reads behind the call as it read before'; 0 by the template 'total and deterministic' (their statements: YtcandidgaegghaaGreatDoorTotals.lean).
  GIVEN WITH THE SEED: the statements are not yours to turn. If you find one false, say at which input.
  Laid BY PROGRAM, IN A SANDBOX (cutbox-rows.mjs): the forced cells as the released guide's own fill.sh prints them over the translation 2a1283b6046fa993… (all of the seat's roots in one cut). By AI agents, Wed Nov 11 2026. No macro, syntax, notation, axiom, sorry.
-/
import Derived.Test.YtcandidgaegghaaGreatDoorChecked
import GoSem.PinnedTables
import GoSem.Claim
import GoSem.ClaimJoined
import GoSem.ClaimMapViews
import Derived.JoinedTies
import Derived.KernelRfl
namespace Go.Proofs.YtcandidgaegghaaGreatDoor
/- THE CELL 'sum', in the pinned program and in every row, IS THE sha256 OF THE DUMP (.gsa) THAT YtcandidgaegghaaGreatDoorProg.lean LOADS. Nothing in Lean hashes anything: it is a label: what it is worth is what the hold of that sum in a sandbox is worth. -/
noncomputable def Tryz.pinned : Pinned := { name := "ytcandidgaegghaagreatdoor", sum := "2a1283b6046fa99351853fb005ad8e308f7200774c13e977019a41abc8815cad", checked := Tryz.checked }
namespace Rows
def none {H : Type} : Left H := { results := [], args := [] }

/- WHAT THE LISTED PACKAGE-LEVEL VARIABLES READ AS WHEN THE CALL BEGINS. Each datum BY PROGRAM (the guide's laid-datum.mjs) off the statement by which the dump's own 'gosem.cut.vars' lays the variable. In a bare row this is a premise. The card (YtcandidgaegghaaGreatDoorCards.lean) ties it to the program's text. -/
def laid_math_bits_deBruijn32tab {H : Type} : DataW H := .agg [.lit (.int .u8 0), .lit (.int .u8 1), .lit (.int .u8 28), .lit (.int .u8 2), .lit (.int .u8 29), .lit (.int .u8 14), .lit (.int .u8 24), .lit (.int .u8 3), .lit (.int .u8 30), .lit (.int .u8 22), .lit (.int .u8 20), .lit (.int .u8 15), .lit (.int .u8 25), .lit (.int .u8 17), .lit (.int .u8 4), .lit (.int .u8 8), .lit (.int .u8 31), .lit (.int .u8 27), .lit (.int .u8 13), .lit (.int .u8 23), .lit (.int .u8 21), .lit (.int .u8 19), .lit (.int .u8 16), .lit (.int .u8 7), .lit (.int .u8 26), .lit (.int .u8 12), .lit (.int .u8 18), .lit (.int .u8 6), .lit (.int .u8 11), .lit (.int .u8 5), .lit (.int .u8 10), .lit (.int .u8 9)]
def laid_math_bits_deBruijn64tab {H : Type} : DataW H := .agg [.lit (.int .u8 0), .lit (.int .u8 1), .lit (.int .u8 56), .lit (.int .u8 2), .lit (.int .u8 57), .lit (.int .u8 49), .lit (.int .u8 28), .lit (.int .u8 3), .lit (.int .u8 61), .lit (.int .u8 58), .lit (.int .u8 42), .lit (.int .u8 50), .lit (.int .u8 38), .lit (.int .u8 29), .lit (.int .u8 17), .lit (.int .u8 4), .lit (.int .u8 62), .lit (.int .u8 47), .lit (.int .u8 59), .lit (.int .u8 36), .lit (.int .u8 45), .lit (.int .u8 43), .lit (.int .u8 51), .lit (.int .u8 22), .lit (.int .u8 53), .lit (.int .u8 39), .lit (.int .u8 33), .lit (.int .u8 30), .lit (.int .u8 24), .lit (.int .u8 18), .lit (.int .u8 12), .lit (.int .u8 5), .lit (.int .u8 63), .lit (.int .u8 55), .lit (.int .u8 48), .lit (.int .u8 27), .lit (.int .u8 60), .lit (.int .u8 41), .lit (.int .u8 37), .lit (.int .u8 16), .lit (.int .u8 46), .lit (.int .u8 35), .lit (.int .u8 44), .lit (.int .u8 21), .lit (.int .u8 52), .lit (.int .u8 32), .lit (.int .u8 23), .lit (.int .u8 11), .lit (.int .u8 54), .lit (.int .u8 26), .lit (.int .u8 40), .lit (.int .u8 15), .lit (.int .u8 34), .lit (.int .u8 20), .lit (.int .u8 31), .lit (.int .u8 10), .lit (.int .u8 25), .lit (.int .u8 14), .lit (.int .u8 19), .lit (.int .u8 9), .lit (.int .u8 13), .lit (.int .u8 8), .lit (.int .u8 7), .lit (.int .u8 6)]
def laid_internal_strconv_uint64pow10 {H : Type} : DataW H := .agg [.lit (.int .u64 1), .lit (.int .u64 10), .lit (.int .u64 100), .lit (.int .u64 1000), .lit (.int .u64 10000), .lit (.int .u64 100000), .lit (.int .u64 1000000), .lit (.int .u64 10000000), .lit (.int .u64 100000000), .lit (.int .u64 1000000000), .lit (.int .u64 10000000000), .lit (.int .u64 100000000000), .lit (.int .u64 1000000000000), .lit (.int .u64 10000000000000), .lit (.int .u64 100000000000000), .lit (.int .u64 1000000000000000), .lit (.int .u64 10000000000000000), .lit (.int .u64 100000000000000000), .lit (.int .u64 1000000000000000000), .lit (.int .u64 10000000000000000000)]
def laid_unicode_utf8_acceptRanges {H : Type} : DataW H := .agg [.agg [.lit (.int .u8 128), .lit (.int .u8 191)], .agg [.lit (.int .u8 160), .lit (.int .u8 191)], .agg [.lit (.int .u8 128), .lit (.int .u8 159)], .agg [.lit (.int .u8 144), .lit (.int .u8 191)], .agg [.lit (.int .u8 128), .lit (.int .u8 143)], .agg [.lit (.int .u8 0), .lit (.int .u8 0)], .agg [.lit (.int .u8 0), .lit (.int .u8 0)], .agg [.lit (.int .u8 0), .lit (.int .u8 0)], .agg [.lit (.int .u8 0), .lit (.int .u8 0)], .agg [.lit (.int .u8 0), .lit (.int .u8 0)], .agg [.lit (.int .u8 0), .lit (.int .u8 0)], .agg [.lit (.int .u8 0), .lit (.int .u8 0)], .agg [.lit (.int .u8 0), .lit (.int .u8 0)], .agg [.lit (.int .u8 0), .lit (.int .u8 0)], .agg [.lit (.int .u8 0), .lit (.int .u8 0)], .agg [.lit (.int .u8 0), .lit (.int .u8 0)]]
def laid_lyceum_syntax_rows {H : Type} : DataW H := .agg [.agg [.lit (.bool false), .lit (.bool false), .lit (.int .u8 0), .lit (.int .i64 0), .lit (.int .i64 0)], .agg [.lit (.bool true), .lit (.bool true), .lit (.int .u8 1), .lit (.int .i64 4), .lit (.int .i64 0)], .agg [.lit (.bool true), .lit (.bool true), .lit (.int .u8 0), .lit (.int .i64 0), .lit (.int .i64 0)], .agg [.lit (.bool true), .lit (.bool true), .lit (.int .u8 0), .lit (.int .i64 0), .lit (.int .i64 1)], .agg [.lit (.bool true), .lit (.bool true), .lit (.int .u8 0), .lit (.int .i64 0), .lit (.int .i64 2)], .agg [.lit (.bool true), .lit (.bool true), .lit (.int .u8 0), .lit (.int .i64 0), .lit (.int .i64 2)], .agg [.lit (.bool true), .lit (.bool true), .lit (.int .u8 0), .lit (.int .i64 0), .lit (.int .i64 2)], .agg [.lit (.bool true), .lit (.bool true), .lit (.int .u8 0), .lit (.int .i64 0), .lit (.int .i64 2)], .agg [.lit (.bool true), .lit (.bool true), .lit (.int .u8 2), .lit (.int .i64 0), .lit (.int .i64 1)], .agg [.lit (.bool true), .lit (.bool true), .lit (.int .u8 2), .lit (.int .i64 0), .lit (.int .i64 1)], .agg [.lit (.bool true), .lit (.bool true), .lit (.int .u8 0), .lit (.int .i64 0), .lit (.int .i64 1)], .agg [.lit (.bool true), .lit (.bool true), .lit (.int .u8 0), .lit (.int .i64 0), .lit (.int .i64 1)], .agg [.lit (.bool true), .lit (.bool true), .lit (.int .u8 0), .lit (.int .i64 0), .lit (.int .i64 1)], .agg [.lit (.bool true), .lit (.bool true), .lit (.int .u8 0), .lit (.int .i64 0), .lit (.int .i64 1)], .agg [.lit (.bool true), .lit (.bool true), .lit (.int .u8 0), .lit (.int .i64 0), .lit (.int .i64 2)], .agg [.lit (.bool false), .lit (.bool true), .lit (.int .u8 3), .lit (.int .i64 0), .lit (.int .i64 0)], .agg [.lit (.bool false), .lit (.bool true), .lit (.int .u8 3), .lit (.int .i64 2), .lit (.int .i64 0)]]
/-- One of Go's own tables, pinned by name: the form's constant. -/
def laid_unicode_utf8_first : DataW Unit := Go.Pinned.utf8First
def laid_strconv_ErrRange {H : Type} : DataW H := .iface "*errors.errorString" (.ptr (.agg [.lit (.string [118, 97, 108, 117, 101, 32, 111, 117, 116, 32, 111, 102, 32, 114, 97, 110, 103, 101])]))
def laid_strconv_ErrSyntax {H : Type} : DataW H := .iface "*errors.errorString" (.ptr (.agg [.lit (.string [105, 110, 118, 97, 108, 105, 100, 32, 115, 121, 110, 116, 97, 120])]))

/-- 'lyceumlaw41.DescribeForms': WHATEVER THE INPUT: true; the input reads as it did. -/
def describeFormsSpec : ChangeSpec := { name := "describeForms", fn := fun _ => fun
  | [d1, d2] => { results := [.lit (.bool true)], args := [d1, d2] }
  | _ => none }
def describeFormsRow : OpenClaim := { program := "ytcandidgaegghaagreatdoor", sum := "2a1283b6046fa99351853fb005ad8e308f7200774c13e977019a41abc8815cad", func := "lyceum/lyceumlaw41.DescribeForms", spec := "describeForms", inPlace := ["internal/abi.NoEscape", "internal/bytealg.MakeNoZero", "internal/bytealg.CountString", "internal/bytealg.IndexByteString", "internal/bytealg.IndexString"], unfollowed := true, recurses := true, named := ["lyceum/syntax.rows", "internal/strconv.uint64pow10", "math/bits.deBruijn32tab", "math/bits.deBruijn64tab", "unicode/utf8.first", "unicode/utf8.acceptRanges", "internal/bytealg.MaxLen"], loops := true, apart := false, laid := [("math/bits.deBruijn32tab", laid_math_bits_deBruijn32tab), ("math/bits.deBruijn64tab", laid_math_bits_deBruijn64tab), ("internal/strconv.uint64pow10", laid_internal_strconv_uint64pow10), ("unicode/utf8.acceptRanges", laid_unicode_utf8_acceptRanges), ("lyceum/syntax.rows", laid_lyceum_syntax_rows), ("unicode/utf8.first", laid_unicode_utf8_first)] }
def DescribeFormsSaid : Prop := describeFormsRow.holds Tryz.pinned (OpenSpec.ofChange describeFormsSpec)

/-- ITS FALSE NEIGHBOUR: 'it returns false'. Refute it at one input. -/
def describeFormsWrong : ChangeSpec := { name := "describeForms", fn := fun _ => fun
  | [d1, d2] => { results := [.lit (.bool false)], args := [d1, d2] }
  | _ => none }
def DescribeFormsWrongFalsely : Prop := describeFormsRow.holds Tryz.pinned (OpenSpec.ofChange describeFormsWrong)

/-- 'lyceumlaw41.DescribeModels': WHATEVER THE INPUT: true; the input reads as it did. -/
def describeModelsSpec : ChangeSpec := { name := "describeModels", fn := fun _ => fun
  | [d] => { results := [.lit (.bool true)], args := [d] }
  | _ => none }
def describeModelsRow : OpenClaim := { program := "ytcandidgaegghaagreatdoor", sum := "2a1283b6046fa99351853fb005ad8e308f7200774c13e977019a41abc8815cad", func := "lyceum/lyceumlaw41.DescribeModels", spec := "describeModels", inPlace := ["internal/abi.NoEscape", "internal/bytealg.MakeNoZero", "internal/bytealg.CountString", "internal/bytealg.IndexByteString", "internal/bytealg.IndexString"], unfollowed := true, recurses := true, named := ["lyceum/syntax.rows", "unicode/utf8.first", "unicode/utf8.acceptRanges", "internal/bytealg.MaxLen", "internal/strconv.uint64pow10", "math/bits.deBruijn32tab", "math/bits.deBruijn64tab"], apart := false, laid := [("math/bits.deBruijn32tab", laid_math_bits_deBruijn32tab), ("math/bits.deBruijn64tab", laid_math_bits_deBruijn64tab), ("internal/strconv.uint64pow10", laid_internal_strconv_uint64pow10), ("unicode/utf8.acceptRanges", laid_unicode_utf8_acceptRanges), ("lyceum/syntax.rows", laid_lyceum_syntax_rows), ("unicode/utf8.first", laid_unicode_utf8_first)] }
def DescribeModelsSaid : Prop := describeModelsRow.holds Tryz.pinned (OpenSpec.ofChange describeModelsSpec)

/-- ITS FALSE NEIGHBOUR: 'it returns false'. Refute it at one input. -/
def describeModelsWrong : ChangeSpec := { name := "describeModels", fn := fun _ => fun
  | [d] => { results := [.lit (.bool false)], args := [d] }
  | _ => none }
def DescribeModelsWrongFalsely : Prop := describeModelsRow.holds Tryz.pinned (OpenSpec.ofChange describeModelsWrong)

/-- 'lyceumlaw41.DescribeApart': WHATEVER THE INPUT: true; the input reads as it did. -/
def describeApartSpec : ChangeSpec := { name := "describeApart", fn := fun _ => fun
  | [d1, d2, d3] => { results := [.lit (.bool true)], args := [d1, d2, d3] }
  | _ => none }
def describeApartRow : OpenClaim := { program := "ytcandidgaegghaagreatdoor", sum := "2a1283b6046fa99351853fb005ad8e308f7200774c13e977019a41abc8815cad", func := "lyceum/lyceumlaw41.DescribeApart", spec := "describeApart", inPlace := ["internal/abi.NoEscape", "internal/bytealg.MakeNoZero", "internal/bytealg.CountString", "internal/bytealg.IndexByteString", "internal/bytealg.IndexString", "internal/bytealg.abigen_runtime_cmpstring"], unfollowed := true, recurses := true, named := ["lyceum/syntax.rows", "unicode/utf8.first", "unicode/utf8.acceptRanges", "internal/bytealg.MaxLen", "internal/strconv.uint64pow10", "math/bits.deBruijn32tab", "math/bits.deBruijn64tab"], apart := false, laid := [("math/bits.deBruijn32tab", laid_math_bits_deBruijn32tab), ("math/bits.deBruijn64tab", laid_math_bits_deBruijn64tab), ("internal/strconv.uint64pow10", laid_internal_strconv_uint64pow10), ("unicode/utf8.acceptRanges", laid_unicode_utf8_acceptRanges), ("lyceum/syntax.rows", laid_lyceum_syntax_rows), ("unicode/utf8.first", laid_unicode_utf8_first)] }
def DescribeApartSaid : Prop := describeApartRow.holds Tryz.pinned (OpenSpec.ofChange describeApartSpec)

/-- ITS FALSE NEIGHBOUR: 'it returns false'. Refute it at one input. -/
def describeApartWrong : ChangeSpec := { name := "describeApart", fn := fun _ => fun
  | [d1, d2, d3] => { results := [.lit (.bool false)], args := [d1, d2, d3] }
  | _ => none }
def DescribeApartWrongFalsely : Prop := describeApartRow.holds Tryz.pinned (OpenSpec.ofChange describeApartWrong)

/-- 'lyceumlaw41.DescribeClaims': WHATEVER THE INPUT: true; the input reads as it did. -/
def describeClaimsSpec : ChangeSpec := { name := "describeClaims", fn := fun _ => fun
  | [d1, d2] => { results := [.lit (.bool true)], args := [d1, d2] }
  | _ => none }
def describeClaimsRow : OpenClaim := { program := "ytcandidgaegghaagreatdoor", sum := "2a1283b6046fa99351853fb005ad8e308f7200774c13e977019a41abc8815cad", func := "lyceum/lyceumlaw41.DescribeClaims", spec := "describeClaims", inPlace := ["internal/abi.NoEscape", "internal/bytealg.MakeNoZero", "internal/bytealg.IndexByteString", "internal/bytealg.IndexString", "internal/bytealg.CountString"], unfollowed := true, recurses := true, named := ["lyceum/syntax.rows", "unicode/utf8.first", "unicode/utf8.acceptRanges", "internal/bytealg.MaxLen", "internal/strconv.uint64pow10", "math/bits.deBruijn32tab", "math/bits.deBruijn64tab"], loops := true, apart := false, laid := [("math/bits.deBruijn32tab", laid_math_bits_deBruijn32tab), ("math/bits.deBruijn64tab", laid_math_bits_deBruijn64tab), ("internal/strconv.uint64pow10", laid_internal_strconv_uint64pow10), ("unicode/utf8.acceptRanges", laid_unicode_utf8_acceptRanges), ("lyceum/syntax.rows", laid_lyceum_syntax_rows), ("unicode/utf8.first", laid_unicode_utf8_first)] }
def DescribeClaimsSaid : Prop := describeClaimsRow.holds Tryz.pinned (OpenSpec.ofChange describeClaimsSpec)

/-- ITS FALSE NEIGHBOUR: 'it returns false'. Refute it at one input. -/
def describeClaimsWrong : ChangeSpec := { name := "describeClaims", fn := fun _ => fun
  | [d1, d2] => { results := [.lit (.bool false)], args := [d1, d2] }
  | _ => none }
def DescribeClaimsWrongFalsely : Prop := describeClaimsRow.holds Tryz.pinned (OpenSpec.ofChange describeClaimsWrong)

/-- 'lyceumlaw41.DescribeOutline': WHATEVER THE INPUT: true; the input reads as it did. -/
def describeOutlineSpec : ChangeSpec := { name := "describeOutline", fn := fun _ => fun
  | [d] => { results := [.lit (.bool true)], args := [d] }
  | _ => none }
def describeOutlineRow : OpenClaim := { program := "ytcandidgaegghaagreatdoor", sum := "2a1283b6046fa99351853fb005ad8e308f7200774c13e977019a41abc8815cad", func := "lyceum/lyceumlaw41.DescribeOutline", spec := "describeOutline", inPlace := ["internal/abi.NoEscape", "internal/bytealg.MakeNoZero", "internal/bytealg.CountString", "internal/bytealg.IndexByteString", "internal/bytealg.IndexString"], unfollowed := true, recurses := true, named := ["lyceum/syntax.rows", "unicode/utf8.first", "unicode/utf8.acceptRanges", "internal/bytealg.MaxLen", "internal/strconv.uint64pow10", "math/bits.deBruijn32tab", "math/bits.deBruijn64tab", "strconv.ErrSyntax", "strconv.ErrRange"], apart := false, laid := [("math/bits.deBruijn32tab", laid_math_bits_deBruijn32tab), ("math/bits.deBruijn64tab", laid_math_bits_deBruijn64tab), ("internal/strconv.uint64pow10", laid_internal_strconv_uint64pow10), ("unicode/utf8.acceptRanges", laid_unicode_utf8_acceptRanges), ("strconv.ErrRange", laid_strconv_ErrRange), ("strconv.ErrSyntax", laid_strconv_ErrSyntax), ("lyceum/syntax.rows", laid_lyceum_syntax_rows), ("unicode/utf8.first", laid_unicode_utf8_first)] }
def DescribeOutlineSaid : Prop := describeOutlineRow.holds Tryz.pinned (OpenSpec.ofChange describeOutlineSpec)

/-- ITS FALSE NEIGHBOUR: 'it returns false'. Refute it at one input. -/
def describeOutlineWrong : ChangeSpec := { name := "describeOutline", fn := fun _ => fun
  | [d] => { results := [.lit (.bool false)], args := [d] }
  | _ => none }
def DescribeOutlineWrongFalsely : Prop := describeOutlineRow.holds Tryz.pinned (OpenSpec.ofChange describeOutlineWrong)

/-- 'lyceumlaw41.DescribeOrder': WHATEVER THE INPUT: true; the input reads as it did. -/
def describeOrderSpec : ChangeSpec := { name := "describeOrder", fn := fun _ => fun
  | [d] => { results := [.lit (.bool true)], args := [d] }
  | _ => none }
def describeOrderRow : OpenClaim := { program := "ytcandidgaegghaagreatdoor", sum := "2a1283b6046fa99351853fb005ad8e308f7200774c13e977019a41abc8815cad", func := "lyceum/lyceumlaw41.DescribeOrder", spec := "describeOrder", inPlace := ["internal/abi.NoEscape", "internal/bytealg.MakeNoZero", "internal/bytealg.CountString", "internal/bytealg.IndexByteString", "internal/bytealg.IndexString"], unfollowed := true, recurses := true, named := ["lyceum/syntax.rows", "unicode/utf8.first", "unicode/utf8.acceptRanges", "internal/bytealg.MaxLen", "internal/strconv.uint64pow10", "math/bits.deBruijn32tab", "math/bits.deBruijn64tab", "strconv.ErrSyntax", "strconv.ErrRange"], apart := false, laid := [("math/bits.deBruijn32tab", laid_math_bits_deBruijn32tab), ("math/bits.deBruijn64tab", laid_math_bits_deBruijn64tab), ("internal/strconv.uint64pow10", laid_internal_strconv_uint64pow10), ("unicode/utf8.acceptRanges", laid_unicode_utf8_acceptRanges), ("strconv.ErrRange", laid_strconv_ErrRange), ("strconv.ErrSyntax", laid_strconv_ErrSyntax), ("lyceum/syntax.rows", laid_lyceum_syntax_rows), ("unicode/utf8.first", laid_unicode_utf8_first)] }
def DescribeOrderSaid : Prop := describeOrderRow.holds Tryz.pinned (OpenSpec.ofChange describeOrderSpec)

/-- ITS FALSE NEIGHBOUR: 'it returns false'. Refute it at one input. -/
def describeOrderWrong : ChangeSpec := { name := "describeOrder", fn := fun _ => fun
  | [d] => { results := [.lit (.bool false)], args := [d] }
  | _ => none }
def DescribeOrderWrongFalsely : Prop := describeOrderRow.holds Tryz.pinned (OpenSpec.ofChange describeOrderWrong)

/-- 'lyceumlaw41.DescribeProofs': WHATEVER THE INPUT: true; the input reads as it did. -/
def describeProofsSpec : ChangeSpec := { name := "describeProofs", fn := fun _ => fun
  | [d1, d2] => { results := [.lit (.bool true)], args := [d1, d2] }
  | _ => none }
def describeProofsRow : OpenClaim := { program := "ytcandidgaegghaagreatdoor", sum := "2a1283b6046fa99351853fb005ad8e308f7200774c13e977019a41abc8815cad", func := "lyceum/lyceumlaw41.DescribeProofs", spec := "describeProofs", inPlace := ["internal/abi.NoEscape", "internal/bytealg.MakeNoZero", "internal/bytealg.CountString", "internal/bytealg.IndexByteString", "internal/bytealg.IndexString"], unfollowed := true, recurses := true, named := ["lyceum/syntax.rows", "unicode/utf8.first", "unicode/utf8.acceptRanges", "internal/bytealg.MaxLen", "internal/strconv.uint64pow10", "math/bits.deBruijn32tab", "math/bits.deBruijn64tab", "strconv.ErrSyntax", "strconv.ErrRange"], loops := true, apart := false, laid := [("math/bits.deBruijn32tab", laid_math_bits_deBruijn32tab), ("math/bits.deBruijn64tab", laid_math_bits_deBruijn64tab), ("internal/strconv.uint64pow10", laid_internal_strconv_uint64pow10), ("unicode/utf8.acceptRanges", laid_unicode_utf8_acceptRanges), ("strconv.ErrRange", laid_strconv_ErrRange), ("strconv.ErrSyntax", laid_strconv_ErrSyntax), ("lyceum/syntax.rows", laid_lyceum_syntax_rows), ("unicode/utf8.first", laid_unicode_utf8_first)] }
def DescribeProofsSaid : Prop := describeProofsRow.holds Tryz.pinned (OpenSpec.ofChange describeProofsSpec)

/-- ITS FALSE NEIGHBOUR: 'it returns false'. Refute it at one input. -/
def describeProofsWrong : ChangeSpec := { name := "describeProofs", fn := fun _ => fun
  | [d1, d2] => { results := [.lit (.bool false)], args := [d1, d2] }
  | _ => none }
def DescribeProofsWrongFalsely : Prop := describeProofsRow.holds Tryz.pinned (OpenSpec.ofChange describeProofsWrong)

/-- 'lyceumlaw41.DescribeReads': WHATEVER THE INPUT: true; the input reads as it did. -/
def describeReadsSpec : ChangeSpec := { name := "describeReads", fn := fun _ => fun
  | [d1, d2, d3] => { results := [.lit (.bool true)], args := [d1, d2, d3] }
  | _ => none }
def describeReadsRow : OpenClaim := { program := "ytcandidgaegghaagreatdoor", sum := "2a1283b6046fa99351853fb005ad8e308f7200774c13e977019a41abc8815cad", func := "lyceum/lyceumlaw41.DescribeReads", spec := "describeReads", inPlace := ["internal/abi.NoEscape", "internal/bytealg.MakeNoZero", "internal/bytealg.CountString", "internal/bytealg.IndexByteString", "internal/bytealg.IndexString"], unfollowed := true, recurses := true, named := ["lyceum/syntax.rows", "unicode/utf8.first", "unicode/utf8.acceptRanges", "internal/bytealg.MaxLen", "internal/strconv.uint64pow10", "math/bits.deBruijn32tab", "math/bits.deBruijn64tab", "strconv.ErrSyntax", "strconv.ErrRange"], apart := false, laid := [("math/bits.deBruijn32tab", laid_math_bits_deBruijn32tab), ("math/bits.deBruijn64tab", laid_math_bits_deBruijn64tab), ("internal/strconv.uint64pow10", laid_internal_strconv_uint64pow10), ("unicode/utf8.acceptRanges", laid_unicode_utf8_acceptRanges), ("strconv.ErrRange", laid_strconv_ErrRange), ("strconv.ErrSyntax", laid_strconv_ErrSyntax), ("lyceum/syntax.rows", laid_lyceum_syntax_rows), ("unicode/utf8.first", laid_unicode_utf8_first)] }
def DescribeReadsSaid : Prop := describeReadsRow.holds Tryz.pinned (OpenSpec.ofChange describeReadsSpec)

/-- ITS FALSE NEIGHBOUR: 'it returns false'. Refute it at one input. -/
def describeReadsWrong : ChangeSpec := { name := "describeReads", fn := fun _ => fun
  | [d1, d2, d3] => { results := [.lit (.bool false)], args := [d1, d2, d3] }
  | _ => none }
def DescribeReadsWrongFalsely : Prop := describeReadsRow.holds Tryz.pinned (OpenSpec.ofChange describeReadsWrong)

/-- 'lyceumlaw41.DescribeWrong': WHATEVER THE INPUT: true; the input reads as it did. -/
def describeWrongSpec : ChangeSpec := { name := "describeWrong", fn := fun _ => fun
  | [d1, d2, d3, d4] => { results := [.lit (.bool true)], args := [d1, d2, d3, d4] }
  | _ => none }
def describeWrongRow : OpenClaim := { program := "ytcandidgaegghaagreatdoor", sum := "2a1283b6046fa99351853fb005ad8e308f7200774c13e977019a41abc8815cad", func := "lyceum/lyceumlaw41.DescribeWrong", spec := "describeWrong", inPlace := ["internal/abi.NoEscape", "internal/bytealg.MakeNoZero", "internal/bytealg.CountString", "internal/bytealg.IndexByteString", "internal/bytealg.IndexString"], unfollowed := true, recurses := true, named := ["lyceum/syntax.rows", "unicode/utf8.first", "unicode/utf8.acceptRanges", "internal/bytealg.MaxLen", "internal/strconv.uint64pow10", "math/bits.deBruijn32tab", "math/bits.deBruijn64tab", "strconv.ErrSyntax", "strconv.ErrRange"], apart := false, laid := [("math/bits.deBruijn32tab", laid_math_bits_deBruijn32tab), ("math/bits.deBruijn64tab", laid_math_bits_deBruijn64tab), ("internal/strconv.uint64pow10", laid_internal_strconv_uint64pow10), ("unicode/utf8.acceptRanges", laid_unicode_utf8_acceptRanges), ("strconv.ErrRange", laid_strconv_ErrRange), ("strconv.ErrSyntax", laid_strconv_ErrSyntax), ("lyceum/syntax.rows", laid_lyceum_syntax_rows), ("unicode/utf8.first", laid_unicode_utf8_first)] }
def DescribeWrongSaid : Prop := describeWrongRow.holds Tryz.pinned (OpenSpec.ofChange describeWrongSpec)

/-- ITS FALSE NEIGHBOUR: 'it returns false'. Refute it at one input. -/
def describeWrongWrong : ChangeSpec := { name := "describeWrong", fn := fun _ => fun
  | [d1, d2, d3, d4] => { results := [.lit (.bool false)], args := [d1, d2, d3, d4] }
  | _ => none }
def DescribeWrongWrongFalsely : Prop := describeWrongRow.holds Tryz.pinned (OpenSpec.ofChange describeWrongWrong)

/- THE SECOND FORM. 'bulk': how many values and letters a reading holds, each counted each time it is reached (what is shared counts as often as it is met; a slice's spare places count too). A statement '..UptoSaid' is the law's where the arguments, and the package variables that the reading takes, are together of bulk at most 1048576: NARROWER than '..Said'. Prove '..Said' where nothing that the law and all that it calls make is longer than what came in: it says more and counts as full. Else prove '..UptoSaid'. A law counts once. -/
mutual
def uptoBulk {H : Type} : DataW H → Nat
  | .lit (.string bytes) => bytes.length + 1
  | .lit _ => 1
  | .nil => 1
  | .ptr d => uptoBulk d + 1
  | .slice elems spare => uptoBulkAll elems + uptoBulkAll spare + 1
  | .agg parts => uptoBulkAll parts + 1
  | .iface _ d => uptoBulk d + 1
  | .map entries => uptoBulkEntries entries + 1
  | .held _ => 1
def uptoBulkAll {H : Type} : List (DataW H) → Nat
  | [] => 0
  | d :: r => uptoBulk d + uptoBulkAll r
def uptoBulkEntries {H : Type} : List (Lit × DataW H) → Nat
  | [] => 0
  | x :: r => uptoBulkEntry x + uptoBulkEntries r
def uptoBulkEntry {H : Type} : Lit × DataW H → Nat
  | (.string bytes, d) => bytes.length + uptoBulk d + 1
  | (_, d) => uptoBulk d + 1
 end
def uptoSmall : (H : Type) → List (DataW H) → Bool := fun _ ds => decide (uptoBulkAll ds ≤ 1048576)
def OpenSpec.upto (s : _root_.Go.ChangeSpec) : _root_.Go.OpenSpec := { _root_.Go.OpenSpec.ofChange s with cond := some uptoSmall }

/-- 'lyceumlaw41.DescribeForms', WHERE WHAT IT READS IS OF BULK AT MOST 1048576: true; the input reads as it did. -/
def describeFormsUptoRow : OpenClaim := { program := "ytcandidgaegghaagreatdoor", sum := "2a1283b6046fa99351853fb005ad8e308f7200774c13e977019a41abc8815cad", func := "lyceum/lyceumlaw41.DescribeForms", spec := "describeForms", inPlace := ["internal/abi.NoEscape", "internal/bytealg.MakeNoZero", "internal/bytealg.CountString", "internal/bytealg.IndexByteString", "internal/bytealg.IndexString"], unfollowed := true, recurses := true, named := ["lyceum/syntax.rows", "internal/strconv.uint64pow10", "math/bits.deBruijn32tab", "math/bits.deBruijn64tab", "unicode/utf8.first", "unicode/utf8.acceptRanges", "internal/bytealg.MaxLen"], loops := true, apart := false, laid := [("math/bits.deBruijn32tab", laid_math_bits_deBruijn32tab), ("math/bits.deBruijn64tab", laid_math_bits_deBruijn64tab), ("internal/strconv.uint64pow10", laid_internal_strconv_uint64pow10), ("unicode/utf8.acceptRanges", laid_unicode_utf8_acceptRanges), ("lyceum/syntax.rows", laid_lyceum_syntax_rows), ("unicode/utf8.first", laid_unicode_utf8_first)], narrowed := true }
def DescribeFormsUptoSaid : Prop := describeFormsUptoRow.holds Tryz.pinned (OpenSpec.upto describeFormsSpec)

/-- 'lyceumlaw41.DescribeModels', WHERE WHAT IT READS IS OF BULK AT MOST 1048576: true; the input reads as it did. -/
def describeModelsUptoRow : OpenClaim := { program := "ytcandidgaegghaagreatdoor", sum := "2a1283b6046fa99351853fb005ad8e308f7200774c13e977019a41abc8815cad", func := "lyceum/lyceumlaw41.DescribeModels", spec := "describeModels", inPlace := ["internal/abi.NoEscape", "internal/bytealg.MakeNoZero", "internal/bytealg.CountString", "internal/bytealg.IndexByteString", "internal/bytealg.IndexString"], unfollowed := true, recurses := true, named := ["lyceum/syntax.rows", "unicode/utf8.first", "unicode/utf8.acceptRanges", "internal/bytealg.MaxLen", "internal/strconv.uint64pow10", "math/bits.deBruijn32tab", "math/bits.deBruijn64tab"], apart := false, laid := [("math/bits.deBruijn32tab", laid_math_bits_deBruijn32tab), ("math/bits.deBruijn64tab", laid_math_bits_deBruijn64tab), ("internal/strconv.uint64pow10", laid_internal_strconv_uint64pow10), ("unicode/utf8.acceptRanges", laid_unicode_utf8_acceptRanges), ("lyceum/syntax.rows", laid_lyceum_syntax_rows), ("unicode/utf8.first", laid_unicode_utf8_first)], narrowed := true }
def DescribeModelsUptoSaid : Prop := describeModelsUptoRow.holds Tryz.pinned (OpenSpec.upto describeModelsSpec)

/-- 'lyceumlaw41.DescribeApart', WHERE WHAT IT READS IS OF BULK AT MOST 1048576: true; the input reads as it did. -/
def describeApartUptoRow : OpenClaim := { program := "ytcandidgaegghaagreatdoor", sum := "2a1283b6046fa99351853fb005ad8e308f7200774c13e977019a41abc8815cad", func := "lyceum/lyceumlaw41.DescribeApart", spec := "describeApart", inPlace := ["internal/abi.NoEscape", "internal/bytealg.MakeNoZero", "internal/bytealg.CountString", "internal/bytealg.IndexByteString", "internal/bytealg.IndexString", "internal/bytealg.abigen_runtime_cmpstring"], unfollowed := true, recurses := true, named := ["lyceum/syntax.rows", "unicode/utf8.first", "unicode/utf8.acceptRanges", "internal/bytealg.MaxLen", "internal/strconv.uint64pow10", "math/bits.deBruijn32tab", "math/bits.deBruijn64tab"], apart := false, laid := [("math/bits.deBruijn32tab", laid_math_bits_deBruijn32tab), ("math/bits.deBruijn64tab", laid_math_bits_deBruijn64tab), ("internal/strconv.uint64pow10", laid_internal_strconv_uint64pow10), ("unicode/utf8.acceptRanges", laid_unicode_utf8_acceptRanges), ("lyceum/syntax.rows", laid_lyceum_syntax_rows), ("unicode/utf8.first", laid_unicode_utf8_first)], narrowed := true }
def DescribeApartUptoSaid : Prop := describeApartUptoRow.holds Tryz.pinned (OpenSpec.upto describeApartSpec)

/-- 'lyceumlaw41.DescribeClaims', WHERE WHAT IT READS IS OF BULK AT MOST 1048576: true; the input reads as it did. -/
def describeClaimsUptoRow : OpenClaim := { program := "ytcandidgaegghaagreatdoor", sum := "2a1283b6046fa99351853fb005ad8e308f7200774c13e977019a41abc8815cad", func := "lyceum/lyceumlaw41.DescribeClaims", spec := "describeClaims", inPlace := ["internal/abi.NoEscape", "internal/bytealg.MakeNoZero", "internal/bytealg.IndexByteString", "internal/bytealg.IndexString", "internal/bytealg.CountString"], unfollowed := true, recurses := true, named := ["lyceum/syntax.rows", "unicode/utf8.first", "unicode/utf8.acceptRanges", "internal/bytealg.MaxLen", "internal/strconv.uint64pow10", "math/bits.deBruijn32tab", "math/bits.deBruijn64tab"], loops := true, apart := false, laid := [("math/bits.deBruijn32tab", laid_math_bits_deBruijn32tab), ("math/bits.deBruijn64tab", laid_math_bits_deBruijn64tab), ("internal/strconv.uint64pow10", laid_internal_strconv_uint64pow10), ("unicode/utf8.acceptRanges", laid_unicode_utf8_acceptRanges), ("lyceum/syntax.rows", laid_lyceum_syntax_rows), ("unicode/utf8.first", laid_unicode_utf8_first)], narrowed := true }
def DescribeClaimsUptoSaid : Prop := describeClaimsUptoRow.holds Tryz.pinned (OpenSpec.upto describeClaimsSpec)

/-- 'lyceumlaw41.DescribeOutline', WHERE WHAT IT READS IS OF BULK AT MOST 1048576: true; the input reads as it did. -/
def describeOutlineUptoRow : OpenClaim := { program := "ytcandidgaegghaagreatdoor", sum := "2a1283b6046fa99351853fb005ad8e308f7200774c13e977019a41abc8815cad", func := "lyceum/lyceumlaw41.DescribeOutline", spec := "describeOutline", inPlace := ["internal/abi.NoEscape", "internal/bytealg.MakeNoZero", "internal/bytealg.CountString", "internal/bytealg.IndexByteString", "internal/bytealg.IndexString"], unfollowed := true, recurses := true, named := ["lyceum/syntax.rows", "unicode/utf8.first", "unicode/utf8.acceptRanges", "internal/bytealg.MaxLen", "internal/strconv.uint64pow10", "math/bits.deBruijn32tab", "math/bits.deBruijn64tab", "strconv.ErrSyntax", "strconv.ErrRange"], apart := false, laid := [("math/bits.deBruijn32tab", laid_math_bits_deBruijn32tab), ("math/bits.deBruijn64tab", laid_math_bits_deBruijn64tab), ("internal/strconv.uint64pow10", laid_internal_strconv_uint64pow10), ("unicode/utf8.acceptRanges", laid_unicode_utf8_acceptRanges), ("strconv.ErrRange", laid_strconv_ErrRange), ("strconv.ErrSyntax", laid_strconv_ErrSyntax), ("lyceum/syntax.rows", laid_lyceum_syntax_rows), ("unicode/utf8.first", laid_unicode_utf8_first)], narrowed := true }
def DescribeOutlineUptoSaid : Prop := describeOutlineUptoRow.holds Tryz.pinned (OpenSpec.upto describeOutlineSpec)

/-- 'lyceumlaw41.DescribeOrder', WHERE WHAT IT READS IS OF BULK AT MOST 1048576: true; the input reads as it did. -/
def describeOrderUptoRow : OpenClaim := { program := "ytcandidgaegghaagreatdoor", sum := "2a1283b6046fa99351853fb005ad8e308f7200774c13e977019a41abc8815cad", func := "lyceum/lyceumlaw41.DescribeOrder", spec := "describeOrder", inPlace := ["internal/abi.NoEscape", "internal/bytealg.MakeNoZero", "internal/bytealg.CountString", "internal/bytealg.IndexByteString", "internal/bytealg.IndexString"], unfollowed := true, recurses := true, named := ["lyceum/syntax.rows", "unicode/utf8.first", "unicode/utf8.acceptRanges", "internal/bytealg.MaxLen", "internal/strconv.uint64pow10", "math/bits.deBruijn32tab", "math/bits.deBruijn64tab", "strconv.ErrSyntax", "strconv.ErrRange"], apart := false, laid := [("math/bits.deBruijn32tab", laid_math_bits_deBruijn32tab), ("math/bits.deBruijn64tab", laid_math_bits_deBruijn64tab), ("internal/strconv.uint64pow10", laid_internal_strconv_uint64pow10), ("unicode/utf8.acceptRanges", laid_unicode_utf8_acceptRanges), ("strconv.ErrRange", laid_strconv_ErrRange), ("strconv.ErrSyntax", laid_strconv_ErrSyntax), ("lyceum/syntax.rows", laid_lyceum_syntax_rows), ("unicode/utf8.first", laid_unicode_utf8_first)], narrowed := true }
def DescribeOrderUptoSaid : Prop := describeOrderUptoRow.holds Tryz.pinned (OpenSpec.upto describeOrderSpec)

/-- 'lyceumlaw41.DescribeProofs', WHERE WHAT IT READS IS OF BULK AT MOST 1048576: true; the input reads as it did. -/
def describeProofsUptoRow : OpenClaim := { program := "ytcandidgaegghaagreatdoor", sum := "2a1283b6046fa99351853fb005ad8e308f7200774c13e977019a41abc8815cad", func := "lyceum/lyceumlaw41.DescribeProofs", spec := "describeProofs", inPlace := ["internal/abi.NoEscape", "internal/bytealg.MakeNoZero", "internal/bytealg.CountString", "internal/bytealg.IndexByteString", "internal/bytealg.IndexString"], unfollowed := true, recurses := true, named := ["lyceum/syntax.rows", "unicode/utf8.first", "unicode/utf8.acceptRanges", "internal/bytealg.MaxLen", "internal/strconv.uint64pow10", "math/bits.deBruijn32tab", "math/bits.deBruijn64tab", "strconv.ErrSyntax", "strconv.ErrRange"], loops := true, apart := false, laid := [("math/bits.deBruijn32tab", laid_math_bits_deBruijn32tab), ("math/bits.deBruijn64tab", laid_math_bits_deBruijn64tab), ("internal/strconv.uint64pow10", laid_internal_strconv_uint64pow10), ("unicode/utf8.acceptRanges", laid_unicode_utf8_acceptRanges), ("strconv.ErrRange", laid_strconv_ErrRange), ("strconv.ErrSyntax", laid_strconv_ErrSyntax), ("lyceum/syntax.rows", laid_lyceum_syntax_rows), ("unicode/utf8.first", laid_unicode_utf8_first)], narrowed := true }
def DescribeProofsUptoSaid : Prop := describeProofsUptoRow.holds Tryz.pinned (OpenSpec.upto describeProofsSpec)

/-- 'lyceumlaw41.DescribeReads', WHERE WHAT IT READS IS OF BULK AT MOST 1048576: true; the input reads as it did. -/
def describeReadsUptoRow : OpenClaim := { program := "ytcandidgaegghaagreatdoor", sum := "2a1283b6046fa99351853fb005ad8e308f7200774c13e977019a41abc8815cad", func := "lyceum/lyceumlaw41.DescribeReads", spec := "describeReads", inPlace := ["internal/abi.NoEscape", "internal/bytealg.MakeNoZero", "internal/bytealg.CountString", "internal/bytealg.IndexByteString", "internal/bytealg.IndexString"], unfollowed := true, recurses := true, named := ["lyceum/syntax.rows", "unicode/utf8.first", "unicode/utf8.acceptRanges", "internal/bytealg.MaxLen", "internal/strconv.uint64pow10", "math/bits.deBruijn32tab", "math/bits.deBruijn64tab", "strconv.ErrSyntax", "strconv.ErrRange"], apart := false, laid := [("math/bits.deBruijn32tab", laid_math_bits_deBruijn32tab), ("math/bits.deBruijn64tab", laid_math_bits_deBruijn64tab), ("internal/strconv.uint64pow10", laid_internal_strconv_uint64pow10), ("unicode/utf8.acceptRanges", laid_unicode_utf8_acceptRanges), ("strconv.ErrRange", laid_strconv_ErrRange), ("strconv.ErrSyntax", laid_strconv_ErrSyntax), ("lyceum/syntax.rows", laid_lyceum_syntax_rows), ("unicode/utf8.first", laid_unicode_utf8_first)], narrowed := true }
def DescribeReadsUptoSaid : Prop := describeReadsUptoRow.holds Tryz.pinned (OpenSpec.upto describeReadsSpec)

/-- 'lyceumlaw41.DescribeWrong', WHERE WHAT IT READS IS OF BULK AT MOST 1048576: true; the input reads as it did. -/
def describeWrongUptoRow : OpenClaim := { program := "ytcandidgaegghaagreatdoor", sum := "2a1283b6046fa99351853fb005ad8e308f7200774c13e977019a41abc8815cad", func := "lyceum/lyceumlaw41.DescribeWrong", spec := "describeWrong", inPlace := ["internal/abi.NoEscape", "internal/bytealg.MakeNoZero", "internal/bytealg.CountString", "internal/bytealg.IndexByteString", "internal/bytealg.IndexString"], unfollowed := true, recurses := true, named := ["lyceum/syntax.rows", "unicode/utf8.first", "unicode/utf8.acceptRanges", "internal/bytealg.MaxLen", "internal/strconv.uint64pow10", "math/bits.deBruijn32tab", "math/bits.deBruijn64tab", "strconv.ErrSyntax", "strconv.ErrRange"], apart := false, laid := [("math/bits.deBruijn32tab", laid_math_bits_deBruijn32tab), ("math/bits.deBruijn64tab", laid_math_bits_deBruijn64tab), ("internal/strconv.uint64pow10", laid_internal_strconv_uint64pow10), ("unicode/utf8.acceptRanges", laid_unicode_utf8_acceptRanges), ("strconv.ErrRange", laid_strconv_ErrRange), ("strconv.ErrSyntax", laid_strconv_ErrSyntax), ("lyceum/syntax.rows", laid_lyceum_syntax_rows), ("unicode/utf8.first", laid_unicode_utf8_first)], narrowed := true }
def DescribeWrongUptoSaid : Prop := describeWrongUptoRow.holds Tryz.pinned (OpenSpec.upto describeWrongSpec)

end Rows
end Go.Proofs.YtcandidgaegghaaGreatDoor
