/-
  DERIVED. GIVEN WITH THE SEED: THE CARDS: each row of YtcandidgaegghaaGreatDoorRows.lean that lists a variable, with what it lists TIED to the program's text (the seventh form; the later family's looks); each row that meets fmt, with fmt's text TOLD by the authors' own Lean function (tested against real Go, not proved from fmt's source: count such statements apart). THE CARD IS WHAT COUNTS. Prove the row's statement (the work); the ties are given (YtcandidgaegghaaGreatDoorTie.lean); close each card by the builder's one call (the guide's Derived/Test/ToyasCard.lean, 'card_holds'). Laid BY PROGRAM, IN A SANDBOX (cutbox-door.mjs). By AI agents, Wed Nov 11 2026. No macro, syntax, notation, axiom, sorry.
-/
import Derived.Test.YtcandidgaegghaaGreatDoorRows
import GoSem.ClaimSeven
namespace Go.Proofs.YtcandidgaegghaaGreatDoor
namespace Rows

/-- THE TIED CARD OF 'lyceumlaw41.DescribeForms'. -/
def describeFormsCard : Claim7 := { stood := { row := describeFormsRow, standIns := [], harness := (true, "b1526886b5da05c0f233c69841071b05a68f327f1bb3e6a347bc9df069afccc5"), looks := true }, kinds := [], alts := [], laidByText := true, laidKinds := [.data, .data, .data, .data, .data, .pinned], laidTests := true, laidLooks := .later }
def DescribeFormsCardSaid : Prop := Claim7.holds Tryz.pinned (.plain (OpenSpec.ofChange describeFormsSpec)) describeFormsCard

/-- THE TIED CARD OF 'lyceumlaw41.DescribeModels'. -/
def describeModelsCard : Claim7 := { stood := { row := describeModelsRow, standIns := [], harness := (true, "b1526886b5da05c0f233c69841071b05a68f327f1bb3e6a347bc9df069afccc5"), looks := true }, kinds := [], alts := [], laidByText := true, laidKinds := [.data, .data, .data, .data, .data, .pinned], laidTests := true, laidLooks := .later }
def DescribeModelsCardSaid : Prop := Claim7.holds Tryz.pinned (.plain (OpenSpec.ofChange describeModelsSpec)) describeModelsCard

/-- THE TIED CARD OF 'lyceumlaw41.DescribeApart'. -/
def describeApartCard : Claim7 := { stood := { row := describeApartRow, standIns := [], harness := (true, "b1526886b5da05c0f233c69841071b05a68f327f1bb3e6a347bc9df069afccc5"), looks := true }, kinds := [], alts := [], laidByText := true, laidKinds := [.data, .data, .data, .data, .data, .pinned], laidTests := true, laidLooks := .later }
def DescribeApartCardSaid : Prop := Claim7.holds Tryz.pinned (.plain (OpenSpec.ofChange describeApartSpec)) describeApartCard

/-- THE TIED CARD OF 'lyceumlaw41.DescribeClaims'. -/
def describeClaimsCard : Claim7 := { stood := { row := describeClaimsRow, standIns := [], harness := (true, "b1526886b5da05c0f233c69841071b05a68f327f1bb3e6a347bc9df069afccc5"), looks := true }, kinds := [], alts := [], laidByText := true, laidKinds := [.data, .data, .data, .data, .data, .pinned], laidTests := true, laidLooks := .later }
def DescribeClaimsCardSaid : Prop := Claim7.holds Tryz.pinned (.plain (OpenSpec.ofChange describeClaimsSpec)) describeClaimsCard

/-- THE TIED CARD OF 'lyceumlaw41.DescribeOutline'. -/
def describeOutlineCard : Claim7 := { stood := { row := describeOutlineRow, standIns := [], harness := (true, "b1526886b5da05c0f233c69841071b05a68f327f1bb3e6a347bc9df069afccc5"), looks := true }, kinds := [], alts := [], laidByText := true, laidKinds := [.data, .data, .data, .data, .sentinel, .sentinel, .data, .pinned], laidTests := true, laidLooks := .later }
def DescribeOutlineCardSaid : Prop := Claim7.holds Tryz.pinned (.plain (OpenSpec.ofChange describeOutlineSpec)) describeOutlineCard

/-- THE TIED CARD OF 'lyceumlaw41.DescribeOrder'. -/
def describeOrderCard : Claim7 := { stood := { row := describeOrderRow, standIns := [], harness := (true, "b1526886b5da05c0f233c69841071b05a68f327f1bb3e6a347bc9df069afccc5"), looks := true }, kinds := [], alts := [], laidByText := true, laidKinds := [.data, .data, .data, .data, .sentinel, .sentinel, .data, .pinned], laidTests := true, laidLooks := .later }
def DescribeOrderCardSaid : Prop := Claim7.holds Tryz.pinned (.plain (OpenSpec.ofChange describeOrderSpec)) describeOrderCard

/-- THE TIED CARD OF 'lyceumlaw41.DescribeProofs'. -/
def describeProofsCard : Claim7 := { stood := { row := describeProofsRow, standIns := [], harness := (true, "b1526886b5da05c0f233c69841071b05a68f327f1bb3e6a347bc9df069afccc5"), looks := true }, kinds := [], alts := [], laidByText := true, laidKinds := [.data, .data, .data, .data, .sentinel, .sentinel, .data, .pinned], laidTests := true, laidLooks := .later }
def DescribeProofsCardSaid : Prop := Claim7.holds Tryz.pinned (.plain (OpenSpec.ofChange describeProofsSpec)) describeProofsCard

/-- THE TIED CARD OF 'lyceumlaw41.DescribeReads'. -/
def describeReadsCard : Claim7 := { stood := { row := describeReadsRow, standIns := [], harness := (true, "b1526886b5da05c0f233c69841071b05a68f327f1bb3e6a347bc9df069afccc5"), looks := true }, kinds := [], alts := [], laidByText := true, laidKinds := [.data, .data, .data, .data, .sentinel, .sentinel, .data, .pinned], laidTests := true, laidLooks := .later }
def DescribeReadsCardSaid : Prop := Claim7.holds Tryz.pinned (.plain (OpenSpec.ofChange describeReadsSpec)) describeReadsCard

/-- THE TIED CARD OF 'lyceumlaw41.DescribeWrong'. -/
def describeWrongCard : Claim7 := { stood := { row := describeWrongRow, standIns := [], harness := (true, "b1526886b5da05c0f233c69841071b05a68f327f1bb3e6a347bc9df069afccc5"), looks := true }, kinds := [], alts := [], laidByText := true, laidKinds := [.data, .data, .data, .data, .sentinel, .sentinel, .data, .pinned], laidTests := true, laidLooks := .later }
def DescribeWrongCardSaid : Prop := Claim7.holds Tryz.pinned (.plain (OpenSpec.ofChange describeWrongSpec)) describeWrongCard

/-- THE SECOND FORM's CARD OF 'lyceumlaw41.DescribeForms'. -/
def describeFormsUptoCard : Claim7 := { stood := { row := describeFormsUptoRow, standIns := [], harness := (true, "b1526886b5da05c0f233c69841071b05a68f327f1bb3e6a347bc9df069afccc5"), looks := true }, kinds := [], alts := [], laidByText := true, laidKinds := [.data, .data, .data, .data, .data, .pinned], laidTests := true, laidLooks := .later }
def DescribeFormsUptoCardSaid : Prop := Claim7.holds Tryz.pinned (.plain (OpenSpec.upto describeFormsSpec)) describeFormsUptoCard

/-- THE SECOND FORM's CARD OF 'lyceumlaw41.DescribeModels'. -/
def describeModelsUptoCard : Claim7 := { stood := { row := describeModelsUptoRow, standIns := [], harness := (true, "b1526886b5da05c0f233c69841071b05a68f327f1bb3e6a347bc9df069afccc5"), looks := true }, kinds := [], alts := [], laidByText := true, laidKinds := [.data, .data, .data, .data, .data, .pinned], laidTests := true, laidLooks := .later }
def DescribeModelsUptoCardSaid : Prop := Claim7.holds Tryz.pinned (.plain (OpenSpec.upto describeModelsSpec)) describeModelsUptoCard

/-- THE SECOND FORM's CARD OF 'lyceumlaw41.DescribeApart'. -/
def describeApartUptoCard : Claim7 := { stood := { row := describeApartUptoRow, standIns := [], harness := (true, "b1526886b5da05c0f233c69841071b05a68f327f1bb3e6a347bc9df069afccc5"), looks := true }, kinds := [], alts := [], laidByText := true, laidKinds := [.data, .data, .data, .data, .data, .pinned], laidTests := true, laidLooks := .later }
def DescribeApartUptoCardSaid : Prop := Claim7.holds Tryz.pinned (.plain (OpenSpec.upto describeApartSpec)) describeApartUptoCard

/-- THE SECOND FORM's CARD OF 'lyceumlaw41.DescribeClaims'. -/
def describeClaimsUptoCard : Claim7 := { stood := { row := describeClaimsUptoRow, standIns := [], harness := (true, "b1526886b5da05c0f233c69841071b05a68f327f1bb3e6a347bc9df069afccc5"), looks := true }, kinds := [], alts := [], laidByText := true, laidKinds := [.data, .data, .data, .data, .data, .pinned], laidTests := true, laidLooks := .later }
def DescribeClaimsUptoCardSaid : Prop := Claim7.holds Tryz.pinned (.plain (OpenSpec.upto describeClaimsSpec)) describeClaimsUptoCard

/-- THE SECOND FORM's CARD OF 'lyceumlaw41.DescribeOutline'. -/
def describeOutlineUptoCard : Claim7 := { stood := { row := describeOutlineUptoRow, standIns := [], harness := (true, "b1526886b5da05c0f233c69841071b05a68f327f1bb3e6a347bc9df069afccc5"), looks := true }, kinds := [], alts := [], laidByText := true, laidKinds := [.data, .data, .data, .data, .sentinel, .sentinel, .data, .pinned], laidTests := true, laidLooks := .later }
def DescribeOutlineUptoCardSaid : Prop := Claim7.holds Tryz.pinned (.plain (OpenSpec.upto describeOutlineSpec)) describeOutlineUptoCard

/-- THE SECOND FORM's CARD OF 'lyceumlaw41.DescribeOrder'. -/
def describeOrderUptoCard : Claim7 := { stood := { row := describeOrderUptoRow, standIns := [], harness := (true, "b1526886b5da05c0f233c69841071b05a68f327f1bb3e6a347bc9df069afccc5"), looks := true }, kinds := [], alts := [], laidByText := true, laidKinds := [.data, .data, .data, .data, .sentinel, .sentinel, .data, .pinned], laidTests := true, laidLooks := .later }
def DescribeOrderUptoCardSaid : Prop := Claim7.holds Tryz.pinned (.plain (OpenSpec.upto describeOrderSpec)) describeOrderUptoCard

/-- THE SECOND FORM's CARD OF 'lyceumlaw41.DescribeProofs'. -/
def describeProofsUptoCard : Claim7 := { stood := { row := describeProofsUptoRow, standIns := [], harness := (true, "b1526886b5da05c0f233c69841071b05a68f327f1bb3e6a347bc9df069afccc5"), looks := true }, kinds := [], alts := [], laidByText := true, laidKinds := [.data, .data, .data, .data, .sentinel, .sentinel, .data, .pinned], laidTests := true, laidLooks := .later }
def DescribeProofsUptoCardSaid : Prop := Claim7.holds Tryz.pinned (.plain (OpenSpec.upto describeProofsSpec)) describeProofsUptoCard

/-- THE SECOND FORM's CARD OF 'lyceumlaw41.DescribeReads'. -/
def describeReadsUptoCard : Claim7 := { stood := { row := describeReadsUptoRow, standIns := [], harness := (true, "b1526886b5da05c0f233c69841071b05a68f327f1bb3e6a347bc9df069afccc5"), looks := true }, kinds := [], alts := [], laidByText := true, laidKinds := [.data, .data, .data, .data, .sentinel, .sentinel, .data, .pinned], laidTests := true, laidLooks := .later }
def DescribeReadsUptoCardSaid : Prop := Claim7.holds Tryz.pinned (.plain (OpenSpec.upto describeReadsSpec)) describeReadsUptoCard

/-- THE SECOND FORM's CARD OF 'lyceumlaw41.DescribeWrong'. -/
def describeWrongUptoCard : Claim7 := { stood := { row := describeWrongUptoRow, standIns := [], harness := (true, "b1526886b5da05c0f233c69841071b05a68f327f1bb3e6a347bc9df069afccc5"), looks := true }, kinds := [], alts := [], laidByText := true, laidKinds := [.data, .data, .data, .data, .sentinel, .sentinel, .data, .pinned], laidTests := true, laidLooks := .later }
def DescribeWrongUptoCardSaid : Prop := Claim7.holds Tryz.pinned (.plain (OpenSpec.upto describeWrongSpec)) describeWrongUptoCard
end Rows
end Go.Proofs.YtcandidgaegghaaGreatDoor
