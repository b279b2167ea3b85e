/-
  DERIVED. GIVEN WITH THE SEED: THE CARDS: each row of YtppfalbnhnpbnaaGreatDoorRows.lean that lists a variable, with what it lists TIED to the program's text (the seventh form; the later family's looks); each row that meets fmt, with fmt's text TOLD by the authors' own Lean function (tested against real Go, not proved from fmt's source: count such statements apart). THE CARD IS WHAT COUNTS. Prove the row's statement (the work); the ties are given (YtppfalbnhnpbnaaGreatDoorTie.lean); close each card by the builder's one call (the guide's Derived/Test/ToyasCard.lean, 'card_holds'). Laid BY PROGRAM, IN A SANDBOX (cutbox-door.mjs). By AI agents, Wed Nov 11 2026. No macro, syntax, notation, axiom, sorry.
-/
import Derived.Test.YtppfalbnhnpbnaaGreatDoorRows
import GoSem.ClaimSeven
namespace Go.Proofs.YtppfalbnhnpbnaaGreatDoor
namespace Rows

/-- THE TIED CARD OF 'lyceumlaw30.SkeletonOf'. -/
def skeletonOfCard : Claim7 := { stood := { row := skeletonOfRow, standIns := [], harness := (true, "e6e8d273c3a532af08bc278c225d929b183b5905833cf90f291e22b4edbb329f"), looks := false }, kinds := [], alts := [], laidByText := true, laidKinds := [.data, .data, .data, .data], laidTests := true, laidLooks := .later }
def SkeletonOfCardSaid : Prop := Claim7.holds Tryz.pinned (.plain (OpenSpec.ofChange skeletonOfSpec)) skeletonOfCard

/-- THE TIED CARD OF 'lyceumlaw30.SkeletonApart'. -/
def skeletonApartCard : Claim7 := { stood := { row := skeletonApartRow, standIns := [], harness := (true, "e6e8d273c3a532af08bc278c225d929b183b5905833cf90f291e22b4edbb329f"), looks := false }, kinds := [], alts := [], laidByText := true, laidKinds := [.data, .data, .data, .data], laidTests := true, laidLooks := .later }
def SkeletonApartCardSaid : Prop := Claim7.holds Tryz.pinned (.plain (OpenSpec.ofChange skeletonApartSpec)) skeletonApartCard

/-- THE TIED CARD OF 'lyceumlaw30.SkeletonTells'. -/
def skeletonTellsCard : Claim7 := { stood := { row := skeletonTellsRow, standIns := [], harness := (true, "e6e8d273c3a532af08bc278c225d929b183b5905833cf90f291e22b4edbb329f"), looks := false }, kinds := [], alts := [], laidByText := true, laidKinds := [.data, .data, .data, .data], laidTests := true, laidLooks := .later }
def SkeletonTellsCardSaid : Prop := Claim7.holds Tryz.pinned (.plain (OpenSpec.ofChange skeletonTellsSpec)) skeletonTellsCard

/-- THE TIED CARD OF 'lyceumlaw30.SkeletonRenames'. -/
def skeletonRenamesCard : Claim7 := { stood := { row := skeletonRenamesRow, standIns := [], harness := (true, "e6e8d273c3a532af08bc278c225d929b183b5905833cf90f291e22b4edbb329f"), looks := false }, kinds := [], alts := [], laidByText := true, laidKinds := [.data, .data, .data, .data], laidTests := true, laidLooks := .later }
def SkeletonRenamesCardSaid : Prop := Claim7.holds Tryz.pinned (.plain (OpenSpec.ofChange skeletonRenamesSpec)) skeletonRenamesCard

/-- THE TIED CARD OF 'lyceumlaw30.SkeletonSorts'. -/
def skeletonSortsCard : Claim7 := { stood := { row := skeletonSortsRow, standIns := [], harness := (true, "e6e8d273c3a532af08bc278c225d929b183b5905833cf90f291e22b4edbb329f"), looks := false }, kinds := [], alts := [], laidByText := true, laidKinds := [.data, .data, .data, .data, .data], laidTests := true, laidLooks := .later }
def SkeletonSortsCardSaid : Prop := Claim7.holds Tryz.pinned (.plain (OpenSpec.ofChange skeletonSortsSpec)) skeletonSortsCard

/-- THE TIED CARD OF 'lyceumlaw30.SkeletonClasses'. -/
def skeletonClassesCard : Claim7 := { stood := { row := skeletonClassesRow, standIns := [], harness := (true, "e6e8d273c3a532af08bc278c225d929b183b5905833cf90f291e22b4edbb329f"), looks := false }, kinds := [], alts := [], laidByText := true, laidKinds := [.data, .data, .data, .data, .data], laidTests := true, laidLooks := .later }
def SkeletonClassesCardSaid : Prop := Claim7.holds Tryz.pinned (.plain (OpenSpec.ofChange skeletonClassesSpec)) skeletonClassesCard

/-- THE SECOND FORM's CARD OF 'lyceumlaw30.SkeletonOf'. -/
def skeletonOfUptoCard : Claim7 := { stood := { row := skeletonOfUptoRow, standIns := [], harness := (true, "e6e8d273c3a532af08bc278c225d929b183b5905833cf90f291e22b4edbb329f"), looks := false }, kinds := [], alts := [], laidByText := true, laidKinds := [.data, .data, .data, .data], laidTests := true, laidLooks := .later }
def SkeletonOfUptoCardSaid : Prop := Claim7.holds Tryz.pinned (.plain (OpenSpec.upto skeletonOfSpec)) skeletonOfUptoCard

/-- THE SECOND FORM's CARD OF 'lyceumlaw30.SkeletonApart'. -/
def skeletonApartUptoCard : Claim7 := { stood := { row := skeletonApartUptoRow, standIns := [], harness := (true, "e6e8d273c3a532af08bc278c225d929b183b5905833cf90f291e22b4edbb329f"), looks := false }, kinds := [], alts := [], laidByText := true, laidKinds := [.data, .data, .data, .data], laidTests := true, laidLooks := .later }
def SkeletonApartUptoCardSaid : Prop := Claim7.holds Tryz.pinned (.plain (OpenSpec.upto skeletonApartSpec)) skeletonApartUptoCard

/-- THE SECOND FORM's CARD OF 'lyceumlaw30.SkeletonTells'. -/
def skeletonTellsUptoCard : Claim7 := { stood := { row := skeletonTellsUptoRow, standIns := [], harness := (true, "e6e8d273c3a532af08bc278c225d929b183b5905833cf90f291e22b4edbb329f"), looks := false }, kinds := [], alts := [], laidByText := true, laidKinds := [.data, .data, .data, .data], laidTests := true, laidLooks := .later }
def SkeletonTellsUptoCardSaid : Prop := Claim7.holds Tryz.pinned (.plain (OpenSpec.upto skeletonTellsSpec)) skeletonTellsUptoCard

/-- THE SECOND FORM's CARD OF 'lyceumlaw30.SkeletonRenames'. -/
def skeletonRenamesUptoCard : Claim7 := { stood := { row := skeletonRenamesUptoRow, standIns := [], harness := (true, "e6e8d273c3a532af08bc278c225d929b183b5905833cf90f291e22b4edbb329f"), looks := false }, kinds := [], alts := [], laidByText := true, laidKinds := [.data, .data, .data, .data], laidTests := true, laidLooks := .later }
def SkeletonRenamesUptoCardSaid : Prop := Claim7.holds Tryz.pinned (.plain (OpenSpec.upto skeletonRenamesSpec)) skeletonRenamesUptoCard

/-- THE SECOND FORM's CARD OF 'lyceumlaw30.SkeletonSorts'. -/
def skeletonSortsUptoCard : Claim7 := { stood := { row := skeletonSortsUptoRow, standIns := [], harness := (true, "e6e8d273c3a532af08bc278c225d929b183b5905833cf90f291e22b4edbb329f"), looks := false }, kinds := [], alts := [], laidByText := true, laidKinds := [.data, .data, .data, .data, .data], laidTests := true, laidLooks := .later }
def SkeletonSortsUptoCardSaid : Prop := Claim7.holds Tryz.pinned (.plain (OpenSpec.upto skeletonSortsSpec)) skeletonSortsUptoCard

/-- THE SECOND FORM's CARD OF 'lyceumlaw30.SkeletonClasses'. -/
def skeletonClassesUptoCard : Claim7 := { stood := { row := skeletonClassesUptoRow, standIns := [], harness := (true, "e6e8d273c3a532af08bc278c225d929b183b5905833cf90f291e22b4edbb329f"), looks := false }, kinds := [], alts := [], laidByText := true, laidKinds := [.data, .data, .data, .data, .data], laidTests := true, laidLooks := .later }
def SkeletonClassesUptoCardSaid : Prop := Claim7.holds Tryz.pinned (.plain (OpenSpec.upto skeletonClassesSpec)) skeletonClassesUptoCard
end Rows
end Go.Proofs.YtppfalbnhnpbnaaGreatDoor
