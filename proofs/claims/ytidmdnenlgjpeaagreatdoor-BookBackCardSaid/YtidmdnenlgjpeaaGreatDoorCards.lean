/-
  DERIVED. GIVEN WITH THE SEED: THE CARDS: each row of YtidmdnenlgjpeaaGreatDoorRows.lean that lists a variable, with what it lists TIED to the program's text (the seventh form; the later family's looks); each row that meets fmt, with fmt's text TOLD by the authors' own Lean function (tested against real Go, not proved from fmt's source: count such statements apart). THE CARD IS WHAT COUNTS. Prove the row's statement (the work); the ties are given (YtidmdnenlgjpeaaGreatDoorTie.lean); close each card by the builder's one call (the guide's Derived/Test/ToyasCard.lean, 'card_holds'). Laid BY PROGRAM, IN A SANDBOX (cutbox-door.mjs). By AI agents, Wed Nov 11 2026. No macro, syntax, notation, axiom, sorry.
-/
import Derived.Test.YtidmdnenlgjpeaaGreatDoorRows
import GoSem.ClaimSeven
namespace Go.Proofs.YtidmdnenlgjpeaaGreatDoor
namespace Rows

/-- THE TIED CARD OF 'trestlelaw02.BookChecks'. -/
def bookChecksCard : Claim7 := { stood := { row := bookChecksRow, standIns := [], harness := (true, "49c04d1f47713397409bee6eed8e2402c554560f59f571390a247e877f4e9cc8"), looks := false }, kinds := [], alts := [], laidByText := true, laidKinds := [.data, .pinned], laidTests := true, laidLooks := .later }
def BookChecksCardSaid : Prop := Claim7.holds Tryz.pinned (.plain (OpenSpec.ofChange bookChecksSpec)) bookChecksCard

/-- THE TIED CARD OF 'trestlelaw02.BookReads'. -/
def bookReadsCard : Claim7 := { stood := { row := bookReadsRow, standIns := [], harness := (true, "49c04d1f47713397409bee6eed8e2402c554560f59f571390a247e877f4e9cc8"), looks := false }, kinds := [], alts := [], laidByText := true, laidKinds := [.data, .pinned], laidTests := true, laidLooks := .later }
def BookReadsCardSaid : Prop := Claim7.holds Tryz.pinned (.plain (OpenSpec.ofChange bookReadsSpec)) bookReadsCard

/-- THE TIED CARD OF 'trestlelaw02.BookCircles'. -/
def bookCirclesCard : Claim7 := { stood := { row := bookCirclesRow, standIns := [], harness := (true, "49c04d1f47713397409bee6eed8e2402c554560f59f571390a247e877f4e9cc8"), looks := false }, kinds := [], alts := [], laidByText := true, laidKinds := [.data, .pinned], laidTests := true, laidLooks := .later }
def BookCirclesCardSaid : Prop := Claim7.holds Tryz.pinned (.plain (OpenSpec.ofChange bookCirclesSpec)) bookCirclesCard

/-- THE TIED CARD OF 'trestlelaw02.BookChains'. -/
def bookChainsCard : Claim7 := { stood := { row := bookChainsRow, standIns := [], harness := (true, "49c04d1f47713397409bee6eed8e2402c554560f59f571390a247e877f4e9cc8"), looks := false }, kinds := [], alts := [], laidByText := true, laidKinds := [.data, .pinned], laidTests := true, laidLooks := .later }
def BookChainsCardSaid : Prop := Claim7.holds Tryz.pinned (.plain (OpenSpec.ofChange bookChainsSpec)) bookChainsCard

/-- THE TIED CARD OF 'trestlelaw02.BookAsks'. -/
def bookAsksCard : Claim7 := { stood := { row := bookAsksRow, standIns := [], harness := (true, "49c04d1f47713397409bee6eed8e2402c554560f59f571390a247e877f4e9cc8"), looks := false }, kinds := [], alts := [], laidByText := true, laidKinds := [.data, .pinned], laidTests := true, laidLooks := .later }
def BookAsksCardSaid : Prop := Claim7.holds Tryz.pinned (.plain (OpenSpec.ofChange bookAsksSpec)) bookAsksCard

/-- THE TIED CARD OF 'trestlelaw02.BookLeaves'. -/
def bookLeavesCard : Claim7 := { stood := { row := bookLeavesRow, standIns := [], harness := (true, "49c04d1f47713397409bee6eed8e2402c554560f59f571390a247e877f4e9cc8"), looks := false }, kinds := [], alts := [], laidByText := true, laidKinds := [.data, .pinned], laidTests := true, laidLooks := .later }
def BookLeavesCardSaid : Prop := Claim7.holds Tryz.pinned (.plain (OpenSpec.ofChange bookLeavesSpec)) bookLeavesCard

/-- THE TIED CARD OF 'trestlelaw02.BookRenames'. -/
def bookRenamesCard : Claim7 := { stood := { row := bookRenamesRow, standIns := [], harness := (true, "49c04d1f47713397409bee6eed8e2402c554560f59f571390a247e877f4e9cc8"), looks := false }, kinds := [], alts := [], laidByText := true, laidKinds := [.data, .pinned], laidTests := true, laidLooks := .later }
def BookRenamesCardSaid : Prop := Claim7.holds Tryz.pinned (.plain (OpenSpec.ofChange bookRenamesSpec)) bookRenamesCard

/-- THE TIED CARD OF 'trestlelaw02.BookCamps'. -/
def bookCampsCard : Claim7 := { stood := { row := bookCampsRow, standIns := [], harness := (true, "49c04d1f47713397409bee6eed8e2402c554560f59f571390a247e877f4e9cc8"), looks := false }, kinds := [], alts := [], laidByText := true, laidKinds := [.data, .pinned], laidTests := true, laidLooks := .later }
def BookCampsCardSaid : Prop := Claim7.holds Tryz.pinned (.plain (OpenSpec.ofChange bookCampsSpec)) bookCampsCard

/-- THE TIED CARD OF 'trestlelaw02.BookTies'. -/
def bookTiesCard : Claim7 := { stood := { row := bookTiesRow, standIns := [], harness := (true, "49c04d1f47713397409bee6eed8e2402c554560f59f571390a247e877f4e9cc8"), looks := false }, kinds := [], alts := [], laidByText := true, laidKinds := [.data, .pinned], laidTests := true, laidLooks := .later }
def BookTiesCardSaid : Prop := Claim7.holds Tryz.pinned (.plain (OpenSpec.ofChange bookTiesSpec)) bookTiesCard

/-- THE TIED CARD OF 'trestlelaw02.BookLoads'. -/
def bookLoadsCard : Claim7 := { stood := { row := bookLoadsRow, standIns := [], harness := (true, "49c04d1f47713397409bee6eed8e2402c554560f59f571390a247e877f4e9cc8"), looks := false }, kinds := [], alts := [], laidByText := true, laidKinds := [.data, .pinned], laidTests := true, laidLooks := .later }
def BookLoadsCardSaid : Prop := Claim7.holds Tryz.pinned (.plain (OpenSpec.ofChange bookLoadsSpec)) bookLoadsCard

/-- THE TIED CARD OF 'trestlelaw02.BookPlays'. -/
def bookPlaysCard : Claim7 := { stood := { row := bookPlaysRow, standIns := [], harness := (true, "49c04d1f47713397409bee6eed8e2402c554560f59f571390a247e877f4e9cc8"), looks := false }, kinds := [], alts := [], laidByText := true, laidKinds := [.data, .pinned], laidTests := true, laidLooks := .later }
def BookPlaysCardSaid : Prop := Claim7.holds Tryz.pinned (.plain (OpenSpec.ofChange bookPlaysSpec)) bookPlaysCard

/-- THE TIED CARD OF 'trestlelaw02.BookSmall'. -/
def bookSmallCard : Claim7 := { stood := { row := bookSmallRow, standIns := [], harness := (true, "49c04d1f47713397409bee6eed8e2402c554560f59f571390a247e877f4e9cc8"), looks := false }, kinds := [], alts := [], laidByText := true, laidKinds := [.data, .pinned], laidTests := true, laidLooks := .later }
def BookSmallCardSaid : Prop := Claim7.holds Tryz.pinned (.plain (OpenSpec.ofChange bookSmallSpec)) bookSmallCard

/-- THE TIED CARD OF 'trestlelaw02.BookWrites'. -/
def bookWritesCard : Claim7 := { stood := { row := bookWritesRow, standIns := [], harness := (true, "49c04d1f47713397409bee6eed8e2402c554560f59f571390a247e877f4e9cc8"), looks := false }, kinds := [], alts := [], laidByText := true, laidKinds := [.data, .data, .data, .data, .pinned], laidTests := true, laidLooks := .later }
def BookWritesCardSaid : Prop := Claim7.holds Tryz.pinned (.plain (OpenSpec.ofChange bookWritesSpec)) bookWritesCard

/-- THE TIED CARD OF 'trestlelaw02.BookBack'. -/
def bookBackCard : Claim7 := { stood := { row := bookBackRow, standIns := [], harness := (true, "49c04d1f47713397409bee6eed8e2402c554560f59f571390a247e877f4e9cc8"), looks := false }, kinds := [], alts := [], laidByText := true, laidKinds := [.data, .data, .data, .data, .pinned], laidTests := true, laidLooks := .later }
def BookBackCardSaid : Prop := Claim7.holds Tryz.pinned (.plain (OpenSpec.ofChange bookBackSpec)) bookBackCard

/-- THE SECOND FORM's CARD OF 'trestlelaw02.BookChecks'. -/
def bookChecksUptoCard : Claim7 := { stood := { row := bookChecksUptoRow, standIns := [], harness := (true, "49c04d1f47713397409bee6eed8e2402c554560f59f571390a247e877f4e9cc8"), looks := false }, kinds := [], alts := [], laidByText := true, laidKinds := [.data, .pinned], laidTests := true, laidLooks := .later }
def BookChecksUptoCardSaid : Prop := Claim7.holds Tryz.pinned (.plain (OpenSpec.upto bookChecksSpec)) bookChecksUptoCard

/-- THE SECOND FORM's CARD OF 'trestlelaw02.BookReads'. -/
def bookReadsUptoCard : Claim7 := { stood := { row := bookReadsUptoRow, standIns := [], harness := (true, "49c04d1f47713397409bee6eed8e2402c554560f59f571390a247e877f4e9cc8"), looks := false }, kinds := [], alts := [], laidByText := true, laidKinds := [.data, .pinned], laidTests := true, laidLooks := .later }
def BookReadsUptoCardSaid : Prop := Claim7.holds Tryz.pinned (.plain (OpenSpec.upto bookReadsSpec)) bookReadsUptoCard

/-- THE SECOND FORM's CARD OF 'trestlelaw02.BookCircles'. -/
def bookCirclesUptoCard : Claim7 := { stood := { row := bookCirclesUptoRow, standIns := [], harness := (true, "49c04d1f47713397409bee6eed8e2402c554560f59f571390a247e877f4e9cc8"), looks := false }, kinds := [], alts := [], laidByText := true, laidKinds := [.data, .pinned], laidTests := true, laidLooks := .later }
def BookCirclesUptoCardSaid : Prop := Claim7.holds Tryz.pinned (.plain (OpenSpec.upto bookCirclesSpec)) bookCirclesUptoCard

/-- THE SECOND FORM's CARD OF 'trestlelaw02.BookChains'. -/
def bookChainsUptoCard : Claim7 := { stood := { row := bookChainsUptoRow, standIns := [], harness := (true, "49c04d1f47713397409bee6eed8e2402c554560f59f571390a247e877f4e9cc8"), looks := false }, kinds := [], alts := [], laidByText := true, laidKinds := [.data, .pinned], laidTests := true, laidLooks := .later }
def BookChainsUptoCardSaid : Prop := Claim7.holds Tryz.pinned (.plain (OpenSpec.upto bookChainsSpec)) bookChainsUptoCard

/-- THE SECOND FORM's CARD OF 'trestlelaw02.BookAsks'. -/
def bookAsksUptoCard : Claim7 := { stood := { row := bookAsksUptoRow, standIns := [], harness := (true, "49c04d1f47713397409bee6eed8e2402c554560f59f571390a247e877f4e9cc8"), looks := false }, kinds := [], alts := [], laidByText := true, laidKinds := [.data, .pinned], laidTests := true, laidLooks := .later }
def BookAsksUptoCardSaid : Prop := Claim7.holds Tryz.pinned (.plain (OpenSpec.upto bookAsksSpec)) bookAsksUptoCard

/-- THE SECOND FORM's CARD OF 'trestlelaw02.BookLeaves'. -/
def bookLeavesUptoCard : Claim7 := { stood := { row := bookLeavesUptoRow, standIns := [], harness := (true, "49c04d1f47713397409bee6eed8e2402c554560f59f571390a247e877f4e9cc8"), looks := false }, kinds := [], alts := [], laidByText := true, laidKinds := [.data, .pinned], laidTests := true, laidLooks := .later }
def BookLeavesUptoCardSaid : Prop := Claim7.holds Tryz.pinned (.plain (OpenSpec.upto bookLeavesSpec)) bookLeavesUptoCard

/-- THE SECOND FORM's CARD OF 'trestlelaw02.BookRenames'. -/
def bookRenamesUptoCard : Claim7 := { stood := { row := bookRenamesUptoRow, standIns := [], harness := (true, "49c04d1f47713397409bee6eed8e2402c554560f59f571390a247e877f4e9cc8"), looks := false }, kinds := [], alts := [], laidByText := true, laidKinds := [.data, .pinned], laidTests := true, laidLooks := .later }
def BookRenamesUptoCardSaid : Prop := Claim7.holds Tryz.pinned (.plain (OpenSpec.upto bookRenamesSpec)) bookRenamesUptoCard

/-- THE SECOND FORM's CARD OF 'trestlelaw02.BookCamps'. -/
def bookCampsUptoCard : Claim7 := { stood := { row := bookCampsUptoRow, standIns := [], harness := (true, "49c04d1f47713397409bee6eed8e2402c554560f59f571390a247e877f4e9cc8"), looks := false }, kinds := [], alts := [], laidByText := true, laidKinds := [.data, .pinned], laidTests := true, laidLooks := .later }
def BookCampsUptoCardSaid : Prop := Claim7.holds Tryz.pinned (.plain (OpenSpec.upto bookCampsSpec)) bookCampsUptoCard

/-- THE SECOND FORM's CARD OF 'trestlelaw02.BookTies'. -/
def bookTiesUptoCard : Claim7 := { stood := { row := bookTiesUptoRow, standIns := [], harness := (true, "49c04d1f47713397409bee6eed8e2402c554560f59f571390a247e877f4e9cc8"), looks := false }, kinds := [], alts := [], laidByText := true, laidKinds := [.data, .pinned], laidTests := true, laidLooks := .later }
def BookTiesUptoCardSaid : Prop := Claim7.holds Tryz.pinned (.plain (OpenSpec.upto bookTiesSpec)) bookTiesUptoCard

/-- THE SECOND FORM's CARD OF 'trestlelaw02.BookLoads'. -/
def bookLoadsUptoCard : Claim7 := { stood := { row := bookLoadsUptoRow, standIns := [], harness := (true, "49c04d1f47713397409bee6eed8e2402c554560f59f571390a247e877f4e9cc8"), looks := false }, kinds := [], alts := [], laidByText := true, laidKinds := [.data, .pinned], laidTests := true, laidLooks := .later }
def BookLoadsUptoCardSaid : Prop := Claim7.holds Tryz.pinned (.plain (OpenSpec.upto bookLoadsSpec)) bookLoadsUptoCard

/-- THE SECOND FORM's CARD OF 'trestlelaw02.BookPlays'. -/
def bookPlaysUptoCard : Claim7 := { stood := { row := bookPlaysUptoRow, standIns := [], harness := (true, "49c04d1f47713397409bee6eed8e2402c554560f59f571390a247e877f4e9cc8"), looks := false }, kinds := [], alts := [], laidByText := true, laidKinds := [.data, .pinned], laidTests := true, laidLooks := .later }
def BookPlaysUptoCardSaid : Prop := Claim7.holds Tryz.pinned (.plain (OpenSpec.upto bookPlaysSpec)) bookPlaysUptoCard

/-- THE SECOND FORM's CARD OF 'trestlelaw02.BookSmall'. -/
def bookSmallUptoCard : Claim7 := { stood := { row := bookSmallUptoRow, standIns := [], harness := (true, "49c04d1f47713397409bee6eed8e2402c554560f59f571390a247e877f4e9cc8"), looks := false }, kinds := [], alts := [], laidByText := true, laidKinds := [.data, .pinned], laidTests := true, laidLooks := .later }
def BookSmallUptoCardSaid : Prop := Claim7.holds Tryz.pinned (.plain (OpenSpec.upto bookSmallSpec)) bookSmallUptoCard

/-- THE SECOND FORM's CARD OF 'trestlelaw02.BookWrites'. -/
def bookWritesUptoCard : Claim7 := { stood := { row := bookWritesUptoRow, standIns := [], harness := (true, "49c04d1f47713397409bee6eed8e2402c554560f59f571390a247e877f4e9cc8"), looks := false }, kinds := [], alts := [], laidByText := true, laidKinds := [.data, .data, .data, .data, .pinned], laidTests := true, laidLooks := .later }
def BookWritesUptoCardSaid : Prop := Claim7.holds Tryz.pinned (.plain (OpenSpec.upto bookWritesSpec)) bookWritesUptoCard

/-- THE SECOND FORM's CARD OF 'trestlelaw02.BookBack'. -/
def bookBackUptoCard : Claim7 := { stood := { row := bookBackUptoRow, standIns := [], harness := (true, "49c04d1f47713397409bee6eed8e2402c554560f59f571390a247e877f4e9cc8"), looks := false }, kinds := [], alts := [], laidByText := true, laidKinds := [.data, .data, .data, .data, .pinned], laidTests := true, laidLooks := .later }
def BookBackUptoCardSaid : Prop := Claim7.holds Tryz.pinned (.plain (OpenSpec.upto bookBackSpec)) bookBackUptoCard
end Rows
end Go.Proofs.YtidmdnenlgjpeaaGreatDoor
