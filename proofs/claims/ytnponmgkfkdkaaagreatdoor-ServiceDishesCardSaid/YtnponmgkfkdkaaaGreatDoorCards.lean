/-
  DERIVED. GIVEN WITH THE SEED: THE CARDS: each row of YtnponmgkfkdkaaaGreatDoorRows.lean that lists a variable, with what it lists TIED to the program's text (the seventh form; the later family's looks); each row that meets fmt, with fmt's text TOLD by the authors' own Lean function (tested against real Go, not proved from fmt's source: count such statements apart). THE CARD IS WHAT COUNTS. Prove the row's statement (the work); the ties are given (YtnponmgkfkdkaaaGreatDoorTie.lean); close each card by the builder's one call (the guide's Derived/Test/ToyasCard.lean, 'card_holds'). Laid BY PROGRAM, IN A SANDBOX (cutbox-door.mjs). By AI agents, Wed Nov 11 2026. No macro, syntax, notation, axiom, sorry.
-/
import Derived.Test.YtnponmgkfkdkaaaGreatDoorRows
import GoSem.ClaimSeven
namespace Go.Proofs.YtnponmgkfkdkaaaGreatDoor
namespace Rows

/-- THE TIED CARD OF 'trestlelaw11.ServiceDishes'. -/
def serviceDishesCard : Claim7 := { stood := { row := serviceDishesRow, standIns := [], harness := (true, "a828a1e513e3f528e636e98c2434052744a52fa327f95eb23ed78caffb6a06a1"), looks := false }, kinds := [], alts := [], laidByText := true, laidKinds := [.data, .data, .data], laidTests := true, laidLooks := .later }
def ServiceDishesCardSaid : Prop := Claim7.holds Tryz.pinned (.plain (OpenSpec.ofChange serviceDishesSpec)) serviceDishesCard

/-- THE TIED CARD OF 'trestlelaw11.ServiceCards'. -/
def serviceCardsCard : Claim7 := { stood := { row := serviceCardsRow, standIns := [], harness := (true, "a828a1e513e3f528e636e98c2434052744a52fa327f95eb23ed78caffb6a06a1"), looks := false }, kinds := [], alts := [], laidByText := true, laidKinds := [.data, .data, .data], laidTests := true, laidLooks := .later }
def ServiceCardsCardSaid : Prop := Claim7.holds Tryz.pinned (.plain (OpenSpec.ofChange serviceCardsSpec)) serviceCardsCard

/-- THE TIED CARD OF 'trestlelaw11.ServiceCounts'. -/
def serviceCountsCard : Claim7 := { stood := { row := serviceCountsRow, standIns := [], harness := (true, "a828a1e513e3f528e636e98c2434052744a52fa327f95eb23ed78caffb6a06a1"), looks := false }, kinds := [], alts := [], laidByText := true, laidKinds := [.data, .data, .data], laidTests := true, laidLooks := .later }
def ServiceCountsCardSaid : Prop := Claim7.holds Tryz.pinned (.plain (OpenSpec.ofChange serviceCountsSpec)) serviceCountsCard

/-- THE TIED CARD OF 'trestlelaw11.ServiceTurned'. -/
def serviceTurnedCard : Claim7 := { stood := { row := serviceTurnedRow, standIns := [], harness := (true, "a828a1e513e3f528e636e98c2434052744a52fa327f95eb23ed78caffb6a06a1"), looks := false }, kinds := [], alts := [], laidByText := true, laidKinds := [.data, .data, .data], laidTests := true, laidLooks := .later }
def ServiceTurnedCardSaid : Prop := Claim7.holds Tryz.pinned (.plain (OpenSpec.ofChange serviceTurnedSpec)) serviceTurnedCard

/-- THE SECOND FORM's CARD OF 'trestlelaw11.ServiceDishes'. -/
def serviceDishesUptoCard : Claim7 := { stood := { row := serviceDishesUptoRow, standIns := [], harness := (true, "a828a1e513e3f528e636e98c2434052744a52fa327f95eb23ed78caffb6a06a1"), looks := false }, kinds := [], alts := [], laidByText := true, laidKinds := [.data, .data, .data], laidTests := true, laidLooks := .later }
def ServiceDishesUptoCardSaid : Prop := Claim7.holds Tryz.pinned (.plain (OpenSpec.upto serviceDishesSpec)) serviceDishesUptoCard

/-- THE SECOND FORM's CARD OF 'trestlelaw11.ServiceCards'. -/
def serviceCardsUptoCard : Claim7 := { stood := { row := serviceCardsUptoRow, standIns := [], harness := (true, "a828a1e513e3f528e636e98c2434052744a52fa327f95eb23ed78caffb6a06a1"), looks := false }, kinds := [], alts := [], laidByText := true, laidKinds := [.data, .data, .data], laidTests := true, laidLooks := .later }
def ServiceCardsUptoCardSaid : Prop := Claim7.holds Tryz.pinned (.plain (OpenSpec.upto serviceCardsSpec)) serviceCardsUptoCard

/-- THE SECOND FORM's CARD OF 'trestlelaw11.ServiceCounts'. -/
def serviceCountsUptoCard : Claim7 := { stood := { row := serviceCountsUptoRow, standIns := [], harness := (true, "a828a1e513e3f528e636e98c2434052744a52fa327f95eb23ed78caffb6a06a1"), looks := false }, kinds := [], alts := [], laidByText := true, laidKinds := [.data, .data, .data], laidTests := true, laidLooks := .later }
def ServiceCountsUptoCardSaid : Prop := Claim7.holds Tryz.pinned (.plain (OpenSpec.upto serviceCountsSpec)) serviceCountsUptoCard

/-- THE SECOND FORM's CARD OF 'trestlelaw11.ServiceTurned'. -/
def serviceTurnedUptoCard : Claim7 := { stood := { row := serviceTurnedUptoRow, standIns := [], harness := (true, "a828a1e513e3f528e636e98c2434052744a52fa327f95eb23ed78caffb6a06a1"), looks := false }, kinds := [], alts := [], laidByText := true, laidKinds := [.data, .data, .data], laidTests := true, laidLooks := .later }
def ServiceTurnedUptoCardSaid : Prop := Claim7.holds Tryz.pinned (.plain (OpenSpec.upto serviceTurnedSpec)) serviceTurnedUptoCard
end Rows
end Go.Proofs.YtnponmgkfkdkaaaGreatDoor
