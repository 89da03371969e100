/-
  DERIVED. GIVEN WITH THE SEED: THE CARDS: each row of YtjgpiabklllldaaGreatDoorRows.lean that lists a variable, with what it lists TIED to the program's text (the seventh form; the later family's looks); each row that meets fmt, with fmt's text TOLD by the authors' own Lean function (tested against real Go, not proved from fmt's source: count such statements apart). THE CARD IS WHAT COUNTS. Prove the row's statement (the work); the ties are given (YtjgpiabklllldaaGreatDoorTie.lean); close each card by the builder's one call (the guide's Derived/Test/ToyasCard.lean, 'card_holds'). Laid BY PROGRAM, IN A SANDBOX (cutbox-door.mjs). By AI agents, Wed Nov 11 2026. No macro, syntax, notation, axiom, sorry.
-/
import Derived.Test.YtjgpiabklllldaaGreatDoorRows
import GoSem.ClaimSeven
namespace Go.Proofs.YtjgpiabklllldaaGreatDoor
namespace Rows

/-- THE TIED CARD OF 'trestlelaw11.ServiceWaiters'. -/
def serviceWaitersCard : Claim7 := { stood := { row := serviceWaitersRow, standIns := [], harness := (true, "09c7ff94517942690d974056dff2b252e58c68485a3cccd095519a6daf05484e"), looks := false }, kinds := [], alts := [], laidByText := true, laidKinds := [.data, .data, .data], laidTests := true, laidLooks := .later }
def ServiceWaitersCardSaid : Prop := Claim7.holds Tryz.pinned (.plain (OpenSpec.ofChange serviceWaitersSpec)) serviceWaitersCard

/-- THE TIED CARD OF 'trestlelaw11.ServiceWays'. -/
def serviceWaysCard : Claim7 := { stood := { row := serviceWaysRow, standIns := [], harness := (true, "09c7ff94517942690d974056dff2b252e58c68485a3cccd095519a6daf05484e"), looks := false }, kinds := [], alts := [], laidByText := true, laidKinds := [.data, .data, .data], laidTests := true, laidLooks := .later }
def ServiceWaysCardSaid : Prop := Claim7.holds Tryz.pinned (.plain (OpenSpec.ofChange serviceWaysSpec)) serviceWaysCard

/-- THE TIED CARD OF 'trestlelaw11.ServiceDishes'. -/
def serviceDishesCard : Claim7 := { stood := { row := serviceDishesRow, standIns := [], harness := (true, "09c7ff94517942690d974056dff2b252e58c68485a3cccd095519a6daf05484e"), looks := false }, kinds := [], alts := [], laidByText := true, laidKinds := [.data, .data, .data], laidTests := true, laidLooks := .later }
def ServiceDishesCardSaid : Prop := Claim7.holds Tryz.pinned (.plain (OpenSpec.ofChange serviceDishesSpec)) serviceDishesCard

/-- THE SECOND FORM's CARD OF 'trestlelaw11.ServiceWaiters'. -/
def serviceWaitersUptoCard : Claim7 := { stood := { row := serviceWaitersUptoRow, standIns := [], harness := (true, "09c7ff94517942690d974056dff2b252e58c68485a3cccd095519a6daf05484e"), looks := false }, kinds := [], alts := [], laidByText := true, laidKinds := [.data, .data, .data], laidTests := true, laidLooks := .later }
def ServiceWaitersUptoCardSaid : Prop := Claim7.holds Tryz.pinned (.plain (OpenSpec.upto serviceWaitersSpec)) serviceWaitersUptoCard

/-- THE SECOND FORM's CARD OF 'trestlelaw11.ServiceWays'. -/
def serviceWaysUptoCard : Claim7 := { stood := { row := serviceWaysUptoRow, standIns := [], harness := (true, "09c7ff94517942690d974056dff2b252e58c68485a3cccd095519a6daf05484e"), looks := false }, kinds := [], alts := [], laidByText := true, laidKinds := [.data, .data, .data], laidTests := true, laidLooks := .later }
def ServiceWaysUptoCardSaid : Prop := Claim7.holds Tryz.pinned (.plain (OpenSpec.upto serviceWaysSpec)) serviceWaysUptoCard

/-- THE SECOND FORM's CARD OF 'trestlelaw11.ServiceDishes'. -/
def serviceDishesUptoCard : Claim7 := { stood := { row := serviceDishesUptoRow, standIns := [], harness := (true, "09c7ff94517942690d974056dff2b252e58c68485a3cccd095519a6daf05484e"), looks := false }, kinds := [], alts := [], laidByText := true, laidKinds := [.data, .data, .data], laidTests := true, laidLooks := .later }
def ServiceDishesUptoCardSaid : Prop := Claim7.holds Tryz.pinned (.plain (OpenSpec.upto serviceDishesSpec)) serviceDishesUptoCard
end Rows
end Go.Proofs.YtjgpiabklllldaaGreatDoor
