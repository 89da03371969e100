/-
  DERIVED. GIVEN WITH THE SEED: THE CARDS: each row of YtgehpahpnidimaaGreatDoorRows.lean that lists a variable, with what it lists TIED to the program's text (the seventh form; the later family's looks); each row that meets fmt, with fmt's text TOLD by the authors' own Lean function (tested against real Go, not proved from fmt's source: count such statements apart). THE CARD IS WHAT COUNTS. Prove the row's statement (the work); the ties are given (YtgehpahpnidimaaGreatDoorTie.lean); close each card by the builder's one call (the guide's Derived/Test/ToyasCard.lean, 'card_holds'). Laid BY PROGRAM, IN A SANDBOX (cutbox-door.mjs). By AI agents, Wed Nov 11 2026. No macro, syntax, notation, axiom, sorry.
-/
import Derived.Test.YtgehpahpnidimaaGreatDoorRows
import GoSem.ClaimSeven
namespace Go.Proofs.YtgehpahpnidimaaGreatDoor
namespace Rows

/-- THE TIED CARD OF 'trestlelaw11.ServiceCards'. -/
def serviceCardsCard : Claim7 := { stood := { row := serviceCardsRow, standIns := [], harness := (true, "f65dd7c38b42e4e7f446752ccb66731488438c616896eacc752f1b5b3278e90a"), looks := false }, kinds := [], alts := [], laidByText := true, laidKinds := [.data, .data, .data], laidTests := true, laidLooks := .later }
def ServiceCardsCardSaid : Prop := Claim7.holds Tryz.pinned (.plain (OpenSpec.ofChange serviceCardsSpec)) serviceCardsCard

/-- THE TIED CARD OF 'trestlelaw11.ServiceTexts'. -/
def serviceTextsCard : Claim7 := { stood := { row := serviceTextsRow, standIns := [], harness := (true, "f65dd7c38b42e4e7f446752ccb66731488438c616896eacc752f1b5b3278e90a"), looks := false }, kinds := [], alts := [], laidByText := true, laidKinds := [.data, .data, .data, .data, .pinned], laidTests := true, laidLooks := .later }
def ServiceTextsCardSaid : Prop := Claim7.holds Tryz.pinned (.plain (OpenSpec.ofChange serviceTextsSpec)) serviceTextsCard

/-- THE TIED CARD OF 'trestlelaw11.ServiceRound'. -/
def serviceRoundCard : Claim7 := { stood := { row := serviceRoundRow, standIns := [], harness := (true, "f65dd7c38b42e4e7f446752ccb66731488438c616896eacc752f1b5b3278e90a"), looks := false }, kinds := [], alts := [], laidByText := true, laidKinds := [.data, .data, .data, .data, .pinned], laidTests := true, laidLooks := .later }
def ServiceRoundCardSaid : Prop := Claim7.holds Tryz.pinned (.plain (OpenSpec.ofChange serviceRoundSpec)) serviceRoundCard

/-- THE SECOND FORM's CARD OF 'trestlelaw11.ServiceCards'. -/
def serviceCardsUptoCard : Claim7 := { stood := { row := serviceCardsUptoRow, standIns := [], harness := (true, "f65dd7c38b42e4e7f446752ccb66731488438c616896eacc752f1b5b3278e90a"), looks := false }, kinds := [], alts := [], laidByText := true, laidKinds := [.data, .data, .data], laidTests := true, laidLooks := .later }
def ServiceCardsUptoCardSaid : Prop := Claim7.holds Tryz.pinned (.plain (OpenSpec.upto serviceCardsSpec)) serviceCardsUptoCard

/-- THE SECOND FORM's CARD OF 'trestlelaw11.ServiceTexts'. -/
def serviceTextsUptoCard : Claim7 := { stood := { row := serviceTextsUptoRow, standIns := [], harness := (true, "f65dd7c38b42e4e7f446752ccb66731488438c616896eacc752f1b5b3278e90a"), looks := false }, kinds := [], alts := [], laidByText := true, laidKinds := [.data, .data, .data, .data, .pinned], laidTests := true, laidLooks := .later }
def ServiceTextsUptoCardSaid : Prop := Claim7.holds Tryz.pinned (.plain (OpenSpec.upto serviceTextsSpec)) serviceTextsUptoCard

/-- THE SECOND FORM's CARD OF 'trestlelaw11.ServiceRound'. -/
def serviceRoundUptoCard : Claim7 := { stood := { row := serviceRoundUptoRow, standIns := [], harness := (true, "f65dd7c38b42e4e7f446752ccb66731488438c616896eacc752f1b5b3278e90a"), looks := false }, kinds := [], alts := [], laidByText := true, laidKinds := [.data, .data, .data, .data, .pinned], laidTests := true, laidLooks := .later }
def ServiceRoundUptoCardSaid : Prop := Claim7.holds Tryz.pinned (.plain (OpenSpec.upto serviceRoundSpec)) serviceRoundUptoCard
end Rows
end Go.Proofs.YtgehpahpnidimaaGreatDoor
