/-
  DERIVED. GIVEN WITH THE SEED: THE CARDS: each row of YticddjokabmfmaaGreatDoorRows.lean that lists a variable, with what it lists TIED to the program's text (the seventh form; the later family's looks); each row that meets fmt, with fmt's text TOLD by the authors' own Lean function (tested against real Go, not proved from fmt's source: count such statements apart). THE CARD IS WHAT COUNTS. Prove the row's statement (the work); the ties are given (YticddjokabmfmaaGreatDoorTie.lean); close each card by the builder's one call (the guide's Derived/Test/ToyasCard.lean, 'card_holds'). Laid BY PROGRAM, IN A SANDBOX (cutbox-door.mjs). By AI agents, Wed Nov 11 2026. No macro, syntax, notation, axiom, sorry.
-/
import Derived.Test.YticddjokabmfmaaGreatDoorRows
import GoSem.ClaimSeven
namespace Go.Proofs.YticddjokabmfmaaGreatDoor
namespace Rows

/-- THE TIED CARD OF 'trestlelaw11.ServiceMetric'. -/
def serviceMetricCard : Claim7 := { stood := { row := serviceMetricRow, standIns := [], harness := (true, "4f2eff27f8640e58fb02950e7abc02bd000adfd0cd10e0d80cea48123cf79c86"), looks := false }, kinds := [], alts := [], laidByText := true, laidKinds := [.data, .data, .data], laidTests := true, laidLooks := .later }
def ServiceMetricCardSaid : Prop := Claim7.holds Tryz.pinned (.plain (OpenSpec.ofChange serviceMetricSpec)) serviceMetricCard

/-- THE TIED CARD OF 'trestlelaw11.ServiceCuts'. -/
def serviceCutsCard : Claim7 := { stood := { row := serviceCutsRow, standIns := [], harness := (true, "4f2eff27f8640e58fb02950e7abc02bd000adfd0cd10e0d80cea48123cf79c86"), looks := false }, kinds := [], alts := [], laidByText := true, laidKinds := [.data, .data, .data], laidTests := true, laidLooks := .later }
def ServiceCutsCardSaid : Prop := Claim7.holds Tryz.pinned (.plain (OpenSpec.ofChange serviceCutsSpec)) serviceCutsCard

/-- THE TIED CARD OF 'trestlelaw11.ServiceFair'. -/
def serviceFairCard : Claim7 := { stood := { row := serviceFairRow, standIns := [], harness := (true, "4f2eff27f8640e58fb02950e7abc02bd000adfd0cd10e0d80cea48123cf79c86"), looks := false }, kinds := [], alts := [], laidByText := true, laidKinds := [.data, .data, .data], laidTests := true, laidLooks := .later }
def ServiceFairCardSaid : Prop := Claim7.holds Tryz.pinned (.plain (OpenSpec.ofChange serviceFairSpec)) serviceFairCard

/-- THE TIED CARD OF 'trestlelaw11.ServiceForged'. -/
def serviceForgedCard : Claim7 := { stood := { row := serviceForgedRow, standIns := [], harness := (true, "4f2eff27f8640e58fb02950e7abc02bd000adfd0cd10e0d80cea48123cf79c86"), looks := false }, kinds := [], alts := [], laidByText := true, laidKinds := [.data, .data, .data], laidTests := true, laidLooks := .later }
def ServiceForgedCardSaid : Prop := Claim7.holds Tryz.pinned (.plain (OpenSpec.ofChange serviceForgedSpec)) serviceForgedCard

/-- THE TIED CARD OF 'trestlelaw11.ServiceShortest'. -/
def serviceShortestCard : Claim7 := { stood := { row := serviceShortestRow, standIns := [], harness := (true, "4f2eff27f8640e58fb02950e7abc02bd000adfd0cd10e0d80cea48123cf79c86"), looks := false }, kinds := [], alts := [], laidByText := true, laidKinds := [.data, .data, .data], laidTests := true, laidLooks := .later }
def ServiceShortestCardSaid : Prop := Claim7.holds Tryz.pinned (.plain (OpenSpec.ofChange serviceShortestSpec)) serviceShortestCard

/-- THE SECOND FORM's CARD OF 'trestlelaw11.ServiceMetric'. -/
def serviceMetricUptoCard : Claim7 := { stood := { row := serviceMetricUptoRow, standIns := [], harness := (true, "4f2eff27f8640e58fb02950e7abc02bd000adfd0cd10e0d80cea48123cf79c86"), looks := false }, kinds := [], alts := [], laidByText := true, laidKinds := [.data, .data, .data], laidTests := true, laidLooks := .later }
def ServiceMetricUptoCardSaid : Prop := Claim7.holds Tryz.pinned (.plain (OpenSpec.upto serviceMetricSpec)) serviceMetricUptoCard

/-- THE SECOND FORM's CARD OF 'trestlelaw11.ServiceCuts'. -/
def serviceCutsUptoCard : Claim7 := { stood := { row := serviceCutsUptoRow, standIns := [], harness := (true, "4f2eff27f8640e58fb02950e7abc02bd000adfd0cd10e0d80cea48123cf79c86"), looks := false }, kinds := [], alts := [], laidByText := true, laidKinds := [.data, .data, .data], laidTests := true, laidLooks := .later }
def ServiceCutsUptoCardSaid : Prop := Claim7.holds Tryz.pinned (.plain (OpenSpec.upto serviceCutsSpec)) serviceCutsUptoCard

/-- THE SECOND FORM's CARD OF 'trestlelaw11.ServiceFair'. -/
def serviceFairUptoCard : Claim7 := { stood := { row := serviceFairUptoRow, standIns := [], harness := (true, "4f2eff27f8640e58fb02950e7abc02bd000adfd0cd10e0d80cea48123cf79c86"), looks := false }, kinds := [], alts := [], laidByText := true, laidKinds := [.data, .data, .data], laidTests := true, laidLooks := .later }
def ServiceFairUptoCardSaid : Prop := Claim7.holds Tryz.pinned (.plain (OpenSpec.upto serviceFairSpec)) serviceFairUptoCard

/-- THE SECOND FORM's CARD OF 'trestlelaw11.ServiceForged'. -/
def serviceForgedUptoCard : Claim7 := { stood := { row := serviceForgedUptoRow, standIns := [], harness := (true, "4f2eff27f8640e58fb02950e7abc02bd000adfd0cd10e0d80cea48123cf79c86"), looks := false }, kinds := [], alts := [], laidByText := true, laidKinds := [.data, .data, .data], laidTests := true, laidLooks := .later }
def ServiceForgedUptoCardSaid : Prop := Claim7.holds Tryz.pinned (.plain (OpenSpec.upto serviceForgedSpec)) serviceForgedUptoCard

/-- THE SECOND FORM's CARD OF 'trestlelaw11.ServiceShortest'. -/
def serviceShortestUptoCard : Claim7 := { stood := { row := serviceShortestUptoRow, standIns := [], harness := (true, "4f2eff27f8640e58fb02950e7abc02bd000adfd0cd10e0d80cea48123cf79c86"), looks := false }, kinds := [], alts := [], laidByText := true, laidKinds := [.data, .data, .data], laidTests := true, laidLooks := .later }
def ServiceShortestUptoCardSaid : Prop := Claim7.holds Tryz.pinned (.plain (OpenSpec.upto serviceShortestSpec)) serviceShortestUptoCard
end Rows
end Go.Proofs.YticddjokabmfmaaGreatDoor
