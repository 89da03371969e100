/-
  DERIVED. GIVEN WITH THE SEED: THE CARDS: each row of YtnopenpheaihmaaGreatDoorRows.lean that lists a variable, with what it lists TIED to the program's text (the seventh form; the later family's looks); each row that meets fmt, with fmt's text TOLD by the authors' own Lean function (tested against real Go, not proved from fmt's source: count such statements apart). THE CARD IS WHAT COUNTS. Prove the row's statement (the work); the ties are given (YtnopenpheaihmaaGreatDoorTie.lean); close each card by the builder's one call (the guide's Derived/Test/ToyasCard.lean, 'card_holds'). Laid BY PROGRAM, IN A SANDBOX (cutbox-door.mjs). By AI agents, Wed Nov 11 2026. No macro, syntax, notation, axiom, sorry.
-/
import Derived.Test.YtnopenpheaihmaaGreatDoorRows
import GoSem.ClaimSeven
namespace Go.Proofs.YtnopenpheaihmaaGreatDoor
namespace Rows

/-- THE TIED CARD OF 'trestlelaw01.HallTurns'. -/
def hallTurnsCard : Claim7 := { stood := { row := hallTurnsRow, standIns := [], harness := (true, "a522d39c5636c9302456eb9ce9ebf7a9a0f22f0b09ad852a98b8ae2a823e61bc"), looks := false }, kinds := [], alts := [], laidByText := true, laidKinds := [.data, .data, .data], laidTests := true, laidLooks := .later }
def HallTurnsCardSaid : Prop := Claim7.holds Tryz.pinned (.plain (OpenSpec.ofChange hallTurnsSpec)) hallTurnsCard

/-- THE TIED CARD OF 'trestlelaw01.HallFormats'. -/
def hallFormatsCard : Claim7 := { stood := { row := hallFormatsRow, standIns := [], harness := (true, "a522d39c5636c9302456eb9ce9ebf7a9a0f22f0b09ad852a98b8ae2a823e61bc"), looks := false }, kinds := [], alts := [], laidByText := true, laidKinds := [.data, .data, .data], laidTests := true, laidLooks := .later }
def HallFormatsCardSaid : Prop := Claim7.holds Tryz.pinned (.plain (OpenSpec.ofChange hallFormatsSpec)) hallFormatsCard

/-- THE TIED CARD OF 'trestlelaw01.HallChecks'. -/
def hallChecksCard : Claim7 := { stood := { row := hallChecksRow, standIns := [], harness := (true, "a522d39c5636c9302456eb9ce9ebf7a9a0f22f0b09ad852a98b8ae2a823e61bc"), looks := false }, kinds := [], alts := [], laidByText := true, laidKinds := [.data, .data, .data], laidTests := true, laidLooks := .later }
def HallChecksCardSaid : Prop := Claim7.holds Tryz.pinned (.plain (OpenSpec.ofChange hallChecksSpec)) hallChecksCard

/-- THE TIED CARD OF 'trestlelaw01.HallSeats'. -/
def hallSeatsCard : Claim7 := { stood := { row := hallSeatsRow, standIns := [], harness := (true, "a522d39c5636c9302456eb9ce9ebf7a9a0f22f0b09ad852a98b8ae2a823e61bc"), looks := false }, kinds := [], alts := [], laidByText := true, laidKinds := [.data, .data, .data], laidTests := true, laidLooks := .later }
def HallSeatsCardSaid : Prop := Claim7.holds Tryz.pinned (.plain (OpenSpec.ofChange hallSeatsSpec)) hallSeatsCard

/-- THE TIED CARD OF 'trestlelaw01.HallHonours'. -/
def hallHonoursCard : Claim7 := { stood := { row := hallHonoursRow, standIns := [], harness := (true, "a522d39c5636c9302456eb9ce9ebf7a9a0f22f0b09ad852a98b8ae2a823e61bc"), looks := false }, kinds := [], alts := [], laidByText := true, laidKinds := [.data, .data, .data], laidTests := true, laidLooks := .later }
def HallHonoursCardSaid : Prop := Claim7.holds Tryz.pinned (.plain (OpenSpec.ofChange hallHonoursSpec)) hallHonoursCard

/-- THE TIED CARD OF 'trestlelaw01.HallPerms'. -/
def hallPermsCard : Claim7 := { stood := { row := hallPermsRow, standIns := [], harness := (true, "a522d39c5636c9302456eb9ce9ebf7a9a0f22f0b09ad852a98b8ae2a823e61bc"), looks := false }, kinds := [], alts := [], laidByText := true, laidKinds := [.data, .data, .data], laidTests := true, laidLooks := .later }
def HallPermsCardSaid : Prop := Claim7.holds Tryz.pinned (.plain (OpenSpec.ofChange hallPermsSpec)) hallPermsCard

/-- THE TIED CARD OF 'trestlelaw01.HallParses'. -/
def hallParsesCard : Claim7 := { stood := { row := hallParsesRow, standIns := [], harness := (true, "a522d39c5636c9302456eb9ce9ebf7a9a0f22f0b09ad852a98b8ae2a823e61bc"), looks := false }, kinds := [], alts := [], laidByText := true, laidKinds := [.data, .data, .data, .data, .pinned], laidTests := true, laidLooks := .later }
def HallParsesCardSaid : Prop := Claim7.holds Tryz.pinned (.plain (OpenSpec.ofChange hallParsesSpec)) hallParsesCard

/-- THE TIED CARD OF 'trestlelaw01.HallNumbers'. -/
def hallNumbersCard : Claim7 := { stood := { row := hallNumbersRow, standIns := [], harness := (true, "a522d39c5636c9302456eb9ce9ebf7a9a0f22f0b09ad852a98b8ae2a823e61bc"), looks := false }, kinds := [], alts := [], laidByText := true, laidKinds := [.data, .data, .data], laidTests := true, laidLooks := .later }
def HallNumbersCardSaid : Prop := Claim7.holds Tryz.pinned (.plain (OpenSpec.ofChange hallNumbersSpec)) hallNumbersCard

/-- THE TIED CARD OF 'trestlelaw01.HallLevels'. -/
def hallLevelsCard : Claim7 := { stood := { row := hallLevelsRow, standIns := [], harness := (true, "a522d39c5636c9302456eb9ce9ebf7a9a0f22f0b09ad852a98b8ae2a823e61bc"), looks := false }, kinds := [], alts := [], laidByText := true, laidKinds := [.data, .data, .data], laidTests := true, laidLooks := .later }
def HallLevelsCardSaid : Prop := Claim7.holds Tryz.pinned (.plain (OpenSpec.ofChange hallLevelsSpec)) hallLevelsCard

/-- THE TIED CARD OF 'trestlelaw01.HallOrbit'. -/
def hallOrbitCard : Claim7 := { stood := { row := hallOrbitRow, standIns := [], harness := (true, "a522d39c5636c9302456eb9ce9ebf7a9a0f22f0b09ad852a98b8ae2a823e61bc"), looks := false }, kinds := [], alts := [], laidByText := true, laidKinds := [.data, .data, .data], laidTests := true, laidLooks := .later }
def HallOrbitCardSaid : Prop := Claim7.holds Tryz.pinned (.plain (OpenSpec.ofChange hallOrbitSpec)) hallOrbitCard

/-- THE TIED CARD OF 'trestlelaw01.HallMetric'. -/
def hallMetricCard : Claim7 := { stood := { row := hallMetricRow, standIns := [], harness := (true, "a522d39c5636c9302456eb9ce9ebf7a9a0f22f0b09ad852a98b8ae2a823e61bc"), looks := false }, kinds := [], alts := [], laidByText := true, laidKinds := [.data, .data, .data], laidTests := true, laidLooks := .later }
def HallMetricCardSaid : Prop := Claim7.holds Tryz.pinned (.plain (OpenSpec.ofChange hallMetricSpec)) hallMetricCard

/-- THE TIED CARD OF 'trestlelaw01.HallWhole'. -/
def hallWholeCard : Claim7 := { stood := { row := hallWholeRow, standIns := [], harness := (true, "a522d39c5636c9302456eb9ce9ebf7a9a0f22f0b09ad852a98b8ae2a823e61bc"), looks := false }, kinds := [], alts := [], laidByText := true, laidKinds := [.data, .data, .data], laidTests := true, laidLooks := .later }
def HallWholeCardSaid : Prop := Claim7.holds Tryz.pinned (.plain (OpenSpec.ofChange hallWholeSpec)) hallWholeCard

/-- THE TIED CARD OF 'trestlelaw01.HallSmall'. -/
def hallSmallCard : Claim7 := { stood := { row := hallSmallRow, standIns := [], harness := (true, "a522d39c5636c9302456eb9ce9ebf7a9a0f22f0b09ad852a98b8ae2a823e61bc"), looks := false }, kinds := [], alts := [], laidByText := true, laidKinds := [.data, .data, .data, .data, .pinned], laidTests := true, laidLooks := .later }
def HallSmallCardSaid : Prop := Claim7.holds Tryz.pinned (.plain (OpenSpec.ofChange hallSmallSpec)) hallSmallCard

/-- THE TIED CARD OF 'trestlelaw01.HallRefuses'. -/
def hallRefusesCard : Claim7 := { stood := { row := hallRefusesRow, standIns := [], harness := (true, "a522d39c5636c9302456eb9ce9ebf7a9a0f22f0b09ad852a98b8ae2a823e61bc"), looks := false }, kinds := [], alts := [], laidByText := true, laidKinds := [.data, .data, .data], laidTests := true, laidLooks := .later }
def HallRefusesCardSaid : Prop := Claim7.holds Tryz.pinned (.plain (OpenSpec.ofChange hallRefusesSpec)) hallRefusesCard

/-- THE TIED CARD OF 'trestlelaw01.HallGroup'. -/
def hallGroupCard : Claim7 := { stood := { row := hallGroupRow, standIns := [], harness := (true, "a522d39c5636c9302456eb9ce9ebf7a9a0f22f0b09ad852a98b8ae2a823e61bc"), looks := false }, kinds := [], alts := [], laidByText := true, laidKinds := [.data, .data, .data], laidTests := true, laidLooks := .later }
def HallGroupCardSaid : Prop := Claim7.holds Tryz.pinned (.plain (OpenSpec.ofChange hallGroupSpec)) hallGroupCard

/-- THE TIED CARD OF 'trestlelaw01.HallRound'. -/
def hallRoundCard : Claim7 := { stood := { row := hallRoundRow, standIns := [], harness := (true, "a522d39c5636c9302456eb9ce9ebf7a9a0f22f0b09ad852a98b8ae2a823e61bc"), looks := false }, kinds := [], alts := [], laidByText := true, laidKinds := [.data, .data, .data, .data, .pinned], laidTests := true, laidLooks := .later }
def HallRoundCardSaid : Prop := Claim7.holds Tryz.pinned (.plain (OpenSpec.ofChange hallRoundSpec)) hallRoundCard

/-- THE SECOND FORM's CARD OF 'trestlelaw01.HallTurns'. -/
def hallTurnsUptoCard : Claim7 := { stood := { row := hallTurnsUptoRow, standIns := [], harness := (true, "a522d39c5636c9302456eb9ce9ebf7a9a0f22f0b09ad852a98b8ae2a823e61bc"), looks := false }, kinds := [], alts := [], laidByText := true, laidKinds := [.data, .data, .data], laidTests := true, laidLooks := .later }
def HallTurnsUptoCardSaid : Prop := Claim7.holds Tryz.pinned (.plain (OpenSpec.upto hallTurnsSpec)) hallTurnsUptoCard

/-- THE SECOND FORM's CARD OF 'trestlelaw01.HallFormats'. -/
def hallFormatsUptoCard : Claim7 := { stood := { row := hallFormatsUptoRow, standIns := [], harness := (true, "a522d39c5636c9302456eb9ce9ebf7a9a0f22f0b09ad852a98b8ae2a823e61bc"), looks := false }, kinds := [], alts := [], laidByText := true, laidKinds := [.data, .data, .data], laidTests := true, laidLooks := .later }
def HallFormatsUptoCardSaid : Prop := Claim7.holds Tryz.pinned (.plain (OpenSpec.upto hallFormatsSpec)) hallFormatsUptoCard

/-- THE SECOND FORM's CARD OF 'trestlelaw01.HallChecks'. -/
def hallChecksUptoCard : Claim7 := { stood := { row := hallChecksUptoRow, standIns := [], harness := (true, "a522d39c5636c9302456eb9ce9ebf7a9a0f22f0b09ad852a98b8ae2a823e61bc"), looks := false }, kinds := [], alts := [], laidByText := true, laidKinds := [.data, .data, .data], laidTests := true, laidLooks := .later }
def HallChecksUptoCardSaid : Prop := Claim7.holds Tryz.pinned (.plain (OpenSpec.upto hallChecksSpec)) hallChecksUptoCard

/-- THE SECOND FORM's CARD OF 'trestlelaw01.HallSeats'. -/
def hallSeatsUptoCard : Claim7 := { stood := { row := hallSeatsUptoRow, standIns := [], harness := (true, "a522d39c5636c9302456eb9ce9ebf7a9a0f22f0b09ad852a98b8ae2a823e61bc"), looks := false }, kinds := [], alts := [], laidByText := true, laidKinds := [.data, .data, .data], laidTests := true, laidLooks := .later }
def HallSeatsUptoCardSaid : Prop := Claim7.holds Tryz.pinned (.plain (OpenSpec.upto hallSeatsSpec)) hallSeatsUptoCard

/-- THE SECOND FORM's CARD OF 'trestlelaw01.HallHonours'. -/
def hallHonoursUptoCard : Claim7 := { stood := { row := hallHonoursUptoRow, standIns := [], harness := (true, "a522d39c5636c9302456eb9ce9ebf7a9a0f22f0b09ad852a98b8ae2a823e61bc"), looks := false }, kinds := [], alts := [], laidByText := true, laidKinds := [.data, .data, .data], laidTests := true, laidLooks := .later }
def HallHonoursUptoCardSaid : Prop := Claim7.holds Tryz.pinned (.plain (OpenSpec.upto hallHonoursSpec)) hallHonoursUptoCard

/-- THE SECOND FORM's CARD OF 'trestlelaw01.HallPerms'. -/
def hallPermsUptoCard : Claim7 := { stood := { row := hallPermsUptoRow, standIns := [], harness := (true, "a522d39c5636c9302456eb9ce9ebf7a9a0f22f0b09ad852a98b8ae2a823e61bc"), looks := false }, kinds := [], alts := [], laidByText := true, laidKinds := [.data, .data, .data], laidTests := true, laidLooks := .later }
def HallPermsUptoCardSaid : Prop := Claim7.holds Tryz.pinned (.plain (OpenSpec.upto hallPermsSpec)) hallPermsUptoCard

/-- THE SECOND FORM's CARD OF 'trestlelaw01.HallParses'. -/
def hallParsesUptoCard : Claim7 := { stood := { row := hallParsesUptoRow, standIns := [], harness := (true, "a522d39c5636c9302456eb9ce9ebf7a9a0f22f0b09ad852a98b8ae2a823e61bc"), looks := false }, kinds := [], alts := [], laidByText := true, laidKinds := [.data, .data, .data, .data, .pinned], laidTests := true, laidLooks := .later }
def HallParsesUptoCardSaid : Prop := Claim7.holds Tryz.pinned (.plain (OpenSpec.upto hallParsesSpec)) hallParsesUptoCard

/-- THE SECOND FORM's CARD OF 'trestlelaw01.HallNumbers'. -/
def hallNumbersUptoCard : Claim7 := { stood := { row := hallNumbersUptoRow, standIns := [], harness := (true, "a522d39c5636c9302456eb9ce9ebf7a9a0f22f0b09ad852a98b8ae2a823e61bc"), looks := false }, kinds := [], alts := [], laidByText := true, laidKinds := [.data, .data, .data], laidTests := true, laidLooks := .later }
def HallNumbersUptoCardSaid : Prop := Claim7.holds Tryz.pinned (.plain (OpenSpec.upto hallNumbersSpec)) hallNumbersUptoCard

/-- THE SECOND FORM's CARD OF 'trestlelaw01.HallLevels'. -/
def hallLevelsUptoCard : Claim7 := { stood := { row := hallLevelsUptoRow, standIns := [], harness := (true, "a522d39c5636c9302456eb9ce9ebf7a9a0f22f0b09ad852a98b8ae2a823e61bc"), looks := false }, kinds := [], alts := [], laidByText := true, laidKinds := [.data, .data, .data], laidTests := true, laidLooks := .later }
def HallLevelsUptoCardSaid : Prop := Claim7.holds Tryz.pinned (.plain (OpenSpec.upto hallLevelsSpec)) hallLevelsUptoCard

/-- THE SECOND FORM's CARD OF 'trestlelaw01.HallOrbit'. -/
def hallOrbitUptoCard : Claim7 := { stood := { row := hallOrbitUptoRow, standIns := [], harness := (true, "a522d39c5636c9302456eb9ce9ebf7a9a0f22f0b09ad852a98b8ae2a823e61bc"), looks := false }, kinds := [], alts := [], laidByText := true, laidKinds := [.data, .data, .data], laidTests := true, laidLooks := .later }
def HallOrbitUptoCardSaid : Prop := Claim7.holds Tryz.pinned (.plain (OpenSpec.upto hallOrbitSpec)) hallOrbitUptoCard

/-- THE SECOND FORM's CARD OF 'trestlelaw01.HallMetric'. -/
def hallMetricUptoCard : Claim7 := { stood := { row := hallMetricUptoRow, standIns := [], harness := (true, "a522d39c5636c9302456eb9ce9ebf7a9a0f22f0b09ad852a98b8ae2a823e61bc"), looks := false }, kinds := [], alts := [], laidByText := true, laidKinds := [.data, .data, .data], laidTests := true, laidLooks := .later }
def HallMetricUptoCardSaid : Prop := Claim7.holds Tryz.pinned (.plain (OpenSpec.upto hallMetricSpec)) hallMetricUptoCard

/-- THE SECOND FORM's CARD OF 'trestlelaw01.HallWhole'. -/
def hallWholeUptoCard : Claim7 := { stood := { row := hallWholeUptoRow, standIns := [], harness := (true, "a522d39c5636c9302456eb9ce9ebf7a9a0f22f0b09ad852a98b8ae2a823e61bc"), looks := false }, kinds := [], alts := [], laidByText := true, laidKinds := [.data, .data, .data], laidTests := true, laidLooks := .later }
def HallWholeUptoCardSaid : Prop := Claim7.holds Tryz.pinned (.plain (OpenSpec.upto hallWholeSpec)) hallWholeUptoCard

/-- THE SECOND FORM's CARD OF 'trestlelaw01.HallSmall'. -/
def hallSmallUptoCard : Claim7 := { stood := { row := hallSmallUptoRow, standIns := [], harness := (true, "a522d39c5636c9302456eb9ce9ebf7a9a0f22f0b09ad852a98b8ae2a823e61bc"), looks := false }, kinds := [], alts := [], laidByText := true, laidKinds := [.data, .data, .data, .data, .pinned], laidTests := true, laidLooks := .later }
def HallSmallUptoCardSaid : Prop := Claim7.holds Tryz.pinned (.plain (OpenSpec.upto hallSmallSpec)) hallSmallUptoCard

/-- THE SECOND FORM's CARD OF 'trestlelaw01.HallRefuses'. -/
def hallRefusesUptoCard : Claim7 := { stood := { row := hallRefusesUptoRow, standIns := [], harness := (true, "a522d39c5636c9302456eb9ce9ebf7a9a0f22f0b09ad852a98b8ae2a823e61bc"), looks := false }, kinds := [], alts := [], laidByText := true, laidKinds := [.data, .data, .data], laidTests := true, laidLooks := .later }
def HallRefusesUptoCardSaid : Prop := Claim7.holds Tryz.pinned (.plain (OpenSpec.upto hallRefusesSpec)) hallRefusesUptoCard

/-- THE SECOND FORM's CARD OF 'trestlelaw01.HallGroup'. -/
def hallGroupUptoCard : Claim7 := { stood := { row := hallGroupUptoRow, standIns := [], harness := (true, "a522d39c5636c9302456eb9ce9ebf7a9a0f22f0b09ad852a98b8ae2a823e61bc"), looks := false }, kinds := [], alts := [], laidByText := true, laidKinds := [.data, .data, .data], laidTests := true, laidLooks := .later }
def HallGroupUptoCardSaid : Prop := Claim7.holds Tryz.pinned (.plain (OpenSpec.upto hallGroupSpec)) hallGroupUptoCard

/-- THE SECOND FORM's CARD OF 'trestlelaw01.HallRound'. -/
def hallRoundUptoCard : Claim7 := { stood := { row := hallRoundUptoRow, standIns := [], harness := (true, "a522d39c5636c9302456eb9ce9ebf7a9a0f22f0b09ad852a98b8ae2a823e61bc"), looks := false }, kinds := [], alts := [], laidByText := true, laidKinds := [.data, .data, .data, .data, .pinned], laidTests := true, laidLooks := .later }
def HallRoundUptoCardSaid : Prop := Claim7.holds Tryz.pinned (.plain (OpenSpec.upto hallRoundSpec)) hallRoundUptoCard
end Rows
end Go.Proofs.YtnopenpheaihmaaGreatDoor
