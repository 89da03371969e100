/-
  NARROWER THAN 'FOR EVERY INPUT', by the rows' own cells (each row's printed sentence says how): HallTurns: laid · HallFormats: laid · HallChecks: laid · HallSeats: laid · HallHonours: laid · HallPerms: laid · HallParses: laid · HallNumbers: laid · HallLevels: laid · HallOrbit: laid · HallMetric: laid · HallWhole: laid · HallSmall: laid · HallRefuses: laid · HallGroup: laid · HallRound: laid.
  DERIVED. THE GIVEN ROWS OF THIS SEAT. 16 by the template 'for every input the law returns true; each argument reads behind the call as it read before'; 0 by the template 'total and deterministic' (their statements: YtnopenpheaihmaaGreatDoorTotals.lean).
  GIVEN WITH THE SEED: the statements are not yours to turn. If you find one false, say at which input.
  Laid BY PROGRAM, IN A SANDBOX (cutbox-rows.mjs): the forced cells as the released guide's own fill.sh prints them over the translation 71935b6d8e2124f7… (all of the seat's roots in one cut). By AI agents, Wed Nov 11 2026. No macro, syntax, notation, axiom, sorry.
-/
import Derived.Test.YtnopenpheaihmaaGreatDoorChecked
import GoSem.PinnedTables
import GoSem.Claim
import GoSem.ClaimJoined
import GoSem.ClaimMapViews
import Derived.JoinedTies
import Derived.KernelRfl
namespace Go.Proofs.YtnopenpheaihmaaGreatDoor
/- THE CELL 'sum', in the pinned program and in every row, IS THE sha256 OF THE DUMP (.gsa) THAT YtnopenpheaihmaaGreatDoorProg.lean LOADS. Nothing in Lean hashes anything: it is a label: what it is worth is what the hold of that sum in a sandbox is worth. -/
noncomputable def Tryz.pinned : Pinned := { name := "ytnopenpheaihmaagreatdoor", sum := "71935b6d8e2124f775c670c2fc92c75359c43524cebab306a87fa4897cef97ee", checked := Tryz.checked }
namespace Rows
def none {H : Type} : Left H := { results := [], args := [] }

/- WHAT THE LISTED PACKAGE-LEVEL VARIABLES READ AS WHEN THE CALL BEGINS. Each datum BY PROGRAM (the guide's laid-datum.mjs) off the statement by which the dump's own 'gosem.cut.vars' lays the variable. In a bare row this is a premise. The card (YtnopenpheaihmaaGreatDoorCards.lean) ties it to the program's text. -/
def laid_math_bits_deBruijn32tab {H : Type} : DataW H := .agg [.lit (.int .u8 0), .lit (.int .u8 1), .lit (.int .u8 28), .lit (.int .u8 2), .lit (.int .u8 29), .lit (.int .u8 14), .lit (.int .u8 24), .lit (.int .u8 3), .lit (.int .u8 30), .lit (.int .u8 22), .lit (.int .u8 20), .lit (.int .u8 15), .lit (.int .u8 25), .lit (.int .u8 17), .lit (.int .u8 4), .lit (.int .u8 8), .lit (.int .u8 31), .lit (.int .u8 27), .lit (.int .u8 13), .lit (.int .u8 23), .lit (.int .u8 21), .lit (.int .u8 19), .lit (.int .u8 16), .lit (.int .u8 7), .lit (.int .u8 26), .lit (.int .u8 12), .lit (.int .u8 18), .lit (.int .u8 6), .lit (.int .u8 11), .lit (.int .u8 5), .lit (.int .u8 10), .lit (.int .u8 9)]
def laid_math_bits_deBruijn64tab {H : Type} : DataW H := .agg [.lit (.int .u8 0), .lit (.int .u8 1), .lit (.int .u8 56), .lit (.int .u8 2), .lit (.int .u8 57), .lit (.int .u8 49), .lit (.int .u8 28), .lit (.int .u8 3), .lit (.int .u8 61), .lit (.int .u8 58), .lit (.int .u8 42), .lit (.int .u8 50), .lit (.int .u8 38), .lit (.int .u8 29), .lit (.int .u8 17), .lit (.int .u8 4), .lit (.int .u8 62), .lit (.int .u8 47), .lit (.int .u8 59), .lit (.int .u8 36), .lit (.int .u8 45), .lit (.int .u8 43), .lit (.int .u8 51), .lit (.int .u8 22), .lit (.int .u8 53), .lit (.int .u8 39), .lit (.int .u8 33), .lit (.int .u8 30), .lit (.int .u8 24), .lit (.int .u8 18), .lit (.int .u8 12), .lit (.int .u8 5), .lit (.int .u8 63), .lit (.int .u8 55), .lit (.int .u8 48), .lit (.int .u8 27), .lit (.int .u8 60), .lit (.int .u8 41), .lit (.int .u8 37), .lit (.int .u8 16), .lit (.int .u8 46), .lit (.int .u8 35), .lit (.int .u8 44), .lit (.int .u8 21), .lit (.int .u8 52), .lit (.int .u8 32), .lit (.int .u8 23), .lit (.int .u8 11), .lit (.int .u8 54), .lit (.int .u8 26), .lit (.int .u8 40), .lit (.int .u8 15), .lit (.int .u8 34), .lit (.int .u8 20), .lit (.int .u8 31), .lit (.int .u8 10), .lit (.int .u8 25), .lit (.int .u8 14), .lit (.int .u8 19), .lit (.int .u8 9), .lit (.int .u8 13), .lit (.int .u8 8), .lit (.int .u8 7), .lit (.int .u8 6)]
def laid_internal_strconv_uint64pow10 {H : Type} : DataW H := .agg [.lit (.int .u64 1), .lit (.int .u64 10), .lit (.int .u64 100), .lit (.int .u64 1000), .lit (.int .u64 10000), .lit (.int .u64 100000), .lit (.int .u64 1000000), .lit (.int .u64 10000000), .lit (.int .u64 100000000), .lit (.int .u64 1000000000), .lit (.int .u64 10000000000), .lit (.int .u64 100000000000), .lit (.int .u64 1000000000000), .lit (.int .u64 10000000000000), .lit (.int .u64 100000000000000), .lit (.int .u64 1000000000000000), .lit (.int .u64 10000000000000000), .lit (.int .u64 100000000000000000), .lit (.int .u64 1000000000000000000), .lit (.int .u64 10000000000000000000)]
def laid_unicode_utf8_acceptRanges {H : Type} : DataW H := .agg [.agg [.lit (.int .u8 128), .lit (.int .u8 191)], .agg [.lit (.int .u8 160), .lit (.int .u8 191)], .agg [.lit (.int .u8 128), .lit (.int .u8 159)], .agg [.lit (.int .u8 144), .lit (.int .u8 191)], .agg [.lit (.int .u8 128), .lit (.int .u8 143)], .agg [.lit (.int .u8 0), .lit (.int .u8 0)], .agg [.lit (.int .u8 0), .lit (.int .u8 0)], .agg [.lit (.int .u8 0), .lit (.int .u8 0)], .agg [.lit (.int .u8 0), .lit (.int .u8 0)], .agg [.lit (.int .u8 0), .lit (.int .u8 0)], .agg [.lit (.int .u8 0), .lit (.int .u8 0)], .agg [.lit (.int .u8 0), .lit (.int .u8 0)], .agg [.lit (.int .u8 0), .lit (.int .u8 0)], .agg [.lit (.int .u8 0), .lit (.int .u8 0)], .agg [.lit (.int .u8 0), .lit (.int .u8 0)], .agg [.lit (.int .u8 0), .lit (.int .u8 0)]]
/-- One of Go's own tables, pinned by name: the form's constant. -/
def laid_unicode_utf8_first : DataW Unit := Go.Pinned.utf8First

/-- 'trestlelaw01.HallTurns': WHATEVER THE INPUT: true; the input reads as it did. -/
def hallTurnsSpec : ChangeSpec := { name := "hallTurns", fn := fun _ => fun
  | [d1, d2] => { results := [.lit (.bool true)], args := [d1, d2] }
  | _ => none }
def hallTurnsRow : OpenClaim := { program := "ytnopenpheaihmaagreatdoor", sum := "71935b6d8e2124f775c670c2fc92c75359c43524cebab306a87fa4897cef97ee", func := "trestle/trestlelaw01.HallTurns", spec := "hallTurns", inPlace := ["internal/abi.NoEscape"], unfollowed := true, recurses := true, named := ["internal/strconv.uint64pow10", "math/bits.deBruijn32tab", "math/bits.deBruijn64tab"], apart := false, laid := [("math/bits.deBruijn32tab", laid_math_bits_deBruijn32tab), ("math/bits.deBruijn64tab", laid_math_bits_deBruijn64tab), ("internal/strconv.uint64pow10", laid_internal_strconv_uint64pow10)] }
def HallTurnsSaid : Prop := hallTurnsRow.holds Tryz.pinned (OpenSpec.ofChange hallTurnsSpec)

/-- ITS FALSE NEIGHBOUR: 'it returns false'. Refute it at one input. -/
def hallTurnsWrong : ChangeSpec := { name := "hallTurns", fn := fun _ => fun
  | [d1, d2] => { results := [.lit (.bool false)], args := [d1, d2] }
  | _ => none }
def HallTurnsWrongFalsely : Prop := hallTurnsRow.holds Tryz.pinned (OpenSpec.ofChange hallTurnsWrong)

/-- 'trestlelaw01.HallFormats': WHATEVER THE INPUT: true; the input reads as it did. -/
def hallFormatsSpec : ChangeSpec := { name := "hallFormats", fn := fun _ => fun
  | [d] => { results := [.lit (.bool true)], args := [d] }
  | _ => none }
def hallFormatsRow : OpenClaim := { program := "ytnopenpheaihmaagreatdoor", sum := "71935b6d8e2124f775c670c2fc92c75359c43524cebab306a87fa4897cef97ee", func := "trestle/trestlelaw01.HallFormats", spec := "hallFormats", inPlace := ["internal/abi.NoEscape"], unfollowed := true, recurses := true, named := ["internal/strconv.uint64pow10", "math/bits.deBruijn32tab", "math/bits.deBruijn64tab"], apart := false, laid := [("math/bits.deBruijn32tab", laid_math_bits_deBruijn32tab), ("math/bits.deBruijn64tab", laid_math_bits_deBruijn64tab), ("internal/strconv.uint64pow10", laid_internal_strconv_uint64pow10)] }
def HallFormatsSaid : Prop := hallFormatsRow.holds Tryz.pinned (OpenSpec.ofChange hallFormatsSpec)

/-- ITS FALSE NEIGHBOUR: 'it returns false'. Refute it at one input. -/
def hallFormatsWrong : ChangeSpec := { name := "hallFormats", fn := fun _ => fun
  | [d] => { results := [.lit (.bool false)], args := [d] }
  | _ => none }
def HallFormatsWrongFalsely : Prop := hallFormatsRow.holds Tryz.pinned (OpenSpec.ofChange hallFormatsWrong)

/-- 'trestlelaw01.HallChecks': WHATEVER THE INPUT: true; the input reads as it did. -/
def hallChecksSpec : ChangeSpec := { name := "hallChecks", fn := fun _ => fun
  | [d1, d2, d3] => { results := [.lit (.bool true)], args := [d1, d2, d3] }
  | _ => none }
def hallChecksRow : OpenClaim := { program := "ytnopenpheaihmaagreatdoor", sum := "71935b6d8e2124f775c670c2fc92c75359c43524cebab306a87fa4897cef97ee", func := "trestle/trestlelaw01.HallChecks", spec := "hallChecks", inPlace := ["internal/abi.NoEscape"], unfollowed := true, recurses := true, named := ["internal/strconv.uint64pow10", "math/bits.deBruijn32tab", "math/bits.deBruijn64tab"], apart := false, laid := [("math/bits.deBruijn32tab", laid_math_bits_deBruijn32tab), ("math/bits.deBruijn64tab", laid_math_bits_deBruijn64tab), ("internal/strconv.uint64pow10", laid_internal_strconv_uint64pow10)] }
def HallChecksSaid : Prop := hallChecksRow.holds Tryz.pinned (OpenSpec.ofChange hallChecksSpec)

/-- ITS FALSE NEIGHBOUR: 'it returns false'. Refute it at one input. -/
def hallChecksWrong : ChangeSpec := { name := "hallChecks", fn := fun _ => fun
  | [d1, d2, d3] => { results := [.lit (.bool false)], args := [d1, d2, d3] }
  | _ => none }
def HallChecksWrongFalsely : Prop := hallChecksRow.holds Tryz.pinned (OpenSpec.ofChange hallChecksWrong)

/-- 'trestlelaw01.HallSeats': WHATEVER THE INPUT: true; the input reads as it did. -/
def hallSeatsSpec : ChangeSpec := { name := "hallSeats", fn := fun _ => fun
  | [d1, d2, d3] => { results := [.lit (.bool true)], args := [d1, d2, d3] }
  | _ => none }
def hallSeatsRow : OpenClaim := { program := "ytnopenpheaihmaagreatdoor", sum := "71935b6d8e2124f775c670c2fc92c75359c43524cebab306a87fa4897cef97ee", func := "trestle/trestlelaw01.HallSeats", spec := "hallSeats", inPlace := ["internal/abi.NoEscape"], unfollowed := true, recurses := true, named := ["internal/strconv.uint64pow10", "math/bits.deBruijn32tab", "math/bits.deBruijn64tab"], apart := false, laid := [("math/bits.deBruijn32tab", laid_math_bits_deBruijn32tab), ("math/bits.deBruijn64tab", laid_math_bits_deBruijn64tab), ("internal/strconv.uint64pow10", laid_internal_strconv_uint64pow10)] }
def HallSeatsSaid : Prop := hallSeatsRow.holds Tryz.pinned (OpenSpec.ofChange hallSeatsSpec)

/-- ITS FALSE NEIGHBOUR: 'it returns false'. Refute it at one input. -/
def hallSeatsWrong : ChangeSpec := { name := "hallSeats", fn := fun _ => fun
  | [d1, d2, d3] => { results := [.lit (.bool false)], args := [d1, d2, d3] }
  | _ => none }
def HallSeatsWrongFalsely : Prop := hallSeatsRow.holds Tryz.pinned (OpenSpec.ofChange hallSeatsWrong)

/-- 'trestlelaw01.HallHonours': WHATEVER THE INPUT: true; the input reads as it did. -/
def hallHonoursSpec : ChangeSpec := { name := "hallHonours", fn := fun _ => fun
  | [d1, d2] => { results := [.lit (.bool true)], args := [d1, d2] }
  | _ => none }
def hallHonoursRow : OpenClaim := { program := "ytnopenpheaihmaagreatdoor", sum := "71935b6d8e2124f775c670c2fc92c75359c43524cebab306a87fa4897cef97ee", func := "trestle/trestlelaw01.HallHonours", spec := "hallHonours", inPlace := ["internal/abi.NoEscape"], unfollowed := true, recurses := true, named := ["internal/strconv.uint64pow10", "math/bits.deBruijn32tab", "math/bits.deBruijn64tab"], apart := false, laid := [("math/bits.deBruijn32tab", laid_math_bits_deBruijn32tab), ("math/bits.deBruijn64tab", laid_math_bits_deBruijn64tab), ("internal/strconv.uint64pow10", laid_internal_strconv_uint64pow10)] }
def HallHonoursSaid : Prop := hallHonoursRow.holds Tryz.pinned (OpenSpec.ofChange hallHonoursSpec)

/-- ITS FALSE NEIGHBOUR: 'it returns false'. Refute it at one input. -/
def hallHonoursWrong : ChangeSpec := { name := "hallHonours", fn := fun _ => fun
  | [d1, d2] => { results := [.lit (.bool false)], args := [d1, d2] }
  | _ => none }
def HallHonoursWrongFalsely : Prop := hallHonoursRow.holds Tryz.pinned (OpenSpec.ofChange hallHonoursWrong)

/-- 'trestlelaw01.HallPerms': WHATEVER THE INPUT: true; the input reads as it did. -/
def hallPermsSpec : ChangeSpec := { name := "hallPerms", fn := fun _ => fun
  | [d1, d2] => { results := [.lit (.bool true)], args := [d1, d2] }
  | _ => none }
def hallPermsRow : OpenClaim := { program := "ytnopenpheaihmaagreatdoor", sum := "71935b6d8e2124f775c670c2fc92c75359c43524cebab306a87fa4897cef97ee", func := "trestle/trestlelaw01.HallPerms", spec := "hallPerms", inPlace := ["internal/abi.NoEscape"], unfollowed := true, recurses := true, named := ["internal/strconv.uint64pow10", "math/bits.deBruijn32tab", "math/bits.deBruijn64tab"], apart := false, laid := [("math/bits.deBruijn32tab", laid_math_bits_deBruijn32tab), ("math/bits.deBruijn64tab", laid_math_bits_deBruijn64tab), ("internal/strconv.uint64pow10", laid_internal_strconv_uint64pow10)] }
def HallPermsSaid : Prop := hallPermsRow.holds Tryz.pinned (OpenSpec.ofChange hallPermsSpec)

/-- ITS FALSE NEIGHBOUR: 'it returns false'. Refute it at one input. -/
def hallPermsWrong : ChangeSpec := { name := "hallPerms", fn := fun _ => fun
  | [d1, d2] => { results := [.lit (.bool false)], args := [d1, d2] }
  | _ => none }
def HallPermsWrongFalsely : Prop := hallPermsRow.holds Tryz.pinned (OpenSpec.ofChange hallPermsWrong)

/-- 'trestlelaw01.HallParses': WHATEVER THE INPUT: true; the input reads as it did. -/
def hallParsesSpec : ChangeSpec := { name := "hallParses", fn := fun _ => fun
  | [d] => { results := [.lit (.bool true)], args := [d] }
  | _ => none }
def hallParsesRow : OpenClaim := { program := "ytnopenpheaihmaagreatdoor", sum := "71935b6d8e2124f775c670c2fc92c75359c43524cebab306a87fa4897cef97ee", func := "trestle/trestlelaw01.HallParses", spec := "hallParses", inPlace := ["internal/bytealg.IndexByteString", "internal/bytealg.IndexString", "internal/bytealg.CountString", "internal/abi.NoEscape"], unfollowed := true, recurses := true, named := ["internal/bytealg.MaxLen", "unicode/utf8.first", "unicode/utf8.acceptRanges", "internal/strconv.uint64pow10", "math/bits.deBruijn32tab", "math/bits.deBruijn64tab"], apart := false, laid := [("math/bits.deBruijn32tab", laid_math_bits_deBruijn32tab), ("math/bits.deBruijn64tab", laid_math_bits_deBruijn64tab), ("internal/strconv.uint64pow10", laid_internal_strconv_uint64pow10), ("unicode/utf8.acceptRanges", laid_unicode_utf8_acceptRanges), ("unicode/utf8.first", laid_unicode_utf8_first)] }
def HallParsesSaid : Prop := hallParsesRow.holds Tryz.pinned (OpenSpec.ofChange hallParsesSpec)

/-- ITS FALSE NEIGHBOUR: 'it returns false'. Refute it at one input. -/
def hallParsesWrong : ChangeSpec := { name := "hallParses", fn := fun _ => fun
  | [d] => { results := [.lit (.bool false)], args := [d] }
  | _ => none }
def HallParsesWrongFalsely : Prop := hallParsesRow.holds Tryz.pinned (OpenSpec.ofChange hallParsesWrong)

/-- 'trestlelaw01.HallNumbers': WHATEVER THE INPUT: true; the input reads as it did. -/
def hallNumbersSpec : ChangeSpec := { name := "hallNumbers", fn := fun _ => fun
  | [d1, d2] => { results := [.lit (.bool true)], args := [d1, d2] }
  | _ => none }
def hallNumbersRow : OpenClaim := { program := "ytnopenpheaihmaagreatdoor", sum := "71935b6d8e2124f775c670c2fc92c75359c43524cebab306a87fa4897cef97ee", func := "trestle/trestlelaw01.HallNumbers", spec := "hallNumbers", inPlace := ["internal/abi.NoEscape"], unfollowed := true, recurses := true, named := ["internal/strconv.uint64pow10", "math/bits.deBruijn32tab", "math/bits.deBruijn64tab"], apart := false, laid := [("math/bits.deBruijn32tab", laid_math_bits_deBruijn32tab), ("math/bits.deBruijn64tab", laid_math_bits_deBruijn64tab), ("internal/strconv.uint64pow10", laid_internal_strconv_uint64pow10)] }
def HallNumbersSaid : Prop := hallNumbersRow.holds Tryz.pinned (OpenSpec.ofChange hallNumbersSpec)

/-- ITS FALSE NEIGHBOUR: 'it returns false'. Refute it at one input. -/
def hallNumbersWrong : ChangeSpec := { name := "hallNumbers", fn := fun _ => fun
  | [d1, d2] => { results := [.lit (.bool false)], args := [d1, d2] }
  | _ => none }
def HallNumbersWrongFalsely : Prop := hallNumbersRow.holds Tryz.pinned (OpenSpec.ofChange hallNumbersWrong)

/-- 'trestlelaw01.HallLevels': WHATEVER THE INPUT: true; the input reads as it did. -/
def hallLevelsSpec : ChangeSpec := { name := "hallLevels", fn := fun _ => fun
  | [d] => { results := [.lit (.bool true)], args := [d] }
  | _ => none }
def hallLevelsRow : OpenClaim := { program := "ytnopenpheaihmaagreatdoor", sum := "71935b6d8e2124f775c670c2fc92c75359c43524cebab306a87fa4897cef97ee", func := "trestle/trestlelaw01.HallLevels", spec := "hallLevels", inPlace := ["internal/abi.NoEscape"], unfollowed := true, recurses := true, named := ["internal/strconv.uint64pow10", "math/bits.deBruijn32tab", "math/bits.deBruijn64tab"], apart := false, laid := [("math/bits.deBruijn32tab", laid_math_bits_deBruijn32tab), ("math/bits.deBruijn64tab", laid_math_bits_deBruijn64tab), ("internal/strconv.uint64pow10", laid_internal_strconv_uint64pow10)] }
def HallLevelsSaid : Prop := hallLevelsRow.holds Tryz.pinned (OpenSpec.ofChange hallLevelsSpec)

/-- ITS FALSE NEIGHBOUR: 'it returns false'. Refute it at one input. -/
def hallLevelsWrong : ChangeSpec := { name := "hallLevels", fn := fun _ => fun
  | [d] => { results := [.lit (.bool false)], args := [d] }
  | _ => none }
def HallLevelsWrongFalsely : Prop := hallLevelsRow.holds Tryz.pinned (OpenSpec.ofChange hallLevelsWrong)

/-- 'trestlelaw01.HallOrbit': WHATEVER THE INPUT: true; the input reads as it did. -/
def hallOrbitSpec : ChangeSpec := { name := "hallOrbit", fn := fun _ => fun
  | [d1, d2, d3] => { results := [.lit (.bool true)], args := [d1, d2, d3] }
  | _ => none }
def hallOrbitRow : OpenClaim := { program := "ytnopenpheaihmaagreatdoor", sum := "71935b6d8e2124f775c670c2fc92c75359c43524cebab306a87fa4897cef97ee", func := "trestle/trestlelaw01.HallOrbit", spec := "hallOrbit", inPlace := ["internal/abi.NoEscape"], unfollowed := true, recurses := true, named := ["internal/strconv.uint64pow10", "math/bits.deBruijn32tab", "math/bits.deBruijn64tab"], apart := false, laid := [("math/bits.deBruijn32tab", laid_math_bits_deBruijn32tab), ("math/bits.deBruijn64tab", laid_math_bits_deBruijn64tab), ("internal/strconv.uint64pow10", laid_internal_strconv_uint64pow10)] }
def HallOrbitSaid : Prop := hallOrbitRow.holds Tryz.pinned (OpenSpec.ofChange hallOrbitSpec)

/-- ITS FALSE NEIGHBOUR: 'it returns false'. Refute it at one input. -/
def hallOrbitWrong : ChangeSpec := { name := "hallOrbit", fn := fun _ => fun
  | [d1, d2, d3] => { results := [.lit (.bool false)], args := [d1, d2, d3] }
  | _ => none }
def HallOrbitWrongFalsely : Prop := hallOrbitRow.holds Tryz.pinned (OpenSpec.ofChange hallOrbitWrong)

/-- 'trestlelaw01.HallMetric': WHATEVER THE INPUT: true; the input reads as it did. -/
def hallMetricSpec : ChangeSpec := { name := "hallMetric", fn := fun _ => fun
  | [d] => { results := [.lit (.bool true)], args := [d] }
  | _ => none }
def hallMetricRow : OpenClaim := { program := "ytnopenpheaihmaagreatdoor", sum := "71935b6d8e2124f775c670c2fc92c75359c43524cebab306a87fa4897cef97ee", func := "trestle/trestlelaw01.HallMetric", spec := "hallMetric", inPlace := ["internal/abi.NoEscape"], unfollowed := true, recurses := true, named := ["internal/strconv.uint64pow10", "math/bits.deBruijn32tab", "math/bits.deBruijn64tab"], apart := false, laid := [("math/bits.deBruijn32tab", laid_math_bits_deBruijn32tab), ("math/bits.deBruijn64tab", laid_math_bits_deBruijn64tab), ("internal/strconv.uint64pow10", laid_internal_strconv_uint64pow10)] }
def HallMetricSaid : Prop := hallMetricRow.holds Tryz.pinned (OpenSpec.ofChange hallMetricSpec)

/-- ITS FALSE NEIGHBOUR: 'it returns false'. Refute it at one input. -/
def hallMetricWrong : ChangeSpec := { name := "hallMetric", fn := fun _ => fun
  | [d] => { results := [.lit (.bool false)], args := [d] }
  | _ => none }
def HallMetricWrongFalsely : Prop := hallMetricRow.holds Tryz.pinned (OpenSpec.ofChange hallMetricWrong)

/-- 'trestlelaw01.HallWhole': WHATEVER THE INPUT: true; the input reads as it did. -/
def hallWholeSpec : ChangeSpec := { name := "hallWhole", fn := fun _ => fun
  | [d1, d2, d3, d4] => { results := [.lit (.bool true)], args := [d1, d2, d3, d4] }
  | _ => none }
def hallWholeRow : OpenClaim := { program := "ytnopenpheaihmaagreatdoor", sum := "71935b6d8e2124f775c670c2fc92c75359c43524cebab306a87fa4897cef97ee", func := "trestle/trestlelaw01.HallWhole", spec := "hallWhole", inPlace := ["internal/abi.NoEscape"], unfollowed := true, recurses := true, named := ["internal/strconv.uint64pow10", "math/bits.deBruijn32tab", "math/bits.deBruijn64tab"], apart := false, laid := [("math/bits.deBruijn32tab", laid_math_bits_deBruijn32tab), ("math/bits.deBruijn64tab", laid_math_bits_deBruijn64tab), ("internal/strconv.uint64pow10", laid_internal_strconv_uint64pow10)] }
def HallWholeSaid : Prop := hallWholeRow.holds Tryz.pinned (OpenSpec.ofChange hallWholeSpec)

/-- ITS FALSE NEIGHBOUR: 'it returns false'. Refute it at one input. -/
def hallWholeWrong : ChangeSpec := { name := "hallWhole", fn := fun _ => fun
  | [d1, d2, d3, d4] => { results := [.lit (.bool false)], args := [d1, d2, d3, d4] }
  | _ => none }
def HallWholeWrongFalsely : Prop := hallWholeRow.holds Tryz.pinned (OpenSpec.ofChange hallWholeWrong)

/-- 'trestlelaw01.HallSmall': WHATEVER THE INPUT: true; the input reads as it did. -/
def hallSmallSpec : ChangeSpec := { name := "hallSmall", fn := fun _ => fun
  | [] => { results := [.lit (.bool true)], args := [] }
  | _ => none }
def hallSmallRow : OpenClaim := { program := "ytnopenpheaihmaagreatdoor", sum := "71935b6d8e2124f775c670c2fc92c75359c43524cebab306a87fa4897cef97ee", func := "trestle/trestlelaw01.HallSmall", spec := "hallSmall", inPlace := ["internal/abi.NoEscape", "internal/bytealg.IndexByteString", "internal/bytealg.IndexString", "internal/bytealg.CountString"], unfollowed := true, recurses := true, named := ["internal/strconv.uint64pow10", "math/bits.deBruijn32tab", "math/bits.deBruijn64tab", "internal/bytealg.MaxLen", "unicode/utf8.first", "unicode/utf8.acceptRanges"], apart := false, laid := [("math/bits.deBruijn32tab", laid_math_bits_deBruijn32tab), ("math/bits.deBruijn64tab", laid_math_bits_deBruijn64tab), ("internal/strconv.uint64pow10", laid_internal_strconv_uint64pow10), ("unicode/utf8.acceptRanges", laid_unicode_utf8_acceptRanges), ("unicode/utf8.first", laid_unicode_utf8_first)] }
def HallSmallSaid : Prop := hallSmallRow.holds Tryz.pinned (OpenSpec.ofChange hallSmallSpec)

/-- ITS FALSE NEIGHBOUR: 'it returns false'. Refute it at one input. -/
def hallSmallWrong : ChangeSpec := { name := "hallSmall", fn := fun _ => fun
  | [] => { results := [.lit (.bool false)], args := [] }
  | _ => none }
def HallSmallWrongFalsely : Prop := hallSmallRow.holds Tryz.pinned (OpenSpec.ofChange hallSmallWrong)

/-- 'trestlelaw01.HallRefuses': WHATEVER THE INPUT: true; the input reads as it did. -/
def hallRefusesSpec : ChangeSpec := { name := "hallRefuses", fn := fun _ => fun
  | [d1, d2, d3, d4] => { results := [.lit (.bool true)], args := [d1, d2, d3, d4] }
  | _ => none }
def hallRefusesRow : OpenClaim := { program := "ytnopenpheaihmaagreatdoor", sum := "71935b6d8e2124f775c670c2fc92c75359c43524cebab306a87fa4897cef97ee", func := "trestle/trestlelaw01.HallRefuses", spec := "hallRefuses", inPlace := ["internal/abi.NoEscape"], unfollowed := true, recurses := true, named := ["internal/strconv.uint64pow10", "math/bits.deBruijn32tab", "math/bits.deBruijn64tab"], apart := false, laid := [("math/bits.deBruijn32tab", laid_math_bits_deBruijn32tab), ("math/bits.deBruijn64tab", laid_math_bits_deBruijn64tab), ("internal/strconv.uint64pow10", laid_internal_strconv_uint64pow10)] }
def HallRefusesSaid : Prop := hallRefusesRow.holds Tryz.pinned (OpenSpec.ofChange hallRefusesSpec)

/-- ITS FALSE NEIGHBOUR: 'it returns false'. Refute it at one input. -/
def hallRefusesWrong : ChangeSpec := { name := "hallRefuses", fn := fun _ => fun
  | [d1, d2, d3, d4] => { results := [.lit (.bool false)], args := [d1, d2, d3, d4] }
  | _ => none }
def HallRefusesWrongFalsely : Prop := hallRefusesRow.holds Tryz.pinned (OpenSpec.ofChange hallRefusesWrong)

/-- 'trestlelaw01.HallGroup': WHATEVER THE INPUT: true; the input reads as it did. -/
def hallGroupSpec : ChangeSpec := { name := "hallGroup", fn := fun _ => fun
  | [d] => { results := [.lit (.bool true)], args := [d] }
  | _ => none }
def hallGroupRow : OpenClaim := { program := "ytnopenpheaihmaagreatdoor", sum := "71935b6d8e2124f775c670c2fc92c75359c43524cebab306a87fa4897cef97ee", func := "trestle/trestlelaw01.HallGroup", spec := "hallGroup", inPlace := ["internal/abi.NoEscape"], unfollowed := true, recurses := true, named := ["internal/strconv.uint64pow10", "math/bits.deBruijn32tab", "math/bits.deBruijn64tab"], apart := false, laid := [("math/bits.deBruijn32tab", laid_math_bits_deBruijn32tab), ("math/bits.deBruijn64tab", laid_math_bits_deBruijn64tab), ("internal/strconv.uint64pow10", laid_internal_strconv_uint64pow10)] }
def HallGroupSaid : Prop := hallGroupRow.holds Tryz.pinned (OpenSpec.ofChange hallGroupSpec)

/-- ITS FALSE NEIGHBOUR: 'it returns false'. Refute it at one input. -/
def hallGroupWrong : ChangeSpec := { name := "hallGroup", fn := fun _ => fun
  | [d] => { results := [.lit (.bool false)], args := [d] }
  | _ => none }
def HallGroupWrongFalsely : Prop := hallGroupRow.holds Tryz.pinned (OpenSpec.ofChange hallGroupWrong)

/-- 'trestlelaw01.HallRound': WHATEVER THE INPUT: true; the input reads as it did. -/
def hallRoundSpec : ChangeSpec := { name := "hallRound", fn := fun _ => fun
  | [d1, d2] => { results := [.lit (.bool true)], args := [d1, d2] }
  | _ => none }
def hallRoundRow : OpenClaim := { program := "ytnopenpheaihmaagreatdoor", sum := "71935b6d8e2124f775c670c2fc92c75359c43524cebab306a87fa4897cef97ee", func := "trestle/trestlelaw01.HallRound", spec := "hallRound", inPlace := ["internal/abi.NoEscape", "internal/bytealg.IndexByteString", "internal/bytealg.IndexString", "internal/bytealg.CountString"], unfollowed := true, recurses := true, named := ["internal/strconv.uint64pow10", "math/bits.deBruijn32tab", "math/bits.deBruijn64tab", "internal/bytealg.MaxLen", "unicode/utf8.first", "unicode/utf8.acceptRanges"], apart := false, laid := [("math/bits.deBruijn32tab", laid_math_bits_deBruijn32tab), ("math/bits.deBruijn64tab", laid_math_bits_deBruijn64tab), ("internal/strconv.uint64pow10", laid_internal_strconv_uint64pow10), ("unicode/utf8.acceptRanges", laid_unicode_utf8_acceptRanges), ("unicode/utf8.first", laid_unicode_utf8_first)] }
def HallRoundSaid : Prop := hallRoundRow.holds Tryz.pinned (OpenSpec.ofChange hallRoundSpec)

/-- ITS FALSE NEIGHBOUR: 'it returns false'. Refute it at one input. -/
def hallRoundWrong : ChangeSpec := { name := "hallRound", fn := fun _ => fun
  | [d1, d2] => { results := [.lit (.bool false)], args := [d1, d2] }
  | _ => none }
def HallRoundWrongFalsely : Prop := hallRoundRow.holds Tryz.pinned (OpenSpec.ofChange hallRoundWrong)

/- THE SECOND FORM. 'bulk': how many values and letters a reading holds, each counted each time it is reached (what is shared counts as often as it is met; a slice's spare places count too). A statement '..UptoSaid' is the law's where the arguments, and the package variables that the reading takes, are together of bulk at most 1048576: NARROWER than '..Said'. Prove '..Said' where nothing that the law and all that it calls make is longer than what came in: it says more and counts as full. Else prove '..UptoSaid'. A law counts once. -/
mutual
def uptoBulk {H : Type} : DataW H → Nat
  | .lit (.string bytes) => bytes.length + 1
  | .lit _ => 1
  | .nil => 1
  | .ptr d => uptoBulk d + 1
  | .slice elems spare => uptoBulkAll elems + uptoBulkAll spare + 1
  | .agg parts => uptoBulkAll parts + 1
  | .iface _ d => uptoBulk d + 1
  | .map entries => uptoBulkEntries entries + 1
  | .held _ => 1
def uptoBulkAll {H : Type} : List (DataW H) → Nat
  | [] => 0
  | d :: r => uptoBulk d + uptoBulkAll r
def uptoBulkEntries {H : Type} : List (Lit × DataW H) → Nat
  | [] => 0
  | x :: r => uptoBulkEntry x + uptoBulkEntries r
def uptoBulkEntry {H : Type} : Lit × DataW H → Nat
  | (.string bytes, d) => bytes.length + uptoBulk d + 1
  | (_, d) => uptoBulk d + 1
 end
def uptoSmall : (H : Type) → List (DataW H) → Bool := fun _ ds => decide (uptoBulkAll ds ≤ 1048576)
def OpenSpec.upto (s : _root_.Go.ChangeSpec) : _root_.Go.OpenSpec := { _root_.Go.OpenSpec.ofChange s with cond := some uptoSmall }

/-- 'trestlelaw01.HallTurns', WHERE WHAT IT READS IS OF BULK AT MOST 1048576: true; the input reads as it did. -/
def hallTurnsUptoRow : OpenClaim := { program := "ytnopenpheaihmaagreatdoor", sum := "71935b6d8e2124f775c670c2fc92c75359c43524cebab306a87fa4897cef97ee", func := "trestle/trestlelaw01.HallTurns", spec := "hallTurns", inPlace := ["internal/abi.NoEscape"], unfollowed := true, recurses := true, named := ["internal/strconv.uint64pow10", "math/bits.deBruijn32tab", "math/bits.deBruijn64tab"], apart := false, laid := [("math/bits.deBruijn32tab", laid_math_bits_deBruijn32tab), ("math/bits.deBruijn64tab", laid_math_bits_deBruijn64tab), ("internal/strconv.uint64pow10", laid_internal_strconv_uint64pow10)], narrowed := true }
def HallTurnsUptoSaid : Prop := hallTurnsUptoRow.holds Tryz.pinned (OpenSpec.upto hallTurnsSpec)

/-- 'trestlelaw01.HallFormats', WHERE WHAT IT READS IS OF BULK AT MOST 1048576: true; the input reads as it did. -/
def hallFormatsUptoRow : OpenClaim := { program := "ytnopenpheaihmaagreatdoor", sum := "71935b6d8e2124f775c670c2fc92c75359c43524cebab306a87fa4897cef97ee", func := "trestle/trestlelaw01.HallFormats", spec := "hallFormats", inPlace := ["internal/abi.NoEscape"], unfollowed := true, recurses := true, named := ["internal/strconv.uint64pow10", "math/bits.deBruijn32tab", "math/bits.deBruijn64tab"], apart := false, laid := [("math/bits.deBruijn32tab", laid_math_bits_deBruijn32tab), ("math/bits.deBruijn64tab", laid_math_bits_deBruijn64tab), ("internal/strconv.uint64pow10", laid_internal_strconv_uint64pow10)], narrowed := true }
def HallFormatsUptoSaid : Prop := hallFormatsUptoRow.holds Tryz.pinned (OpenSpec.upto hallFormatsSpec)

/-- 'trestlelaw01.HallChecks', WHERE WHAT IT READS IS OF BULK AT MOST 1048576: true; the input reads as it did. -/
def hallChecksUptoRow : OpenClaim := { program := "ytnopenpheaihmaagreatdoor", sum := "71935b6d8e2124f775c670c2fc92c75359c43524cebab306a87fa4897cef97ee", func := "trestle/trestlelaw01.HallChecks", spec := "hallChecks", inPlace := ["internal/abi.NoEscape"], unfollowed := true, recurses := true, named := ["internal/strconv.uint64pow10", "math/bits.deBruijn32tab", "math/bits.deBruijn64tab"], apart := false, laid := [("math/bits.deBruijn32tab", laid_math_bits_deBruijn32tab), ("math/bits.deBruijn64tab", laid_math_bits_deBruijn64tab), ("internal/strconv.uint64pow10", laid_internal_strconv_uint64pow10)], narrowed := true }
def HallChecksUptoSaid : Prop := hallChecksUptoRow.holds Tryz.pinned (OpenSpec.upto hallChecksSpec)

/-- 'trestlelaw01.HallSeats', WHERE WHAT IT READS IS OF BULK AT MOST 1048576: true; the input reads as it did. -/
def hallSeatsUptoRow : OpenClaim := { program := "ytnopenpheaihmaagreatdoor", sum := "71935b6d8e2124f775c670c2fc92c75359c43524cebab306a87fa4897cef97ee", func := "trestle/trestlelaw01.HallSeats", spec := "hallSeats", inPlace := ["internal/abi.NoEscape"], unfollowed := true, recurses := true, named := ["internal/strconv.uint64pow10", "math/bits.deBruijn32tab", "math/bits.deBruijn64tab"], apart := false, laid := [("math/bits.deBruijn32tab", laid_math_bits_deBruijn32tab), ("math/bits.deBruijn64tab", laid_math_bits_deBruijn64tab), ("internal/strconv.uint64pow10", laid_internal_strconv_uint64pow10)], narrowed := true }
def HallSeatsUptoSaid : Prop := hallSeatsUptoRow.holds Tryz.pinned (OpenSpec.upto hallSeatsSpec)

/-- 'trestlelaw01.HallHonours', WHERE WHAT IT READS IS OF BULK AT MOST 1048576: true; the input reads as it did. -/
def hallHonoursUptoRow : OpenClaim := { program := "ytnopenpheaihmaagreatdoor", sum := "71935b6d8e2124f775c670c2fc92c75359c43524cebab306a87fa4897cef97ee", func := "trestle/trestlelaw01.HallHonours", spec := "hallHonours", inPlace := ["internal/abi.NoEscape"], unfollowed := true, recurses := true, named := ["internal/strconv.uint64pow10", "math/bits.deBruijn32tab", "math/bits.deBruijn64tab"], apart := false, laid := [("math/bits.deBruijn32tab", laid_math_bits_deBruijn32tab), ("math/bits.deBruijn64tab", laid_math_bits_deBruijn64tab), ("internal/strconv.uint64pow10", laid_internal_strconv_uint64pow10)], narrowed := true }
def HallHonoursUptoSaid : Prop := hallHonoursUptoRow.holds Tryz.pinned (OpenSpec.upto hallHonoursSpec)

/-- 'trestlelaw01.HallPerms', WHERE WHAT IT READS IS OF BULK AT MOST 1048576: true; the input reads as it did. -/
def hallPermsUptoRow : OpenClaim := { program := "ytnopenpheaihmaagreatdoor", sum := "71935b6d8e2124f775c670c2fc92c75359c43524cebab306a87fa4897cef97ee", func := "trestle/trestlelaw01.HallPerms", spec := "hallPerms", inPlace := ["internal/abi.NoEscape"], unfollowed := true, recurses := true, named := ["internal/strconv.uint64pow10", "math/bits.deBruijn32tab", "math/bits.deBruijn64tab"], apart := false, laid := [("math/bits.deBruijn32tab", laid_math_bits_deBruijn32tab), ("math/bits.deBruijn64tab", laid_math_bits_deBruijn64tab), ("internal/strconv.uint64pow10", laid_internal_strconv_uint64pow10)], narrowed := true }
def HallPermsUptoSaid : Prop := hallPermsUptoRow.holds Tryz.pinned (OpenSpec.upto hallPermsSpec)

/-- 'trestlelaw01.HallParses', WHERE WHAT IT READS IS OF BULK AT MOST 1048576: true; the input reads as it did. -/
def hallParsesUptoRow : OpenClaim := { program := "ytnopenpheaihmaagreatdoor", sum := "71935b6d8e2124f775c670c2fc92c75359c43524cebab306a87fa4897cef97ee", func := "trestle/trestlelaw01.HallParses", spec := "hallParses", inPlace := ["internal/bytealg.IndexByteString", "internal/bytealg.IndexString", "internal/bytealg.CountString", "internal/abi.NoEscape"], unfollowed := true, recurses := true, named := ["internal/bytealg.MaxLen", "unicode/utf8.first", "unicode/utf8.acceptRanges", "internal/strconv.uint64pow10", "math/bits.deBruijn32tab", "math/bits.deBruijn64tab"], apart := false, laid := [("math/bits.deBruijn32tab", laid_math_bits_deBruijn32tab), ("math/bits.deBruijn64tab", laid_math_bits_deBruijn64tab), ("internal/strconv.uint64pow10", laid_internal_strconv_uint64pow10), ("unicode/utf8.acceptRanges", laid_unicode_utf8_acceptRanges), ("unicode/utf8.first", laid_unicode_utf8_first)], narrowed := true }
def HallParsesUptoSaid : Prop := hallParsesUptoRow.holds Tryz.pinned (OpenSpec.upto hallParsesSpec)

/-- 'trestlelaw01.HallNumbers', WHERE WHAT IT READS IS OF BULK AT MOST 1048576: true; the input reads as it did. -/
def hallNumbersUptoRow : OpenClaim := { program := "ytnopenpheaihmaagreatdoor", sum := "71935b6d8e2124f775c670c2fc92c75359c43524cebab306a87fa4897cef97ee", func := "trestle/trestlelaw01.HallNumbers", spec := "hallNumbers", inPlace := ["internal/abi.NoEscape"], unfollowed := true, recurses := true, named := ["internal/strconv.uint64pow10", "math/bits.deBruijn32tab", "math/bits.deBruijn64tab"], apart := false, laid := [("math/bits.deBruijn32tab", laid_math_bits_deBruijn32tab), ("math/bits.deBruijn64tab", laid_math_bits_deBruijn64tab), ("internal/strconv.uint64pow10", laid_internal_strconv_uint64pow10)], narrowed := true }
def HallNumbersUptoSaid : Prop := hallNumbersUptoRow.holds Tryz.pinned (OpenSpec.upto hallNumbersSpec)

/-- 'trestlelaw01.HallLevels', WHERE WHAT IT READS IS OF BULK AT MOST 1048576: true; the input reads as it did. -/
def hallLevelsUptoRow : OpenClaim := { program := "ytnopenpheaihmaagreatdoor", sum := "71935b6d8e2124f775c670c2fc92c75359c43524cebab306a87fa4897cef97ee", func := "trestle/trestlelaw01.HallLevels", spec := "hallLevels", inPlace := ["internal/abi.NoEscape"], unfollowed := true, recurses := true, named := ["internal/strconv.uint64pow10", "math/bits.deBruijn32tab", "math/bits.deBruijn64tab"], apart := false, laid := [("math/bits.deBruijn32tab", laid_math_bits_deBruijn32tab), ("math/bits.deBruijn64tab", laid_math_bits_deBruijn64tab), ("internal/strconv.uint64pow10", laid_internal_strconv_uint64pow10)], narrowed := true }
def HallLevelsUptoSaid : Prop := hallLevelsUptoRow.holds Tryz.pinned (OpenSpec.upto hallLevelsSpec)

/-- 'trestlelaw01.HallOrbit', WHERE WHAT IT READS IS OF BULK AT MOST 1048576: true; the input reads as it did. -/
def hallOrbitUptoRow : OpenClaim := { program := "ytnopenpheaihmaagreatdoor", sum := "71935b6d8e2124f775c670c2fc92c75359c43524cebab306a87fa4897cef97ee", func := "trestle/trestlelaw01.HallOrbit", spec := "hallOrbit", inPlace := ["internal/abi.NoEscape"], unfollowed := true, recurses := true, named := ["internal/strconv.uint64pow10", "math/bits.deBruijn32tab", "math/bits.deBruijn64tab"], apart := false, laid := [("math/bits.deBruijn32tab", laid_math_bits_deBruijn32tab), ("math/bits.deBruijn64tab", laid_math_bits_deBruijn64tab), ("internal/strconv.uint64pow10", laid_internal_strconv_uint64pow10)], narrowed := true }
def HallOrbitUptoSaid : Prop := hallOrbitUptoRow.holds Tryz.pinned (OpenSpec.upto hallOrbitSpec)

/-- 'trestlelaw01.HallMetric', WHERE WHAT IT READS IS OF BULK AT MOST 1048576: true; the input reads as it did. -/
def hallMetricUptoRow : OpenClaim := { program := "ytnopenpheaihmaagreatdoor", sum := "71935b6d8e2124f775c670c2fc92c75359c43524cebab306a87fa4897cef97ee", func := "trestle/trestlelaw01.HallMetric", spec := "hallMetric", inPlace := ["internal/abi.NoEscape"], unfollowed := true, recurses := true, named := ["internal/strconv.uint64pow10", "math/bits.deBruijn32tab", "math/bits.deBruijn64tab"], apart := false, laid := [("math/bits.deBruijn32tab", laid_math_bits_deBruijn32tab), ("math/bits.deBruijn64tab", laid_math_bits_deBruijn64tab), ("internal/strconv.uint64pow10", laid_internal_strconv_uint64pow10)], narrowed := true }
def HallMetricUptoSaid : Prop := hallMetricUptoRow.holds Tryz.pinned (OpenSpec.upto hallMetricSpec)

/-- 'trestlelaw01.HallWhole', WHERE WHAT IT READS IS OF BULK AT MOST 1048576: true; the input reads as it did. -/
def hallWholeUptoRow : OpenClaim := { program := "ytnopenpheaihmaagreatdoor", sum := "71935b6d8e2124f775c670c2fc92c75359c43524cebab306a87fa4897cef97ee", func := "trestle/trestlelaw01.HallWhole", spec := "hallWhole", inPlace := ["internal/abi.NoEscape"], unfollowed := true, recurses := true, named := ["internal/strconv.uint64pow10", "math/bits.deBruijn32tab", "math/bits.deBruijn64tab"], apart := false, laid := [("math/bits.deBruijn32tab", laid_math_bits_deBruijn32tab), ("math/bits.deBruijn64tab", laid_math_bits_deBruijn64tab), ("internal/strconv.uint64pow10", laid_internal_strconv_uint64pow10)], narrowed := true }
def HallWholeUptoSaid : Prop := hallWholeUptoRow.holds Tryz.pinned (OpenSpec.upto hallWholeSpec)

/-- 'trestlelaw01.HallSmall', WHERE WHAT IT READS IS OF BULK AT MOST 1048576: true; the input reads as it did. -/
def hallSmallUptoRow : OpenClaim := { program := "ytnopenpheaihmaagreatdoor", sum := "71935b6d8e2124f775c670c2fc92c75359c43524cebab306a87fa4897cef97ee", func := "trestle/trestlelaw01.HallSmall", spec := "hallSmall", inPlace := ["internal/abi.NoEscape", "internal/bytealg.IndexByteString", "internal/bytealg.IndexString", "internal/bytealg.CountString"], unfollowed := true, recurses := true, named := ["internal/strconv.uint64pow10", "math/bits.deBruijn32tab", "math/bits.deBruijn64tab", "internal/bytealg.MaxLen", "unicode/utf8.first", "unicode/utf8.acceptRanges"], apart := false, laid := [("math/bits.deBruijn32tab", laid_math_bits_deBruijn32tab), ("math/bits.deBruijn64tab", laid_math_bits_deBruijn64tab), ("internal/strconv.uint64pow10", laid_internal_strconv_uint64pow10), ("unicode/utf8.acceptRanges", laid_unicode_utf8_acceptRanges), ("unicode/utf8.first", laid_unicode_utf8_first)], narrowed := true }
def HallSmallUptoSaid : Prop := hallSmallUptoRow.holds Tryz.pinned (OpenSpec.upto hallSmallSpec)

/-- 'trestlelaw01.HallRefuses', WHERE WHAT IT READS IS OF BULK AT MOST 1048576: true; the input reads as it did. -/
def hallRefusesUptoRow : OpenClaim := { program := "ytnopenpheaihmaagreatdoor", sum := "71935b6d8e2124f775c670c2fc92c75359c43524cebab306a87fa4897cef97ee", func := "trestle/trestlelaw01.HallRefuses", spec := "hallRefuses", inPlace := ["internal/abi.NoEscape"], unfollowed := true, recurses := true, named := ["internal/strconv.uint64pow10", "math/bits.deBruijn32tab", "math/bits.deBruijn64tab"], apart := false, laid := [("math/bits.deBruijn32tab", laid_math_bits_deBruijn32tab), ("math/bits.deBruijn64tab", laid_math_bits_deBruijn64tab), ("internal/strconv.uint64pow10", laid_internal_strconv_uint64pow10)], narrowed := true }
def HallRefusesUptoSaid : Prop := hallRefusesUptoRow.holds Tryz.pinned (OpenSpec.upto hallRefusesSpec)

/-- 'trestlelaw01.HallGroup', WHERE WHAT IT READS IS OF BULK AT MOST 1048576: true; the input reads as it did. -/
def hallGroupUptoRow : OpenClaim := { program := "ytnopenpheaihmaagreatdoor", sum := "71935b6d8e2124f775c670c2fc92c75359c43524cebab306a87fa4897cef97ee", func := "trestle/trestlelaw01.HallGroup", spec := "hallGroup", inPlace := ["internal/abi.NoEscape"], unfollowed := true, recurses := true, named := ["internal/strconv.uint64pow10", "math/bits.deBruijn32tab", "math/bits.deBruijn64tab"], apart := false, laid := [("math/bits.deBruijn32tab", laid_math_bits_deBruijn32tab), ("math/bits.deBruijn64tab", laid_math_bits_deBruijn64tab), ("internal/strconv.uint64pow10", laid_internal_strconv_uint64pow10)], narrowed := true }
def HallGroupUptoSaid : Prop := hallGroupUptoRow.holds Tryz.pinned (OpenSpec.upto hallGroupSpec)

/-- 'trestlelaw01.HallRound', WHERE WHAT IT READS IS OF BULK AT MOST 1048576: true; the input reads as it did. -/
def hallRoundUptoRow : OpenClaim := { program := "ytnopenpheaihmaagreatdoor", sum := "71935b6d8e2124f775c670c2fc92c75359c43524cebab306a87fa4897cef97ee", func := "trestle/trestlelaw01.HallRound", spec := "hallRound", inPlace := ["internal/abi.NoEscape", "internal/bytealg.IndexByteString", "internal/bytealg.IndexString", "internal/bytealg.CountString"], unfollowed := true, recurses := true, named := ["internal/strconv.uint64pow10", "math/bits.deBruijn32tab", "math/bits.deBruijn64tab", "internal/bytealg.MaxLen", "unicode/utf8.first", "unicode/utf8.acceptRanges"], apart := false, laid := [("math/bits.deBruijn32tab", laid_math_bits_deBruijn32tab), ("math/bits.deBruijn64tab", laid_math_bits_deBruijn64tab), ("internal/strconv.uint64pow10", laid_internal_strconv_uint64pow10), ("unicode/utf8.acceptRanges", laid_unicode_utf8_acceptRanges), ("unicode/utf8.first", laid_unicode_utf8_first)], narrowed := true }
def HallRoundUptoSaid : Prop := hallRoundUptoRow.holds Tryz.pinned (OpenSpec.upto hallRoundSpec)

end Rows
end Go.Proofs.YtnopenpheaihmaaGreatDoor
