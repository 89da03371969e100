/-
  NARROWER THAN 'FOR EVERY INPUT', by the rows' own cells (each row's printed sentence says how): ServiceMetric: laid · ServiceCuts: laid · ServiceFair: laid · ServiceForged: laid · ServiceShortest: laid.
  DERIVED. THE GIVEN ROWS OF THIS SEAT. 5 by the template 'for every input the law returns true; each argument reads behind the call as it read before'; 0 by the template 'total and deterministic' (their statements: YticddjokabmfmaaGreatDoorTotals.lean).
  GIVEN WITH THE SEED: the statements are not yours to turn. If you find one false, say at which input.
  Laid BY PROGRAM, IN A SANDBOX (cutbox-rows.mjs): the forced cells as the released guide's own fill.sh prints them over the translation 289aede7fabb3a17… (all of the seat's roots in one cut). By AI agents, Wed Nov 11 2026. No macro, syntax, notation, axiom, sorry.
-/
import Derived.Test.YticddjokabmfmaaGreatDoorChecked
import GoSem.Claim
import GoSem.ClaimJoined
import GoSem.ClaimMapViews
import Derived.JoinedTies
import Derived.KernelRfl
namespace Go.Proofs.YticddjokabmfmaaGreatDoor
/- THE CELL 'sum', in the pinned program and in every row, IS THE sha256 OF THE DUMP (.gsa) THAT YticddjokabmfmaaGreatDoorProg.lean LOADS. Nothing in Lean hashes anything: it is a label: what it is worth is what the hold of that sum in a sandbox is worth. -/
noncomputable def Tryz.pinned : Pinned := { name := "yticddjokabmfmaagreatdoor", sum := "289aede7fabb3a17eb5be69ad2648af9976deae70ab0c056db85782ff2233ede", checked := Tryz.checked }
namespace Rows
def none {H : Type} : Left H := { results := [], args := [] }

/- WHAT THE LISTED PACKAGE-LEVEL VARIABLES READ AS WHEN THE CALL BEGINS. Each datum BY PROGRAM (the guide's laid-datum.mjs) off the statement by which the dump's own 'gosem.cut.vars' lays the variable. In a bare row this is a premise. The card (YticddjokabmfmaaGreatDoorCards.lean) ties it to the program's text. -/
def laid_math_bits_deBruijn32tab {H : Type} : DataW H := .agg [.lit (.int .u8 0), .lit (.int .u8 1), .lit (.int .u8 28), .lit (.int .u8 2), .lit (.int .u8 29), .lit (.int .u8 14), .lit (.int .u8 24), .lit (.int .u8 3), .lit (.int .u8 30), .lit (.int .u8 22), .lit (.int .u8 20), .lit (.int .u8 15), .lit (.int .u8 25), .lit (.int .u8 17), .lit (.int .u8 4), .lit (.int .u8 8), .lit (.int .u8 31), .lit (.int .u8 27), .lit (.int .u8 13), .lit (.int .u8 23), .lit (.int .u8 21), .lit (.int .u8 19), .lit (.int .u8 16), .lit (.int .u8 7), .lit (.int .u8 26), .lit (.int .u8 12), .lit (.int .u8 18), .lit (.int .u8 6), .lit (.int .u8 11), .lit (.int .u8 5), .lit (.int .u8 10), .lit (.int .u8 9)]
def laid_math_bits_deBruijn64tab {H : Type} : DataW H := .agg [.lit (.int .u8 0), .lit (.int .u8 1), .lit (.int .u8 56), .lit (.int .u8 2), .lit (.int .u8 57), .lit (.int .u8 49), .lit (.int .u8 28), .lit (.int .u8 3), .lit (.int .u8 61), .lit (.int .u8 58), .lit (.int .u8 42), .lit (.int .u8 50), .lit (.int .u8 38), .lit (.int .u8 29), .lit (.int .u8 17), .lit (.int .u8 4), .lit (.int .u8 62), .lit (.int .u8 47), .lit (.int .u8 59), .lit (.int .u8 36), .lit (.int .u8 45), .lit (.int .u8 43), .lit (.int .u8 51), .lit (.int .u8 22), .lit (.int .u8 53), .lit (.int .u8 39), .lit (.int .u8 33), .lit (.int .u8 30), .lit (.int .u8 24), .lit (.int .u8 18), .lit (.int .u8 12), .lit (.int .u8 5), .lit (.int .u8 63), .lit (.int .u8 55), .lit (.int .u8 48), .lit (.int .u8 27), .lit (.int .u8 60), .lit (.int .u8 41), .lit (.int .u8 37), .lit (.int .u8 16), .lit (.int .u8 46), .lit (.int .u8 35), .lit (.int .u8 44), .lit (.int .u8 21), .lit (.int .u8 52), .lit (.int .u8 32), .lit (.int .u8 23), .lit (.int .u8 11), .lit (.int .u8 54), .lit (.int .u8 26), .lit (.int .u8 40), .lit (.int .u8 15), .lit (.int .u8 34), .lit (.int .u8 20), .lit (.int .u8 31), .lit (.int .u8 10), .lit (.int .u8 25), .lit (.int .u8 14), .lit (.int .u8 19), .lit (.int .u8 9), .lit (.int .u8 13), .lit (.int .u8 8), .lit (.int .u8 7), .lit (.int .u8 6)]
def laid_internal_strconv_uint64pow10 {H : Type} : DataW H := .agg [.lit (.int .u64 1), .lit (.int .u64 10), .lit (.int .u64 100), .lit (.int .u64 1000), .lit (.int .u64 10000), .lit (.int .u64 100000), .lit (.int .u64 1000000), .lit (.int .u64 10000000), .lit (.int .u64 100000000), .lit (.int .u64 1000000000), .lit (.int .u64 10000000000), .lit (.int .u64 100000000000), .lit (.int .u64 1000000000000), .lit (.int .u64 10000000000000), .lit (.int .u64 100000000000000), .lit (.int .u64 1000000000000000), .lit (.int .u64 10000000000000000), .lit (.int .u64 100000000000000000), .lit (.int .u64 1000000000000000000), .lit (.int .u64 10000000000000000000)]

/-- 'trestlelaw11.ServiceMetric': WHATEVER THE INPUT: true; the input reads as it did. -/
def serviceMetricSpec : ChangeSpec := { name := "serviceMetric", fn := fun _ => fun
  | [d1, d2, d3, d4, d5, d6] => { results := [.lit (.bool true)], args := [d1, d2, d3, d4, d5, d6] }
  | _ => none }
def serviceMetricRow : OpenClaim := { program := "yticddjokabmfmaagreatdoor", sum := "289aede7fabb3a17eb5be69ad2648af9976deae70ab0c056db85782ff2233ede", func := "trestle/trestlelaw11.ServiceMetric", spec := "serviceMetric", inPlace := ["internal/bytealg.abigen_runtime_cmpstring", "slices.overlaps[trestle/api.Tie]", "internal/abi.NoEscape", "internal/bytealg.MakeNoZero"], unfollowed := true, recurses := true, named := ["internal/strconv.uint64pow10", "math/bits.deBruijn32tab", "math/bits.deBruijn64tab"], apart := false, laid := [("math/bits.deBruijn32tab", laid_math_bits_deBruijn32tab), ("math/bits.deBruijn64tab", laid_math_bits_deBruijn64tab), ("internal/strconv.uint64pow10", laid_internal_strconv_uint64pow10)] }
def ServiceMetricSaid : Prop := serviceMetricRow.holds Tryz.pinned (OpenSpec.ofChange serviceMetricSpec)

/-- ITS FALSE NEIGHBOUR: 'it returns false'. Refute it at one input. -/
def serviceMetricWrong : ChangeSpec := { name := "serviceMetric", fn := fun _ => fun
  | [d1, d2, d3, d4, d5, d6] => { results := [.lit (.bool false)], args := [d1, d2, d3, d4, d5, d6] }
  | _ => none }
def ServiceMetricWrongFalsely : Prop := serviceMetricRow.holds Tryz.pinned (OpenSpec.ofChange serviceMetricWrong)

/-- 'trestlelaw11.ServiceCuts': WHATEVER THE INPUT: true; the input reads as it did. -/
def serviceCutsSpec : ChangeSpec := { name := "serviceCuts", fn := fun _ => fun
  | [d1, d2, d3, d4, d5, d6] => { results := [.lit (.bool true)], args := [d1, d2, d3, d4, d5, d6] }
  | _ => none }
def serviceCutsRow : OpenClaim := { program := "yticddjokabmfmaagreatdoor", sum := "289aede7fabb3a17eb5be69ad2648af9976deae70ab0c056db85782ff2233ede", func := "trestle/trestlelaw11.ServiceCuts", spec := "serviceCuts", inPlace := ["internal/bytealg.abigen_runtime_cmpstring", "slices.overlaps[trestle/api.Tie]", "internal/abi.NoEscape", "internal/bytealg.MakeNoZero"], unfollowed := true, recurses := true, named := ["internal/strconv.uint64pow10", "math/bits.deBruijn32tab", "math/bits.deBruijn64tab"], apart := false, laid := [("math/bits.deBruijn32tab", laid_math_bits_deBruijn32tab), ("math/bits.deBruijn64tab", laid_math_bits_deBruijn64tab), ("internal/strconv.uint64pow10", laid_internal_strconv_uint64pow10)] }
def ServiceCutsSaid : Prop := serviceCutsRow.holds Tryz.pinned (OpenSpec.ofChange serviceCutsSpec)

/-- ITS FALSE NEIGHBOUR: 'it returns false'. Refute it at one input. -/
def serviceCutsWrong : ChangeSpec := { name := "serviceCuts", fn := fun _ => fun
  | [d1, d2, d3, d4, d5, d6] => { results := [.lit (.bool false)], args := [d1, d2, d3, d4, d5, d6] }
  | _ => none }
def ServiceCutsWrongFalsely : Prop := serviceCutsRow.holds Tryz.pinned (OpenSpec.ofChange serviceCutsWrong)

/-- 'trestlelaw11.ServiceFair': WHATEVER THE INPUT: true; the input reads as it did. -/
def serviceFairSpec : ChangeSpec := { name := "serviceFair", fn := fun _ => fun
  | [d1, d2, d3, d4, d5] => { results := [.lit (.bool true)], args := [d1, d2, d3, d4, d5] }
  | _ => none }
def serviceFairRow : OpenClaim := { program := "yticddjokabmfmaagreatdoor", sum := "289aede7fabb3a17eb5be69ad2648af9976deae70ab0c056db85782ff2233ede", func := "trestle/trestlelaw11.ServiceFair", spec := "serviceFair", inPlace := ["internal/bytealg.abigen_runtime_cmpstring", "slices.overlaps[trestle/api.Tie]", "internal/abi.NoEscape", "internal/bytealg.MakeNoZero"], unfollowed := true, recurses := true, named := ["internal/strconv.uint64pow10", "math/bits.deBruijn32tab", "math/bits.deBruijn64tab"], apart := false, laid := [("math/bits.deBruijn32tab", laid_math_bits_deBruijn32tab), ("math/bits.deBruijn64tab", laid_math_bits_deBruijn64tab), ("internal/strconv.uint64pow10", laid_internal_strconv_uint64pow10)] }
def ServiceFairSaid : Prop := serviceFairRow.holds Tryz.pinned (OpenSpec.ofChange serviceFairSpec)

/-- ITS FALSE NEIGHBOUR: 'it returns false'. Refute it at one input. -/
def serviceFairWrong : ChangeSpec := { name := "serviceFair", fn := fun _ => fun
  | [d1, d2, d3, d4, d5] => { results := [.lit (.bool false)], args := [d1, d2, d3, d4, d5] }
  | _ => none }
def ServiceFairWrongFalsely : Prop := serviceFairRow.holds Tryz.pinned (OpenSpec.ofChange serviceFairWrong)

/-- 'trestlelaw11.ServiceForged': WHATEVER THE INPUT: true; the input reads as it did. -/
def serviceForgedSpec : ChangeSpec := { name := "serviceForged", fn := fun _ => fun
  | [d1, d2, d3, d4, d5, d6, d7, d8] => { results := [.lit (.bool true)], args := [d1, d2, d3, d4, d5, d6, d7, d8] }
  | _ => none }
def serviceForgedRow : OpenClaim := { program := "yticddjokabmfmaagreatdoor", sum := "289aede7fabb3a17eb5be69ad2648af9976deae70ab0c056db85782ff2233ede", func := "trestle/trestlelaw11.ServiceForged", spec := "serviceForged", inPlace := ["internal/bytealg.abigen_runtime_cmpstring", "slices.overlaps[trestle/api.Tie]", "internal/abi.NoEscape", "internal/bytealg.MakeNoZero"], unfollowed := true, recurses := true, named := ["internal/strconv.uint64pow10", "math/bits.deBruijn32tab", "math/bits.deBruijn64tab"], apart := false, laid := [("math/bits.deBruijn32tab", laid_math_bits_deBruijn32tab), ("math/bits.deBruijn64tab", laid_math_bits_deBruijn64tab), ("internal/strconv.uint64pow10", laid_internal_strconv_uint64pow10)] }
def ServiceForgedSaid : Prop := serviceForgedRow.holds Tryz.pinned (OpenSpec.ofChange serviceForgedSpec)

/-- ITS FALSE NEIGHBOUR: 'it returns false'. Refute it at one input. -/
def serviceForgedWrong : ChangeSpec := { name := "serviceForged", fn := fun _ => fun
  | [d1, d2, d3, d4, d5, d6, d7, d8] => { results := [.lit (.bool false)], args := [d1, d2, d3, d4, d5, d6, d7, d8] }
  | _ => none }
def ServiceForgedWrongFalsely : Prop := serviceForgedRow.holds Tryz.pinned (OpenSpec.ofChange serviceForgedWrong)

/-- 'trestlelaw11.ServiceShortest': WHATEVER THE INPUT: true; the input reads as it did. -/
def serviceShortestSpec : ChangeSpec := { name := "serviceShortest", fn := fun _ => fun
  | [d1, d2, d3, d4] => { results := [.lit (.bool true)], args := [d1, d2, d3, d4] }
  | _ => none }
def serviceShortestRow : OpenClaim := { program := "yticddjokabmfmaagreatdoor", sum := "289aede7fabb3a17eb5be69ad2648af9976deae70ab0c056db85782ff2233ede", func := "trestle/trestlelaw11.ServiceShortest", spec := "serviceShortest", inPlace := ["internal/bytealg.abigen_runtime_cmpstring", "slices.overlaps[trestle/api.Tie]", "internal/abi.NoEscape", "internal/bytealg.MakeNoZero"], unfollowed := true, recurses := true, named := ["internal/strconv.uint64pow10", "math/bits.deBruijn32tab", "math/bits.deBruijn64tab"], apart := false, laid := [("math/bits.deBruijn32tab", laid_math_bits_deBruijn32tab), ("math/bits.deBruijn64tab", laid_math_bits_deBruijn64tab), ("internal/strconv.uint64pow10", laid_internal_strconv_uint64pow10)] }
def ServiceShortestSaid : Prop := serviceShortestRow.holds Tryz.pinned (OpenSpec.ofChange serviceShortestSpec)

/-- ITS FALSE NEIGHBOUR: 'it returns false'. Refute it at one input. -/
def serviceShortestWrong : ChangeSpec := { name := "serviceShortest", fn := fun _ => fun
  | [d1, d2, d3, d4] => { results := [.lit (.bool false)], args := [d1, d2, d3, d4] }
  | _ => none }
def ServiceShortestWrongFalsely : Prop := serviceShortestRow.holds Tryz.pinned (OpenSpec.ofChange serviceShortestWrong)

/- THE SECOND FORM. 'bulk': how many values and letters a reading holds, each counted each time it is reached (what is shared counts as often as it is met; a slice's spare places count too). A statement '..UptoSaid' is the law's where the arguments, and the package variables that the reading takes, are together of bulk at most 1048576: NARROWER than '..Said'. Prove '..Said' where nothing that the law and all that it calls make is longer than what came in: it says more and counts as full. Else prove '..UptoSaid'. A law counts once. -/
mutual
def uptoBulk {H : Type} : DataW H → Nat
  | .lit (.string bytes) => bytes.length + 1
  | .lit _ => 1
  | .nil => 1
  | .ptr d => uptoBulk d + 1
  | .slice elems spare => uptoBulkAll elems + uptoBulkAll spare + 1
  | .agg parts => uptoBulkAll parts + 1
  | .iface _ d => uptoBulk d + 1
  | .map entries => uptoBulkEntries entries + 1
  | .held _ => 1
def uptoBulkAll {H : Type} : List (DataW H) → Nat
  | [] => 0
  | d :: r => uptoBulk d + uptoBulkAll r
def uptoBulkEntries {H : Type} : List (Lit × DataW H) → Nat
  | [] => 0
  | x :: r => uptoBulkEntry x + uptoBulkEntries r
def uptoBulkEntry {H : Type} : Lit × DataW H → Nat
  | (.string bytes, d) => bytes.length + uptoBulk d + 1
  | (_, d) => uptoBulk d + 1
 end
def uptoSmall : (H : Type) → List (DataW H) → Bool := fun _ ds => decide (uptoBulkAll ds ≤ 1048576)
def OpenSpec.upto (s : _root_.Go.ChangeSpec) : _root_.Go.OpenSpec := { _root_.Go.OpenSpec.ofChange s with cond := some uptoSmall }

/-- 'trestlelaw11.ServiceMetric', WHERE WHAT IT READS IS OF BULK AT MOST 1048576: true; the input reads as it did. -/
def serviceMetricUptoRow : OpenClaim := { program := "yticddjokabmfmaagreatdoor", sum := "289aede7fabb3a17eb5be69ad2648af9976deae70ab0c056db85782ff2233ede", func := "trestle/trestlelaw11.ServiceMetric", spec := "serviceMetric", inPlace := ["internal/bytealg.abigen_runtime_cmpstring", "slices.overlaps[trestle/api.Tie]", "internal/abi.NoEscape", "internal/bytealg.MakeNoZero"], unfollowed := true, recurses := true, named := ["internal/strconv.uint64pow10", "math/bits.deBruijn32tab", "math/bits.deBruijn64tab"], apart := false, laid := [("math/bits.deBruijn32tab", laid_math_bits_deBruijn32tab), ("math/bits.deBruijn64tab", laid_math_bits_deBruijn64tab), ("internal/strconv.uint64pow10", laid_internal_strconv_uint64pow10)], narrowed := true }
def ServiceMetricUptoSaid : Prop := serviceMetricUptoRow.holds Tryz.pinned (OpenSpec.upto serviceMetricSpec)

/-- 'trestlelaw11.ServiceCuts', WHERE WHAT IT READS IS OF BULK AT MOST 1048576: true; the input reads as it did. -/
def serviceCutsUptoRow : OpenClaim := { program := "yticddjokabmfmaagreatdoor", sum := "289aede7fabb3a17eb5be69ad2648af9976deae70ab0c056db85782ff2233ede", func := "trestle/trestlelaw11.ServiceCuts", spec := "serviceCuts", inPlace := ["internal/bytealg.abigen_runtime_cmpstring", "slices.overlaps[trestle/api.Tie]", "internal/abi.NoEscape", "internal/bytealg.MakeNoZero"], unfollowed := true, recurses := true, named := ["internal/strconv.uint64pow10", "math/bits.deBruijn32tab", "math/bits.deBruijn64tab"], apart := false, laid := [("math/bits.deBruijn32tab", laid_math_bits_deBruijn32tab), ("math/bits.deBruijn64tab", laid_math_bits_deBruijn64tab), ("internal/strconv.uint64pow10", laid_internal_strconv_uint64pow10)], narrowed := true }
def ServiceCutsUptoSaid : Prop := serviceCutsUptoRow.holds Tryz.pinned (OpenSpec.upto serviceCutsSpec)

/-- 'trestlelaw11.ServiceFair', WHERE WHAT IT READS IS OF BULK AT MOST 1048576: true; the input reads as it did. -/
def serviceFairUptoRow : OpenClaim := { program := "yticddjokabmfmaagreatdoor", sum := "289aede7fabb3a17eb5be69ad2648af9976deae70ab0c056db85782ff2233ede", func := "trestle/trestlelaw11.ServiceFair", spec := "serviceFair", inPlace := ["internal/bytealg.abigen_runtime_cmpstring", "slices.overlaps[trestle/api.Tie]", "internal/abi.NoEscape", "internal/bytealg.MakeNoZero"], unfollowed := true, recurses := true, named := ["internal/strconv.uint64pow10", "math/bits.deBruijn32tab", "math/bits.deBruijn64tab"], apart := false, laid := [("math/bits.deBruijn32tab", laid_math_bits_deBruijn32tab), ("math/bits.deBruijn64tab", laid_math_bits_deBruijn64tab), ("internal/strconv.uint64pow10", laid_internal_strconv_uint64pow10)], narrowed := true }
def ServiceFairUptoSaid : Prop := serviceFairUptoRow.holds Tryz.pinned (OpenSpec.upto serviceFairSpec)

/-- 'trestlelaw11.ServiceForged', WHERE WHAT IT READS IS OF BULK AT MOST 1048576: true; the input reads as it did. -/
def serviceForgedUptoRow : OpenClaim := { program := "yticddjokabmfmaagreatdoor", sum := "289aede7fabb3a17eb5be69ad2648af9976deae70ab0c056db85782ff2233ede", func := "trestle/trestlelaw11.ServiceForged", spec := "serviceForged", inPlace := ["internal/bytealg.abigen_runtime_cmpstring", "slices.overlaps[trestle/api.Tie]", "internal/abi.NoEscape", "internal/bytealg.MakeNoZero"], unfollowed := true, recurses := true, named := ["internal/strconv.uint64pow10", "math/bits.deBruijn32tab", "math/bits.deBruijn64tab"], apart := false, laid := [("math/bits.deBruijn32tab", laid_math_bits_deBruijn32tab), ("math/bits.deBruijn64tab", laid_math_bits_deBruijn64tab), ("internal/strconv.uint64pow10", laid_internal_strconv_uint64pow10)], narrowed := true }
def ServiceForgedUptoSaid : Prop := serviceForgedUptoRow.holds Tryz.pinned (OpenSpec.upto serviceForgedSpec)

/-- 'trestlelaw11.ServiceShortest', WHERE WHAT IT READS IS OF BULK AT MOST 1048576: true; the input reads as it did. -/
def serviceShortestUptoRow : OpenClaim := { program := "yticddjokabmfmaagreatdoor", sum := "289aede7fabb3a17eb5be69ad2648af9976deae70ab0c056db85782ff2233ede", func := "trestle/trestlelaw11.ServiceShortest", spec := "serviceShortest", inPlace := ["internal/bytealg.abigen_runtime_cmpstring", "slices.overlaps[trestle/api.Tie]", "internal/abi.NoEscape", "internal/bytealg.MakeNoZero"], unfollowed := true, recurses := true, named := ["internal/strconv.uint64pow10", "math/bits.deBruijn32tab", "math/bits.deBruijn64tab"], apart := false, laid := [("math/bits.deBruijn32tab", laid_math_bits_deBruijn32tab), ("math/bits.deBruijn64tab", laid_math_bits_deBruijn64tab), ("internal/strconv.uint64pow10", laid_internal_strconv_uint64pow10)], narrowed := true }
def ServiceShortestUptoSaid : Prop := serviceShortestUptoRow.holds Tryz.pinned (OpenSpec.upto serviceShortestSpec)

end Rows
end Go.Proofs.YticddjokabmfmaaGreatDoor
