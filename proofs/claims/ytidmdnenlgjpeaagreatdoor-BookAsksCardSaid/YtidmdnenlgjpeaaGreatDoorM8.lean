/-
  The book's examples, run; what is known of the functions that are called.
-/
import Derived.Test.YtidmdnenlgjpeaaGreatDoorM4

namespace Go.Proofs.Xx
open Go Go.RowKit
set_option linter.unusedVariables false
set_option maxRecDepth 100000
theorem awake_run : (match callA Tryz.prog Xd (exec Tryz.prog Xd 3000) 19 [] ⟨.e, 0, 0⟩ with | some (.bool true, _) => true | _ => false) = true := by decide +kernel
/-- What is known of the functions that are called. -/
def Xh [Flag] : Extern := withDigits (withKnown Xd 19 true) 203
theorem Xh_ok [Flag] : XOk Tryz.prog Xh := by
  have h := awake_run
  split at h
  · rename_i h' hc
    exact withDigits_ok (withKnown_ok Xd_ok (callA_sound Xd_ok noNumG (exec_sound follows Xd_ok noNumG 3000)) hc)
  · cases h
end Go.Proofs.Xx
