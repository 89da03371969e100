/-
  The book's examples,run;what is known of the functions that are called.
-/
import Derived.Test.YtidmdnenlgjpeaaGreatDoorM4
set_option linter.unusedVariables false
set_option maxRecDepth 100000
namespace Go.Proofs.Xx
open Go Go.RowKit
theorem P6:(match jZ Tryz.prog Xd (exec Tryz.prog Xd 3000) 19 [] ⟨.e,0,0⟩ with|some (.bool true,_)=>true | _=>false)=true:=by decide +kernel
def Xh [Flag]:Extern:=Jq (Xf Xd 19 true) 203
theorem qd1 [Flag]:VE Tryz.prog Xh:=by
 have h:=P6
 split at h
 ·rename_i h' hc
  exact xk (yI qbj (J9 qbj KI (WL follows qbj KI 3000)) hc)
 ·cases h
end Go.Proofs.Xx
