/-
  The book's examples,run;what is known of the functions that are called.
-/
import Derived.Test.YtidmdnenlgjpeaaGreatDoorM4
set_option linter.unusedVariables false
set_option maxRecDepth 100000
namespace Go.Proofs.Xx
open Go Go.RowKit
theorem qa9:(match QO Tryz.prog Xd (exec Tryz.prog Xd 3000) 19 [] ⟨.e,0,0⟩ with|some (.bool true,_)=>true | _=>false)=true:=by decide +kernel
def Xh [Flag]:Extern:=Xi (X4 Xd 19 true) 203
theorem qfX [Flag]:WI Tryz.prog Xh:=by
 have h:=qa9;split at h
 ·rename_i h' hc
  exact yN (wW qcq (XY qcq Px (yw follows qcq Px 3000)) hc)
 ·cases h
end Go.Proofs.Xx
