/-
  The book's examples,run;what is known of the functions that are called.
-/
import Derived.Test.YtidmdnenlgjpeaaGreatDoorM4
namespace Go.Proofs.Xx
open Go Go.RowKit
set_option linter.unusedVariables false
set_option maxRecDepth 100000
theorem Py:(match jX Tryz.prog Xd (exec Tryz.prog Xd 3000) 19 [] ⟨.e,0,0⟩ with|some (.bool true,_)=>true | _=>false)=true:=by decide +kernel
def Xh [Flag]:Extern:=Jn (Xe Xd 19 true) 203
theorem qdM [Flag]:Vs Tryz.prog Xh:=by
 have h:=Py
 split at h
 ·rename_i h' hc
  exact WI (yl qaR (J8 qaR Kv (Wj follows qaR Kv 3000)) hc)
 ·cases h
end Go.Proofs.Xx
