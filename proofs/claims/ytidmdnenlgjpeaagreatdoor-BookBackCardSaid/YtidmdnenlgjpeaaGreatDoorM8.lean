/-
  The book's examples,run;what is known of the functions that are called.
-/
import Derived.Test.YtidmdnenlgjpeaaGreatDoorM4
set_option linter.unusedVariables false
set_option maxRecDepth 100000
namespace Go.Proofs.Xx
open Go Go.RowKit
theorem qaV:(match Qb Tryz.prog Xd (exec Tryz.prog Xd 3000) 19 [] ⟨.e,0,0⟩ with|some (.bool true,_)=>true | _=>false)=true:=by decide +kernel
def Xh [Flag]:Extern:=Jg (JB (XB Xd 19 true) 203) 183
theorem qfs [Flag]:VA Tryz.prog Xh:=by
 have h:=qaV;split at h
 ·rename_i h' hc
  exact kR (xN (vF qci (Xv qci pq (xq follows qci pq 3000)) hc))
 ·cases h
end Go.Proofs.Xx
