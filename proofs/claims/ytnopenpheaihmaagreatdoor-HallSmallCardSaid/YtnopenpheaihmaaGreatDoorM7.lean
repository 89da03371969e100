/-
  A checked run of the code,and its rules.
-/
import Derived.Test.YtnopenpheaihmaaGreatDoorM3
namespace Go.Proofs.Xx
open Go Go.RowKit
set_option linter.unusedVariables false
set_option maxRecDepth 100000
theorem qdc:(match jH Tryz.prog (zU 200) (exec Tryz.prog (zU 200) 3000) 21 [] ⟨.e,0,0⟩ with|some (.bool true,_)=>true | _=>false)=true:=by decide +kernel
theorem qcG:DecUpTo Tryz.prog Xd 100 111 1001:=((((((((((((((((((((DecUpTo.zero.step qct).step qaP).step Po).step Pn).step Pm).step Pj).step Pi).step Ph).step Pg).step pY).step pX).step pW).step pV).step pU).step pR).step pO).step pM).step pK).step pJ).step pI).step gV
theorem qcT:DecUpTo Tryz.prog Xd 100 108 1001:=((((((((((DecUpTo.zero.step qcu).step PH).step PG).step PE).step PD).step Pz).step Py).step Px).step Pv).step Pq).step gW
theorem qel [Glob]:Gw Tryz.prog (withBytes (zU 200) 121 228) :=
 gq QU Tryz.func121 Tryz.func228 (by kernel_rfl) (by kernel_rfl) (by kernel_rfl) (by kernel_rfl) (by kernel_rfl) (by kernel_rfl) (by kernel_rfl) (by kernel_rfl)
def Xh:Extern:=YS (YS (ZX (XT (withBytes (zU 200) 121 228) 21 true) 224) 111) 108
theorem qhz:Gw Tryz.prog Xh:=by
 have h:=qdc
 split at h
 ·rename_i h' hc
  exact xm (xm (Ym <| gp qel (Zq QU YJ (J7 follows QU YJ 3000)) hc)
   (Zq qb6 YJ (J7 follows qb6 YJ 100)) fun n hn=>qcG n (by omega))
   (Zq qb6 YJ (J7 follows qb6 YJ 100)) fun n hn=>qcT n (by omega)
 ·cases h
end Go.Proofs.Xx
