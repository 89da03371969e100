/-
  The table of powers, where a row lists it.
-/
import Derived.Test.YticddjokabmfmaaGreatDoorM13

namespace Go.Proofs.Xx
set_option linter.unusedSectionVars false
set_option linter.unusedVariables false
set_option linter.unusedSimpArgs false
open Go Go.RowKit Go.Proofs
theorem gPowType : (Tryz.prog.globals[1]?).map (·.type) = some 254 := by kernel_rfl
theorem glob_pow [Flag] {W : World} {x y : String × DataW Unit} {rest : List (String × DataW Unit)} (h : laidMet Tryz.prog (x :: y :: ("internal/strconv.uint64pow10", YticddjokabmfmaaGreatDoor.Rows.laid_internal_strconv_uint64pow10) :: rest) W) (hS : W.ShapedOpen Tryz.prog) :
    Glob.ok W.heap.size W.heap := by
  refine ⟨(max_there hS).1, (max_there hS).2, fun _ => ?_⟩
  have t : Lib.TabIs Tryz.prog W "internal/strconv.uint64pow10" .u64 Lib.pow10Tab :=
    Lib.tabIs_of_head gPow gPowType (n := 20) (e := 147) (by kernel_rfl) (by kernel_rfl) (by kernel_rfl) (by kernel_rfl) (laidMet.tail (laidMet.tail h))
  unfold Lib.TabIs World.var? at t
  rw [gPow] at t
  simp only [Option.bind_some] at t
  split at t
  · rename_i cs el fr hc
    cases t
    exact ⟨el, fr, hc⟩
  · cases t
end Go.Proofs.Xx
