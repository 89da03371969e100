/-
  A checked run of the code, and its rules.
-/
import Derived.Test.YtnopenpheaihmaaGreatDoorM3
import Derived.Test.YtnopenpheaihmaaGreatDoorProg
import Derived.KernelRfl
namespace Go.Proofs.Xx
open Go Go.RowKit
set_option linter.unusedVariables false

theorem awake_noEscape [Glob] : XOk Tryz.prog (externNoEscape 200) :=
  externNoEscape_ok Tryz.func200 (by kernel_rfl) (by kernel_rfl) (by kernel_rfl) (by kernel_rfl)
theorem noNumG (f : FuncId) (fn : Func) (h : Tryz.prog.funcs[f]? = some fn) (hb : fn.body.isSome = true) : (fn.name == "runtime.NumGoroutine") = false := by
  have h0 : Tryz.prog.funcs.all (fun fn => !(fn.name == "runtime.NumGoroutine")) = true := by kernel_rfl
  have := Array.all_eq_true_iff_forall_mem.1 h0 fn (Array.mem_of_getElem? h)
  simpa using this
theorem follows : Tryz.prog.follows .mixedOrders = true := by kernel_rfl
theorem awake_run : (match callA Tryz.prog (externNoEscape 200) (exec Tryz.prog (externNoEscape 200) 3000) 21 [] ⟨.e, 0, 0⟩ with | some (.bool true, _) => true | _ => false) = true := by decide +kernel
/-- What is known of the functions that are called: NoEscape gives its argument, awake gives true. -/
def Xh : Extern := withKnown (externNoEscape 200) 21 true
theorem Xh_ok [Glob] : XOk Tryz.prog Xh := by
  have h := awake_run
  split at h
  · rename_i h' hc
    exact withKnown_ok awake_noEscape (callA_sound awake_noEscape noNumG (exec_sound follows awake_noEscape noNumG 3000)) hc
  · cases h
end Go.Proofs.Xx
