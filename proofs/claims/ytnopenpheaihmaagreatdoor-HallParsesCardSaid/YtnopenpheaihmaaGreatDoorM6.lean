/-
  A checked run of the code, and its rules.
-/
import Derived.Test.YtnopenpheaihmaaGreatDoorM3
namespace Go.Proofs.Xx
open Go Go.RowKit
set_option linter.unusedVariables false
set_option maxRecDepth 100000
theorem awake_run : (match callA Tryz.prog (externNoEscape 200) (exec Tryz.prog (externNoEscape 200) 3000) 21 [] ⟨.e, 0, 0⟩ with | some (.bool true, _) => true | _ => false) = true := by decide +kernel
theorem itoa_runs : DecUpTo Tryz.prog Xd 100 111 1001 := ((((((((((((((((((((DecUpTo.zero.step runs111_0).step runs111_50).step runs111_100).step runs111_150).step runs111_200).step runs111_250).step runs111_300).step runs111_350).step runs111_400).step runs111_450).step runs111_500).step runs111_550).step runs111_600).step runs111_650).step runs111_700).step runs111_750).step runs111_800).step runs111_850).step runs111_900).step runs111_950).step runs111_1000
theorem deci_runs : DecUpTo Tryz.prog Xd 100 108 1001 := ((((((((((DecUpTo.zero.step runs108_0).step runs108_100).step runs108_200).step runs108_300).step runs108_400).step runs108_500).step runs108_600).step runs108_700).step runs108_800).step runs108_900).step runs108_1000
theorem bytes_ok [Glob] : XOk Tryz.prog (withBytes (externNoEscape 200) 121 228) :=
  withBytes_ok awake_noEscape Tryz.func121 Tryz.func228 (by kernel_rfl) (by kernel_rfl) (by kernel_rfl) (by kernel_rfl) (by kernel_rfl) (by kernel_rfl) (by kernel_rfl) (by kernel_rfl)
/-- What is known of the functions that are called: NoEscape gives its argument, awake gives true, numbers are written in digits. -/
def Xh : Extern := withDec (withDec (withDigits (withKnown (withBytes (externNoEscape 200) 121 228) 21 true) 224) 111) 108
theorem Xh_ok : XOk Tryz.prog Xh := by
  have h := awake_run
  split at h
  · rename_i h' hc
    exact withDec_ok (withDec_ok (withDigits_ok <| withKnown_ok bytes_ok (callA_sound awake_noEscape noNumG (exec_sound follows awake_noEscape noNumG 3000)) hc)
      (callA_sound Xd_ok noNumG (exec_sound follows Xd_ok noNumG 100)) fun n hn => itoa_runs n (by omega))
      (callA_sound Xd_ok noNumG (exec_sound follows Xd_ok noNumG 100)) fun n hn => deci_runs n (by omega)
  · cases h
end Go.Proofs.Xx
