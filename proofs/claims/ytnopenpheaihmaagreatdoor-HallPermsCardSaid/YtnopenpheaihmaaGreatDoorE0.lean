/-
  What is known of the listed variables (nothing is asked of them here); a block of cells that is there in every world.
-/
import Derived.Test.YtnopenpheaihmaaGreatDoorA23
import Derived.Test.YtnopenpheaihmaaGreatDoorRows
import Derived.Lib.LaidTab
namespace Go.Proofs.Xx
open Go Go.RowKit Go.Proofs
instance globAny : Glob := ⟨fun _ => True⟩
theorem Xh_none (f : FuncId) (h1 : f ≠ 21) (h2 : f ≠ 200) (us : List Value) (h : AH) : Xh f us h = none := by
  have e1 : Nat.beq f 21 = false := by rw [Bool.eq_false_iff]; intro q; exact h1 (Nat.eq_of_beq_eq_true q)
  have e2 : Nat.beq f 200 = false := by rw [Bool.eq_false_iff]; intro q; exact h2 (Nat.eq_of_beq_eq_true q)
  unfold Xh withKnown externNoEscape
  simp only [e1, e2]
theorem gDe : Tryz.prog.globalNamed "math/bits.deBruijn32tab" = some 2 := by kernel_rfl
theorem gDeType : (Tryz.prog.globals[2]?).map (·.type) = some 211 := by kernel_rfl
theorem cell_block {W : World} {b o : Nat} {v : Value} (h : W.cell? ⟨b, o, none⟩ = some v) : ∃ (k : Nat) (cc : Array Value) (el : TypeId) (fr : Nat × Nat), W.heap[k]? = some (.cells cc el fr) := by
  unfold World.cell? at h
  split at h
  · rename_i c e f hc; exact ⟨b, c, e, f, hc⟩
  · cases h
theorem cells_there {W : World} {rest : List (String × DataW Unit)} (h : laidMet Tryz.prog (("math/bits.deBruijn32tab", YtnopenpheaihmaaGreatDoor.Rows.laid_math_bits_deBruijn32tab) :: rest) W) :
    ∃ (k : Nat) (cc : Array Value) (el : TypeId) (fr : Nat × Nat), W.heap[k]? = some (.cells cc el fr) := by
  have t : Lib.TabIs Tryz.prog W "math/bits.deBruijn32tab" .u8 [0, 1, 28, 2, 29, 14, 24, 3, 30, 22, 20, 15, 25, 17, 4, 8, 31, 27, 13, 23, 21, 19, 16, 7, 26, 12, 18, 6, 11, 5, 10, 9] :=
    Lib.tabIs_of_head gDe gDeType (n := 32) (e := 5) (by kernel_rfl) (by kernel_rfl) (by kernel_rfl) (by kernel_rfl) h
  exact cell_block (t.cell gDe 0 (by decide))
end Go.Proofs.Xx
