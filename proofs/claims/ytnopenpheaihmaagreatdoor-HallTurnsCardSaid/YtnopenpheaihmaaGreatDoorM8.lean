/-
  Facts of this program's types; the reference's permutation check.
-/
import Derived.Test.YtnopenpheaihmaaGreatDoorM4
import Derived.Test.YtnopenpheaihmaaGreatDoorM7
import Derived.KernelRfl
import Derived.Test.YtnopenpheaihmaaGreatDoorM5

namespace Go.Proofs.Xx
open Go Go.Proofs
set_option linter.unusedSimpArgs false
set_option linter.unusedVariables false

theorem und23 : Tryz.prog.underlying 23 = some (.slice 3) := by kernel_rfl
theorem sz3 : sizeT Tryz.prog 3 = some 1 := by kernel_rfl
theorem agg3 : isAggT Tryz.prog 3 = some false := by kernel_rfl
theorem z3 : zeroCellsT Tryz.prog 3 = some [.int .i64 0] := by kernel_rfl
theorem z4 : zeroCellsT Tryz.prog 4 = some [.bool false] := by kernel_rfl
/-- v reads as the ints l. -/
abbrev RdI (h : AH) (v : Value) (l : List Int) : Prop := Rd h v 1 l.length (ints l)

def refPerm (l : List Int) : Bool := decide (∀ i : Nat, i < l.length → (i : Int) ∈ l)

end Go.Proofs.Xx

/-
  The hall's small functions.
-/
namespace Go.Proofs.Xx
open Go Go.Proofs
set_option linter.unusedSimpArgs false
set_option linter.unusedVariables false
set_option maxRecDepth 100000

def BoolIs (v : Value) (p : Prop) : Prop := (v = .bool true ∧ p) ∨ (v = .bool false ∧ ¬ p)

def roundSize (a b : Int) : Int := if 1 ≤ a ∧ a ≤ 24 ∧ b = 0 then a else 0
def longSize (a b : Int) : Int := if 1 ≤ a ∧ a ≤ 11 ∧ 0 ≤ b ∧ b ≤ 2 then 2 * a + b else 0
def shoeSize (a b : Int) : Int := if 1 ≤ a ∧ a ≤ 8 ∧ 1 ≤ b ∧ b ≤ 8 then a + 2 * b else 0
def rowSize (a b : Int) : Int := if 1 ≤ a ∧ a ≤ 24 ∧ 0 ≤ b ∧ b ≤ a then a else 0

theorem roundSeats_ok {h : AH} (a b : Int) : Fn Tryz.prog Xh 143 [.int .i64 a, .int .i64 b] h (fun v h' => v = .int .i64 (roundSize a b) ∧ h' = h) := by
  refine Fn_K rfl Tryz.func143 rfl rfl ?_
  all_goals (repeat' (first | refine K_seq ?_ | refine k_cond rfl ?_ | refine K_skip ?_ | refine K_exit ?_ | refine k_block ?_ | refine K_scope ?_ | (refine K_region (id := 0) ?_; refine mv ?_; refine KO_nil ?_) | (refine K_region (id := 1) ?_; refine mv ?_; (first | refine cT ?_ | refine cF ?_ | (refine cS ?_ ?_ <;> intro hc)) <;> (refine mv ?_; (first | refine off ?_ | refine mv ?_); (first | refine off ?_ | (first | refine cT ?_ | refine cF ?_ | (refine cS ?_ ?_ <;> intro hc))) <;> (refine vl ?_; refine mv ?_; (first | refine off ?_ | refine mv ?_); (first | refine off ?_ | (first | refine cT ?_ | refine cF ?_ | (refine cS ?_ ?_ <;> intro hc))) <;> (refine vl ?_; refine KO_nil ?_)))) | (refine K_region (id := 2) ?_; refine mv ?_; refine KO_nil ?_) | (refine K_region (id := 3) ?_; refine mv ?_; refine mv ?_; refine KO_nil ?_)))
  all_goals (refine K_ret ⟨_, rfl, ?_⟩)
  all_goals (refine ⟨?_, rfl⟩; unfold roundSize; first | (rw [if_pos (by omega)]; rfl) | (rw [if_neg (by omega)]; rfl))
theorem longSeats_ok {h : AH} (a b : Int) : Fn Tryz.prog Xh 148 [.int .i64 a, .int .i64 b] h (fun v h' => v = .int .i64 (longSize a b) ∧ h' = h) := by
  refine Fn_K rfl Tryz.func148 rfl rfl ?_
  all_goals (repeat' (first | refine K_seq ?_ | refine k_cond rfl ?_ | refine K_skip ?_ | refine K_exit ?_ | refine k_block ?_ | refine K_scope ?_ | (refine K_region (id := 0) ?_; refine mv ?_; refine KO_nil ?_) | (refine K_region (id := 1) ?_; refine mv ?_; (first | refine cT ?_ | refine cF ?_ | (refine cS ?_ ?_ <;> intro hc)) <;> (refine mv ?_; (first | refine off ?_ | refine mv ?_); (first | refine off ?_ | (first | refine cT ?_ | refine cF ?_ | (refine cS ?_ ?_ <;> intro hc))) <;> (refine vl ?_; refine mv ?_; (first | refine off ?_ | refine mv ?_); (first | refine off ?_ | (first | refine cT ?_ | refine cF ?_ | (refine cS ?_ ?_ <;> intro hc))) <;> (refine vl ?_; refine mv ?_; (first | refine off ?_ | refine mv ?_); (first | refine off ?_ | (first | refine cT ?_ | refine cF ?_ | (refine cS ?_ ?_ <;> intro hc))) <;> (refine vl ?_; refine KO_nil ?_))))) | (refine K_region (id := 2) ?_; refine mv ?_; refine KO_nil ?_) | (refine K_region (id := 3) ?_; refine mv ?_; (first | refine ml ?_ | refine vl ?_); refine mv ?_; (first | refine ad ?_ | refine vl ?_); refine mv ?_; refine KO_nil ?_)))
  all_goals (refine K_ret ⟨_, rfl, ?_⟩)
  all_goals (refine ⟨?_, rfl⟩; unfold longSize; first | (rw [if_pos (by omega)]; rfl) | (rw [if_neg (by omega)]; rfl))
theorem shoeSeats_ok {h : AH} (a b : Int) : Fn Tryz.prog Xh 153 [.int .i64 a, .int .i64 b] h (fun v h' => v = .int .i64 (shoeSize a b) ∧ h' = h) := by
  refine Fn_K rfl Tryz.func153 rfl rfl ?_
  all_goals (repeat' (first | refine K_seq ?_ | refine k_cond rfl ?_ | refine K_skip ?_ | refine K_exit ?_ | refine k_block ?_ | refine K_scope ?_ | (refine K_region (id := 0) ?_; refine mv ?_; refine KO_nil ?_) | (refine K_region (id := 1) ?_; refine mv ?_; (first | refine cT ?_ | refine cF ?_ | (refine cS ?_ ?_ <;> intro hc)) <;> (refine mv ?_; (first | refine off ?_ | refine mv ?_); (first | refine off ?_ | (first | refine cT ?_ | refine cF ?_ | (refine cS ?_ ?_ <;> intro hc))) <;> (refine vl ?_; refine mv ?_; (first | refine off ?_ | refine mv ?_); (first | refine off ?_ | (first | refine cT ?_ | refine cF ?_ | (refine cS ?_ ?_ <;> intro hc))) <;> (refine vl ?_; refine mv ?_; (first | refine off ?_ | refine mv ?_); (first | refine off ?_ | (first | refine cT ?_ | refine cF ?_ | (refine cS ?_ ?_ <;> intro hc))) <;> (refine vl ?_; refine KO_nil ?_))))) | (refine K_region (id := 2) ?_; refine mv ?_; refine KO_nil ?_) | (refine K_region (id := 3) ?_; refine mv ?_; refine mv ?_; (first | refine ml ?_ | refine vl ?_); (first | refine ad ?_ | refine vl ?_); refine mv ?_; refine KO_nil ?_)))
  all_goals (refine K_ret ⟨_, rfl, ?_⟩)
  all_goals (refine ⟨?_, rfl⟩; unfold shoeSize; first | (rw [if_pos (by omega)]; rfl) | (rw [if_neg (by omega)]; rfl))
theorem rowSeats_ok {h : AH} (a b : Int) : Fn Tryz.prog Xh 158 [.int .i64 a, .int .i64 b] h (fun v h' => v = .int .i64 (rowSize a b) ∧ h' = h) := by
  refine Fn_K rfl Tryz.func158 rfl rfl ?_
  all_goals (repeat' (first | refine K_seq ?_ | refine k_cond rfl ?_ | refine K_skip ?_ | refine K_exit ?_ | refine k_block ?_ | refine K_scope ?_ | (refine K_region (id := 0) ?_; refine mv ?_; refine KO_nil ?_) | (refine K_region (id := 1) ?_; refine mv ?_; (first | refine cT ?_ | refine cF ?_ | (refine cS ?_ ?_ <;> intro hc)) <;> (refine mv ?_; (first | refine off ?_ | refine mv ?_); (first | refine off ?_ | (first | refine cT ?_ | refine cF ?_ | (refine cS ?_ ?_ <;> intro hc))) <;> (refine vl ?_; refine mv ?_; (first | refine off ?_ | refine mv ?_); (first | refine off ?_ | (first | refine cT ?_ | refine cF ?_ | (refine cS ?_ ?_ <;> intro hc))) <;> (refine vl ?_; refine mv ?_; (first | refine off ?_ | refine mv ?_); (first | refine off ?_ | refine mv ?_); (first | refine off ?_ | (first | refine cT ?_ | refine cF ?_ | (refine cS ?_ ?_ <;> intro hc))) <;> (refine vl ?_; refine KO_nil ?_))))) | (refine K_region (id := 2) ?_; refine mv ?_; refine KO_nil ?_) | (refine K_region (id := 3) ?_; refine mv ?_; refine mv ?_; refine KO_nil ?_)))
  all_goals (refine K_ret ⟨_, rfl, ?_⟩)
  all_goals (refine ⟨?_, rfl⟩; unfold rowSize; first | (rw [if_pos (by omega)]; rfl) | (rw [if_neg (by omega)]; rfl))

theorem two_ok {h : AH} (a b : Int) (h1 : 0 ≤ a ∧ a ≤ 100 ∧ 0 ≤ b ∧ b ≤ 100) : Fn Tryz.prog Xh 192 [.int .i64 a, .int .i64 b] h (fun v h' => v = .int .i64 (a + min b 1) ∧ h' = h) := by
  refine Fn_K rfl Tryz.func192 rfl rfl ?_
  all_goals (repeat' (first | refine K_seq ?_ | refine k_cond rfl ?_ | refine K_skip ?_ | refine K_exit ?_ | refine k_block ?_ | refine K_scope ?_ | (refine K_region (id := 0) ?_; refine mv ?_; refine KO_nil ?_) | (refine K_region (id := 1) ?_; refine mv ?_; refine mv ?_; refine mn ?_; (first | refine ad ?_ | refine vl ?_); refine mv ?_; refine KO_nil ?_)))
  all_goals (refine K_ret ⟨_, rfl, ?_⟩)
  all_goals (refine ⟨rfl, rfl⟩)

/-! Which seats are beside, which across: x is before y. -/
def roundB (a b x y : Int) : Prop := y - x = 1 ∨ y - x = a - 1
def roundA (a b x y : Int) : Prop := a % 2 = 0 ∧ y - x = a / 2
def longB (a b x y : Int) : Prop :=
  if b = 2 ∧ y = 2 * a + 1 then x = 0 ∨ x = y - 1
  else if 0 < b ∧ (x = a ∨ y = a) then y - x = 1
  else y - x = 1 ∧ (y < a ∨ x ≥ a + min b 1)
def longA (a b x y : Int) : Prop := if b = 2 ∧ y = 2 * a + 1 then x = a else x < a ∧ x + y = a + min b 1 + a - 1
def shoeB (a b x y : Int) : Prop := y - x = 1
def shoeA (a b x y : Int) : Prop := x < b ∧ x + y = a + 2 * b - 1
def rowB (a b x y : Int) : Prop := y - x = 1 ∧ (b = 0 ∨ y % b ≠ 0)

/-- The sizes and the seats are within bounds. -/
def Bds (a b x y : Int) : Prop := 0 ≤ a ∧ a ≤ 100 ∧ 0 ≤ b ∧ b ≤ 100 ∧ 0 ≤ x ∧ x ≤ 1000 ∧ 0 ≤ y ∧ y ≤ 1000

theorem roundBeside_ok {h : AH} (a b x y : Int) (hb : Bds a b x y) : Fn Tryz.prog Xh 144 [.int .i64 a, .int .i64 b, .int .i64 x, .int .i64 y] h (fun v h' => BoolIs v (roundB a b x y) ∧ h' = h) := by
  unfold Bds at hb
  refine Fn_K rfl Tryz.func144 rfl rfl ?_
  all_goals (repeat' (first | refine K_seq ?_ | refine k_cond rfl ?_ | refine K_skip ?_ | refine K_exit ?_ | refine k_block ?_ | refine K_scope ?_ | (refine K_region (id := 0) ?_; refine mv ?_; refine KO_nil ?_) | (refine K_region (id := 1) ?_; refine mv ?_; refine mv ?_; (first | refine sb ?_ | refine vl ?_); (first | refine cT ?_ | refine cF ?_ | (refine cS ?_ ?_ <;> intro hc)) <;> (refine mv ?_; (first | refine off ?_ | refine mv ?_); (first | refine off ?_ | refine mv ?_); (first | refine off ?_ | (first | refine sb ?_ | refine vl ?_)); (first | refine off ?_ | refine mv ?_); (first | refine off ?_ | (first | refine sb ?_ | refine vl ?_)); (first | refine off ?_ | (first | refine cT ?_ | refine cF ?_ | (refine cS ?_ ?_ <;> intro hc))) <;> (refine vl ?_; refine mv ?_; refine KO_nil ?_)))))
  all_goals (refine K_ret ⟨_, rfl, ?_⟩)
  all_goals (refine ⟨?_, rfl⟩; unfold BoolIs roundB; first | exact .inl ⟨rfl, by omega⟩ | exact .inr ⟨rfl, by omega⟩)
theorem roundAcross_ok {h : AH} (a b x y : Int) (hb : Bds a b x y) : Fn Tryz.prog Xh 145 [.int .i64 a, .int .i64 b, .int .i64 x, .int .i64 y] h (fun v h' => BoolIs v (roundA a b x y) ∧ h' = h) := by
  unfold Bds at hb
  refine Fn_K rfl Tryz.func145 rfl rfl ?_
  all_goals (repeat' (first | refine K_seq ?_ | refine k_cond rfl ?_ | refine K_skip ?_ | refine K_exit ?_ | refine k_block ?_ | refine K_scope ?_ | (refine K_region (id := 0) ?_; refine mv ?_; refine KO_nil ?_) | (refine K_region (id := 1) ?_; refine mv ?_; (first | refine rm ?_ | refine vl ?_); (first | refine cT ?_ | refine cF ?_ | (refine cS ?_ ?_ <;> intro hc)) <;> (refine mv ?_; (first | refine off ?_ | refine mv ?_); (first | refine off ?_ | refine mv ?_); (first | refine off ?_ | (first | refine sb ?_ | refine vl ?_)); (first | refine off ?_ | refine mv ?_); (first | refine off ?_ | (first | refine qu ?_ | refine vl ?_)); (first | refine off ?_ | (first | refine cT ?_ | refine cF ?_ | (refine cS ?_ ?_ <;> intro hc))) <;> (refine vl ?_; refine mv ?_; refine KO_nil ?_)))))
  all_goals (refine K_ret ⟨_, rfl, ?_⟩)
  all_goals (refine ⟨?_, rfl⟩; unfold BoolIs roundA; first | exact .inl ⟨rfl, by omega⟩ | exact .inr ⟨rfl, by omega⟩)
theorem longBeside_ok {h : AH} (a b x y : Int) (hb : Bds a b x y) : Fn Tryz.prog Xh 149 [.int .i64 a, .int .i64 b, .int .i64 x, .int .i64 y] h (fun v h' => BoolIs v (longB a b x y) ∧ h' = h) := by
  unfold Bds at hb
  refine Fn_K rfl Tryz.func149 rfl rfl ?_
  all_goals (repeat' (first | refine K_seq ?_ | refine k_cond rfl ?_ | refine K_skip ?_ | refine K_exit ?_ | refine k_block ?_ | refine K_scope ?_ | (refine K_region (id := 0) ?_; refine mv ?_; refine KO_nil ?_) | (refine K_region (id := 1) ?_; refine mv ?_; refine mv ?_)))
  (refine KO_fn rfl rfl rfl rfl rfl ((two_ok _ _ (by omega)).mono ?_); rintro _ _ ⟨rfl, rfl⟩) <;> (refine mv ?_; refine KO_nil ?_)
  all_goals (repeat' (first | refine K_seq ?_ | refine k_cond rfl ?_ | refine K_skip ?_ | refine K_exit ?_ | refine k_block ?_ | refine K_scope ?_ | (refine K_region (id := 2) ?_; refine mv ?_; (first | refine cT ?_ | refine cF ?_ | (refine cS ?_ ?_ <;> intro hc)) <;> (refine mv ?_; (first | refine off ?_ | refine mv ?_); (first | refine off ?_ | refine mv ?_); (first | refine off ?_ | (first | refine ml ?_ | refine vl ?_)); (first | refine off ?_ | (first | refine ad ?_ | refine vl ?_)); (first | refine off ?_ | (first | refine cT ?_ | refine cF ?_ | (refine cS ?_ ?_ <;> intro hc))) <;> (refine vl ?_; refine mv ?_; refine KO_nil ?_))) | (refine K_region (id := 3) ?_; refine mv ?_; (first | refine cT ?_ | refine cF ?_ | (refine cS ?_ ?_ <;> intro hc)) <;> (refine mv ?_; (first | refine off ?_ | refine mv ?_); (first | refine off ?_ | refine mv ?_); (first | refine off ?_ | (first | refine sb ?_ | refine vl ?_)); (first | refine off ?_ | (first | refine cT ?_ | refine cF ?_ | (refine cS ?_ ?_ <;> intro hc))) <;> (refine vl ?_; refine mv ?_; refine KO_nil ?_))) | (refine K_region (id := 4) ?_; refine mv ?_; (first | refine cT ?_ | refine cF ?_ | (refine cS ?_ ?_ <;> intro hc)) <;> (refine mv ?_; (first | refine off ?_ | refine mv ?_); (first | refine off ?_ | refine mv ?_); (first | refine off ?_ | (first | refine cT ?_ | refine cF ?_ | (refine cS ?_ ?_ <;> intro hc))) <;> ((first | refine off ?_ | refine mv ?_); (first | refine off ?_ | refine mv ?_); (first | refine off ?_ | refine mv ?_); (first | refine off ?_ | (first | refine cT ?_ | refine cF ?_ | (refine cS ?_ ?_ <;> intro hc))) <;> ((first | refine off ?_ | refine vl ?_); refine vl ?_; refine mv ?_; refine KO_nil ?_)))) | (refine K_region (id := 5) ?_; refine mv ?_; refine mv ?_; (first | refine sb ?_ | refine vl ?_); (first | refine cT ?_ | refine cF ?_ | (refine cS ?_ ?_ <;> intro hc)) <;> (refine mv ?_; refine KO_nil ?_)) | (refine K_region (id := 6) ?_; refine mv ?_; refine mv ?_; (first | refine sb ?_ | refine vl ?_); (first | refine cT ?_ | refine cF ?_ | (refine cS ?_ ?_ <;> intro hc)) <;> (refine mv ?_; (first | refine off ?_ | refine mv ?_); (first | refine off ?_ | refine mv ?_); (first | refine off ?_ | (first | refine cT ?_ | refine cF ?_ | (refine cS ?_ ?_ <;> intro hc))) <;> ((first | refine off ?_ | refine mv ?_); (first | refine off ?_ | refine mv ?_); (first | refine off ?_ | refine mv ?_); (first | refine off ?_ | (first | refine cT ?_ | refine cF ?_ | (refine cS ?_ ?_ <;> intro hc))) <;> ((first | refine off ?_ | refine vl ?_); refine vl ?_; refine mv ?_; refine KO_nil ?_))))))
  all_goals (refine K_ret ⟨_, rfl, ?_⟩)
  all_goals (refine ⟨?_, rfl⟩; unfold BoolIs longB; (repeat' split) <;> first | exact .inl ⟨rfl, by omega⟩ | exact .inr ⟨rfl, by omega⟩)
theorem longAcross_ok {h : AH} (a b x y : Int) (hb : Bds a b x y) : Fn Tryz.prog Xh 150 [.int .i64 a, .int .i64 b, .int .i64 x, .int .i64 y] h (fun v h' => BoolIs v (longA a b x y) ∧ h' = h) := by
  unfold Bds at hb
  refine Fn_K rfl Tryz.func150 rfl rfl ?_
  all_goals (repeat' (first | refine K_seq ?_ | refine k_cond rfl ?_ | refine K_skip ?_ | refine K_exit ?_ | refine k_block ?_ | refine K_scope ?_ | (refine K_region (id := 0) ?_; refine mv ?_; refine KO_nil ?_) | (refine K_region (id := 1) ?_; refine mv ?_; (first | refine cT ?_ | refine cF ?_ | (refine cS ?_ ?_ <;> intro hc)) <;> (refine mv ?_; (first | refine off ?_ | refine mv ?_); (first | refine off ?_ | refine mv ?_); (first | refine off ?_ | (first | refine ml ?_ | refine vl ?_)); (first | refine off ?_ | (first | refine ad ?_ | refine vl ?_)); (first | refine off ?_ | (first | refine cT ?_ | refine cF ?_ | (refine cS ?_ ?_ <;> intro hc))) <;> (refine vl ?_; refine KO_nil ?_))) | (refine K_region (id := 2) ?_; refine mv ?_; refine mv ?_; (first | refine cT ?_ | refine cF ?_ | (refine cS ?_ ?_ <;> intro hc)) <;> (refine mv ?_; refine KO_nil ?_)) | (refine K_region (id := 3) ?_; refine mv ?_; refine mv ?_; (first | refine cT ?_ | refine cF ?_ | (refine cS ?_ ?_ <;> intro hc)) <;> (refine mv ?_; (first | refine off ?_ | refine mv ?_); (first | refine off ?_ | refine mv ?_); (first | refine off ?_ | (first | refine ad ?_ | refine vl ?_)); (first | refine off ?_ | refine mv ?_); (first | refine off ?_ | refine mv ?_); (first | (refine off ?_; (first | refine off ?_ | refine mv ?_); (first | refine off ?_ | (first | refine ad ?_ | refine vl ?_)); (first | refine off ?_ | (first | refine sb ?_ | refine vl ?_)); (first | refine off ?_ | (first | refine cT ?_ | refine cF ?_ | (refine cS ?_ ?_ <;> intro hc))) <;> (refine vl ?_; refine mv ?_; refine KO_nil ?_)) | skip)))))
  any_goals ((refine KO_fn rfl rfl rfl rfl rfl ((two_ok _ _ (by omega)).mono ?_); rintro _ _ ⟨rfl, rfl⟩) <;> ((first | refine off ?_ | refine mv ?_); (first | refine off ?_ | (first | refine ad ?_ | refine vl ?_)); (first | refine off ?_ | (first | refine sb ?_ | refine vl ?_)); (first | refine off ?_ | (first | refine cT ?_ | refine cF ?_ | (refine cS ?_ ?_ <;> intro hc))) <;> (refine vl ?_; refine mv ?_; refine KO_nil ?_)))
  all_goals (repeat' (first | refine K_seq ?_ | refine k_cond rfl ?_ | refine K_skip ?_ | refine K_exit ?_ | refine k_block ?_ | refine K_scope ?_))
  all_goals (refine K_ret ⟨_, rfl, ?_⟩)
  all_goals (refine ⟨?_, rfl⟩; unfold BoolIs longA; (repeat' split) <;> first | exact .inl ⟨rfl, by omega⟩ | exact .inr ⟨rfl, by omega⟩)
theorem shoeBeside_ok {h : AH} (a b x y : Int) (hb : Bds a b x y) : Fn Tryz.prog Xh 154 [.int .i64 a, .int .i64 b, .int .i64 x, .int .i64 y] h (fun v h' => BoolIs v (shoeB a b x y) ∧ h' = h) := by
  unfold Bds at hb
  refine Fn_K rfl Tryz.func154 rfl rfl ?_
  all_goals (repeat' (first | refine K_seq ?_ | refine k_cond rfl ?_ | refine K_skip ?_ | refine K_exit ?_ | refine k_block ?_ | refine K_scope ?_ | (refine K_region (id := 0) ?_; refine mv ?_; refine KO_nil ?_) | (refine K_region (id := 1) ?_; refine mv ?_; refine mv ?_; (first | refine sb ?_ | refine vl ?_); (first | refine cT ?_ | refine cF ?_ | (refine cS ?_ ?_ <;> intro hc)) <;> (refine mv ?_; refine KO_nil ?_))))
  all_goals (refine K_ret ⟨_, rfl, ?_⟩)
  all_goals (refine ⟨?_, rfl⟩; unfold BoolIs shoeB; first | exact .inl ⟨rfl, by omega⟩ | exact .inr ⟨rfl, by omega⟩)
theorem shoeAcross_ok {h : AH} (a b x y : Int) (hb : Bds a b x y) : Fn Tryz.prog Xh 155 [.int .i64 a, .int .i64 b, .int .i64 x, .int .i64 y] h (fun v h' => BoolIs v (shoeA a b x y) ∧ h' = h) := by
  unfold Bds at hb
  refine Fn_K rfl Tryz.func155 rfl rfl ?_
  all_goals (repeat' (first | refine K_seq ?_ | refine k_cond rfl ?_ | refine K_skip ?_ | refine K_exit ?_ | refine k_block ?_ | refine K_scope ?_ | (refine K_region (id := 0) ?_; refine mv ?_; refine KO_nil ?_) | (refine K_region (id := 1) ?_; refine mv ?_; refine mv ?_; (first | refine cT ?_ | refine cF ?_ | (refine cS ?_ ?_ <;> intro hc)) <;> (refine mv ?_; (first | refine off ?_ | refine mv ?_); (first | refine off ?_ | refine mv ?_); (first | refine off ?_ | (first | refine ad ?_ | refine vl ?_)); (first | refine off ?_ | refine mv ?_); (first | refine off ?_ | refine mv ?_); (first | refine off ?_ | (first | refine ml ?_ | refine vl ?_)); (first | refine off ?_ | (first | refine ad ?_ | refine vl ?_)); (first | refine off ?_ | (first | refine sb ?_ | refine vl ?_)); (first | refine off ?_ | (first | refine cT ?_ | refine cF ?_ | (refine cS ?_ ?_ <;> intro hc))) <;> (refine vl ?_; refine mv ?_; refine KO_nil ?_)))))
  all_goals (refine K_ret ⟨_, rfl, ?_⟩)
  all_goals (refine ⟨?_, rfl⟩; unfold BoolIs shoeA; first | exact .inl ⟨rfl, by omega⟩ | exact .inr ⟨rfl, by omega⟩)
theorem rowBeside_ok {h : AH} (a b x y : Int) (hb : Bds a b x y) : Fn Tryz.prog Xh 159 [.int .i64 a, .int .i64 b, .int .i64 x, .int .i64 y] h (fun v h' => BoolIs v (rowB a b x y) ∧ h' = h) := by
  unfold Bds at hb
  refine Fn_K rfl Tryz.func159 rfl rfl ?_
  all_goals (repeat' (first | refine K_seq ?_ | refine k_cond rfl ?_ | refine K_skip ?_ | refine K_exit ?_ | refine k_block ?_ | refine K_scope ?_ | (refine K_region (id := 0) ?_; refine mv ?_; refine KO_nil ?_) | (refine K_region (id := 1) ?_; refine mv ?_; refine mv ?_; (first | refine sb ?_ | refine vl ?_); (first | refine cT ?_ | refine cF ?_ | (refine cS ?_ ?_ <;> intro hc)) <;> (refine mv ?_; (first | refine off ?_ | refine mv ?_); (first | refine off ?_ | (first | refine cT ?_ | refine cF ?_ | (refine cS ?_ ?_ <;> intro hc))) <;> ((first | refine off ?_ | refine mv ?_); (first | refine off ?_ | refine mv ?_); (first | refine off ?_ | refine mv ?_); (first | refine off ?_ | (first | refine rm ?_ | refine vl ?_)); (first | refine off ?_ | (first | refine cT ?_ | refine cF ?_ | (refine cS ?_ ?_ <;> intro hc))) <;> ((first | refine off ?_ | refine vl ?_); refine vl ?_; refine mv ?_; refine KO_nil ?_))))))
  all_goals (refine K_ret ⟨_, rfl, ?_⟩)
  all_goals (refine ⟨?_, rfl⟩; unfold BoolIs rowB; first | exact .inl ⟨rfl, by omega⟩ | exact .inr ⟨rfl, by omega⟩)
end Go.Proofs.Xx

/-
  The hall's layouts; which seats are beside and across, by the table.
-/
namespace Go.Proofs.Xx
open Go Go.Proofs
set_option linter.unusedSimpArgs false
set_option linter.unusedVariables false
set_option maxRecDepth 100000

/-- A slice's value. -/
structure SlV where
  p : Option Addr
  n : Nat
  c : Nat
abbrev SlV.val (s : SlV) : Value := .slice s.p s.n s.c
theorem Rd.isSl {h : AH} {v : Value} {z n : Nat} {c : List Value} (r : Rd h v z n c) : ∃ s : SlV, v = s.val := by
  rcases r with ⟨rfl, -, -⟩ | ⟨b, o, cap, cc, e, s, q, rfl, -, -⟩
  · exact ⟨⟨none, 0, 0⟩, rfl⟩
  · exact ⟨⟨some ⟨b, o, none⟩, n, cap⟩, rfl⟩
structure Tab where
  name : List UInt8
  shape : Int
  A : Int
  B : Int
  os : SlV
  opn : List Int
  X : Int
  Y : Int
abbrev Tab.ov (t : Tab) : Value := t.os.val
instance : Inhabited Tab := ⟨⟨[], 0, 0, 0, ⟨none, 0, 0⟩, [], 0, 0⟩⟩
def eT (t : Tab) : List Value := [str t.name, .int .u8 t.shape, .int .i64 t.A, .int .i64 t.B, t.ov, .int .i64 t.X, .int .i64 t.Y]
abbrev tabV (t : Tab) : Value := .agg (eT t).toArray

def fnV (n : Nat) : Value := .func (.func n) #[] #[]
def wRound : List UInt8 := [114, 111, 117, 110, 100]
def wLong : List UInt8 := [108, 111, 110, 103]
def wShoe : List UInt8 := [104, 111, 114, 115, 101, 115, 104, 111, 101]
def wRow : List UInt8 := [114, 111, 119]
def lay1 : List Value := [str wRound, fnV 143, fnV 144, fnV 145, fnV 146, fnV 147]
def lay2 : List Value := [str wLong, fnV 148, fnV 149, fnV 150, fnV 151, fnV 152]
def lay3 : List Value := [str wShoe, fnV 153, fnV 154, fnV 155, fnV 156, fnV 157]
def lay4 : List Value := [str wRow, fnV 158, fnV 159, fnV 160, fnV 161, fnV 162]
def lay0 : List Value := [str [], .nilFunc, .nilFunc, .nilFunc, .nilFunc, .nilFunc]
def LayIs (s : Int) (v : Value) : Prop :=
  (v = .tuple #[.agg lay1.toArray, .bool true] ∧ s = 1) ∨ (v = .tuple #[.agg lay2.toArray, .bool true] ∧ s = 2) ∨ (v = .tuple #[.agg lay3.toArray, .bool true] ∧ s = 3) ∨
  (v = .tuple #[.agg lay4.toArray, .bool true] ∧ s = 4) ∨ (v = .tuple #[.agg lay0.toArray, .bool false] ∧ ¬ (1 ≤ s ∧ s ≤ 4))

theorem layoutOf_ok {h0 : AH} (w : WfH h0) (s : Int) : Fn Tryz.prog Xh 109 [.int .u8 s] h0 (fun v h' => LayIs s v ∧ Hs h0 h' []) := by
  have S := Hs.start w
  refine Fn_K rfl Tryz.func109 rfl rfl ?_
  all_goals (repeat' (first | refine K_seq ?_ | refine k_cond rfl ?_ | refine K_skip ?_ | refine K_exit ?_ | refine k_block ?_ | refine K_scope ?_ | (refine K_region (id := 0) ?_; (refine al S ?_; clear S; intro b h S); refine mv ?_; refine KO_nil ?_) | (refine K_region (id := 1) ?_; refine mv ?_; refine KO_nil ?_) | (refine K_region (id := 2) ?_; (first | refine cT ?_ | refine cF ?_ | (refine cS ?_ ?_ <;> intro hc)) <;> (refine mv ?_; refine KO_nil ?_)) | (refine K_region (id := 3) ?_; refine vl ?_; (first | (refine sB S rfl rfl ?_; clear S; intro h S) | (refine sE2 S rfl rfl ?_; clear S; intro h S)); refine mv ?_; refine KO_nil ?_) | (refine K_region (id := 4) ?_; (first | refine cT ?_ | refine cF ?_ | (refine cS ?_ ?_ <;> intro hc)) <;> (refine mv ?_; refine KO_nil ?_)) | (refine K_region (id := 5) ?_; refine vl ?_; (first | (refine sB S rfl rfl ?_; clear S; intro h S) | (refine sE2 S rfl rfl ?_; clear S; intro h S)); refine mv ?_; refine KO_nil ?_) | (refine K_region (id := 6) ?_; (first | refine cT ?_ | refine cF ?_ | (refine cS ?_ ?_ <;> intro hc)) <;> (refine mv ?_; refine KO_nil ?_)) | (refine K_region (id := 7) ?_; refine vl ?_; (first | (refine sB S rfl rfl ?_; clear S; intro h S) | (refine sE2 S rfl rfl ?_; clear S; intro h S)); refine mv ?_; refine KO_nil ?_) | (refine K_region (id := 8) ?_; (first | refine cT ?_ | refine cF ?_ | (refine cS ?_ ?_ <;> intro hc)) <;> (refine mv ?_; refine KO_nil ?_)) | (refine K_region (id := 9) ?_; refine vl ?_; (first | (refine sB S rfl rfl ?_; clear S; intro h S) | (refine sE2 S rfl rfl ?_; clear S; intro h S)); refine mv ?_; refine KO_nil ?_) | (refine K_region (id := 10) ?_; refine vl ?_; (first | (refine sB S rfl rfl ?_; clear S; intro h S) | (refine sE2 S rfl rfl ?_; clear S; intro h S)); refine mv ?_; refine KO_nil ?_)))
  all_goals (refine K_ret ⟨_, ret_cell S rfl (by first | exact .here | exact .there .here | exact .there (.there .here)) (by exact rfl) (by exact rfl), ?_⟩)
  all_goals (refine ⟨?_, S.drop⟩; unfold LayIs)
  · exact .inl ⟨rfl, by omega⟩
  · exact .inr (.inl ⟨rfl, by omega⟩)
  · exact .inr (.inr (.inl ⟨rfl, by omega⟩))
  · exact .inr (.inr (.inr (.inl ⟨rfl, by omega⟩)))
  · exact .inr (.inr (.inr (.inr ⟨rfl, by omega⟩)))

def sizeOf1 (s a b : Int) : Int := if s = 1 then roundSize a b else if s = 2 then longSize a b else if s = 3 then shoeSize a b else if s = 4 then rowSize a b else 0
def tsize (t : Tab) : Int := sizeOf1 t.shape t.A t.B

theorem size_ok {h0 : AH} (w : WfH h0) (t : Tab) : Fn Tryz.prog Xh 83 [tabV t] h0 (fun v h' => v = .int .i64 (tsize t) ∧ Hs h0 h' []) := by
  have S := Hs.start w
  refine Fn_K rfl Tryz.func83 rfl rfl ?_
  all_goals (repeat' (first | refine K_seq ?_ | refine k_cond rfl ?_ | refine K_skip ?_ | refine K_exit ?_ | refine k_block ?_ | refine K_scope ?_ | (refine K_region (id := 0) ?_; (refine bx S ?_; clear S; intro b h S); refine mv ?_; refine KO_nil ?_) | (refine K_region (id := 1) ?_; (first | refine vl ?_ | refine fB S ?_ | refine fS S rfl rfl ?_ | refine fA ?_); (first | refine lB S rfl rfl ?_ | refine lES2 S rfl rfl ?_ | refine lEB S ?_ | refine lH S ?_))))
  (refine KO_fn rfl rfl rfl rfl rfl ((layoutOf_ok S.wf _).mono ?_); rintro _ h ⟨⟨rfl, hs⟩ | ⟨rfl, hs⟩ | ⟨rfl, hs⟩ | ⟨rfl, hs⟩ | ⟨rfl, hs⟩, x⟩) <;> (have S := S.join0 x; refine mv ?_; refine vl ?_; refine vl ?_; (refine al S ?_; clear S; intro b h S); (first | (refine sB S rfl rfl ?_; clear S; intro h S) | (refine sE2 S rfl rfl ?_; clear S; intro h S)); refine mv ?_; refine KO_nil ?_)
  all_goals (repeat' (first | refine K_seq ?_ | refine k_cond rfl ?_ | refine K_skip ?_ | refine K_exit ?_ | refine k_block ?_ | refine K_scope ?_ | (refine K_region (id := 2) ?_; refine mv ?_; refine vl ?_; refine KO_nil ?_) | (refine K_region (id := 3) ?_; refine mv ?_; refine KO_nil ?_) | (refine K_region (id := 4) ?_; (first | refine vl ?_ | refine fB S ?_ | refine fS S rfl rfl ?_ | refine fA ?_); (first | refine lB S rfl rfl ?_ | refine lES2 S rfl rfl ?_ | refine lEB S ?_ | refine lH S ?_); (first | refine vl ?_ | refine fB S ?_ | refine fS S rfl rfl ?_ | refine fA ?_); (first | refine lB S rfl rfl ?_ | refine lES2 S rfl rfl ?_ | refine lEB S ?_ | refine lH S ?_); (first | refine vl ?_ | refine fB S ?_ | refine fS S rfl rfl ?_ | refine fA ?_); (first | refine lB S rfl rfl ?_ | refine lES2 S rfl rfl ?_ | refine lEB S ?_ | refine lH S ?_))))
  · (refine KO_call rfl rfl rfl rfl ((roundSeats_ok _ _).mono ?_); rintro _ _ ⟨rfl, rfl⟩) <;> (refine mv ?_; refine KO_nil ?_)
    all_goals (repeat' (first | refine K_seq ?_ | refine k_cond rfl ?_ | refine K_skip ?_ | refine K_exit ?_ | refine k_block ?_ | refine K_scope ?_))
    refine K_ret ⟨_, rfl, ?_⟩
    exact ⟨by simp [oneOrTuple, tsize, sizeOf1, hs], S.drop⟩
  · (refine KO_call rfl rfl rfl rfl ((longSeats_ok _ _).mono ?_); rintro _ _ ⟨rfl, rfl⟩) <;> (refine mv ?_; refine KO_nil ?_)
    all_goals (repeat' (first | refine K_seq ?_ | refine k_cond rfl ?_ | refine K_skip ?_ | refine K_exit ?_ | refine k_block ?_ | refine K_scope ?_))
    refine K_ret ⟨_, rfl, ?_⟩
    exact ⟨by simp [oneOrTuple, tsize, sizeOf1, hs], S.drop⟩
  · (refine KO_call rfl rfl rfl rfl ((shoeSeats_ok _ _).mono ?_); rintro _ _ ⟨rfl, rfl⟩) <;> (refine mv ?_; refine KO_nil ?_)
    all_goals (repeat' (first | refine K_seq ?_ | refine k_cond rfl ?_ | refine K_skip ?_ | refine K_exit ?_ | refine k_block ?_ | refine K_scope ?_))
    refine K_ret ⟨_, rfl, ?_⟩
    exact ⟨by simp [oneOrTuple, tsize, sizeOf1, hs], S.drop⟩
  · (refine KO_call rfl rfl rfl rfl ((rowSeats_ok _ _).mono ?_); rintro _ _ ⟨rfl, rfl⟩) <;> (refine mv ?_; refine KO_nil ?_)
    all_goals (repeat' (first | refine K_seq ?_ | refine k_cond rfl ?_ | refine K_skip ?_ | refine K_exit ?_ | refine k_block ?_ | refine K_scope ?_))
    refine K_ret ⟨_, rfl, ?_⟩
    exact ⟨by simp [oneOrTuple, tsize, sizeOf1, hs], S.drop⟩
  · refine K_ret ⟨_, rfl, ?_⟩
    refine ⟨?_, S.drop⟩
    simp only [oneOrTuple, tsize, sizeOf1]
    rw [if_neg (by omega), if_neg (by omega), if_neg (by omega), if_neg (by omega)]

def besideP (t : Tab) (x y : Int) : Prop := x ≠ y ∧ ((t.shape = 1 ∧ roundB t.A t.B (min x y) (max x y)) ∨ (t.shape = 2 ∧ longB t.A t.B (min x y) (max x y)) ∨ (t.shape = 3 ∧ shoeB t.A t.B (min x y) (max x y)) ∨ (t.shape = 4 ∧ rowB t.A t.B (min x y) (max x y)))
def acrossP (t : Tab) (x y : Int) : Prop := x ≠ y ∧ ((t.shape = 1 ∧ roundA t.A t.B (min x y) (max x y)) ∨ (t.shape = 2 ∧ longA t.A t.B (min x y) (max x y)) ∨ (t.shape = 3 ∧ shoeA t.A t.B (min x y) (max x y)))
def nearP (t : Tab) (x y : Int) : Prop := besideP t x y ∨ acrossP t x y
def TabB (t : Tab) : Prop := 1 ≤ t.shape ∧ t.shape ≤ 4 ∧ 0 ≤ t.A ∧ t.A ≤ 100 ∧ 0 ≤ t.B ∧ t.B ≤ 100

theorem layout3_ok {h : AH} (a b x y : Int) : Fn Tryz.prog Xh 160 [.int .i64 a, .int .i64 b, .int .i64 x, .int .i64 y] h (fun v h' => BoolIs v False ∧ h' = h) := by
  refine Fn_K rfl Tryz.func160 rfl rfl ?_
  all_goals (repeat' (first | refine K_seq ?_ | refine k_cond rfl ?_ | refine K_skip ?_ | refine K_exit ?_ | refine k_block ?_ | refine K_scope ?_ | (refine K_region (id := 0) ?_; refine mv ?_; refine KO_nil ?_) | (refine K_region (id := 1) ?_; refine mv ?_; refine KO_nil ?_)))
  all_goals (refine K_ret ⟨_, rfl, ?_⟩)
  exact ⟨.inr ⟨rfl, id⟩, rfl⟩

theorem beside_ok {h0 : AH} (w : WfH h0) (t : Tab) (x y : Int) (ht : TabB t) (hx : 0 ≤ x ∧ x ≤ 1000) (hy : 0 ≤ y ∧ y ≤ 1000) : Fn Tryz.prog Xh 102 [tabV t, .int .i64 x, .int .i64 y] h0 (fun v h' => BoolIs v (besideP t x y) ∧ Hs h0 h' []) := by
  have S := Hs.start w
  obtain ⟨t1, t2, t3, t4, t5, t6⟩ := ht
  refine Fn_K rfl Tryz.func102 rfl rfl ?_
  all_goals (repeat' (first | refine K_seq ?_ | refine k_cond rfl ?_ | refine K_skip ?_ | refine K_exit ?_ | refine k_block ?_ | refine K_scope ?_ | (refine K_region (id := 0) ?_; (refine bx S ?_; clear S; intro b h S); refine mv ?_; refine KO_nil ?_) | (refine K_region (id := 1) ?_; (first | refine vl ?_ | refine fB S ?_ | refine fS S rfl rfl ?_ | refine fA ?_); (first | refine lB S rfl rfl ?_ | refine lES2 S rfl rfl ?_ | refine lEB S ?_ | refine lH S ?_))))
  have hb : Bds t.A t.B (min x y) (max x y) := by unfold Bds; omega
  (refine KO_fn rfl rfl rfl rfl rfl ((layoutOf_ok S.wf _).mono ?_); rintro _ h ⟨⟨rfl, hs⟩ | ⟨rfl, hs⟩ | ⟨rfl, hs⟩ | ⟨rfl, hs⟩ | ⟨rfl, hs⟩, x⟩) <;> (have S := S.join0 x; refine mv ?_; refine vl ?_; refine vl ?_; (refine al S ?_; clear S; intro b h S); (first | (refine sB S rfl rfl ?_; clear S; intro h S) | (refine sE2 S rfl rfl ?_; clear S; intro h S)); refine mv ?_; refine KO_nil ?_)
  all_goals (repeat' (first | refine K_seq ?_ | refine k_cond rfl ?_ | refine K_skip ?_ | refine K_exit ?_ | refine k_block ?_ | refine K_scope ?_ | (refine K_region (id := 2) ?_; refine mv ?_; refine mv ?_; (first | refine cT ?_ | refine cF ?_ | (refine cS ?_ ?_ <;> intro hc)) <;> (refine mv ?_; (first | refine off ?_ | (first | refine vl ?_ | refine fB S ?_ | refine fS S rfl rfl ?_ | refine fA ?_)); (first | refine off ?_ | (first | refine lB S rfl rfl ?_ | refine lES2 S rfl rfl ?_ | refine lEB S ?_ | refine lH S ?_)); (first | refine off ?_ | (first | refine vl ?_ | refine fB S ?_ | refine fS S rfl rfl ?_ | refine fA ?_)); (first | refine off ?_ | (first | refine lB S rfl rfl ?_ | refine lES2 S rfl rfl ?_ | refine lEB S ?_ | refine lH S ?_)); (first | refine off ?_ | (first | refine vl ?_ | refine fB S ?_ | refine fS S rfl rfl ?_ | refine fA ?_)); (first | refine off ?_ | (first | refine lB S rfl rfl ?_ | refine lES2 S rfl rfl ?_ | refine lEB S ?_ | refine lH S ?_)); (first | refine off ?_ | refine mv ?_); (first | refine off ?_ | refine mv ?_); (first | refine off ?_ | refine mn ?_); (first | refine off ?_ | refine mv ?_); (first | refine off ?_ | refine mv ?_); (first | refine off ?_ | refine mx ?_); (first | (refine off ?_; refine vl ?_; refine mv ?_; refine KO_nil ?_) | skip)))))
  all_goals (try (exfalso; omega))
  any_goals (((first | refine KO_call rfl rfl rfl rfl ((roundBeside_ok _ _ _ _ hb).mono ?_) | refine KO_call rfl rfl rfl rfl ((longBeside_ok _ _ _ _ hb).mono ?_) | refine KO_call rfl rfl rfl rfl ((shoeBeside_ok _ _ _ _ hb).mono ?_) | refine KO_call rfl rfl rfl rfl ((rowBeside_ok _ _ _ _ hb).mono ?_)); rintro _ _ ⟨⟨rfl, hq⟩ | ⟨rfl, hq⟩, rfl⟩) <;> (refine vl ?_; refine mv ?_; refine KO_nil ?_))
  all_goals (repeat' (first | refine K_seq ?_ | refine k_cond rfl ?_ | refine K_skip ?_ | refine K_exit ?_ | refine k_block ?_ | refine K_scope ?_))
  all_goals (refine K_ret ⟨_, rfl, ?_⟩)
  all_goals (first | exact ⟨.inl ⟨rfl, hc, by (first | (simp [hs] at hq; done) | simpa [hs] using hq)⟩, S.drop⟩ | exact ⟨.inr ⟨rfl, fun q => hq (by simpa [hs] using q.2)⟩, S.drop⟩ | exact ⟨.inr ⟨rfl, fun q => q.1 (by omega)⟩, S.drop⟩)

theorem across_ok {h0 : AH} (w : WfH h0) (t : Tab) (x y : Int) (ht : TabB t) (hx : 0 ≤ x ∧ x ≤ 1000) (hy : 0 ≤ y ∧ y ≤ 1000) : Fn Tryz.prog Xh 103 [tabV t, .int .i64 x, .int .i64 y] h0 (fun v h' => BoolIs v (acrossP t x y) ∧ Hs h0 h' []) := by
  have S := Hs.start w
  obtain ⟨t1, t2, t3, t4, t5, t6⟩ := ht
  refine Fn_K rfl Tryz.func103 rfl rfl ?_
  all_goals (repeat' (first | refine K_seq ?_ | refine k_cond rfl ?_ | refine K_skip ?_ | refine K_exit ?_ | refine k_block ?_ | refine K_scope ?_ | (refine K_region (id := 0) ?_; (refine bx S ?_; clear S; intro b h S); refine mv ?_; refine KO_nil ?_) | (refine K_region (id := 1) ?_; (first | refine vl ?_ | refine fB S ?_ | refine fS S rfl rfl ?_ | refine fA ?_); (first | refine lB S rfl rfl ?_ | refine lES2 S rfl rfl ?_ | refine lEB S ?_ | refine lH S ?_))))
  have hb : Bds t.A t.B (min x y) (max x y) := by unfold Bds; omega
  (refine KO_fn rfl rfl rfl rfl rfl ((layoutOf_ok S.wf _).mono ?_); rintro _ h ⟨⟨rfl, hs⟩ | ⟨rfl, hs⟩ | ⟨rfl, hs⟩ | ⟨rfl, hs⟩ | ⟨rfl, hs⟩, x⟩) <;> (have S := S.join0 x; refine mv ?_; refine vl ?_; refine vl ?_; (refine al S ?_; clear S; intro b h S); (first | (refine sB S rfl rfl ?_; clear S; intro h S) | (refine sE2 S rfl rfl ?_; clear S; intro h S)); refine mv ?_; refine KO_nil ?_)
  all_goals (repeat' (first | refine K_seq ?_ | refine k_cond rfl ?_ | refine K_skip ?_ | refine K_exit ?_ | refine k_block ?_ | refine K_scope ?_ | (refine K_region (id := 2) ?_; refine mv ?_; refine mv ?_; (first | refine cT ?_ | refine cF ?_ | (refine cS ?_ ?_ <;> intro hc)) <;> (refine mv ?_; (first | refine off ?_ | (first | refine vl ?_ | refine fB S ?_ | refine fS S rfl rfl ?_ | refine fA ?_)); (first | refine off ?_ | (first | refine lB S rfl rfl ?_ | refine lES2 S rfl rfl ?_ | refine lEB S ?_ | refine lH S ?_)); (first | refine off ?_ | (first | refine vl ?_ | refine fB S ?_ | refine fS S rfl rfl ?_ | refine fA ?_)); (first | refine off ?_ | (first | refine lB S rfl rfl ?_ | refine lES2 S rfl rfl ?_ | refine lEB S ?_ | refine lH S ?_)); (first | refine off ?_ | (first | refine vl ?_ | refine fB S ?_ | refine fS S rfl rfl ?_ | refine fA ?_)); (first | refine off ?_ | (first | refine lB S rfl rfl ?_ | refine lES2 S rfl rfl ?_ | refine lEB S ?_ | refine lH S ?_)); (first | refine off ?_ | refine mv ?_); (first | refine off ?_ | refine mv ?_); (first | refine off ?_ | refine mn ?_); (first | refine off ?_ | refine mv ?_); (first | refine off ?_ | refine mv ?_); (first | refine off ?_ | refine mx ?_); (first | (refine off ?_; refine vl ?_; refine mv ?_; refine KO_nil ?_) | skip)))))
  all_goals (try (exfalso; omega))
  any_goals (((first | refine KO_call rfl rfl rfl rfl ((roundAcross_ok _ _ _ _ hb).mono ?_) | refine KO_call rfl rfl rfl rfl ((longAcross_ok _ _ _ _ hb).mono ?_) | refine KO_call rfl rfl rfl rfl ((shoeAcross_ok _ _ _ _ hb).mono ?_) | refine KO_call rfl rfl rfl rfl ((layout3_ok _ _ _ _).mono ?_)); rintro _ _ ⟨⟨rfl, hq⟩ | ⟨rfl, hq⟩, rfl⟩) <;> (refine vl ?_; refine mv ?_; refine KO_nil ?_))
  all_goals (repeat' (first | refine K_seq ?_ | refine k_cond rfl ?_ | refine K_skip ?_ | refine K_exit ?_ | refine k_block ?_ | refine K_scope ?_))
  all_goals (refine K_ret ⟨_, rfl, ?_⟩)
  all_goals (first | exact ⟨.inl ⟨rfl, hc, by (first | (simp [hs] at hq; done) | simpa [hs] using hq)⟩, S.drop⟩ | exact ⟨.inr ⟨rfl, fun q => hq (by simpa [hs] using q.2)⟩, S.drop⟩ | exact ⟨.inr ⟨rfl, fun q => q.1 (by omega)⟩, S.drop⟩)

end Go.Proofs.Xx

/-
  Distances in a graph, by breadth first search and by levels.
-/
namespace Go.Proofs.Xx
set_option linter.unusedVariables false

section
variable (N : Int → Int → Prop) (n s : Nat)
/-- There is a walk of d steps from s to y. -/
def Wk : Nat → Nat → Prop
  | 0, y => y = s
  | d + 1, y => ∃ x : Nat, x < n ∧ Wk d x ∧ N x y
def IsDist (d y : Nat) : Prop := Wk N n s d y ∧ ∀ e, e < d → ¬ Wk N n s e y
/-- The list tells all distances; -1 where there is no way. -/
def DistL (l : List Int) : Prop := l.length = n ∧ ∀ y, y < n → (l.getD y default = -1 ∧ ∀ d, ¬ Wk N n s d y) ∨ ∃ d : Nat, l.getD y default = (d : Int) ∧ IsDist N n s d y
end
section
variable {N : Int → Int → Prop} {n s : Nat}
theorem IsDist.unique {d e y : Nat} (h1 : IsDist N n s d y) (h2 : IsDist N n s e y) : d = e := by
  rcases Nat.lt_trichotomy d e with h | h | h
  · exact absurd h1.1 (h2.2 d h)
  · exact h
  · exact absurd h2.1 (h1.2 e h)
theorem Wk.least {d y : Nat} (h : Wk N n s d y) : ∃ e, e ≤ d ∧ IsDist N n s e y := by
  induction d using Nat.strongRecOn with
  | _ d ih =>
    by_cases hd : ∃ e, e < d ∧ Wk N n s e y
    · obtain ⟨e, h1, h2⟩ := hd
      obtain ⟨e', h3, h4⟩ := ih e h1 h2
      exact ⟨e', by omega, h4⟩
    · exact ⟨d, Nat.le_refl _, h, fun e he hw => hd ⟨e, he, hw⟩⟩
theorem DistL.unique {l m : List Int} (h1 : DistL N n s l) (h2 : DistL N n s m) : l = m := by
  refine List.ext_getElem (h1.1.trans h2.1.symm) fun i q1 q2 => ?_
  have hi : i < n := by have := h1.1; omega
  have e1 : l.getD i default = l[i] := by simp [List.getD_eq_getElem?_getD, List.getElem?_eq_getElem q1]
  have e2 : m.getD i default = m[i] := by simp [List.getD_eq_getElem?_getD, List.getElem?_eq_getElem q2]
  have a := h1.2 i hi
  have b := h2.2 i hi
  rw [e1] at a; rw [e2] at b
  rcases a with ⟨a1, a2⟩ | ⟨d, a1, a2⟩ <;> rcases b with ⟨b1, b2⟩ | ⟨e, b1, b2⟩
  · omega
  · exact absurd b2.1 (a2 e)
  · exact absurd a2.1 (b2 d)
  · have := a2.unique b2; omega

abbrev at_ (l : List Int) (x : Int) : Int := l.getD x.toNat default

abbrev rest_ (l : List Int) : Nat := l.countP (fun x => decide (x < 0))
theorem rest_set : ∀ (l : List Int) (m : Nat) (v : Int), m < l.length → l.getD m default < 0 → 0 ≤ v → rest_ (l.set m v) + 1 = rest_ l
  | [], m, v, h, _, _ => by simp at h
  | x :: l, 0, v, _, h1, h2 => by
    have h1' : x < 0 := by simpa using h1
    have h2' : ¬ v < 0 := by omega
    simp [rest_, h1', h2']
  | x :: l, m + 1, v, h, h1, h2 => by
    have ih := rest_set l m v (by simpa using h) (by simpa using h1) h2
    unfold rest_ at ih ⊢
    simp only [List.set_cons_succ, List.countP_cons]
    omega

/-- Breadth first search: out, the queue; k is being gone through, up to m. -/
structure BfsIn (N : Int → Int → Prop) (n s : Nat) (out q : List Int) (k : Int) (m : Nat) : Prop where
  len : out.length = n
  src : s < n ∧ 0 ≤ at_ out s
  vis : ∀ y : Nat, y < n → 0 ≤ at_ out y → IsDist N n s (at_ out y).toNat y
  neg : ∀ y : Nat, y < n → at_ out y < 0 → at_ out y = -1
  low : ∀ y : Nat, y < n → at_ out y + (rest_ out : Int) ≤ (n : Int) - 1
  kin : 0 ≤ k ∧ k < n ∧ 0 ≤ at_ out k
  qin : ∀ x ∈ q, 0 ≤ x ∧ x < n ∧ at_ out k ≤ at_ out x ∧ at_ out x ≤ at_ out k + 1
  sort : q.Pairwise fun x y => at_ out x ≤ at_ out y
  here : ∀ y : Nat, y < m → y < n → N k y → 0 ≤ at_ out y
  done : ∀ x : Nat, x < n → 0 ≤ at_ out x → (x : Int) ∉ q → (x : Int) ≠ k → ∀ y : Nat, y < n → N x y → 0 ≤ at_ out y
structure Bfs (N : Int → Int → Prop) (n s : Nat) (out q : List Int) : Prop where
  len : out.length = n
  src : s < n ∧ 0 ≤ at_ out s
  vis : ∀ y : Nat, y < n → 0 ≤ at_ out y → IsDist N n s (at_ out y).toNat y
  neg : ∀ y : Nat, y < n → at_ out y < 0 → at_ out y = -1
  low : ∀ y : Nat, y < n → at_ out y + (rest_ out : Int) ≤ (n : Int) - 1
  qin : ∀ x ∈ q, 0 ≤ x ∧ x < n ∧ 0 ≤ at_ out x
  sort : q.Pairwise fun x y => at_ out x ≤ at_ out y
  span : ∀ x ∈ q, ∀ y ∈ q, at_ out y ≤ at_ out x + 1
  done : ∀ x : Nat, x < n → 0 ≤ at_ out x → (x : Int) ∉ q → ∀ y : Nat, y < n → N x y → 0 ≤ at_ out y

theorem BfsIn.near {out q : List Int} {k : Int} {m : Nat} (b : BfsIn N n s out q k m) : ∀ (e y : Nat), y < n → IsDist N n s e y → (e : Int) < at_ out k → 0 ≤ at_ out y ∧ (y : Int) ∉ q ∧ (y : Int) ≠ k := by
  intro e
  induction e with
  | zero =>
    intro y hy hd he
    have : y = s := hd.1
    subst this
    have h0 := b.src.2
    have h1 := (b.vis y hy h0).unique hd
    refine ⟨h0, fun q1 => ?_, fun q1 => ?_⟩
    · have := (b.qin _ q1).2.2.1; omega
    · rw [← q1] at he; omega
  | succ e ih =>
    intro y hy hd he
    obtain ⟨x, hx, hw, hn⟩ := hd.1
    have hdx : IsDist N n s e x := ⟨hw, fun e' he' hw' => hd.2 (e' + 1) (by omega) ⟨x, hx, hw', hn⟩⟩
    obtain ⟨q1, q2, q3⟩ := ih x hx hdx (by omega)
    have hy0 := b.done x hx q1 q2 q3 y hy hn
    have h1 := (b.vis y hy hy0).unique hd
    refine ⟨hy0, fun q1 => ?_, fun q1 => ?_⟩
    · have := (b.qin _ q1).2.2.1; omega
    · rw [← q1] at he; omega

theorem Bfs.take {out q : List Int} {k : Int} (b : Bfs N n s out (k :: q)) : BfsIn N n s out q k 0 := by
  obtain ⟨k1, k2, k3⟩ := b.qin k (by simp)
  have hs := List.pairwise_cons.1 b.sort
  exact ⟨b.len, b.src, b.vis, b.neg, b.low, ⟨k1, k2, k3⟩, fun x hx => ⟨(b.qin x (by simp [hx])).1, (b.qin x (by simp [hx])).2.1, hs.1 x hx, b.span k (by simp) x (by simp [hx])⟩, hs.2, fun y hy => by omega, fun x hx h0 hq hk => b.done x hx h0 (by simp [hq, hk])⟩
theorem BfsIn.back {out q : List Int} {k : Int} {m : Nat} (b : BfsIn N n s out q k m) (hm : n ≤ m) : Bfs N n s out q :=
  ⟨b.len, b.src, b.vis, b.neg, b.low, fun x hx => ⟨(b.qin x hx).1, (b.qin x hx).2.1, by have := (b.qin x hx).2.2.1; have := b.kin.2.2; omega⟩, b.sort,
    fun x hx y hy => by have := (b.qin x hx).2.2.1; have := (b.qin y hy).2.2.2; omega, fun x hx h0 hq y hy hN => by
      by_cases e : (x : Int) = k
      · exact b.here y (by omega) hy (e ▸ hN)
      · exact b.done x hx h0 hq e y hy hN⟩
theorem Bfs.start {out : List Int} (hl : out.length = n) (hs : s < n) (h0 : at_ out s = 0) (h1 : ∀ y : Nat, y < n → y ≠ s → at_ out y = -1) : Bfs N n s out [(s : Int)] := by
  refine ⟨hl, ⟨hs, by omega⟩, fun y hy hy0 => ?_, fun y hy hy0 => ?_, fun y hy => ?_, fun x hx => ?_, by simp, fun x hx y hy => ?_, fun x hx hx0 hxq => ?_⟩
  · by_cases e : y = s
    · subst e; rw [h0]; exact ⟨rfl, fun e he => by simp at he⟩
    · rw [h1 y hy e] at hy0; omega
  · by_cases e : y = s
    · subst e; omega
    · exact h1 y hy e
  · have hr : rest_ out ≤ n - 1 := by
      have h2 := rest_set (out.set s (-1)) s 0 (by simp; omega) (by simp [List.getD_eq_getElem?_getD, show s < out.length by omega]) (by omega)
      have h3 : (out.set s (-1)).set s 0 = out := by
        rw [List.set_set]
        refine List.ext_getElem (by simp) fun i q1 q2 => ?_
        rw [List.getElem_set]
        split
        · rename_i e
          subst e
          have : at_ out (s : Int) = out[s] := by unfold at_; simp [List.getD_eq_getElem?_getD, List.getElem?_eq_getElem q2]
          omega
        · rfl
      rw [h3] at h2
      have h4 : rest_ (out.set s (-1)) ≤ (out.set s (-1)).length := List.countP_le_length
      rw [List.length_set] at h4
      omega
    by_cases e : y = s
    · subst e; omega
    · have := h1 y hy e; omega
  · obtain rfl : x = (s : Int) := by simpa using hx
    omega
  · obtain rfl : x = (s : Int) := by simpa using hx
    obtain rfl : y = (s : Int) := by simpa using hy
    omega
  · have : x ≠ s := fun e => by subst e; simp at hxq
    rw [h1 x hx this] at hx0; omega
theorem Bfs.finish {out : List Int} (b : Bfs N n s out []) : DistL N n s out := by
  have all : ∀ d y, y < n → Wk N n s d y → 0 ≤ at_ out y := by
    intro d
    induction d with
    | zero => intro y hy hw; have : y = s := hw; subst this; exact b.src.2
    | succ d ih =>
      intro y hy ⟨x, hx, hw, hN⟩
      exact b.done x hx (ih x hx hw) (by simp) y hy hN
  refine ⟨b.len, fun y hy => ?_⟩
  have e : at_ out (y : Int) = out.getD y default := by unfold at_; simp
  rw [← e]
  rcases Int.lt_or_le (at_ out y) 0 with h | h
  · exact .inl ⟨b.neg y hy h, fun d hw => by have := all d y hy hw; omega⟩
  · exact .inr ⟨(at_ out y).toNat, (Int.toNat_of_nonneg h).symm, b.vis y hy h⟩
end
end Go.Proofs.Xx

/-
  The distances from a seat.
-/
namespace Go.Proofs.Xx
open Go Go.Proofs
set_option linter.unusedSimpArgs false
set_option linter.unusedVariables false
set_option maxRecDepth 100000

end Go.Proofs.Xx

/-
  The seat of honour of a table; the levels of its seats.
-/
namespace Go.Proofs.Xx
open Go Go.Proofs
set_option linter.unusedSimpArgs false
set_option linter.unusedVariables false
set_option maxRecDepth 100000

def honLong (a b : Int) : Int := if b > 0 then a else a / 2
def honOf (s a b : Int) : Int := if s = 2 then honLong a b else if s = 3 then b + a / 2 else if s = 4 then a / 2 else 0
theorem tdiv2 {a : Int} (h : 0 ≤ a) : Int.tdiv a 2 = a / 2 := Int.tdiv_eq_ediv_of_nonneg h

/-- The seat of honour. -/
def tHon (t : Tab) : Int := honOf t.shape t.A t.B
/-- The levels: the distances, with the table's size where there is none. -/
def lvl (n : Nat) (l : List Int) : List Int := l.map fun x => if x < 0 then (n : Int) else x

def mixl (n : Nat) (l : List Int) (i : Nat) : List Int := (lvl n l).take i ++ l.drop i
end Go.Proofs.Xx

/-
  Names; the check of a table, the program's and the reference's.
-/
namespace Go.Proofs.Xx
open Go Go.Proofs
set_option linter.unusedSimpArgs false
set_option linter.unusedVariables false
set_option maxRecDepth 100000

def lowB (x : UInt8) : Prop := 97 ≤ x.toNat ∧ x.toNat ≤ 122
def nameP (s : List UInt8) : Prop := 1 ≤ s.length ∧ s.length ≤ 12 ∧ ∀ i, i < s.length → lowB (s.getD i default)

theorem name_ok {h0 : AH} (w : WfH h0) (s : List UInt8) (hs : s.length ≤ 1000000) : Fn Tryz.prog Xh 114 [str s] h0 (fun v h' => BoolIs v (nameP s) ∧ Hs h0 h' []) := by
  have S := Hs.start w
  refine Fn_K rfl Tryz.func114 rfl rfl ?_
  all_goals (repeat' (first | refine K_seq ?_ | refine k_cond rfl ?_ | refine K_skip ?_ | refine K_exit ?_ | refine k_block ?_ | refine K_scope ?_ | (refine K_region (id := 0) ?_; refine mv ?_; refine KO_nil ?_) | (refine K_region (id := 1) ?_; refine mv ?_; refine KO_nil ?_)))
  refine k_loop (σ := Nat) (fun i h' => Hs h0 h' [] ∧ i ≤ s.length ∧ ∀ j, j < i → lowB (s.getD j default)) (fun i => s.length - i) (fun i => [(0, str s), (3, .int .i64 i)]) 0 (by repeat (first | exact Ks.le_nil _ | refine Ks.le_cons rfl ?_ | refine Ks.le_int ?_)) ?_ ?_
  · exact ⟨S, Nat.zero_le _, fun j hj => absurd hj (Nat.not_lt_zero _)⟩
  clear S
  rintro i h ⟨S, h1, h2⟩
  all_goals (repeat' (first | refine K_seq ?_ | refine k_cond rfl ?_ | refine K_skip ?_ | refine K_exit ?_ | refine k_block ?_ | refine K_scope ?_ | (refine K_region (id := 2) ?_; refine mv ?_; refine mv ?_; refine tl ?_; (first | refine cT ?_ | refine cF ?_ | (refine cS ?_ ?_ <;> intro hc)) <;> (refine KO_nil ?_)) | (refine K_region (id := 3) ?_; refine mv ?_; (first | refine ad ?_ | refine vl ?_); refine mv ?_; refine KO_nil ?_) | (refine K_region (id := 4) ?_; refine mv ?_; refine mv ?_; (first | refine ti ?_ | refine vl ?_); (first | refine cT ?_ | refine cF ?_ | (refine cS ?_ ?_ <;> intro hc)) <;> (refine mv ?_; (first | refine off ?_ | refine mv ?_); (first | refine off ?_ | refine mv ?_); (first | refine off ?_ | (first | refine ti ?_ | refine vl ?_)); (first | refine off ?_ | (first | refine cT ?_ | refine cF ?_ | (refine cS ?_ ?_ <;> intro hc))) <;> (refine vl ?_; refine KO_nil ?_))) | (refine K_region (id := 5) ?_; refine mv ?_; refine KO_nil ?_) | (refine K_region (id := 6) ?_; refine mv ?_; refine tl ?_; (first | refine cT ?_ | refine cF ?_ | (refine cS ?_ ?_ <;> intro hc)) <;> (refine mv ?_; (first | refine off ?_ | refine mv ?_); (first | refine off ?_ | refine tl ?_); (first | refine off ?_ | (first | refine cT ?_ | refine cF ?_ | (refine cS ?_ ?_ <;> intro hc))) <;> (refine vl ?_; refine mv ?_; refine KO_nil ?_)))))
  all_goals (try simp only [Int.toNat_natCast] at *)
  · refine K_ret ⟨_, rfl, ?_⟩
    exact ⟨.inr ⟨rfl, fun q => by have := q.2.2 i (by omega); unfold lowB at this; simp only [show (default : UInt8) = 0 from rfl] at this; omega⟩, S.drop⟩
  · refine K_ret ⟨_, rfl, ?_⟩
    exact ⟨.inr ⟨rfl, fun q => by have := q.2.2 i (by omega); unfold lowB at this; simp only [show (default : UInt8) = 0 from rfl] at this; omega⟩, S.drop⟩
  · refine ⟨i + 1, ?_, ?_, (by repeat (first | exact Ks.le_nil _ | refine Ks.le_cons rfl ?_ | refine Ks.le_int ?_))⟩
    · show s.length - (i + 1) < s.length - i; omega
    · refine ⟨S, by omega, fun j hj => ?_⟩
      rcases Nat.lt_or_ge j i with q | q
      · exact h2 j q
      · have e : j = i := by omega
        subst e
        unfold lowB
        simp only [show (default : UInt8) = 0 from rfl]
        omega
  all_goals (refine K_ret ⟨_, rfl, ?_⟩)
  all_goals refine ⟨?_, S.drop⟩
  · exact .inl ⟨rfl, by omega, by omega, fun j hj => h2 j (by omega)⟩
  · exact .inr ⟨rfl, fun q => by have := q.2.1; omega⟩
  · exact .inr ⟨rfl, fun q => by have := q.1; omega⟩

theorem refName_ok {h0 : AH} (w : WfH h0) (s : List UInt8) (hs : s.length ≤ 1000000) : Fn Tryz.prog Xh 123 [str s] h0 (fun v h' => BoolIs v (nameP s) ∧ Hs h0 h' []) := by
  have S := Hs.start w
  refine Fn_K rfl Tryz.func123 rfl rfl ?_
  all_goals (repeat' (first | refine K_seq ?_ | refine k_cond rfl ?_ | refine K_skip ?_ | refine K_exit ?_ | refine k_block ?_ | refine K_scope ?_ | (refine K_region (id := 0) ?_; refine mv ?_; refine KO_nil ?_) | (refine K_region (id := 1) ?_; refine mv ?_; refine tl ?_; (first | refine cT ?_ | refine cF ?_ | (refine cS ?_ ?_ <;> intro hc)) <;> (refine mv ?_; (first | refine off ?_ | refine mv ?_); (first | refine off ?_ | refine tl ?_); (first | refine off ?_ | (first | refine cT ?_ | refine cF ?_ | (refine cS ?_ ?_ <;> intro hc))) <;> (refine vl ?_; refine KO_nil ?_))) | (refine K_region (id := 2) ?_; refine mv ?_; refine KO_nil ?_) | (refine K_region (id := 3) ?_; refine mv ?_; refine KO_nil ?_)))
  · refine K_ret ⟨_, rfl, ?_⟩
    exact ⟨.inr ⟨rfl, fun q => by have := q.1; omega⟩, S.drop⟩
  · refine K_ret ⟨_, rfl, ?_⟩
    exact ⟨.inr ⟨rfl, fun q => by have := q.2.1; omega⟩, S.drop⟩
  rename_i hc1
  refine k_loop (σ := Nat) (fun i h' => Hs h0 h' [] ∧ i ≤ s.length ∧ ∀ j, j < i → lowB (s.getD j default)) (fun i => s.length - i) (fun i => [(0, str s), (3, .int .i64 i)]) 0 (by repeat (first | exact Ks.le_nil _ | refine Ks.le_cons rfl ?_ | refine Ks.le_int ?_)) ?_ ?_
  · exact ⟨S, Nat.zero_le _, fun j hj => absurd hj (Nat.not_lt_zero _)⟩
  clear S
  rintro i h ⟨S, h1, h2⟩
  all_goals (repeat' (first | refine K_seq ?_ | refine k_cond rfl ?_ | refine K_skip ?_ | refine K_exit ?_ | refine k_block ?_ | refine K_scope ?_ | (refine K_region (id := 4) ?_; refine mv ?_; refine mv ?_; refine tl ?_; (first | refine cT ?_ | refine cF ?_ | (refine cS ?_ ?_ <;> intro hc)) <;> (refine KO_nil ?_)) | (refine K_region (id := 5) ?_; refine mv ?_; (first | refine ad ?_ | refine vl ?_); refine mv ?_; refine KO_nil ?_) | (refine K_region (id := 6) ?_; refine mv ?_; refine mv ?_; (first | refine ti ?_ | refine vl ?_); (first | refine cT ?_ | refine cF ?_ | (refine cS ?_ ?_ <;> intro hc)) <;> (refine mv ?_; (first | refine off ?_ | refine mv ?_); (first | refine off ?_ | refine mv ?_); (first | refine off ?_ | (first | refine ti ?_ | refine vl ?_)); (first | refine off ?_ | (first | refine cT ?_ | refine cF ?_ | (refine cS ?_ ?_ <;> intro hc))) <;> (refine vl ?_; refine KO_nil ?_))) | (refine K_region (id := 7) ?_; refine mv ?_; refine KO_nil ?_) | (refine K_region (id := 8) ?_; refine mv ?_; refine KO_nil ?_)))
  all_goals (try simp only [Int.toNat_natCast] at *)
  · refine K_ret ⟨_, rfl, ?_⟩
    exact ⟨.inr ⟨rfl, fun q => by have := q.2.2 i (by omega); unfold lowB at this; simp only [show (default : UInt8) = 0 from rfl] at this; omega⟩, S.drop⟩
  · refine K_ret ⟨_, rfl, ?_⟩
    exact ⟨.inr ⟨rfl, fun q => by have := q.2.2 i (by omega); unfold lowB at this; simp only [show (default : UInt8) = 0 from rfl] at this; omega⟩, S.drop⟩
  · refine ⟨i + 1, ?_, ?_, (by repeat (first | exact Ks.le_nil _ | refine Ks.le_cons rfl ?_ | refine Ks.le_int ?_))⟩
    · show s.length - (i + 1) < s.length - i; omega
    · refine ⟨S, by omega, fun j hj => ?_⟩
      rcases Nat.lt_or_ge j i with q | q
      · exact h2 j q
      · have e : j = i := by omega
        subst e
        unfold lowB
        simp only [show (default : UInt8) = 0 from rfl]
        omega
  all_goals (refine K_ret ⟨_, rfl, ?_⟩)
  exact ⟨.inl ⟨rfl, by omega, by omega, fun j hj => h2 j (by omega)⟩, S.drop⟩
end Go.Proofs.Xx

/-
  The check of a table, the program's and the reference's.
-/
namespace Go.Proofs.Xx
open Go Go.Proofs
set_option linter.unusedSimpArgs false
set_option linter.unusedVariables false
set_option maxRecDepth 100000

/-- The open seats stand in order, and each is a seat. -/
def OpnOk (n : Int) (l : List Int) : Prop := ∀ i, i < l.length → (0 ≤ l.getD i default ∧ l.getD i default < n) ∧ (0 < i → l.getD (i - 1) default < l.getD i default)
def XYok (t : Tab) : Prop := 0 ≤ t.X ∧ t.X ≤ 1000 ∧ 0 ≤ t.Y ∧ t.Y ≤ 1000
open Classical in
noncomputable def chk (t : Tab) : Int := if ¬ nameP t.name then 4 else if tsize t = 0 then 10 else if ¬ OpnOk (tsize t) t.opn then 11 else if ¬ XYok t then 2 else 0
/-- What a table's list of open seats reads as. -/
abbrev TabR (h : AH) (t : Tab) : Prop := RdL h t.ov 1 eI t.opn ∧ t.name.length ≤ 1000 ∧ t.opn.length ≤ 1000

/-- The same of tables with longer names and lists. -/
abbrev TabL (h : AH) (t : Tab) : Prop := RdL h t.ov 1 eI t.opn ∧ t.name.length ≤ 1000000 ∧ t.opn.length ≤ 1000000
theorem TabR.toL {h : AH} {t : Tab} (r : TabR h t) : TabL h t := ⟨r.1, Nat.le_trans r.2.1 (by decide), Nat.le_trans r.2.2 (by decide)⟩
theorem check_okL {h0 : AH} (w : WfH h0) (t : Tab) (r : TabL h0 t) : Fn Tryz.prog Xh 56 [tabV t] h0 (fun v h' => v = .int .i64 (chk t) ∧ Hs h0 h' []) := by
  have S := Hs.start w
  obtain ⟨hr, hnm, hol⟩ := r
  refine Fn_K rfl Tryz.func56 rfl rfl ?_
  all_goals (repeat' (first | refine K_seq ?_ | refine k_cond rfl ?_ | refine K_skip ?_ | refine K_exit ?_ | refine k_block ?_ | refine K_scope ?_ | (refine K_region (id := 0) ?_; (refine bx S ?_; clear S; intro b h S); refine mv ?_; refine KO_nil ?_) | (refine K_region (id := 1) ?_; (first | refine lB S rfl rfl ?_ | refine lES2 S rfl rfl ?_ | refine lEB S ?_ | refine lH S ?_))))
  (refine KO_fn rfl rfl rfl rfl rfl ((size_ok S.wf t).mono ?_); rintro _ h ⟨rfl, x⟩) <;> (replace S := S.join0 x; clear x; refine mv ?_; refine KO_nil ?_)
  all_goals (repeat' (first | refine K_seq ?_ | refine k_cond rfl ?_ | refine K_skip ?_ | refine K_exit ?_ | refine k_block ?_ | refine K_scope ?_ | (refine K_region (id := 2) ?_; refine mv ?_; refine KO_nil ?_) | (refine K_region (id := 3) ?_; (first | refine vl ?_ | refine fB S ?_ | refine fS S rfl rfl ?_ | refine fA ?_); (first | refine lB S rfl rfl ?_ | refine lES2 S rfl rfl ?_ | refine lEB S ?_ | refine lH S ?_))))
  (refine KO_fn rfl rfl rfl rfl rfl ((name_ok S.wf t.name hnm).mono ?_); rintro _ h ⟨⟨rfl, hq⟩ | ⟨rfl, hq⟩, x⟩) <;> (replace S := S.join0 x; clear x; refine vl ?_; refine mv ?_; refine KO_nil ?_)
  all_goals (repeat' (first | refine K_seq ?_ | refine k_cond rfl ?_ | refine K_skip ?_ | refine K_exit ?_ | refine k_block ?_ | refine K_scope ?_ | (refine K_region (id := 4) ?_; refine mv ?_; refine KO_nil ?_) | (refine K_region (id := 5) ?_; refine mv ?_; (first | refine cT ?_ | refine cF ?_ | (refine cS ?_ ?_ <;> intro hc)) <;> (refine mv ?_; refine KO_nil ?_)) | (refine K_region (id := 6) ?_; refine mv ?_; refine KO_nil ?_) | (refine K_region (id := 7) ?_; (first | refine vl ?_ | refine fB S ?_ | refine fS S rfl rfl ?_ | refine fA ?_); (first | refine lB S rfl rfl ?_ | refine lES2 S rfl rfl ?_ | refine lEB S ?_ | refine lH S ?_); (first | refine lnB S ?_ | refine lnS S rfl rfl ?_); refine mv ?_; refine KO_nil ?_)))
  · refine K_ret ⟨_, rfl, ?_⟩
    exact ⟨by unfold chk; rw [if_neg (by simpa using hq), if_pos hc]; rfl, S.drop⟩
  · refine k_loop (σ := Nat × Int) (fun (i, la) h' => Hs h0 h' [.blk b (tabV t).cells.toList 25] ∧ i ≤ t.opn.length ∧ (∀ j, j < i → (0 ≤ t.opn.getD j default ∧ t.opn.getD j default < tsize t) ∧ (0 < j → t.opn.getD (j - 1) default < t.opn.getD j default)) ∧ (la = if i = 0 then -1 else t.opn.getD (i - 1) default)) (fun (i, la) => t.opn.length - i) (fun (i, la) => [(1, .pointer (some ⟨b, 0, none⟩)), (3, .int .i64 (tsize t)), (4, .int .i64 la), (18, t.ov), (19, .int .i64 t.opn.length), (20, .int .i64 i)]) (0, -1) (by repeat (first | exact Ks.le_nil _ | refine Ks.le_cons rfl ?_ | refine Ks.le_int ?_)) ?_ ?_
    · exact ⟨S, Nat.zero_le _, fun j hj => absurd hj (Nat.not_lt_zero _), rfl⟩
    clear S
    rintro ⟨i, la⟩ h ⟨S, h1, h2, h3⟩
    all_goals (repeat' (first | refine K_seq ?_ | refine k_cond rfl ?_ | refine K_skip ?_ | refine K_exit ?_ | refine k_block ?_ | refine K_scope ?_ | (refine K_region (id := 8) ?_; (first | refine cT ?_ | refine cF ?_ | (refine cS ?_ ?_ <;> intro hc)) <;> (refine KO_nil ?_)) | (refine K_region (id := 9) ?_; (first | refine ixB S ?_ | refine ixS2 S rfl rfl ?_); (first | refine lB S rfl rfl ?_ | refine lES2 S rfl rfl ?_ | refine lEB S ?_ | refine lH S ?_); refine mv ?_; refine KO_nil ?_) | (refine K_region (id := 10) ?_; refine mv ?_; refine mv ?_; (first | refine cT ?_ | refine cF ?_ | (refine cS ?_ ?_ <;> intro hc)) <;> (refine mv ?_; (first | refine off ?_ | refine mv ?_); (first | refine off ?_ | refine mv ?_); (first | refine off ?_ | (first | refine cT ?_ | refine cF ?_ | (refine cS ?_ ?_ <;> intro hc))) <;> (refine vl ?_; refine KO_nil ?_))) | (refine K_region (id := 11) ?_; refine mv ?_; refine KO_nil ?_) | (refine K_region (id := 12) ?_; refine mv ?_; refine mv ?_; refine KO_nil ?_) | (refine K_region (id := 13) ?_; (first | refine ad ?_ | refine vl ?_); refine mv ?_; refine KO_nil ?_) | (refine K_region (id := 14) ?_; (first | refine vl ?_ | refine fB S ?_ | refine fS S rfl rfl ?_ | refine fA ?_); (first | refine lB S rfl rfl ?_ | refine lES2 S rfl rfl ?_ | refine lEB S ?_ | refine lH S ?_); (first | refine cT ?_ | refine cF ?_ | (refine cS ?_ ?_ <;> intro hc)) <;> (refine mv ?_; (first | refine off ?_ | (first | refine vl ?_ | refine fB S ?_ | refine fS S rfl rfl ?_ | refine fA ?_)); (first | refine off ?_ | (first | refine lB S rfl rfl ?_ | refine lES2 S rfl rfl ?_ | refine lEB S ?_ | refine lH S ?_)); (first | refine off ?_ | (first | refine cT ?_ | refine cF ?_ | (refine cS ?_ ?_ <;> intro hc))) <;> (refine vl ?_; refine mv ?_; (first | refine off ?_ | (first | refine vl ?_ | refine fB S ?_ | refine fS S rfl rfl ?_ | refine fA ?_)); (first | refine off ?_ | (first | refine lB S rfl rfl ?_ | refine lES2 S rfl rfl ?_ | refine lEB S ?_ | refine lH S ?_)); (first | refine off ?_ | (first | refine cT ?_ | refine cF ?_ | (refine cS ?_ ?_ <;> intro hc))) <;> (refine vl ?_; refine mv ?_; (first | refine off ?_ | (first | refine vl ?_ | refine fB S ?_ | refine fS S rfl rfl ?_ | refine fA ?_)); (first | refine off ?_ | (first | refine lB S rfl rfl ?_ | refine lES2 S rfl rfl ?_ | refine lEB S ?_ | refine lH S ?_)); (first | refine off ?_ | (first | refine cT ?_ | refine cF ?_ | (refine cS ?_ ?_ <;> intro hc))) <;> (refine vl ?_; refine KO_nil ?_))))) | (refine K_region (id := 15) ?_; refine mv ?_; refine KO_nil ?_) | (refine K_region (id := 16) ?_; refine mv ?_; refine KO_nil ?_)))
    all_goals (try simp only [Int.toNat_natCast] at *)
    · refine K_ret ⟨_, rfl, ?_⟩
      refine ⟨?_, S.drop⟩
      have : ¬ OpnOk (tsize t) t.opn := fun q => by
        have q1 := q i (by omega)
        split at h3 <;> rename_i hi
        · subst hi; omega
        · have := q1.2 (by omega); omega
      unfold chk; rw [if_neg (by simpa using hq), if_neg (by assumption), if_pos this]; rfl
    · refine K_ret ⟨_, rfl, ?_⟩
      refine ⟨?_, S.drop⟩
      have : ¬ OpnOk (tsize t) t.opn := fun q => by have q1 := q i (by omega); omega
      unfold chk; rw [if_neg (by simpa using hq), if_neg (by assumption), if_pos this]; rfl
    · refine ⟨(i + 1, t.opn.getD i default), ?_, ?_, (by repeat (first | exact Ks.le_nil _ | refine Ks.le_cons rfl ?_ | refine Ks.le_int ?_))⟩
      · show t.opn.length - (i + 1) < t.opn.length - i; omega
      · refine ⟨S, by omega, fun j hj => ?_, by simp⟩
        rcases Nat.lt_or_ge j i with q | q
        · exact h2 j q
        · have e : j = i := by omega
          subst e
          split at h3 <;> rename_i hi
          · exact ⟨by omega, fun q => by omega⟩
          · have := (h2 (j - 1) (by omega)).1
            exact ⟨by omega, fun q => by omega⟩
    all_goals
      have hok : OpnOk (tsize t) t.opn := fun j hj => h2 j (by omega)
      refine K_ret ⟨_, rfl, ?_⟩
      refine ⟨?_, S.drop⟩
      unfold chk; rw [if_neg (by simpa using hq), if_neg (by assumption), if_neg (by simpa using hok)]
      first
        | (rw [if_pos (by unfold XYok; omega)]; rfl)
        | (rw [if_neg (by unfold XYok; omega)]; rfl)
  · refine K_ret ⟨_, rfl, ?_⟩
    exact ⟨by unfold chk; rw [if_pos (by simpa using hq)]; rfl, S.drop⟩
theorem check_ok {h0 : AH} (w : WfH h0) (t : Tab) (r : TabR h0 t) : Fn Tryz.prog Xh 56 [tabV t] h0 (fun v h' => v = .int .i64 (chk t) ∧ Hs h0 h' []) := check_okL w t (TabR.toL r)
end Go.Proofs.Xx

/-
  The reference's size and check of a table.
-/
namespace Go.Proofs.Xx
open Go Go.Proofs
set_option linter.unusedSimpArgs false
set_option linter.unusedVariables false
set_option maxRecDepth 100000

theorem within_ok {h : AH} (n a b : Int) : Fn Tryz.prog Xh 106 [.int .i64 n, .int .i64 a, .int .i64 b] h (fun v h' => BoolIs v (a ≤ n ∧ n ≤ b) ∧ h' = h) := by
  refine Fn_K rfl Tryz.func106 rfl rfl ?_
  all_goals (repeat' (first | refine K_seq ?_ | refine k_cond rfl ?_ | refine K_skip ?_ | refine K_exit ?_ | refine k_block ?_ | refine K_scope ?_ | (refine K_region (id := 0) ?_; refine mv ?_; refine KO_nil ?_) | (refine K_region (id := 1) ?_; refine mv ?_; refine mv ?_; (first | refine cT ?_ | refine cF ?_ | (refine cS ?_ ?_ <;> intro hc)) <;> (refine mv ?_; (first | refine off ?_ | refine mv ?_); (first | refine off ?_ | refine mv ?_); (first | refine off ?_ | (first | refine cT ?_ | refine cF ?_ | (refine cS ?_ ?_ <;> intro hc))) <;> (refine vl ?_; refine mv ?_; refine KO_nil ?_)))))
  all_goals (refine K_ret ⟨_, rfl, ?_⟩)
  all_goals (refine ⟨?_, rfl⟩; unfold BoolIs)
  all_goals first | exact .inl ⟨rfl, by omega⟩ | exact .inr ⟨rfl, by omega⟩

theorem refSize_ok {h0 : AH} (w : WfH h0) (t : Tab) : Fn Tryz.prog Xh 51 [tabV t] h0 (fun v h' => v = .int .i64 (tsize t) ∧ Hs h0 h' []) := by
  have S := Hs.start w
  refine Fn_K rfl Tryz.func51 rfl rfl ?_
  all_goals (repeat' (first | refine K_seq ?_ | refine k_cond rfl ?_ | refine K_skip ?_ | refine K_exit ?_ | refine k_block ?_ | refine K_scope ?_ | (refine K_region (id := 0) ?_; (refine bx S ?_; clear S; intro b h S); refine mv ?_; refine KO_nil ?_) | (refine K_region (id := 1) ?_; (first | refine vl ?_ | refine fB S ?_ | refine fS S rfl rfl ?_ | refine fA ?_); (first | refine lB S rfl rfl ?_ | refine lES2 S rfl rfl ?_ | refine lEB S ?_ | refine lH S ?_); refine KO_nil ?_) | (refine K_region (id := 2) ?_; (first | refine cT ?_ | refine cF ?_ | (refine cS ?_ ?_ <;> intro hc)) <;> (refine mv ?_; refine KO_nil ?_)) | (refine K_region (id := 3) ?_; (first | refine vl ?_ | refine fB S ?_ | refine fS S rfl rfl ?_ | refine fA ?_); (first | refine lB S rfl rfl ?_ | refine lES2 S rfl rfl ?_ | refine lEB S ?_ | refine lH S ?_)) | (refine K_region (id := 5) ?_; (first | refine cT ?_ | refine cF ?_ | (refine cS ?_ ?_ <;> intro hc)) <;> (refine mv ?_; refine KO_nil ?_)) | (refine K_region (id := 6) ?_; (first | refine vl ?_ | refine fB S ?_ | refine fS S rfl rfl ?_ | refine fA ?_); (first | refine lB S rfl rfl ?_ | refine lES2 S rfl rfl ?_ | refine lEB S ?_ | refine lH S ?_)) | (refine K_region (id := 8) ?_; (first | refine cT ?_ | refine cF ?_ | (refine cS ?_ ?_ <;> intro hc)) <;> (refine mv ?_; refine KO_nil ?_)) | (refine K_region (id := 9) ?_; (first | refine vl ?_ | refine fB S ?_ | refine fS S rfl rfl ?_ | refine fA ?_); (first | refine lB S rfl rfl ?_ | refine lES2 S rfl rfl ?_ | refine lEB S ?_ | refine lH S ?_)) | (refine K_region (id := 11) ?_; (first | refine cT ?_ | refine cF ?_ | (refine cS ?_ ?_ <;> intro hc)) <;> (refine mv ?_; refine KO_nil ?_)) | (refine K_region (id := 12) ?_; (first | refine vl ?_ | refine fB S ?_ | refine fS S rfl rfl ?_ | refine fA ?_); (first | refine lB S rfl rfl ?_ | refine lES2 S rfl rfl ?_ | refine lEB S ?_ | refine lH S ?_)) | (refine K_region (id := 14) ?_; refine mv ?_; refine KO_nil ?_)))
  · (refine KO_fn rfl rfl rfl rfl rfl ((within_ok _ _ _).mono ?_); rintro _ _ ⟨⟨rfl, hq⟩ | ⟨rfl, hq⟩, rfl⟩) <;> (refine mv ?_; (first | refine off ?_ | (first | refine vl ?_ | refine fB S ?_ | refine fS S rfl rfl ?_ | refine fA ?_)); (first | refine off ?_ | (first | refine lB S rfl rfl ?_ | refine lES2 S rfl rfl ?_ | refine lEB S ?_ | refine lH S ?_)); (first | refine off ?_ | (first | refine cT ?_ | refine cF ?_ | (refine cS ?_ ?_ <;> intro hc))) <;> (refine vl ?_; refine KO_nil ?_))
    all_goals (repeat' (first | refine K_seq ?_ | refine k_cond rfl ?_ | refine K_skip ?_ | refine K_exit ?_ | refine k_block ?_ | refine K_scope ?_ | (refine K_region (id := 4) ?_; (first | refine vl ?_ | refine fB S ?_ | refine fS S rfl rfl ?_ | refine fA ?_); (first | refine lB S rfl rfl ?_ | refine lES2 S rfl rfl ?_ | refine lEB S ?_ | refine lH S ?_); refine mv ?_; refine KO_nil ?_) | (refine K_region (id := 14) ?_; refine mv ?_; refine KO_nil ?_)))
    all_goals (refine K_ret ⟨_, rfl, ?_⟩)
    all_goals (refine ⟨?_, S.drop⟩; unfold tsize sizeOf1; rw [if_pos (by omega)]; unfold roundSize)
    all_goals first | (rw [if_pos (by omega)]; rfl) | (rw [if_neg (by omega)]; rfl)
  · (refine KO_fn rfl rfl rfl rfl rfl ((within_ok _ _ _).mono ?_); rintro _ _ ⟨⟨rfl, hq⟩ | ⟨rfl, hq⟩, rfl⟩) <;> (refine mv ?_; (first | refine off ?_ | (first | refine vl ?_ | refine fB S ?_ | refine fS S rfl rfl ?_ | refine fA ?_)); (first | refine off ?_ | (first | refine lB S rfl rfl ?_ | refine lES2 S rfl rfl ?_ | refine lEB S ?_ | refine lH S ?_)); (first | (refine off ?_; refine vl ?_; refine KO_nil ?_) | skip))
    any_goals ((refine KO_fn rfl rfl rfl rfl rfl ((within_ok _ _ _).mono ?_); rintro _ _ ⟨⟨rfl, hq2⟩ | ⟨rfl, hq2⟩, rfl⟩) <;> (refine vl ?_; refine KO_nil ?_))
    all_goals (repeat' (first | refine K_seq ?_ | refine k_cond rfl ?_ | refine K_skip ?_ | refine K_exit ?_ | refine k_block ?_ | refine K_scope ?_ | (refine K_region (id := 7) ?_; (first | refine vl ?_ | refine fB S ?_ | refine fS S rfl rfl ?_ | refine fA ?_); (first | refine lB S rfl rfl ?_ | refine lES2 S rfl rfl ?_ | refine lEB S ?_ | refine lH S ?_); (first | refine ml ?_ | refine vl ?_); (first | refine vl ?_ | refine fB S ?_ | refine fS S rfl rfl ?_ | refine fA ?_); (first | refine lB S rfl rfl ?_ | refine lES2 S rfl rfl ?_ | refine lEB S ?_ | refine lH S ?_); (first | refine ad ?_ | refine vl ?_); refine mv ?_; refine KO_nil ?_) | (refine K_region (id := 14) ?_; refine mv ?_; refine KO_nil ?_)))
    all_goals (refine K_ret ⟨_, rfl, ?_⟩)
    all_goals (refine ⟨?_, S.drop⟩; unfold tsize sizeOf1; rw [if_neg (by omega), if_pos (by omega)]; unfold longSize)
    all_goals first | (rw [if_pos (by omega)]; rfl) | (rw [if_neg (by omega)]; rfl)
  · (refine KO_fn rfl rfl rfl rfl rfl ((within_ok _ _ _).mono ?_); rintro _ _ ⟨⟨rfl, hq⟩ | ⟨rfl, hq⟩, rfl⟩) <;> (refine mv ?_; (first | refine off ?_ | (first | refine vl ?_ | refine fB S ?_ | refine fS S rfl rfl ?_ | refine fA ?_)); (first | refine off ?_ | (first | refine lB S rfl rfl ?_ | refine lES2 S rfl rfl ?_ | refine lEB S ?_ | refine lH S ?_)); (first | (refine off ?_; refine vl ?_; refine KO_nil ?_) | skip))
    any_goals ((refine KO_fn rfl rfl rfl rfl rfl ((within_ok _ _ _).mono ?_); rintro _ _ ⟨⟨rfl, hq2⟩ | ⟨rfl, hq2⟩, rfl⟩) <;> (refine vl ?_; refine KO_nil ?_))
    all_goals (repeat' (first | refine K_seq ?_ | refine k_cond rfl ?_ | refine K_skip ?_ | refine K_exit ?_ | refine k_block ?_ | refine K_scope ?_ | (refine K_region (id := 10) ?_; (first | refine vl ?_ | refine fB S ?_ | refine fS S rfl rfl ?_ | refine fA ?_); (first | refine lB S rfl rfl ?_ | refine lES2 S rfl rfl ?_ | refine lEB S ?_ | refine lH S ?_); (first | refine vl ?_ | refine fB S ?_ | refine fS S rfl rfl ?_ | refine fA ?_); (first | refine lB S rfl rfl ?_ | refine lES2 S rfl rfl ?_ | refine lEB S ?_ | refine lH S ?_); (first | refine ml ?_ | refine vl ?_); (first | refine ad ?_ | refine vl ?_); refine mv ?_; refine KO_nil ?_) | (refine K_region (id := 14) ?_; refine mv ?_; refine KO_nil ?_)))
    all_goals (refine K_ret ⟨_, rfl, ?_⟩)
    all_goals (refine ⟨?_, S.drop⟩; unfold tsize sizeOf1; rw [if_neg (by omega), if_neg (by omega), if_pos (by omega)]; unfold shoeSize)
    all_goals first | (rw [if_pos (by omega)]; rfl) | (rw [if_neg (by omega)]; rfl)
  · (refine KO_fn rfl rfl rfl rfl rfl ((within_ok _ _ _).mono ?_); rintro _ _ ⟨⟨rfl, hq⟩ | ⟨rfl, hq⟩, rfl⟩) <;> (refine mv ?_; (first | refine off ?_ | (first | refine vl ?_ | refine fB S ?_ | refine fS S rfl rfl ?_ | refine fA ?_)); (first | refine off ?_ | (first | refine lB S rfl rfl ?_ | refine lES2 S rfl rfl ?_ | refine lEB S ?_ | refine lH S ?_)); (first | refine off ?_ | (first | refine vl ?_ | refine fB S ?_ | refine fS S rfl rfl ?_ | refine fA ?_)); (first | refine off ?_ | (first | refine lB S rfl rfl ?_ | refine lES2 S rfl rfl ?_ | refine lEB S ?_ | refine lH S ?_)); (first | (refine off ?_; refine vl ?_; refine KO_nil ?_) | skip))
    any_goals ((refine KO_fn rfl rfl rfl rfl rfl ((within_ok _ _ _).mono ?_); rintro _ _ ⟨⟨rfl, hq2⟩ | ⟨rfl, hq2⟩, rfl⟩) <;> (refine vl ?_; refine KO_nil ?_))
    all_goals (repeat' (first | refine K_seq ?_ | refine k_cond rfl ?_ | refine K_skip ?_ | refine K_exit ?_ | refine k_block ?_ | refine K_scope ?_ | (refine K_region (id := 13) ?_; (first | refine vl ?_ | refine fB S ?_ | refine fS S rfl rfl ?_ | refine fA ?_); (first | refine lB S rfl rfl ?_ | refine lES2 S rfl rfl ?_ | refine lEB S ?_ | refine lH S ?_); refine mv ?_; refine KO_nil ?_) | (refine K_region (id := 14) ?_; refine mv ?_; refine KO_nil ?_)))
    all_goals (refine K_ret ⟨_, rfl, ?_⟩)
    all_goals (refine ⟨?_, S.drop⟩; unfold tsize sizeOf1; rw [if_neg (by omega), if_neg (by omega), if_neg (by omega), if_pos (by omega)]; unfold rowSize)
    all_goals first | (rw [if_pos (by omega)]; rfl) | (rw [if_neg (by omega)]; rfl)
  · refine K_ret ⟨_, rfl, ?_⟩
    refine ⟨?_, S.drop⟩
    unfold tsize sizeOf1; rw [if_neg (by omega), if_neg (by omega), if_neg (by omega), if_neg (by omega)]; rfl
end Go.Proofs.Xx

/-
  The reference's check of a table.
-/
namespace Go.Proofs.Xx
open Go Go.Proofs
set_option linter.unusedSimpArgs false
set_option linter.unusedVariables false
set_option maxRecDepth 100000

theorem tsize_le (t : Tab) : 0 ≤ tsize t ∧ tsize t ≤ 24 := by
  unfold tsize sizeOf1 roundSize longSize shoeSize rowSize
  repeat' split
  all_goals omega

theorem refCheck_okL {h0 : AH} (w : WfH h0) (t : Tab) (r : TabL h0 t) : Fn Tryz.prog Xh 67 [tabV t] h0 (fun v h' => v = .int .i64 (chk t) ∧ Hs h0 h' []) := by
  have S := Hs.start w
  have hts := tsize_le t
  obtain ⟨hr, hnm, hol⟩ := r
  refine Fn_K rfl Tryz.func67 rfl rfl ?_
  all_goals (repeat' (first | refine K_seq ?_ | refine k_cond rfl ?_ | refine K_skip ?_ | refine K_exit ?_ | refine k_block ?_ | refine K_scope ?_ | (refine K_region (id := 0) ?_; (refine bx S ?_; clear S; intro b h S); refine mv ?_; refine KO_nil ?_) | (refine K_region (id := 1) ?_; (first | refine lB S rfl rfl ?_ | refine lES2 S rfl rfl ?_ | refine lEB S ?_ | refine lH S ?_))))
  (refine KO_fn rfl rfl rfl rfl rfl ((refSize_ok S.wf t).mono ?_); rintro _ h ⟨rfl, x⟩) <;> (replace S := S.join0 x; clear x; refine mv ?_; refine KO_nil ?_)
  all_goals (repeat' (first | refine K_seq ?_ | refine k_cond rfl ?_ | refine K_skip ?_ | refine K_exit ?_ | refine k_block ?_ | refine K_scope ?_ | (refine K_region (id := 2) ?_; (first | refine vl ?_ | refine fB S ?_ | refine fS S rfl rfl ?_ | refine fA ?_); (first | refine lB S rfl rfl ?_ | refine lES2 S rfl rfl ?_ | refine lEB S ?_ | refine lH S ?_))))
  (refine KO_fn rfl rfl rfl rfl rfl ((refName_ok S.wf t.name hnm).mono ?_); rintro _ h ⟨⟨rfl, hq⟩ | ⟨rfl, hq⟩, x⟩) <;> (replace S := S.join0 x; clear x; refine vl ?_; refine KO_nil ?_)
  all_goals (repeat' (first | refine K_seq ?_ | refine k_cond rfl ?_ | refine K_skip ?_ | refine K_exit ?_ | refine k_block ?_ | refine K_scope ?_ | (refine K_region (id := 3) ?_; refine mv ?_; refine KO_nil ?_) | (refine K_region (id := 4) ?_; refine mv ?_; (first | refine cT ?_ | refine cF ?_ | (refine cS ?_ ?_ <;> intro hc)) <;> (refine KO_nil ?_)) | (refine K_region (id := 5) ?_; refine mv ?_; refine KO_nil ?_) | (refine K_region (id := 6) ?_; refine mv ?_; refine KO_nil ?_)))
  · refine K_ret ⟨_, rfl, ?_⟩
    exact ⟨by unfold chk; rw [if_neg (by simpa using hq), if_pos hc]; rfl, S.drop⟩
  · refine k_loop (σ := Nat) (fun i h' => Hs h0 h' [.blk b (tabV t).cells.toList 25] ∧ i ≤ t.opn.length ∧ (∀ j, j < i → (0 ≤ t.opn.getD j default ∧ t.opn.getD j default < tsize t) ∧ (0 < j → t.opn.getD (j - 1) default < t.opn.getD j default))) (fun i => t.opn.length - i) (fun i => [(1, .pointer (some ⟨b, 0, none⟩)), (3, .int .i64 (tsize t)), (4, .int .i64 i)]) 0 (by repeat (first | exact Ks.le_nil _ | refine Ks.le_cons rfl ?_ | refine Ks.le_int ?_)) ?_ ?_
    · exact ⟨S, Nat.zero_le _, fun j hj => absurd hj (Nat.not_lt_zero _)⟩
    clear S
    rintro i h ⟨S, h1, h2⟩
    all_goals (repeat' (first | refine K_seq ?_ | refine k_cond rfl ?_ | refine K_skip ?_ | refine K_exit ?_ | refine k_block ?_ | refine K_scope ?_ | (refine K_region (id := 7) ?_; refine mv ?_; (first | refine vl ?_ | refine fB S ?_ | refine fS S rfl rfl ?_ | refine fA ?_); (first | refine lB S rfl rfl ?_ | refine lES2 S rfl rfl ?_ | refine lEB S ?_ | refine lH S ?_); (first | refine lnB S ?_ | refine lnS S rfl rfl ?_); (first | refine cT ?_ | refine cF ?_ | (refine cS ?_ ?_ <;> intro hc)) <;> (refine KO_nil ?_)) | (refine K_draw (id := 9) ?_; (first | refine vl ?_ | refine fB S ?_ | refine fS S rfl rfl ?_ | refine fA ?_); (first | refine lB S rfl rfl ?_ | refine lES2 S rfl rfl ?_ | refine lEB S ?_ | refine lH S ?_); refine mv ?_; (first | refine ixB S ?_ | refine ixS2 S rfl rfl ?_); (first | refine lB S rfl rfl ?_ | refine lES2 S rfl rfl ?_ | refine lEB S ?_ | refine lH S ?_); refine mv ?_; (first | refine sb ?_ | refine vl ?_)) | (refine K_region (id := 11) ?_; (first | refine vl ?_ | refine fB S ?_ | refine fS S rfl rfl ?_ | refine fA ?_); (first | refine lB S rfl rfl ?_ | refine lES2 S rfl rfl ?_ | refine lEB S ?_ | refine lH S ?_))))
    · (refine KO_fn rfl rfl rfl rfl rfl ((within_ok _ _ _).mono ?_); rintro _ _ ⟨⟨rfl, hq3⟩ | ⟨rfl, hq3⟩, rfl⟩) <;> (refine vl ?_; refine mv ?_; (first | refine off ?_ | refine mv ?_); (first | refine off ?_ | (first | refine cT ?_ | refine cF ?_ | (refine cS ?_ ?_ <;> intro hc))) <;> ((first | refine off ?_ | refine mv ?_); (first | refine off ?_ | (first | refine vl ?_ | refine fB S ?_ | refine fS S rfl rfl ?_ | refine fA ?_)); (first | refine off ?_ | (first | refine lB S rfl rfl ?_ | refine lES2 S rfl rfl ?_ | refine lEB S ?_ | refine lH S ?_)); (first | refine off ?_ | refine mv ?_); (first | refine off ?_ | (first | refine ixB S ?_ | refine ixS2 S rfl rfl ?_)); (first | refine off ?_ | (first | refine lB S rfl rfl ?_ | refine lES2 S rfl rfl ?_ | refine lEB S ?_ | refine lH S ?_)); (first | refine off ?_ | (first | refine vl ?_ | refine fB S ?_ | refine fS S rfl rfl ?_ | refine fA ?_)); (first | refine off ?_ | (first | refine lB S rfl rfl ?_ | refine lES2 S rfl rfl ?_ | refine lEB S ?_ | refine lH S ?_)); (first | refine off ?_ | refine mv ?_); (first | refine off ?_ | (first | refine sb ?_ | refine vl ?_)); (first | refine off ?_ | (first | refine ixB S ?_ | refine ixS2 S rfl rfl ?_)); (first | refine off ?_ | (first | refine lB S rfl rfl ?_ | refine lES2 S rfl rfl ?_ | refine lEB S ?_ | refine lH S ?_)); (first | refine off ?_ | (first | refine cT ?_ | refine cF ?_ | (refine cS ?_ ?_ <;> intro hc))) <;> ((first | refine off ?_ | refine vl ?_); refine vl ?_; refine KO_nil ?_)))
      all_goals (repeat' (first | refine K_seq ?_ | refine k_cond rfl ?_ | refine K_skip ?_ | refine K_exit ?_ | refine k_block ?_ | refine K_scope ?_ | (refine K_region (id := 8) ?_; refine mv ?_; (first | refine ad ?_ | refine vl ?_); refine mv ?_; refine KO_nil ?_) | (refine K_region (id := 10) ?_; refine mv ?_; refine KO_nil ?_)))
      all_goals (try simp only [Int.toNat_natCast] at *)
      · refine K_ret ⟨_, rfl, ?_⟩
        refine ⟨?_, S.drop⟩
        rw [show ((i : Int) - 1).toNat = i - 1 by omega] at hc
        have : ¬ OpnOk (tsize t) t.opn := fun q => by have q1 := (q i (by omega)).2 (by omega); omega
        unfold chk; rw [if_neg (by simpa using hq), if_neg (by assumption), if_pos this]; rfl
      · refine ⟨i + 1, ?_, ?_, (by repeat (first | exact Ks.le_nil _ | refine Ks.le_cons rfl ?_ | refine Ks.le_int ?_))⟩
        · show t.opn.length - (i + 1) < t.opn.length - i; omega
        · rw [show ((i : Int) - 1).toNat = i - 1 by omega] at hc
          refine ⟨S, by omega, fun j hj => ?_⟩
          rcases Nat.lt_or_ge j i with q | q
          · exact h2 j q
          · have e : j = i := by omega
            subst e
            exact ⟨by omega, fun q => by omega⟩
      · refine ⟨i + 1, ?_, ?_, (by repeat (first | exact Ks.le_nil _ | refine Ks.le_cons rfl ?_ | refine Ks.le_int ?_))⟩
        · show t.opn.length - (i + 1) < t.opn.length - i; omega
        · refine ⟨S, by omega, fun j hj => ?_⟩
          have e : j = i := by omega
          subst e
          exact ⟨by omega, fun q => by omega⟩
      · refine K_ret ⟨_, rfl, ?_⟩
        refine ⟨?_, S.drop⟩
        have : ¬ OpnOk (tsize t) t.opn := fun q => by have q1 := (q i (by omega)).1; omega
        unfold chk; rw [if_neg (by simpa using hq), if_neg (by assumption), if_pos this]; rfl
    have hok : OpnOk (tsize t) t.opn := fun j hj => h2 j (by omega)
    (refine KO_fn rfl rfl rfl rfl rfl ((within_ok _ _ _).mono ?_); rintro _ _ ⟨⟨rfl, hq3⟩ | ⟨rfl, hq3⟩, rfl⟩) <;> (refine vl ?_; refine mv ?_; (first | refine off ?_ | (first | refine vl ?_ | refine fB S ?_ | refine fS S rfl rfl ?_ | refine fA ?_)); (first | refine off ?_ | (first | refine lB S rfl rfl ?_ | refine lES2 S rfl rfl ?_ | refine lEB S ?_ | refine lH S ?_)); (first | (refine off ?_; (first | refine off ?_ | refine vl ?_); refine vl ?_; refine KO_nil ?_) | skip))
    any_goals ((refine KO_fn rfl rfl rfl rfl rfl ((within_ok _ _ _).mono ?_); rintro _ _ ⟨⟨rfl, hq4⟩ | ⟨rfl, hq4⟩, rfl⟩) <;> ((first | refine off ?_ | refine vl ?_); refine vl ?_; refine KO_nil ?_))
    all_goals (repeat' (first | refine K_seq ?_ | refine k_cond rfl ?_ | refine K_skip ?_ | refine K_exit ?_ | refine k_block ?_ | refine K_scope ?_ | (refine K_region (id := 12) ?_; refine mv ?_; refine KO_nil ?_) | (refine K_region (id := 13) ?_; refine mv ?_; refine KO_nil ?_)))
    all_goals
      refine K_ret ⟨_, rfl, ?_⟩
      refine ⟨?_, S.drop⟩
      unfold chk; rw [if_neg (by simpa using hq), if_neg (by assumption), if_neg (by simpa using hok)]
      first
        | (rw [if_pos (by unfold XYok; omega)]; rfl)
        | (rw [if_neg (by unfold XYok; omega)]; rfl)
  · refine K_ret ⟨_, rfl, ?_⟩
    exact ⟨by unfold chk; rw [if_pos (by simpa using hq)]; rfl, S.drop⟩
theorem refCheck_ok {h0 : AH} (w : WfH h0) (t : Tab) (r : TabR h0 t) : Fn Tryz.prog Xh 67 [tabV t] h0 (fun v h' => v = .int .i64 (chk t) ∧ Hs h0 h' []) := refCheck_okL w t (TabR.toL r)
end Go.Proofs.Xx

/-
  A first element that a function accepts.
-/
namespace Go.Proofs.Xx
open Go Go.Proofs
set_option linter.unusedSimpArgs false
set_option linter.unusedVariables false
set_option maxRecDepth 100000

/-- The first index below n where p holds, -1 if none. -/
def IdxIs (v : Value) (p : Nat → Prop) (n : Nat) : Prop := (∃ i : Nat, i < n ∧ v = .int .i64 i ∧ p i ∧ ∀ j, j < i → ¬ p j) ∨ (v = .int .i64 (-1) ∧ ∀ j, j < n → ¬ p j)

theorem indexTab_ok {h0 : AH} (w : WfH h0) (v : Value) (l : List Tab) (g : Nat) (cap : List Value) (p : Nat → Prop) (hr : RdL h0 v 7 eT l) (hl : l.length ≤ 1000)
    (hf : ∀ i h, i < l.length → Hs h0 h [] → Fn Tryz.prog Xh g (tabV (l.getD i default) :: cap) h (fun v h' => BoolIs v (p i) ∧ Hs h h' [])) :
    Fn Tryz.prog Xh 85 [v, .func (.func g) #[] cap.toArray] h0 (fun r h' => IdxIs r p l.length ∧ Hs h0 h' []) := by
  have S := Hs.start w
  refine Fn_K rfl Tryz.func85 rfl rfl ?_
  all_goals (repeat' (first | refine K_seq ?_ | refine k_cond rfl ?_ | refine K_skip ?_ | refine K_exit ?_ | refine k_block ?_ | refine K_scope ?_ | (refine K_region (id := 0) ?_; refine mv ?_; refine KO_nil ?_) | (refine K_region (id := 1) ?_; refine mv ?_; (first | refine lnB S ?_ | refine lnS S rfl rfl ?_); refine mv ?_; refine KO_nil ?_)))
  refine k_loop (σ := Nat) (fun i h' => Hs h0 h' [] ∧ i ≤ l.length ∧ ∀ j, j < i → ¬ p j) (fun i => l.length - i) (fun i => [(0, v), (1, .func (.func g) #[] cap.toArray), (7, .int .i64 l.length), (8, .int .i64 i)]) 0 (by repeat (first | exact Ks.le_nil _ | refine Ks.le_cons rfl ?_ | refine Ks.le_int ?_)) ?_ ?_
  · exact ⟨S, Nat.zero_le _, fun j hj => absurd hj (Nat.not_lt_zero _)⟩
  clear S
  rintro i h ⟨S, h1, h2⟩
  all_goals (repeat' (first | refine K_seq ?_ | refine k_cond rfl ?_ | refine K_skip ?_ | refine K_exit ?_ | refine k_block ?_ | refine K_scope ?_ | (refine K_region (id := 2) ?_; (first | refine cT ?_ | refine cF ?_ | (refine cS ?_ ?_ <;> intro hc)) <;> (refine KO_nil ?_)) | (refine K_region (id := 3) ?_; refine mv ?_; refine mv ?_; refine KO_nil ?_) | (refine K_region (id := 4) ?_; refine mv ?_; refine mv ?_; refine mv ?_; (first | refine ixB S ?_ | refine ixS2 S rfl rfl ?_); (first | refine lB S rfl rfl ?_ | refine lES2 S rfl rfl ?_ | refine lEB S ?_ | refine lH S ?_)) | (refine K_region (id := 7) ?_; refine mv ?_; refine KO_nil ?_)))
  · (refine KO_call rfl rfl rfl rfl ((hf i _ (by omega) S).mono ?_); rintro _ h ⟨⟨rfl, hq⟩ | ⟨rfl, hq⟩, x⟩) <;> (replace S := S.join0 x; clear x; refine KO_nil ?_)
    all_goals (repeat' (first | refine K_seq ?_ | refine k_cond rfl ?_ | refine K_skip ?_ | refine K_exit ?_ | refine k_block ?_ | refine K_scope ?_ | (refine K_region (id := 5) ?_; refine mv ?_; refine mv ?_; refine KO_nil ?_) | (refine K_region (id := 6) ?_; (first | refine ad ?_ | refine vl ?_); refine mv ?_; refine KO_nil ?_)))
    · refine K_ret ⟨_, rfl, ?_⟩
      exact ⟨.inl ⟨i, by omega, rfl, hq, h2⟩, S⟩
    · refine ⟨i + 1, ?_, ?_, (by repeat (first | exact Ks.le_nil _ | refine Ks.le_cons rfl ?_ | refine Ks.le_int ?_))⟩
      · show l.length - (i + 1) < l.length - i; omega
      · refine ⟨S, by omega, fun j hj => ?_⟩
        rcases Nat.lt_or_ge j i with q | q
        · exact h2 j q
        · have e : j = i := by omega
          subst e; exact hq
  · refine K_ret ⟨_, rfl, ?_⟩
    exact ⟨.inr ⟨rfl, fun j hj => h2 j (by omega)⟩, S⟩

theorem containsTab_ok {h0 : AH} (w : WfH h0) (v : Value) (l : List Tab) (g : Nat) (cap : List Value) (p : Nat → Prop) (hr : RdL h0 v 7 eT l) (hl : l.length ≤ 1000)
    (hf : ∀ i h, i < l.length → Hs h0 h [] → Fn Tryz.prog Xh g (tabV (l.getD i default) :: cap) h (fun v h' => BoolIs v (p i) ∧ Hs h h' [])) :
    Fn Tryz.prog Xh 64 [v, .func (.func g) #[] cap.toArray] h0 (fun r h' => BoolIs r (∃ i, i < l.length ∧ p i) ∧ Hs h0 h' []) := by
  have S := Hs.start w
  refine Fn_K rfl Tryz.func64 rfl rfl ?_
  all_goals (repeat' (first | refine K_seq ?_ | refine k_cond rfl ?_ | refine K_skip ?_ | refine K_exit ?_ | refine k_block ?_ | refine K_scope ?_ | (refine K_region (id := 0) ?_; refine mv ?_; refine KO_nil ?_) | (refine K_region (id := 1) ?_; refine mv ?_; refine mv ?_)))
  (refine KO_fn rfl rfl rfl rfl rfl ((indexTab_ok S.wf v l g cap p hr hl hf).mono ?_); rintro _ h ⟨⟨i, hi, rfl, hq, hn⟩ | ⟨rfl, hn⟩, x⟩) <;> (replace S := S.join0 x; clear x; (first | refine cT ?_ | refine cF ?_ | (refine cS ?_ ?_ <;> intro hc)) <;> (refine mv ?_; refine KO_nil ?_))
  all_goals (repeat' (first | refine K_seq ?_ | refine k_cond rfl ?_ | refine K_skip ?_ | refine K_exit ?_ | refine k_block ?_ | refine K_scope ?_))
  all_goals (try omega)
  all_goals (refine K_ret ⟨_, rfl, ?_⟩)
  · exact ⟨.inl ⟨rfl, i, hi, hq⟩, S⟩
  · exact ⟨.inr ⟨rfl, fun ⟨j, hj, hp⟩ => hn j hj hp⟩, S⟩
end Go.Proofs.Xx

/-
  The check of a hall, the program's and the reference's.
-/
namespace Go.Proofs.Xx
open Go Go.Proofs
set_option linter.unusedSimpArgs false
set_option linter.unusedVariables false
set_option maxRecDepth 100000

abbrev tb (l : List Tab) (i : Nat) : Tab := l.getD i default
def dupAt (l : List Tab) (k : Nat) : Prop := ∃ j, j < k ∧ (tb l j).name = (tb l k).name
def goodAt (l : List Tab) (k : Nat) : Prop := chk (tb l k) = 0 ∧ ¬ dupAt l k
def ChkAll (l : List Tab) (i e : Int) : Prop :=
  (16 < l.length ∧ i = 0 ∧ e = 7) ∨ (l.length ≤ 16 ∧ ((∃ k : Nat, k < l.length ∧ i = k ∧ (∀ j, j < k → goodAt l j) ∧ ((chk (tb l k) ≠ 0 ∧ e = chk (tb l k)) ∨ (chk (tb l k) = 0 ∧ dupAt l k ∧ e = 5))) ∨ ((∀ j, j < l.length → goodAt l j) ∧ i = 0 ∧ e = 0)))
/-- What a hall reads as. -/
structure HallR (h : AH) (v : Value) (l : List Tab) : Prop where
  rd : RdL h v 7 eT l
  tab : ∀ i, i < l.length → TabR h (tb l i)
  len : l.length ≤ 1000
  cap : CapOk v
theorem TabR.ext {h h' : AH} {t : Tab} (r : TabR h t) (w : WfH h) (x : Ext h h') : TabR h' t := ⟨r.1.ext w x, r.2⟩
theorem HallR.ext {h h' : AH} {v : Value} {l : List Tab} (r : HallR h v l) (w : WfH h) (x : Ext h h') : HallR h' v l := ⟨r.rd.ext w x, fun i hi => (r.tab i hi).ext w x, r.len, r.cap⟩

/-- A hall that is valid. -/
def ValidL (l : List Tab) : Prop := l.length ≤ 16 ∧ ∀ j, j < l.length → goodAt l j
theorem ChkAll.valid {l : List Tab} {i e : Int} (a : ChkAll l i e) : e = 0 ↔ ValidL l := by
  rcases a with ⟨h1, h2, h3⟩ | ⟨h1, ⟨k, hk, h2, h3, ⟨h4, h5⟩ | ⟨h4, h5, h6⟩⟩ | ⟨h2, h3, h4⟩⟩
  · exact ⟨fun q => by omega, fun q => by have := q.1; omega⟩
  · exact ⟨fun q => absurd (h5 ▸ q) h4, fun q => absurd (q.2 k hk).1 h4⟩
  · exact ⟨fun q => by omega, fun q => absurd h5 (q.2 k hk).2⟩
  · exact ⟨fun _ => ⟨h1, h2⟩, fun _ => h4⟩
theorem ChkAll.uniq {l : List Tab} {i e i' e' : Int} (a : ChkAll l i e) (b : ChkAll l i' e') : i = i' ∧ e = e' := by
  have key : ∀ {k k' : Nat}, (∀ j, j < k → goodAt l j) → ¬ goodAt l k' → k ≤ k' := fun g n => Nat.le_of_not_lt fun q => n (g _ q)
  have bad : ∀ {k : Nat} {e : Int}, ((chk (tb l k) ≠ 0 ∧ e = chk (tb l k)) ∨ (chk (tb l k) = 0 ∧ dupAt l k ∧ e = 5)) → ¬ goodAt l k := fun q g => q.elim (fun q => q.1 g.1) (fun q => g.2 q.2.1)
  rcases a with ⟨h1, h2, h3⟩ | ⟨h1, ⟨k, hk, h2, h3, h4⟩ | ⟨h2, h3, h4⟩⟩ <;> rcases b with ⟨g1, g2, g3⟩ | ⟨g1, ⟨k', hk', g2, g3, g4⟩ | ⟨g2, g3, g4⟩⟩
  · exact ⟨by omega, by omega⟩
  · omega
  · omega
  · omega
  · have e1 := key h3 (bad g4)
    have e2 := key g3 (bad h4)
    have : k = k' := by omega
    subst this
    refine ⟨by omega, ?_⟩
    rcases h4 with ⟨h4, h5⟩ | ⟨h4, h5, h6⟩ <;> rcases g4 with ⟨g4, g5⟩ | ⟨g4, g5, g6⟩
    · omega
    · exact absurd g4 h4
    · exact absurd h4 g4
    · omega
  · exact absurd (g2 k hk) (bad h4)
  · omega
  · exact absurd (h2 k' hk') (bad g4)
  · exact ⟨by omega, by omega⟩
/-- How many seats the first k tables have. -/
def sumT (l : List Tab) : Nat → Int
  | 0 => 0
  | k + 1 => sumT l k + tsize (tb l k)

end Go.Proofs.Xx

/-
  hall.permutation.
-/
namespace Go.Proofs.Xx
open Go Go.Proofs
set_option linter.unusedSimpArgs false
set_option linter.unusedVariables false

def permOk (l : List Int) : Bool := decide ((∀ x ∈ l, 0 ≤ x ∧ x < l.length) ∧ l.Nodup)
def seenL (l : List Int) (i : Nat) : List Value := (List.range l.length).map fun (k : Nat) => Value.bool (decide ((k : Int) ∈ l.take i))
end Go.Proofs.Xx

/-
  slices.Equal, slices.Clone of ints.
-/
namespace Go.Proofs.Xx
open Go Go.Proofs
set_option linter.unusedSimpArgs false
set_option linter.unusedVariables false

theorem take_snoc_eq {a b : List Int} {i : Nat} (ha : i < a.length) (hb : i < b.length) (h : a.take i = b.take i) (hx : a[i] = b[i]) : a.take (i + 1) = b.take (i + 1) := by
  rw [List.take_succ_eq_append_getElem ha, List.take_succ_eq_append_getElem hb, h, hx]

theorem equal_ints {h : AH} {v u : Value} {a b : List Int} (ra : RdI h v a) (rb : RdI h u b) (hl : a.length < 2^30) (hl2 : b.length < 2^30) :
    Fn Tryz.prog Xh 59 [v, u] h (fun x h' => x = .bool (decide (a = b)) ∧ h' = h) := by
  refine Fn_K rfl Tryz.func59 rfl rfl ?_
  refine K_seq (K_region (KO_val rfl rfl rfl (KO_nil ?_)))
  refine K_seq (K_seq (K_region ?_))
  refine KO_val rfl rfl rfl ?_
  refine KO_len rfl rfl rfl (ra.len und23) rfl ?_
  refine KO_val rfl rfl rfl ?_
  refine KO_len rfl rfl rfl (rb.len und23) rfl ?_
  by_cases hlen : a.length = b.length
  · refine KO_bin rfl rfl rfl rfl (neq_i64 (v := false) (decide_eq_true (by omega))) rfl (KO_nil ?_)
    refine K_cond rfl (K_skip ?_)
    refine K_seq (K_seq (K_region ?_))
    refine KO_val rfl rfl rfl ?_
    refine KO_len rfl rfl rfl (ra.len und23) rfl ?_
    refine KO_val rfl rfl rfl (KO_nil ?_)
    refine K_block ?_
    refine K_loop (fun m L h' => h' = h ∧ ∃ i : Nat, m + i = a.length ∧ a.take i = b.take i ∧ L = [(0, v), (1, u), (12, .int .i64 a.length), (13, .int .i64 i)]) ?_ a.length
      ⟨rfl, 0, rfl, by simp, rfl⟩ (by repeat (first | exact Ks.le_nil _ | refine Ks.le_cons rfl ?_))
    rintro m L h' ⟨rfl, i, him, hi, rfl⟩
    refine K_seq (K_region (KO_val rfl rfl rfl (KO_nil ?_)))
    refine K_seq ?_
    refine K_cond2 rfl (fun hv => ?_) (fun hv => ?_)
    · have hv := of_decide_eq_true hv
      have hia : i < a.length := by omega
      have hib : i < b.length := by omega
      refine K_skip ?_
      refine K_seq (K_block (K_seq (K_region (KO_val rfl rfl rfl (KO_val rfl rfl rfl (KO_nil ?_))))))
      refine K_seq (K_draw ?_)
      obtain ⟨p, hp1, hp2⟩ := ra.at1 und23 sz3 agg3 (ik := .i64) (ints_get (List.getElem?_eq_getElem hia))
      obtain ⟨q, hq1, hq2⟩ := rb.at1 und23 sz3 agg3 (ik := .i64) (ints_get (List.getElem?_eq_getElem hib))
      refine KO_val rfl rfl rfl ?_
      refine KO_val rfl rfl rfl ?_
      refine KO_index rfl rfl rfl rfl hp1 rfl ?_
      refine KO_load rfl rfl rfl hp2 rfl ?_
      refine KO_val rfl rfl rfl ?_
      refine KO_val rfl rfl rfl ?_
      refine KO_index rfl rfl rfl rfl hq1 rfl ?_
      refine KO_load rfl rfl rfl hq2 rfl ?_
      by_cases hx : a[i] = b[i]
      · refine KO_bin rfl rfl rfl rfl (neq_i64 (v := false) (decide_eq_true hx)) rfl (KO_nil ?_)
        refine K_cond rfl (K_skip ?_)
        refine K_region ?_
        refine KO_bin rfl rfl rfl rfl (add_i64 (c := ((i + 1 : Nat) : Int)) (by omega) (by omega) (by omega)) rfl ?_
        refine KO_val rfl rfl rfl (KO_nil ?_)
        refine ⟨m - 1, _, by omega, ⟨rfl, i + 1, by omega, take_snoc_eq hia hib hi hx, rfl⟩, ?_⟩
        repeat (first | exact Ks.le_nil _ | refine Ks.le_cons rfl ?_)
      · refine KO_bin rfl rfl rfl rfl (neq_i64 (v := true) (decide_eq_false hx)) rfl (KO_nil ?_)
        refine K_cond rfl ?_
        refine K_seq (K_region (KO_val rfl rfl rfl (KO_nil ?_)))
        refine K_ret ⟨_, rfl, ?_, rfl⟩
        have : decide (a = b) = false := by
          rw [decide_eq_false_iff_not]
          intro q; subst q; exact hx rfl
        rw [this]; rfl
    · have hv := of_decide_eq_false hv
      refine K_exit ?_
      show K Tryz.prog Xh _ _ _ _ _ _
      refine K_seq (K_region (KO_val rfl rfl rfl (KO_nil ?_)))
      refine K_ret ⟨_, rfl, ?_, rfl⟩
      have : decide (a = b) = true := by
        rw [decide_eq_true_iff]
        rw [List.take_of_length_le (by omega), List.take_of_length_le (by omega)] at hi
        exact hi
      rw [this]; rfl
  · refine KO_bin rfl rfl rfl rfl (neq_i64 (v := true) (decide_eq_false (by omega))) rfl (KO_nil ?_)
    refine K_cond rfl ?_
    refine K_seq (K_region (KO_val rfl rfl rfl (KO_nil ?_)))
    refine K_ret ⟨_, rfl, ?_, rfl⟩
    have : decide (a = b) = false := by
      rw [decide_eq_false_iff_not]
      intro q; subst q; exact hlen rfl
    rw [this]; rfl
end Go.Proofs.Xx

/-
  Copies of halls; when halls are the same; which are few.
-/
namespace Go.Proofs.Xx
open Go Go.Proofs
set_option linter.unusedSimpArgs false
set_option linter.unusedVariables false
set_option maxRecDepth 100000

theorem ints_flat (l : List Int) : l.flatMap eI = ints l := by
  induction l with
  | nil => rfl
  | cons x l ih => simp [eI, ints, ih]
theorem RdL.toI {h : AH} {v : Value} {l : List Int} (r : RdL h v 1 eI l) : RdI h v l := by
  unfold RdL at r; rw [ints_flat] at r; exact r
theorem equal_ok {h0 : AH} (w : WfH h0) (v u : Value) (a b : List Int) (ra : RdL h0 v 1 eI a) (rb : RdL h0 u 1 eI b) (ha : a.length ≤ 1000000) (hb : b.length ≤ 1000000) : Fn Tryz.prog Xh 59 [v, u] h0 (fun r h' => BoolIs r (a = b) ∧ Hs h0 h' []) := by
  refine (equal_ints ra.toI rb.toI (by omega) (by omega)).mono ?_
  rintro x h ⟨rfl, rfl⟩
  refine ⟨?_, Hs.start w⟩
  by_cases q : a = b
  · exact .inl ⟨by simp [q], q⟩
  · exact .inr ⟨by simp [q], q⟩
theorem Hs.nilS {h0 h : AH} {rs : List Rs} {α : Type} {e : TypeId} {z : Nat} {enc : α → List Value} (S : Hs h0 h rs) : Hs h0 h (.sl (.slice none 0 0) e z enc [] :: rs) :=
  S.grow (fp := fun _ => False) (Ext.refl S.wf) (.inl ⟨rfl, rfl⟩) fun b hb => hb.elim
theorem Hs.anyS {h0 h : AH} {rs : List Rs} {p : AH → Fp → Prop} (S : Hs h0 h rs) (k : ∀ h', p h' fun _ => False) : Hs h0 h (.any p :: rs) :=
  S.grow (fp := fun _ => False) (Ext.refl S.wf) (fun h' _ => k h') fun b hb => hb.elim
theorem Hs.anyP {h0 h : AH} {rs : List Rs} {p : AH → Fp → Prop} (S : Hs h0 h rs) (a : At rs (.any p)) : ∃ fp, p h fp := by
  obtain ⟨fp, k, -⟩ := a.ok S.sep
  exact ⟨fp, k h fun _ _ => rfl⟩
theorem Hs.capS {h0 h : AH} {rs : List Rs} {v : Value} {α : Type} {e : TypeId} {z : Nat} {enc : α → List Value} {l : List α} (S : Hs h0 h rs) (a : At rs (.sl v e z enc l)) : CapOk v := by
  obtain ⟨fp, k, -⟩ := a.ok S.sep
  rcases k with ⟨rfl, -⟩ | ⟨b, o, cc, slk, rfl, -⟩
  · exact Nat.le_refl _
  · exact Nat.le_refl _

theorem clone_ok {h0 : AH} (w : WfH h0) (v : Value) (a : List Int) (r : RdL h0 v 1 eI a) (hl : a.length ≤ 1000000) : Fn Tryz.prog Xh 49 [v] h0 (fun u h' => Hs h0 h' [.sl u 3 1 eI a]) := by
  have S := Hs.start w
  have r0 := r
  rcases r with ⟨rfl, h1, -⟩ | ⟨b, o, cap, cc, e, s, q, rfl, h1, h2⟩
  · obtain rfl : a = [] := List.length_eq_zero_iff.1 h1
    refine Fn_K rfl Tryz.func49 rfl rfl ?_
    all_goals (repeat' (first | refine K_seq ?_ | refine k_cond rfl ?_ | refine K_skip ?_ | refine K_exit ?_ | refine k_block ?_ | refine K_scope ?_ | (refine K_region (id := 0) ?_; refine mv ?_; refine KO_nil ?_) | (refine K_region (id := 1) ?_; refine mv ?_; refine vl ?_; refine KO_nil ?_) | (refine K_region (id := 2) ?_; refine mv ?_; refine KO_nil ?_) | (refine K_region (id := 3) ?_; skip)))
    refine K_ret ⟨_, rfl, ?_⟩
    exact S.nilS
  · refine Fn_K rfl Tryz.func49 rfl rfl ?_
    all_goals (repeat' (first | refine K_seq ?_ | refine k_cond rfl ?_ | refine K_skip ?_ | refine K_exit ?_ | refine k_block ?_ | refine K_scope ?_ | (refine K_region (id := 0) ?_; refine mv ?_; refine KO_nil ?_) | (refine K_region (id := 1) ?_; refine mv ?_; refine vl ?_; refine KO_nil ?_) | (refine K_region (id := 2) ?_; refine mv ?_; refine KO_nil ?_) | (refine K_region (id := 3) ?_; skip)))
    refine nw 1 eI S ?_; clear S; intro u h S; (refine mv ?_)
    refine apd S rfl rfl (r0.ext w S.ext) ?_; clear S; intro v' h S; (refine mv ?_; refine KO_nil ?_)
    all_goals (repeat' (first | refine K_seq ?_ | refine k_cond rfl ?_ | refine K_skip ?_ | refine K_exit ?_ | refine k_block ?_ | refine K_scope ?_))
    refine K_ret ⟨_, rfl, ?_⟩
    exact S

/-- Tables that differ at most in where their open seats lie. -/
def SameTab (t u : Tab) : Prop := t = { u with os := t.os }
theorem sameTab_iff (t u : Tab) : SameTab t u ↔ t.name = u.name ∧ t.shape = u.shape ∧ t.A = u.A ∧ t.B = u.B ∧ t.X = u.X ∧ t.Y = u.Y ∧ t.opn = u.opn := by
  cases t; cases u; unfold SameTab; simp
  intros; exact ⟨fun q => ⟨q.2.1, q.2.2, q.1⟩, fun q => ⟨q.2.2, q.1, q.2.1⟩⟩
theorem sameTable_ok {h0 : AH} (w : WfH h0) (t u : Tab) (rt : RdL h0 t.ov 1 eI t.opn) (ru : RdL h0 u.ov 1 eI u.opn) (ht : t.opn.length ≤ 1000000) (hu : u.opn.length ≤ 1000000) : Fn Tryz.prog Xh 72 [tabV t, tabV u] h0 (fun r h' => BoolIs r (SameTab t u) ∧ Hs h0 h' []) := by
  have S := Hs.start w
  refine Fn_K rfl Tryz.func72 rfl rfl ?_
  all_goals (repeat' (first | refine K_seq ?_ | refine k_cond rfl ?_ | refine K_skip ?_ | refine K_exit ?_ | refine k_block ?_ | refine K_scope ?_ | (refine K_region (id := 0) ?_; (refine bx S ?_; clear S; intro b h S); (refine bx S ?_; clear S; intro b h S); refine mv ?_; refine KO_nil ?_) | (refine K_region (id := 1) ?_; (first | refine vl ?_ | refine fB S ?_ | refine fS S rfl rfl ?_ | refine fA ?_); (first | refine lB S rfl rfl ?_ | refine lES2 S rfl rfl ?_ | refine lEB S ?_ | refine lH S ?_); (first | refine vl ?_ | refine fB S ?_ | refine fS S rfl rfl ?_ | refine fA ?_); (first | refine lB S rfl rfl ?_ | refine lES2 S rfl rfl ?_ | refine lEB S ?_ | refine lH S ?_); (refine tS ?_ ?_ <;> intro hc) <;> (refine mv ?_; (first | refine off ?_ | (first | refine vl ?_ | refine fB S ?_ | refine fS S rfl rfl ?_ | refine fA ?_)); (first | refine off ?_ | (first | refine lB S rfl rfl ?_ | refine lES2 S rfl rfl ?_ | refine lEB S ?_ | refine lH S ?_)); (first | refine off ?_ | (first | refine vl ?_ | refine fB S ?_ | refine fS S rfl rfl ?_ | refine fA ?_)); (first | refine off ?_ | (first | refine lB S rfl rfl ?_ | refine lES2 S rfl rfl ?_ | refine lEB S ?_ | refine lH S ?_)); (first | refine off ?_ | (first | refine cT ?_ | refine cF ?_ | (refine cS ?_ ?_ <;> intro hc))) <;> (refine vl ?_; refine mv ?_; (first | refine off ?_ | (first | refine vl ?_ | refine fB S ?_ | refine fS S rfl rfl ?_ | refine fA ?_)); (first | refine off ?_ | (first | refine lB S rfl rfl ?_ | refine lES2 S rfl rfl ?_ | refine lEB S ?_ | refine lH S ?_)); (first | refine off ?_ | (first | refine vl ?_ | refine fB S ?_ | refine fS S rfl rfl ?_ | refine fA ?_)); (first | refine off ?_ | (first | refine lB S rfl rfl ?_ | refine lES2 S rfl rfl ?_ | refine lEB S ?_ | refine lH S ?_)); (first | refine off ?_ | (first | refine cT ?_ | refine cF ?_ | (refine cS ?_ ?_ <;> intro hc))) <;> (refine vl ?_; refine mv ?_; (first | refine off ?_ | (first | refine vl ?_ | refine fB S ?_ | refine fS S rfl rfl ?_ | refine fA ?_)); (first | refine off ?_ | (first | refine lB S rfl rfl ?_ | refine lES2 S rfl rfl ?_ | refine lEB S ?_ | refine lH S ?_)); (first | refine off ?_ | (first | refine vl ?_ | refine fB S ?_ | refine fS S rfl rfl ?_ | refine fA ?_)); (first | refine off ?_ | (first | refine lB S rfl rfl ?_ | refine lES2 S rfl rfl ?_ | refine lEB S ?_ | refine lH S ?_)); (first | refine off ?_ | (first | refine cT ?_ | refine cF ?_ | (refine cS ?_ ?_ <;> intro hc))) <;> (refine vl ?_; refine mv ?_; (first | refine off ?_ | (first | refine vl ?_ | refine fB S ?_ | refine fS S rfl rfl ?_ | refine fA ?_)); (first | refine off ?_ | (first | refine lB S rfl rfl ?_ | refine lES2 S rfl rfl ?_ | refine lEB S ?_ | refine lH S ?_)); (first | refine off ?_ | (first | refine vl ?_ | refine fB S ?_ | refine fS S rfl rfl ?_ | refine fA ?_)); (first | refine off ?_ | (first | refine lB S rfl rfl ?_ | refine lES2 S rfl rfl ?_ | refine lEB S ?_ | refine lH S ?_)); (first | refine off ?_ | (first | refine cT ?_ | refine cF ?_ | (refine cS ?_ ?_ <;> intro hc))) <;> (refine vl ?_; refine mv ?_; (first | refine off ?_ | (first | refine vl ?_ | refine fB S ?_ | refine fS S rfl rfl ?_ | refine fA ?_)); (first | refine off ?_ | (first | refine lB S rfl rfl ?_ | refine lES2 S rfl rfl ?_ | refine lEB S ?_ | refine lH S ?_)); (first | refine off ?_ | (first | refine vl ?_ | refine fB S ?_ | refine fS S rfl rfl ?_ | refine fA ?_)); (first | refine off ?_ | (first | refine lB S rfl rfl ?_ | refine lES2 S rfl rfl ?_ | refine lEB S ?_ | refine lH S ?_)); (first | refine off ?_ | (first | refine cT ?_ | refine cF ?_ | (refine cS ?_ ?_ <;> intro hc))) <;> (refine vl ?_; refine mv ?_; (first | refine off ?_ | (first | refine vl ?_ | refine fB S ?_ | refine fS S rfl rfl ?_ | refine fA ?_)); (first | refine off ?_ | (first | refine lB S rfl rfl ?_ | refine lES2 S rfl rfl ?_ | refine lEB S ?_ | refine lH S ?_)); (first | refine off ?_ | (first | refine vl ?_ | refine fB S ?_ | refine fS S rfl rfl ?_ | refine fA ?_)); (first | refine off ?_ | (first | refine lB S rfl rfl ?_ | refine lES2 S rfl rfl ?_ | refine lEB S ?_ | refine lH S ?_)); (first | (refine off ?_; refine vl ?_; refine mv ?_; refine KO_nil ?_) | skip))))))))))
  · (refine KO_fn rfl rfl rfl rfl rfl ((equal_ok S.wf t.ov u.ov t.opn u.opn (rt.ext w S.ext) (ru.ext w S.ext) ht hu).mono ?_); rintro _ h ⟨⟨rfl, hq⟩ | ⟨rfl, hq⟩, x⟩) <;> (replace S := S.join0 x; clear x; refine vl ?_; refine mv ?_; refine KO_nil ?_)
    all_goals (repeat' (first | refine K_seq ?_ | refine k_cond rfl ?_ | refine K_skip ?_ | refine K_exit ?_ | refine k_block ?_ | refine K_scope ?_))
    all_goals (refine K_ret ⟨_, rfl, ?_⟩)
    · exact ⟨.inl ⟨rfl, (sameTab_iff t u).2 ⟨by assumption, by assumption, by assumption, by assumption, by assumption, by assumption, hq⟩⟩, S.drop⟩
    · exact ⟨.inr ⟨rfl, fun q => hq ((sameTab_iff t u).1 q).2.2.2.2.2.2⟩, S.drop⟩
  all_goals (refine K_ret ⟨_, rfl, ?_⟩)
  all_goals (refine ⟨.inr ⟨rfl, fun q => ?_⟩, S.drop⟩; have q := (sameTab_iff t u).1 q; obtain ⟨q1, q2, q3, q4, q5, q6, -⟩ := q; first | exact hc q1 | exact hc q2 | exact hc q3 | exact hc q4 | exact hc q5 | exact hc q6)
def SameAll (l m : List Tab) : Prop := l.length = m.length ∧ ∀ i, i < l.length → SameTab (tb l i) (tb m i)
/-- Halls that are examined. -/
def FewP (l : List Tab) : Prop := l.length ≤ 20 ∧ ∀ i, i < l.length → (tb l i).name.length ≤ 40 ∧ (tb l i).opn.length ≤ 40
theorem few1_ok {h0 : AH} (w : WfH h0) (t : Tab) (r : RdL h0 t.ov 1 eI t.opn) (hn : t.name.length ≤ maxLen) (ho : t.opn.length ≤ maxLen) : Fn Tryz.prog Xh 65 [tabV t] h0 (fun v h' => BoolIs v (40 < t.name.length ∨ 40 < t.opn.length) ∧ Hs h0 h' []) := by
  have S := Hs.start w
  refine Fn_K rfl Tryz.func65 rfl rfl ?_
  all_goals (repeat' (first | refine K_seq ?_ | refine k_cond rfl ?_ | refine K_skip ?_ | refine K_exit ?_ | refine k_block ?_ | refine K_scope ?_ | (refine K_region (id := 0) ?_; (refine bx S ?_; clear S; intro b h S); refine mv ?_; refine KO_nil ?_) | (refine K_region (id := 1) ?_; (first | refine vl ?_ | refine fB S ?_ | refine fS S rfl rfl ?_ | refine fA ?_); (first | refine lB S rfl rfl ?_ | refine lES2 S rfl rfl ?_ | refine lEB S ?_ | refine lH S ?_); refine tl ?_; (first | refine cT ?_ | refine cF ?_ | (refine cS ?_ ?_ <;> intro hc)) <;> (refine mv ?_; (first | refine off ?_ | (first | refine vl ?_ | refine fB S ?_ | refine fS S rfl rfl ?_ | refine fA ?_)); (first | refine off ?_ | (first | refine lB S rfl rfl ?_ | refine lES2 S rfl rfl ?_ | refine lEB S ?_ | refine lH S ?_)); (first | refine off ?_ | (first | refine lnB S ?_ | refine lnS S rfl rfl ?_)); (first | refine off ?_ | (first | refine cT ?_ | refine cF ?_ | (refine cS ?_ ?_ <;> intro hc))) <;> (refine vl ?_; refine mv ?_; refine KO_nil ?_)))))
  all_goals (refine K_ret ⟨_, rfl, ?_⟩)
  · exact ⟨.inl ⟨rfl, .inl (by omega)⟩, S.drop⟩
  · exact ⟨.inl ⟨rfl, .inr (by omega)⟩, S.drop⟩
  · exact ⟨.inr ⟨rfl, by omega⟩, S.drop⟩
theorem few_ok {h0 : AH} (w : WfH h0) (v : Value) (l : List Tab) (hr : RdL h0 v 7 eT l) (hn : l.length ≤ maxLen) (ht : ∀ i, i < l.length → RdL h0 (tb l i).ov 1 eI (tb l i).opn ∧ (tb l i).name.length ≤ maxLen ∧ (tb l i).opn.length ≤ maxLen) : Fn Tryz.prog Xh 19 [v] h0 (fun r h' => BoolIs r (FewP l) ∧ Hs h0 h' []) := by
  have S := Hs.start w
  refine Fn_K rfl Tryz.func19 rfl rfl ?_
  all_goals (repeat' (first | refine K_seq ?_ | refine k_cond rfl ?_ | refine K_skip ?_ | refine K_exit ?_ | refine k_block ?_ | refine K_scope ?_ | (refine K_region (id := 0) ?_; refine mv ?_; refine KO_nil ?_) | (refine K_region (id := 1) ?_; refine mv ?_; (first | refine lnB S ?_ | refine lnS S rfl rfl ?_); (first | refine cT ?_ | refine cF ?_ | (refine cS ?_ ?_ <;> intro hc)) <;> (refine mv ?_; (first | refine off ?_ | refine mv ?_); (first | (refine off ?_; (first | refine off ?_ | refine vl ?_); refine vl ?_; refine mv ?_; refine KO_nil ?_) | skip)))))
  · have hf : ∀ i h, i < l.length → Hs h0 h [] → Fn Tryz.prog Xh 65 (tabV (l.getD i default) :: []) h (fun v h' => BoolIs v (40 < (tb l i).name.length ∨ 40 < (tb l i).opn.length) ∧ Hs h h' []) := fun i h hi x => few1_ok x.wf (tb l i) ((ht i hi).1.ext w x.ext) (ht i hi).2.1 (ht i hi).2.2
    (refine KO_fn rfl rfl rfl rfl rfl ((containsTab_ok S.wf v l 65 [] (fun i => 40 < (tb l i).name.length ∨ 40 < (tb l i).opn.length) hr (by omega) hf).mono ?_); rintro _ h ⟨⟨rfl, hq⟩ | ⟨rfl, hq⟩, x⟩) <;> (replace S := S.join0 x; clear x; (first | refine off ?_ | refine vl ?_); refine vl ?_; refine mv ?_; refine KO_nil ?_)
    all_goals (repeat' (first | refine K_seq ?_ | refine k_cond rfl ?_ | refine K_skip ?_ | refine K_exit ?_ | refine k_block ?_ | refine K_scope ?_))
    all_goals (refine K_ret ⟨_, rfl, ?_⟩)
    · obtain ⟨i, hi, hq⟩ := hq
      exact ⟨.inr ⟨rfl, fun q => by have := q.2 i hi; omega⟩, S⟩
    · exact ⟨.inl ⟨rfl, by omega, fun i hi => ⟨Nat.le_of_not_lt fun q => hq ⟨i, hi, .inl q⟩, Nat.le_of_not_lt fun q => hq ⟨i, hi, .inr q⟩⟩⟩, S⟩
  · refine K_ret ⟨_, rfl, ?_⟩
    exact ⟨.inr ⟨rfl, fun q => hc (by have := q.1; omega)⟩, S⟩

/-- The open seats of the first k tables. -/
def OpnR (l l2 : List Tab) (k : Nat) (h : AH) (fp : Fp) : Prop := ∀ j, j < k → RdL h (tb l2 j).ov 1 eI (tb l j).opn
end Go.Proofs.Xx
