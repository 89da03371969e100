/-
  Facts of this program's types; the reference's permutation check.
-/
import Derived.Test.YtnopenpheaihmaaGreatDoorM4
import Derived.Test.YtnopenpheaihmaaGreatDoorM7
import Derived.KernelRfl
import Derived.Test.YtnopenpheaihmaaGreatDoorM5

namespace Go.Proofs.Xx
open Go Go.Proofs
set_option linter.unusedSimpArgs false
set_option linter.unusedVariables false

theorem und23 : Tryz.prog.underlying 23 = some (.slice 3) := by kernel_rfl
theorem und56 : Tryz.prog.underlying 56 = some (.slice 4) := by kernel_rfl
theorem sz3 : sizeT Tryz.prog 3 = some 1 := by kernel_rfl
theorem agg3 : isAggT Tryz.prog 3 = some false := by kernel_rfl
theorem sz4 : sizeT Tryz.prog 4 = some 1 := by kernel_rfl
theorem agg4 : isAggT Tryz.prog 4 = some false := by kernel_rfl
theorem el23 : sliceElem Tryz.prog 23 = some 3 := by kernel_rfl
theorem el56 : sliceElem Tryz.prog 56 = some 4 := by kernel_rfl
theorem z3 : zeroCellsT Tryz.prog 3 = some [.int .i64 0] := by kernel_rfl
theorem z4 : zeroCellsT Tryz.prog 4 = some [.bool false] := by kernel_rfl
theorem by3 : bytesT Tryz.prog 3 = some 8 := by kernel_rfl
theorem by4 : bytesT Tryz.prog 4 = some 1 := by kernel_rfl
/-- v reads as the ints l. -/
abbrev RdI (h : AH) (v : Value) (l : List Int) : Prop := Rd h v 1 l.length (ints l)

def refPerm (l : List Int) : Bool := decide (∀ i : Nat, i < l.length → (i : Int) ∈ l)

end Go.Proofs.Xx

/-
  The hall's small functions.
-/
namespace Go.Proofs.Xx
open Go Go.Proofs
set_option linter.unusedSimpArgs false
set_option linter.unusedVariables false
set_option maxRecDepth 100000

def BoolIs (v : Value) (p : Prop) : Prop := (v = .bool true ∧ p) ∨ (v = .bool false ∧ ¬ p)

def roundSize (a b : Int) : Int := if 1 ≤ a ∧ a ≤ 24 ∧ b = 0 then a else 0
def longSize (a b : Int) : Int := if 1 ≤ a ∧ a ≤ 11 ∧ 0 ≤ b ∧ b ≤ 2 then 2 * a + b else 0
def shoeSize (a b : Int) : Int := if 1 ≤ a ∧ a ≤ 8 ∧ 1 ≤ b ∧ b ≤ 8 then a + 2 * b else 0
def rowSize (a b : Int) : Int := if 1 ≤ a ∧ a ≤ 24 ∧ 0 ≤ b ∧ b ≤ a then a else 0

theorem roundSeats_ok {h : AH} (a b : Int) : Fn Tryz.prog Xh 143 [.int .i64 a, .int .i64 b] h (fun v h' => v = .int .i64 (roundSize a b) ∧ h' = h) := by
  refine Fn_K rfl Tryz.func143 rfl rfl ?_
  all_goals (repeat' (first | refine K_seq ?_ | refine k_cond rfl ?_ | refine K_skip ?_ | (refine K_region (id := 0) ?_; refine mv ?_; refine KO_nil ?_) | (refine K_region (id := 1) ?_; refine mv ?_; (first | (refine cS ?_ ?_ <;> intro hc)) <;> (refine mv ?_; (first | refine off ?_ | refine mv ?_); (first | refine off ?_ | (first | (refine cS ?_ ?_ <;> intro hc))) <;> (refine vl ?_; refine mv ?_; (first | refine off ?_ | refine mv ?_); (first | refine off ?_ | (first | (refine cS ?_ ?_ <;> intro hc))) <;> (refine vl ?_; refine KO_nil ?_)))) | (refine K_region (id := 2) ?_; refine mv ?_; refine KO_nil ?_) | (refine K_region (id := 3) ?_; refine mv ?_; refine mv ?_; refine KO_nil ?_)))
  all_goals (refine K_ret ⟨_, rfl, ?_⟩)
  all_goals (refine ⟨?_, rfl⟩; unfold roundSize; first | (rw [if_pos (by omega)]; rfl) | (rw [if_neg (by omega)]; rfl))
theorem longSeats_ok {h : AH} (a b : Int) : Fn Tryz.prog Xh 148 [.int .i64 a, .int .i64 b] h (fun v h' => v = .int .i64 (longSize a b) ∧ h' = h) := by
  refine Fn_K rfl Tryz.func148 rfl rfl ?_
  all_goals (repeat' (first | refine K_seq ?_ | refine k_cond rfl ?_ | refine K_skip ?_ | (refine K_region (id := 0) ?_; refine mv ?_; refine KO_nil ?_) | (refine K_region (id := 1) ?_; refine mv ?_; (first | (refine cS ?_ ?_ <;> intro hc)) <;> (refine mv ?_; (first | refine off ?_ | refine mv ?_); (first | refine off ?_ | (first | (refine cS ?_ ?_ <;> intro hc))) <;> (refine vl ?_; refine mv ?_; (first | refine off ?_ | refine mv ?_); (first | refine off ?_ | (first | (refine cS ?_ ?_ <;> intro hc))) <;> (refine vl ?_; refine mv ?_; (first | refine off ?_ | refine mv ?_); (first | refine off ?_ | (first | (refine cS ?_ ?_ <;> intro hc))) <;> (refine vl ?_; refine KO_nil ?_))))) | (refine K_region (id := 2) ?_; refine mv ?_; refine KO_nil ?_) | (refine K_region (id := 3) ?_; refine mv ?_; refine ml ?_; refine mv ?_; refine ad ?_; refine mv ?_; refine KO_nil ?_)))
  all_goals (refine K_ret ⟨_, rfl, ?_⟩)
  all_goals (refine ⟨?_, rfl⟩; unfold longSize; first | (rw [if_pos (by omega)]; rfl) | (rw [if_neg (by omega)]; rfl))
theorem shoeSeats_ok {h : AH} (a b : Int) : Fn Tryz.prog Xh 153 [.int .i64 a, .int .i64 b] h (fun v h' => v = .int .i64 (shoeSize a b) ∧ h' = h) := by
  refine Fn_K rfl Tryz.func153 rfl rfl ?_
  all_goals (repeat' (first | refine K_seq ?_ | refine k_cond rfl ?_ | refine K_skip ?_ | (refine K_region (id := 0) ?_; refine mv ?_; refine KO_nil ?_) | (refine K_region (id := 1) ?_; refine mv ?_; (first | (refine cS ?_ ?_ <;> intro hc)) <;> (refine mv ?_; (first | refine off ?_ | refine mv ?_); (first | refine off ?_ | (first | (refine cS ?_ ?_ <;> intro hc))) <;> (refine vl ?_; refine mv ?_; (first | refine off ?_ | refine mv ?_); (first | refine off ?_ | (first | (refine cS ?_ ?_ <;> intro hc))) <;> (refine vl ?_; refine mv ?_; (first | refine off ?_ | refine mv ?_); (first | refine off ?_ | (first | (refine cS ?_ ?_ <;> intro hc))) <;> (refine vl ?_; refine KO_nil ?_))))) | (refine K_region (id := 2) ?_; refine mv ?_; refine KO_nil ?_) | (refine K_region (id := 3) ?_; refine mv ?_; refine mv ?_; refine ml ?_; refine ad ?_; refine mv ?_; refine KO_nil ?_)))
  all_goals (refine K_ret ⟨_, rfl, ?_⟩)
  all_goals (refine ⟨?_, rfl⟩; unfold shoeSize; first | (rw [if_pos (by omega)]; rfl) | (rw [if_neg (by omega)]; rfl))
theorem rowSeats_ok {h : AH} (a b : Int) : Fn Tryz.prog Xh 158 [.int .i64 a, .int .i64 b] h (fun v h' => v = .int .i64 (rowSize a b) ∧ h' = h) := by
  refine Fn_K rfl Tryz.func158 rfl rfl ?_
  all_goals (repeat' (first | refine K_seq ?_ | refine k_cond rfl ?_ | refine K_skip ?_ | (refine K_region (id := 0) ?_; refine mv ?_; refine KO_nil ?_) | (refine K_region (id := 1) ?_; refine mv ?_; (first | (refine cS ?_ ?_ <;> intro hc)) <;> (refine mv ?_; (first | refine off ?_ | refine mv ?_); (first | refine off ?_ | (first | (refine cS ?_ ?_ <;> intro hc))) <;> (refine vl ?_; refine mv ?_; (first | refine off ?_ | refine mv ?_); (first | refine off ?_ | (first | (refine cS ?_ ?_ <;> intro hc))) <;> (refine vl ?_; refine mv ?_; (first | refine off ?_ | refine mv ?_); (first | refine off ?_ | refine mv ?_); (first | refine off ?_ | (first | (refine cS ?_ ?_ <;> intro hc))) <;> (refine vl ?_; refine KO_nil ?_))))) | (refine K_region (id := 2) ?_; refine mv ?_; refine KO_nil ?_) | (refine K_region (id := 3) ?_; refine mv ?_; refine mv ?_; refine KO_nil ?_)))
  all_goals (refine K_ret ⟨_, rfl, ?_⟩)
  all_goals (refine ⟨?_, rfl⟩; unfold rowSize; first | (rw [if_pos (by omega)]; rfl) | (rw [if_neg (by omega)]; rfl))

theorem two_ok {h : AH} (a b : Int) (h1 : 0 ≤ a ∧ a ≤ 100 ∧ 0 ≤ b ∧ b ≤ 100) : Fn Tryz.prog Xh 192 [.int .i64 a, .int .i64 b] h (fun v h' => v = .int .i64 (a + min b 1) ∧ h' = h) := by
  refine Fn_K rfl Tryz.func192 rfl rfl ?_
  all_goals (repeat' (first | refine K_seq ?_ | (refine K_region (id := 0) ?_; refine mv ?_; refine KO_nil ?_) | (refine K_region (id := 1) ?_; refine mv ?_; refine mv ?_; refine mn ?_; refine ad ?_; refine mv ?_; refine KO_nil ?_)))
  all_goals (refine K_ret ⟨_, rfl, ?_⟩)
  all_goals (refine ⟨rfl, rfl⟩)

/-! Which seats are beside, which across: x is before y. -/
def roundB (a b x y : Int) : Prop := y - x = 1 ∨ y - x = a - 1
def roundA (a b x y : Int) : Prop := a % 2 = 0 ∧ y - x = a / 2
def longB (a b x y : Int) : Prop :=
  if b = 2 ∧ y = 2 * a + 1 then x = 0 ∨ x = y - 1
  else if 0 < b ∧ (x = a ∨ y = a) then y - x = 1
  else y - x = 1 ∧ (y < a ∨ x ≥ a + min b 1)
def longA (a b x y : Int) : Prop := if b = 2 ∧ y = 2 * a + 1 then x = a else x < a ∧ x + y = a + min b 1 + a - 1
def shoeB (a b x y : Int) : Prop := y - x = 1
def shoeA (a b x y : Int) : Prop := x < b ∧ x + y = a + 2 * b - 1
def rowB (a b x y : Int) : Prop := y - x = 1 ∧ (b = 0 ∨ y % b ≠ 0)

/-- The sizes and the seats are within bounds. -/
def Bds (a b x y : Int) : Prop := 0 ≤ a ∧ a ≤ 100 ∧ 0 ≤ b ∧ b ≤ 100 ∧ 0 ≤ x ∧ x ≤ 1000 ∧ 0 ≤ y ∧ y ≤ 1000

theorem roundBeside_ok {h : AH} (a b x y : Int) (hb : Bds a b x y) : Fn Tryz.prog Xh 144 [.int .i64 a, .int .i64 b, .int .i64 x, .int .i64 y] h (fun v h' => BoolIs v (roundB a b x y) ∧ h' = h) := by
  unfold Bds at hb
  refine Fn_K rfl Tryz.func144 rfl rfl ?_
  all_goals (repeat' (first | refine K_seq ?_ | (refine K_region (id := 0) ?_; refine mv ?_; refine KO_nil ?_) | (refine K_region (id := 1) ?_; refine mv ?_; refine mv ?_; refine sb ?_; (first | (refine cS ?_ ?_ <;> intro hc)) <;> (refine mv ?_; (first | refine off ?_ | refine mv ?_); (first | refine off ?_ | refine mv ?_); (first | refine off ?_ | (refine sb ?_)); (first | refine off ?_ | refine mv ?_); (first | refine off ?_ | (refine sb ?_)); (first | refine off ?_ | (first | (refine cS ?_ ?_ <;> intro hc))) <;> (refine vl ?_; refine mv ?_; refine KO_nil ?_)))))
  all_goals (refine K_ret ⟨_, rfl, ?_⟩)
  all_goals (refine ⟨?_, rfl⟩; unfold BoolIs roundB; first | exact .inl ⟨rfl, by omega⟩ | exact .inr ⟨rfl, by omega⟩)
theorem roundAcross_ok {h : AH} (a b x y : Int) (hb : Bds a b x y) : Fn Tryz.prog Xh 145 [.int .i64 a, .int .i64 b, .int .i64 x, .int .i64 y] h (fun v h' => BoolIs v (roundA a b x y) ∧ h' = h) := by
  unfold Bds at hb
  refine Fn_K rfl Tryz.func145 rfl rfl ?_
  all_goals (repeat' (first | refine K_seq ?_ | (refine K_region (id := 0) ?_; refine mv ?_; refine KO_nil ?_) | (refine K_region (id := 1) ?_; refine mv ?_; refine rm ?_; (first | (refine cS ?_ ?_ <;> intro hc)) <;> (refine mv ?_; (first | refine off ?_ | refine mv ?_); (first | refine off ?_ | refine mv ?_); (first | refine off ?_ | (refine sb ?_)); (first | refine off ?_ | refine mv ?_); (first | refine off ?_ | (refine qu ?_)); (first | refine off ?_ | (first | (refine cS ?_ ?_ <;> intro hc))) <;> (refine vl ?_; refine mv ?_; refine KO_nil ?_)))))
  all_goals (refine K_ret ⟨_, rfl, ?_⟩)
  all_goals (refine ⟨?_, rfl⟩; unfold BoolIs roundA; first | exact .inl ⟨rfl, by omega⟩ | exact .inr ⟨rfl, by omega⟩)
theorem longBeside_ok {h : AH} (a b x y : Int) (hb : Bds a b x y) : Fn Tryz.prog Xh 149 [.int .i64 a, .int .i64 b, .int .i64 x, .int .i64 y] h (fun v h' => BoolIs v (longB a b x y) ∧ h' = h) := by
  unfold Bds at hb
  refine Fn_K rfl Tryz.func149 rfl rfl ?_
  all_goals (repeat' (first | refine K_seq ?_ | (refine K_region (id := 0) ?_; refine mv ?_; refine KO_nil ?_) | (refine K_region (id := 1) ?_; refine mv ?_; refine mv ?_)))
  (refine KO_fn rfl rfl rfl rfl rfl ((two_ok _ _ (by omega)).mono ?_); rintro _ _ ⟨rfl, rfl⟩) <;> (refine mv ?_; refine KO_nil ?_)
  all_goals (repeat' (first | refine K_seq ?_ | refine k_cond rfl ?_ | refine K_skip ?_ | refine k_block ?_ | (refine K_region (id := 2) ?_; refine mv ?_; (first | (refine cS ?_ ?_ <;> intro hc)) <;> (refine mv ?_; (first | refine off ?_ | refine mv ?_); (first | refine off ?_ | refine mv ?_); (first | refine off ?_ | (refine ml ?_)); (first | refine off ?_ | (refine ad ?_)); (first | refine off ?_ | (first | (refine cS ?_ ?_ <;> intro hc))) <;> (refine vl ?_; refine mv ?_; refine KO_nil ?_))) | (refine K_region (id := 3) ?_; refine mv ?_; (first | (refine cS ?_ ?_ <;> intro hc)) <;> (refine mv ?_; (first | refine off ?_ | refine mv ?_); (first | refine off ?_ | refine mv ?_); (first | refine off ?_ | (refine sb ?_)); (first | refine off ?_ | (first | (refine cS ?_ ?_ <;> intro hc))) <;> (refine vl ?_; refine mv ?_; refine KO_nil ?_))) | (refine K_region (id := 4) ?_; refine mv ?_; (first | refine cT ?_ | (refine cS ?_ ?_ <;> intro hc)) <;> (refine mv ?_; (first | refine off ?_ | refine mv ?_); (first | refine off ?_ | refine mv ?_); (first | refine off ?_ | (first | (refine cS ?_ ?_ <;> intro hc))) <;> ((first | refine off ?_ | refine mv ?_); (first | refine off ?_ | refine mv ?_); (first | refine off ?_ | refine mv ?_); (first | refine off ?_ | (first | (refine cS ?_ ?_ <;> intro hc))) <;> ((first | refine off ?_ | refine vl ?_); refine vl ?_; refine mv ?_; refine KO_nil ?_)))) | (refine K_region (id := 5) ?_; refine mv ?_; refine mv ?_; refine sb ?_; (first | (refine cS ?_ ?_ <;> intro hc)) <;> (refine mv ?_; refine KO_nil ?_)) | (refine K_region (id := 6) ?_; refine mv ?_; refine mv ?_; refine sb ?_; (first | (refine cS ?_ ?_ <;> intro hc)) <;> (refine mv ?_; (first | refine off ?_ | refine mv ?_); (first | refine off ?_ | refine mv ?_); (first | refine off ?_ | (first | (refine cS ?_ ?_ <;> intro hc))) <;> ((first | refine off ?_ | refine mv ?_); (first | refine off ?_ | refine mv ?_); (first | refine off ?_ | refine mv ?_); (first | refine off ?_ | (first | refine cT ?_ | (refine cS ?_ ?_ <;> intro hc))) <;> ((first | refine off ?_ | refine vl ?_); refine vl ?_; refine mv ?_; refine KO_nil ?_))))))
  all_goals (refine K_ret ⟨_, rfl, ?_⟩)
  all_goals (refine ⟨?_, rfl⟩; unfold BoolIs longB; (repeat' split) <;> first | exact .inl ⟨rfl, by omega⟩ | exact .inr ⟨rfl, by omega⟩)
theorem longAcross_ok {h : AH} (a b x y : Int) (hb : Bds a b x y) : Fn Tryz.prog Xh 150 [.int .i64 a, .int .i64 b, .int .i64 x, .int .i64 y] h (fun v h' => BoolIs v (longA a b x y) ∧ h' = h) := by
  unfold Bds at hb
  refine Fn_K rfl Tryz.func150 rfl rfl ?_
  all_goals (repeat' (first | refine K_seq ?_ | refine k_cond rfl ?_ | refine K_skip ?_ | (refine K_region (id := 0) ?_; refine mv ?_; refine KO_nil ?_) | (refine K_region (id := 1) ?_; refine mv ?_; (first | (refine cS ?_ ?_ <;> intro hc)) <;> (refine mv ?_; (first | refine off ?_ | refine mv ?_); (first | refine off ?_ | refine mv ?_); (first | refine off ?_ | (refine ml ?_)); (first | refine off ?_ | (refine ad ?_)); (first | refine off ?_ | (first | (refine cS ?_ ?_ <;> intro hc))) <;> (refine vl ?_; refine KO_nil ?_))) | (refine K_region (id := 2) ?_; refine mv ?_; refine mv ?_; (first | (refine cS ?_ ?_ <;> intro hc)) <;> (refine mv ?_; refine KO_nil ?_)) | (refine K_region (id := 3) ?_; refine mv ?_; refine mv ?_; (first | (refine cS ?_ ?_ <;> intro hc)) <;> (refine mv ?_; (first | refine off ?_ | refine mv ?_); (first | refine off ?_ | refine mv ?_); (first | refine off ?_ | (refine ad ?_)); (first | refine off ?_ | refine mv ?_); (first | refine off ?_ | refine mv ?_); (first | (refine off ?_; refine off ?_; refine off ?_; refine off ?_; (refine off ?_) <;> (refine vl ?_; refine mv ?_; refine KO_nil ?_)) | skip)))))
  any_goals ((refine KO_fn rfl rfl rfl rfl rfl ((two_ok _ _ (by omega)).mono ?_); rintro _ _ ⟨rfl, rfl⟩) <;> ((refine mv ?_); (first | (refine ad ?_)); (first | (refine sb ?_)); (first | (first | (refine cS ?_ ?_ <;> intro hc))) <;> (refine vl ?_; refine mv ?_; refine KO_nil ?_)))
  all_goals (repeat' (fail))
  all_goals (refine K_ret ⟨_, rfl, ?_⟩)
  all_goals (refine ⟨?_, rfl⟩; unfold BoolIs longA; (repeat' split) <;> first | exact .inl ⟨rfl, by omega⟩ | exact .inr ⟨rfl, by omega⟩)
theorem shoeBeside_ok {h : AH} (a b x y : Int) (hb : Bds a b x y) : Fn Tryz.prog Xh 154 [.int .i64 a, .int .i64 b, .int .i64 x, .int .i64 y] h (fun v h' => BoolIs v (shoeB a b x y) ∧ h' = h) := by
  unfold Bds at hb
  refine Fn_K rfl Tryz.func154 rfl rfl ?_
  all_goals (repeat' (first | refine K_seq ?_ | (refine K_region (id := 0) ?_; refine mv ?_; refine KO_nil ?_) | (refine K_region (id := 1) ?_; refine mv ?_; refine mv ?_; refine sb ?_; (first | (refine cS ?_ ?_ <;> intro hc)) <;> (refine mv ?_; refine KO_nil ?_))))
  all_goals (refine K_ret ⟨_, rfl, ?_⟩)
  all_goals (refine ⟨?_, rfl⟩; unfold BoolIs shoeB; first | exact .inl ⟨rfl, by omega⟩ | exact .inr ⟨rfl, by omega⟩)
theorem shoeAcross_ok {h : AH} (a b x y : Int) (hb : Bds a b x y) : Fn Tryz.prog Xh 155 [.int .i64 a, .int .i64 b, .int .i64 x, .int .i64 y] h (fun v h' => BoolIs v (shoeA a b x y) ∧ h' = h) := by
  unfold Bds at hb
  refine Fn_K rfl Tryz.func155 rfl rfl ?_
  all_goals (repeat' (first | refine K_seq ?_ | (refine K_region (id := 0) ?_; refine mv ?_; refine KO_nil ?_) | (refine K_region (id := 1) ?_; refine mv ?_; refine mv ?_; (first | (refine cS ?_ ?_ <;> intro hc)) <;> (refine mv ?_; (first | refine off ?_ | refine mv ?_); (first | refine off ?_ | refine mv ?_); (first | refine off ?_ | (refine ad ?_)); (first | refine off ?_ | refine mv ?_); (first | refine off ?_ | refine mv ?_); (first | refine off ?_ | (refine ml ?_)); (first | refine off ?_ | (refine ad ?_)); (first | refine off ?_ | (refine sb ?_)); (first | refine off ?_ | (first | (refine cS ?_ ?_ <;> intro hc))) <;> (refine vl ?_; refine mv ?_; refine KO_nil ?_)))))
  all_goals (refine K_ret ⟨_, rfl, ?_⟩)
  all_goals (refine ⟨?_, rfl⟩; unfold BoolIs shoeA; first | exact .inl ⟨rfl, by omega⟩ | exact .inr ⟨rfl, by omega⟩)
theorem rowBeside_ok {h : AH} (a b x y : Int) (hb : Bds a b x y) : Fn Tryz.prog Xh 159 [.int .i64 a, .int .i64 b, .int .i64 x, .int .i64 y] h (fun v h' => BoolIs v (rowB a b x y) ∧ h' = h) := by
  unfold Bds at hb
  refine Fn_K rfl Tryz.func159 rfl rfl ?_
  all_goals (repeat' (first | refine K_seq ?_ | (refine K_region (id := 0) ?_; refine mv ?_; refine KO_nil ?_) | (refine K_region (id := 1) ?_; refine mv ?_; refine mv ?_; refine sb ?_; (first | (refine cS ?_ ?_ <;> intro hc)) <;> (refine mv ?_; (first | refine off ?_ | refine mv ?_); (first | refine off ?_ | (first | (refine cS ?_ ?_ <;> intro hc))) <;> ((first | refine off ?_ | refine mv ?_); (first | refine off ?_ | refine mv ?_); (first | refine off ?_ | refine mv ?_); (first | refine off ?_ | (refine rm ?_)); (first | refine off ?_ | (first | (refine cS ?_ ?_ <;> intro hc))) <;> ((first | refine off ?_ | refine vl ?_); refine vl ?_; refine mv ?_; refine KO_nil ?_))))))
  all_goals (refine K_ret ⟨_, rfl, ?_⟩)
  all_goals (refine ⟨?_, rfl⟩; unfold BoolIs rowB; first | exact .inl ⟨rfl, by omega⟩ | exact .inr ⟨rfl, by omega⟩)
end Go.Proofs.Xx

/-
  The hall's layouts; which seats are beside and across, by the table.
-/
namespace Go.Proofs.Xx
open Go Go.Proofs
set_option linter.unusedSimpArgs false
set_option linter.unusedVariables false
set_option maxRecDepth 100000

/-- A slice's value. -/
structure SlV where
  p : Option Addr
  n : Nat
  c : Nat
abbrev SlV.val (s : SlV) : Value := .slice s.p s.n s.c
theorem Rd.isSl {h : AH} {v : Value} {z n : Nat} {c : List Value} (r : Rd h v z n c) : ∃ s : SlV, v = s.val := by
  rcases r with ⟨rfl, -, -⟩ | ⟨b, o, cap, cc, e, s, q, rfl, -, -⟩
  · exact ⟨⟨none, 0, 0⟩, rfl⟩
  · exact ⟨⟨some ⟨b, o, none⟩, n, cap⟩, rfl⟩
structure Tab where
  name : List UInt8
  shape : Int
  A : Int
  B : Int
  os : SlV
  opn : List Int
  X : Int
  Y : Int
abbrev Tab.ov (t : Tab) : Value := t.os.val
instance : Inhabited Tab := ⟨⟨[], 0, 0, 0, ⟨none, 0, 0⟩, [], 0, 0⟩⟩
def eT (t : Tab) : List Value := [str t.name, .int .u8 t.shape, .int .i64 t.A, .int .i64 t.B, t.ov, .int .i64 t.X, .int .i64 t.Y]
abbrev tabV (t : Tab) : Value := .agg (eT t).toArray

def fnV (n : Nat) : Value := .func (.func n) #[] #[]
def wRound : List UInt8 := [114, 111, 117, 110, 100]
def wLong : List UInt8 := [108, 111, 110, 103]
def wShoe : List UInt8 := [104, 111, 114, 115, 101, 115, 104, 111, 101]
def wRow : List UInt8 := [114, 111, 119]
def lay1 : List Value := [str wRound, fnV 143, fnV 144, fnV 145, fnV 146, fnV 147]
def lay2 : List Value := [str wLong, fnV 148, fnV 149, fnV 150, fnV 151, fnV 152]
def lay3 : List Value := [str wShoe, fnV 153, fnV 154, fnV 155, fnV 156, fnV 157]
def lay4 : List Value := [str wRow, fnV 158, fnV 159, fnV 160, fnV 161, fnV 162]
def lay0 : List Value := [str [], .nilFunc, .nilFunc, .nilFunc, .nilFunc, .nilFunc]
def LayIs (s : Int) (v : Value) : Prop :=
  (v = .tuple #[.agg lay1.toArray, .bool true] ∧ s = 1) ∨ (v = .tuple #[.agg lay2.toArray, .bool true] ∧ s = 2) ∨ (v = .tuple #[.agg lay3.toArray, .bool true] ∧ s = 3) ∨
  (v = .tuple #[.agg lay4.toArray, .bool true] ∧ s = 4) ∨ (v = .tuple #[.agg lay0.toArray, .bool false] ∧ ¬ (1 ≤ s ∧ s ≤ 4))

theorem layoutOf_ok {h0 : AH} (w : WfH h0) (s : Int) : Fn Tryz.prog Xh 109 [.int .u8 s] h0 (fun v h' => LayIs s v ∧ Hs h0 h' []) := by
  have S := Hs.start w
  refine Fn_K rfl Tryz.func109 rfl rfl ?_
  all_goals (repeat' (first | refine K_seq ?_ | refine k_cond rfl ?_ | refine K_skip ?_ | refine k_block ?_ | (refine K_region (id := 0) ?_; (refine al S ?_; clear S; intro b h S); refine mv ?_; refine KO_nil ?_) | (refine K_region (id := 1) ?_; refine mv ?_; refine KO_nil ?_) | (refine K_region (id := 2) ?_; (first | (refine cS ?_ ?_ <;> intro hc)) <;> (refine mv ?_; refine KO_nil ?_)) | (refine K_region (id := 3) ?_; refine vl ?_; (first | (refine sB S rfl rfl ?_; clear S; intro h S)); refine mv ?_; refine KO_nil ?_) | (refine K_region (id := 4) ?_; (first | (refine cS ?_ ?_ <;> intro hc)) <;> (refine mv ?_; refine KO_nil ?_)) | (refine K_region (id := 5) ?_; refine vl ?_; (first | (refine sB S rfl rfl ?_; clear S; intro h S)); refine mv ?_; refine KO_nil ?_) | (refine K_region (id := 6) ?_; (first | (refine cS ?_ ?_ <;> intro hc)) <;> (refine mv ?_; refine KO_nil ?_)) | (refine K_region (id := 7) ?_; refine vl ?_; (first | (refine sB S rfl rfl ?_; clear S; intro h S)); refine mv ?_; refine KO_nil ?_) | (refine K_region (id := 8) ?_; (first | (refine cS ?_ ?_ <;> intro hc)) <;> (refine mv ?_; refine KO_nil ?_)) | (refine K_region (id := 9) ?_; refine vl ?_; (first | (refine sB S rfl rfl ?_; clear S; intro h S)); refine mv ?_; refine KO_nil ?_) | (refine K_region (id := 10) ?_; refine vl ?_; (first | (refine sB S rfl rfl ?_; clear S; intro h S)); refine mv ?_; refine KO_nil ?_)))
  all_goals (refine K_ret ⟨_, ret_cell S rfl (by first | exact .here) (by exact rfl) (by exact rfl), ?_⟩)
  all_goals (refine ⟨?_, S.drop⟩; unfold LayIs)
  · exact .inl ⟨rfl, by omega⟩
  · exact .inr (.inl ⟨rfl, by omega⟩)
  · exact .inr (.inr (.inl ⟨rfl, by omega⟩))
  · exact .inr (.inr (.inr (.inl ⟨rfl, by omega⟩)))
  · exact .inr (.inr (.inr (.inr ⟨rfl, by omega⟩)))

def sizeOf1 (s a b : Int) : Int := if s = 1 then roundSize a b else if s = 2 then longSize a b else if s = 3 then shoeSize a b else if s = 4 then rowSize a b else 0
def tsize (t : Tab) : Int := sizeOf1 t.shape t.A t.B

theorem size_ok {h0 : AH} (w : WfH h0) (t : Tab) : Fn Tryz.prog Xh 83 [tabV t] h0 (fun v h' => v = .int .i64 (tsize t) ∧ Hs h0 h' []) := by
  have S := Hs.start w
  refine Fn_K rfl Tryz.func83 rfl rfl ?_
  all_goals (repeat' (first | refine K_seq ?_ | (refine K_region (id := 0) ?_; (refine bx S ?_; clear S; intro b h S); refine mv ?_; refine KO_nil ?_) | (refine K_region (id := 1) ?_; refine vl ?_; refine lB S rfl rfl ?_)))
  (refine KO_fn rfl rfl rfl rfl rfl ((layoutOf_ok S.wf _).mono ?_); rintro _ h ⟨⟨rfl, hs⟩ | ⟨rfl, hs⟩ | ⟨rfl, hs⟩ | ⟨rfl, hs⟩ | ⟨rfl, hs⟩, x⟩) <;> (have S := S.join0 x; refine mv ?_; refine vl ?_; refine vl ?_; (refine al S ?_; clear S; intro b h S); (first | (refine sB S rfl rfl ?_; clear S; intro h S)); refine mv ?_; refine KO_nil ?_)
  all_goals (repeat' (first | refine K_seq ?_ | refine k_cond rfl ?_ | refine K_skip ?_ | (refine K_region (id := 2) ?_; refine mv ?_; refine vl ?_; refine KO_nil ?_) | (refine K_region (id := 3) ?_; refine mv ?_; refine KO_nil ?_) | (refine K_region (id := 4) ?_; refine vl ?_; refine lB S rfl rfl ?_; refine vl ?_; refine lB S rfl rfl ?_; refine vl ?_; refine lB S rfl rfl ?_)))
  · (refine KO_call rfl rfl rfl rfl ((roundSeats_ok _ _).mono ?_); rintro _ _ ⟨rfl, rfl⟩) <;> (refine mv ?_; refine KO_nil ?_)
    all_goals (repeat' (fail))
    refine K_ret ⟨_, rfl, ?_⟩
    exact ⟨by simp [oneOrTuple, tsize, sizeOf1, hs], S.drop⟩
  · (refine KO_call rfl rfl rfl rfl ((longSeats_ok _ _).mono ?_); rintro _ _ ⟨rfl, rfl⟩) <;> (refine mv ?_; refine KO_nil ?_)
    all_goals (repeat' (fail))
    refine K_ret ⟨_, rfl, ?_⟩
    exact ⟨by simp [oneOrTuple, tsize, sizeOf1, hs], S.drop⟩
  · (refine KO_call rfl rfl rfl rfl ((shoeSeats_ok _ _).mono ?_); rintro _ _ ⟨rfl, rfl⟩) <;> (refine mv ?_; refine KO_nil ?_)
    all_goals (repeat' (fail))
    refine K_ret ⟨_, rfl, ?_⟩
    exact ⟨by simp [oneOrTuple, tsize, sizeOf1, hs], S.drop⟩
  · (refine KO_call rfl rfl rfl rfl ((rowSeats_ok _ _).mono ?_); rintro _ _ ⟨rfl, rfl⟩) <;> (refine mv ?_; refine KO_nil ?_)
    all_goals (repeat' (fail))
    refine K_ret ⟨_, rfl, ?_⟩
    exact ⟨by simp [oneOrTuple, tsize, sizeOf1, hs], S.drop⟩
  · refine K_ret ⟨_, rfl, ?_⟩
    refine ⟨?_, S.drop⟩
    simp only [oneOrTuple, tsize, sizeOf1]
    rw [if_neg (by omega), if_neg (by omega), if_neg (by omega), if_neg (by omega)]

def besideP (t : Tab) (x y : Int) : Prop := x ≠ y ∧ ((t.shape = 1 ∧ roundB t.A t.B (min x y) (max x y)) ∨ (t.shape = 2 ∧ longB t.A t.B (min x y) (max x y)) ∨ (t.shape = 3 ∧ shoeB t.A t.B (min x y) (max x y)) ∨ (t.shape = 4 ∧ rowB t.A t.B (min x y) (max x y)))
def acrossP (t : Tab) (x y : Int) : Prop := x ≠ y ∧ ((t.shape = 1 ∧ roundA t.A t.B (min x y) (max x y)) ∨ (t.shape = 2 ∧ longA t.A t.B (min x y) (max x y)) ∨ (t.shape = 3 ∧ shoeA t.A t.B (min x y) (max x y)))
def nearP (t : Tab) (x y : Int) : Prop := besideP t x y ∨ acrossP t x y
def TabB (t : Tab) : Prop := 1 ≤ t.shape ∧ t.shape ≤ 4 ∧ 0 ≤ t.A ∧ t.A ≤ 100 ∧ 0 ≤ t.B ∧ t.B ≤ 100

theorem layout3_ok {h : AH} (a b x y : Int) : Fn Tryz.prog Xh 160 [.int .i64 a, .int .i64 b, .int .i64 x, .int .i64 y] h (fun v h' => BoolIs v False ∧ h' = h) := by
  refine Fn_K rfl Tryz.func160 rfl rfl ?_
  all_goals (repeat' (first | refine K_seq ?_ | (refine K_region (id := 0) ?_; refine mv ?_; refine KO_nil ?_) | (refine K_region (id := 1) ?_; refine mv ?_; refine KO_nil ?_)))
  all_goals (refine K_ret ⟨_, rfl, ?_⟩)
  exact ⟨.inr ⟨rfl, id⟩, rfl⟩

theorem beside_ok {h0 : AH} (w : WfH h0) (t : Tab) (x y : Int) (ht : TabB t) (hx : 0 ≤ x ∧ x ≤ 1000) (hy : 0 ≤ y ∧ y ≤ 1000) : Fn Tryz.prog Xh 102 [tabV t, .int .i64 x, .int .i64 y] h0 (fun v h' => BoolIs v (besideP t x y) ∧ Hs h0 h' []) := by
  have S := Hs.start w
  obtain ⟨t1, t2, t3, t4, t5, t6⟩ := ht
  refine Fn_K rfl Tryz.func102 rfl rfl ?_
  all_goals (repeat' (first | refine K_seq ?_ | (refine K_region (id := 0) ?_; (refine bx S ?_; clear S; intro b h S); refine mv ?_; refine KO_nil ?_) | (refine K_region (id := 1) ?_; refine vl ?_; refine lB S rfl rfl ?_)))
  have hb : Bds t.A t.B (min x y) (max x y) := by unfold Bds; omega
  (refine KO_fn rfl rfl rfl rfl rfl ((layoutOf_ok S.wf _).mono ?_); rintro _ h ⟨⟨rfl, hs⟩ | ⟨rfl, hs⟩ | ⟨rfl, hs⟩ | ⟨rfl, hs⟩ | ⟨rfl, hs⟩, x⟩) <;> (have S := S.join0 x; refine mv ?_; refine vl ?_; refine vl ?_; (refine al S ?_; clear S; intro b h S); (first | (refine sB S rfl rfl ?_; clear S; intro h S)); refine mv ?_; refine KO_nil ?_)
  all_goals (repeat' (first | refine K_seq ?_ | (refine K_region (id := 2) ?_; refine mv ?_; refine mv ?_; (first | refine cT ?_ | (refine cS ?_ ?_ <;> intro hc)) <;> (refine mv ?_; (first | refine off ?_ | (refine vl ?_)); (first | refine off ?_ | (refine lB S rfl rfl ?_)); (first | refine off ?_ | (refine vl ?_)); (first | refine off ?_ | (refine lB S rfl rfl ?_)); (first | refine off ?_ | (refine vl ?_)); (first | refine off ?_ | (refine lB S rfl rfl ?_)); (first | refine off ?_ | refine mv ?_); (first | refine off ?_ | refine mv ?_); (first | refine off ?_ | refine mn ?_); (first | refine off ?_ | refine mv ?_); (first | refine off ?_ | refine mv ?_); (first | refine off ?_ | refine mx ?_); (first | (refine off ?_; refine vl ?_; refine mv ?_; refine KO_nil ?_) | skip)))))
  all_goals (try (exfalso; omega))
  any_goals (((first | refine KO_call rfl rfl rfl rfl ((roundBeside_ok _ _ _ _ hb).mono ?_) | refine KO_call rfl rfl rfl rfl ((longBeside_ok _ _ _ _ hb).mono ?_) | refine KO_call rfl rfl rfl rfl ((shoeBeside_ok _ _ _ _ hb).mono ?_) | refine KO_call rfl rfl rfl rfl ((rowBeside_ok _ _ _ _ hb).mono ?_)); rintro _ _ ⟨⟨rfl, hq⟩ | ⟨rfl, hq⟩, rfl⟩) <;> (refine vl ?_; refine mv ?_; refine KO_nil ?_))
  all_goals (repeat' (fail))
  all_goals (refine K_ret ⟨_, rfl, ?_⟩)
  all_goals (first | exact ⟨.inl ⟨rfl, hc, by (first | simpa [hs] using hq)⟩, S.drop⟩ | exact ⟨.inr ⟨rfl, fun q => hq (by simpa [hs] using q.2)⟩, S.drop⟩ | exact ⟨.inr ⟨rfl, fun q => q.1 (by omega)⟩, S.drop⟩)

theorem across_ok {h0 : AH} (w : WfH h0) (t : Tab) (x y : Int) (ht : TabB t) (hx : 0 ≤ x ∧ x ≤ 1000) (hy : 0 ≤ y ∧ y ≤ 1000) : Fn Tryz.prog Xh 103 [tabV t, .int .i64 x, .int .i64 y] h0 (fun v h' => BoolIs v (acrossP t x y) ∧ Hs h0 h' []) := by
  have S := Hs.start w
  obtain ⟨t1, t2, t3, t4, t5, t6⟩ := ht
  refine Fn_K rfl Tryz.func103 rfl rfl ?_
  all_goals (repeat' (first | refine K_seq ?_ | (refine K_region (id := 0) ?_; (refine bx S ?_; clear S; intro b h S); refine mv ?_; refine KO_nil ?_) | (refine K_region (id := 1) ?_; refine vl ?_; refine lB S rfl rfl ?_)))
  have hb : Bds t.A t.B (min x y) (max x y) := by unfold Bds; omega
  (refine KO_fn rfl rfl rfl rfl rfl ((layoutOf_ok S.wf _).mono ?_); rintro _ h ⟨⟨rfl, hs⟩ | ⟨rfl, hs⟩ | ⟨rfl, hs⟩ | ⟨rfl, hs⟩ | ⟨rfl, hs⟩, x⟩) <;> (have S := S.join0 x; refine mv ?_; refine vl ?_; refine vl ?_; (refine al S ?_; clear S; intro b h S); (first | (refine sB S rfl rfl ?_; clear S; intro h S)); refine mv ?_; refine KO_nil ?_)
  all_goals (repeat' (first | refine K_seq ?_ | (refine K_region (id := 2) ?_; refine mv ?_; refine mv ?_; (first | refine cT ?_ | (refine cS ?_ ?_ <;> intro hc)) <;> (refine mv ?_; (first | refine off ?_ | (refine vl ?_)); (first | refine off ?_ | (refine lB S rfl rfl ?_)); (first | refine off ?_ | (refine vl ?_)); (first | refine off ?_ | (refine lB S rfl rfl ?_)); (first | refine off ?_ | (refine vl ?_)); (first | refine off ?_ | (refine lB S rfl rfl ?_)); (first | refine off ?_ | refine mv ?_); (first | refine off ?_ | refine mv ?_); (first | refine off ?_ | refine mn ?_); (first | refine off ?_ | refine mv ?_); (first | refine off ?_ | refine mv ?_); (first | refine off ?_ | refine mx ?_); (first | (refine off ?_; refine vl ?_; refine mv ?_; refine KO_nil ?_) | skip)))))
  all_goals (try (exfalso; omega))
  any_goals (((first | refine KO_call rfl rfl rfl rfl ((roundAcross_ok _ _ _ _ hb).mono ?_) | refine KO_call rfl rfl rfl rfl ((longAcross_ok _ _ _ _ hb).mono ?_) | refine KO_call rfl rfl rfl rfl ((shoeAcross_ok _ _ _ _ hb).mono ?_) | refine KO_call rfl rfl rfl rfl ((layout3_ok _ _ _ _).mono ?_)); rintro _ _ ⟨⟨rfl, hq⟩ | ⟨rfl, hq⟩, rfl⟩) <;> (refine vl ?_; refine mv ?_; refine KO_nil ?_))
  all_goals (repeat' (fail))
  all_goals (refine K_ret ⟨_, rfl, ?_⟩)
  all_goals (first | exact ⟨.inl ⟨rfl, hc, by (first | (simp [hs] at hq; done) | simpa [hs] using hq)⟩, S.drop⟩ | exact ⟨.inr ⟨rfl, fun q => hq (by simpa [hs] using q.2)⟩, S.drop⟩ | exact ⟨.inr ⟨rfl, fun q => q.1 (by omega)⟩, S.drop⟩)

theorem near_ok {h0 : AH} (w : WfH h0) (t : Tab) (x y : Int) (ht : TabB t) (hx : 0 ≤ x ∧ x ≤ 1000) (hy : 0 ≤ y ∧ y ≤ 1000) : Fn Tryz.prog Xh 91 [tabV t, .int .i64 x, .int .i64 y] h0 (fun v h' => BoolIs v (nearP t x y) ∧ Hs h0 h' []) := by
  have S := Hs.start w
  refine Fn_K rfl Tryz.func91 rfl rfl ?_
  all_goals (repeat' (first | refine K_seq ?_ | (refine K_region (id := 0) ?_; (refine bx S ?_; clear S; intro b h S); refine mv ?_; refine KO_nil ?_) | (refine K_region (id := 1) ?_; refine lB S rfl rfl ?_; refine mv ?_; refine mv ?_)))
  (refine KO_fn rfl rfl rfl rfl rfl ((beside_ok S.wf t _ _ ht hx hy).mono ?_); rintro _ h ⟨⟨rfl, hq⟩ | ⟨rfl, hq⟩, x⟩) <;> (have S := S.join0 x; refine mv ?_; (first | refine off ?_ | (refine lB S rfl rfl ?_)); (first | refine off ?_ | refine mv ?_); (first | refine off ?_ | refine mv ?_); (first | (refine off ?_; refine vl ?_; refine mv ?_; refine KO_nil ?_) | skip))
  any_goals ((refine KO_fn rfl rfl rfl rfl rfl ((across_ok S.wf t _ _ ht hx hy).mono ?_); rintro _ h ⟨⟨rfl, hq2⟩ | ⟨rfl, hq2⟩, x⟩) <;> (have S := S.join0 x; refine vl ?_; refine mv ?_; refine KO_nil ?_))
  all_goals (repeat' (fail))
  all_goals (refine K_ret ⟨_, rfl, ?_⟩)
  all_goals (refine ⟨?_, S.drop⟩; unfold BoolIs nearP)
  · exact .inl ⟨rfl, .inl hq⟩
  · exact .inl ⟨rfl, .inr hq2⟩
  · exact .inr ⟨rfl, fun q => q.elim hq hq2⟩
end Go.Proofs.Xx

/-
  Distances in a graph, by breadth first search and by levels.
-/
namespace Go.Proofs.Xx
set_option linter.unusedVariables false

section
variable (N : Int → Int → Prop) (n s : Nat)
/-- There is a walk of d steps from s to y. -/
def Wk : Nat → Nat → Prop
  | 0, y => y = s
  | d + 1, y => ∃ x : Nat, x < n ∧ Wk d x ∧ N x y
def IsDist (d y : Nat) : Prop := Wk N n s d y ∧ ∀ e, e < d → ¬ Wk N n s e y
/-- The list tells all distances; -1 where there is no way. -/
def DistL (l : List Int) : Prop := l.length = n ∧ ∀ y, y < n → (l.getD y default = -1 ∧ ∀ d, ¬ Wk N n s d y) ∨ ∃ d : Nat, l.getD y default = (d : Int) ∧ IsDist N n s d y
end
section
variable {N : Int → Int → Prop} {n s : Nat}
theorem IsDist.unique {d e y : Nat} (h1 : IsDist N n s d y) (h2 : IsDist N n s e y) : d = e := by
  rcases Nat.lt_trichotomy d e with h | h | h
  · exact absurd h1.1 (h2.2 d h)
  · exact h
  · exact absurd h2.1 (h1.2 e h)
theorem Wk.least {d y : Nat} (h : Wk N n s d y) : ∃ e, e ≤ d ∧ IsDist N n s e y := by
  induction d using Nat.strongRecOn with
  | _ d ih =>
    by_cases hd : ∃ e, e < d ∧ Wk N n s e y
    · obtain ⟨e, h1, h2⟩ := hd
      obtain ⟨e', h3, h4⟩ := ih e h1 h2
      exact ⟨e', by omega, h4⟩
    · exact ⟨d, Nat.le_refl _, h, fun e he hw => hd ⟨e, he, hw⟩⟩
theorem DistL.unique {l m : List Int} (h1 : DistL N n s l) (h2 : DistL N n s m) : l = m := by
  refine List.ext_getElem (h1.1.trans h2.1.symm) fun i q1 q2 => ?_
  have hi : i < n := by have := h1.1; omega
  have e1 : l.getD i default = l[i] := by simp [List.getD_eq_getElem?_getD, List.getElem?_eq_getElem q1]
  have e2 : m.getD i default = m[i] := by simp [List.getD_eq_getElem?_getD, List.getElem?_eq_getElem q2]
  have a := h1.2 i hi
  have b := h2.2 i hi
  rw [e1] at a; rw [e2] at b
  rcases a with ⟨a1, a2⟩ | ⟨d, a1, a2⟩ <;> rcases b with ⟨b1, b2⟩ | ⟨e, b1, b2⟩
  · omega
  · exact absurd b2.1 (a2 e)
  · exact absurd a2.1 (b2 d)
  · have := a2.unique b2; omega

abbrev at_ (l : List Int) (x : Int) : Int := l.getD x.toNat default

abbrev rest_ (l : List Int) : Nat := l.countP (fun x => decide (x < 0))
theorem rest_set : ∀ (l : List Int) (m : Nat) (v : Int), m < l.length → l.getD m default < 0 → 0 ≤ v → rest_ (l.set m v) + 1 = rest_ l
  | [], m, v, h, _, _ => by simp at h
  | x :: l, 0, v, _, h1, h2 => by
    have h1' : x < 0 := by simpa using h1
    have h2' : ¬ v < 0 := by omega
    simp [rest_, h1', h2']
  | x :: l, m + 1, v, h, h1, h2 => by
    have ih := rest_set l m v (by simpa using h) (by simpa using h1) h2
    unfold rest_ at ih ⊢
    simp only [List.set_cons_succ, List.countP_cons]
    omega

/-- Breadth first search: out, the queue; k is being gone through, up to m. -/
structure BfsIn (N : Int → Int → Prop) (n s : Nat) (out q : List Int) (k : Int) (m : Nat) : Prop where
  len : out.length = n
  src : s < n ∧ 0 ≤ at_ out s
  vis : ∀ y : Nat, y < n → 0 ≤ at_ out y → IsDist N n s (at_ out y).toNat y
  neg : ∀ y : Nat, y < n → at_ out y < 0 → at_ out y = -1
  low : ∀ y : Nat, y < n → at_ out y + (rest_ out : Int) ≤ (n : Int) - 1
  kin : 0 ≤ k ∧ k < n ∧ 0 ≤ at_ out k
  qin : ∀ x ∈ q, 0 ≤ x ∧ x < n ∧ at_ out k ≤ at_ out x ∧ at_ out x ≤ at_ out k + 1
  sort : q.Pairwise fun x y => at_ out x ≤ at_ out y
  here : ∀ y : Nat, y < m → y < n → N k y → 0 ≤ at_ out y
  done : ∀ x : Nat, x < n → 0 ≤ at_ out x → (x : Int) ∉ q → (x : Int) ≠ k → ∀ y : Nat, y < n → N x y → 0 ≤ at_ out y
structure Bfs (N : Int → Int → Prop) (n s : Nat) (out q : List Int) : Prop where
  len : out.length = n
  src : s < n ∧ 0 ≤ at_ out s
  vis : ∀ y : Nat, y < n → 0 ≤ at_ out y → IsDist N n s (at_ out y).toNat y
  neg : ∀ y : Nat, y < n → at_ out y < 0 → at_ out y = -1
  low : ∀ y : Nat, y < n → at_ out y + (rest_ out : Int) ≤ (n : Int) - 1
  qin : ∀ x ∈ q, 0 ≤ x ∧ x < n ∧ 0 ≤ at_ out x
  sort : q.Pairwise fun x y => at_ out x ≤ at_ out y
  span : ∀ x ∈ q, ∀ y ∈ q, at_ out y ≤ at_ out x + 1
  done : ∀ x : Nat, x < n → 0 ≤ at_ out x → (x : Int) ∉ q → ∀ y : Nat, y < n → N x y → 0 ≤ at_ out y

theorem BfsIn.near {out q : List Int} {k : Int} {m : Nat} (b : BfsIn N n s out q k m) : ∀ (e y : Nat), y < n → IsDist N n s e y → (e : Int) < at_ out k → 0 ≤ at_ out y ∧ (y : Int) ∉ q ∧ (y : Int) ≠ k := by
  intro e
  induction e with
  | zero =>
    intro y hy hd he
    have : y = s := hd.1
    subst this
    have h0 := b.src.2
    have h1 := (b.vis y hy h0).unique hd
    refine ⟨h0, fun q1 => ?_, fun q1 => ?_⟩
    · have := (b.qin _ q1).2.2.1; omega
    · rw [← q1] at he; omega
  | succ e ih =>
    intro y hy hd he
    obtain ⟨x, hx, hw, hn⟩ := hd.1
    have hdx : IsDist N n s e x := ⟨hw, fun e' he' hw' => hd.2 (e' + 1) (by omega) ⟨x, hx, hw', hn⟩⟩
    obtain ⟨q1, q2, q3⟩ := ih x hx hdx (by omega)
    have hy0 := b.done x hx q1 q2 q3 y hy hn
    have h1 := (b.vis y hy hy0).unique hd
    refine ⟨hy0, fun q1 => ?_, fun q1 => ?_⟩
    · have := (b.qin _ q1).2.2.1; omega
    · rw [← q1] at he; omega

theorem at_set (l : List Int) (m : Nat) (v : Int) (x : Int) (hm : m < l.length) : at_ (l.set m v) x = if x.toNat = m then v else at_ l x := by
  unfold at_
  by_cases h : x.toNat = m
  · rw [if_pos h, h]; simp [List.getD_eq_getElem?_getD, hm]
  · rw [if_neg h]; simp [List.getD_eq_getElem?_getD, Ne.symm h]

/-- A new one is met. -/
theorem BfsIn.meet {out q : List Int} {k : Int} {m : Nat} (b : BfsIn N n s out q k m) (hm : m < n) (hn : N k m) (ho : at_ out m < 0) : BfsIn N n s (out.set m (at_ out k + 1)) (q ++ [(m : Int)]) k (m + 1) := by
  have hl : m < out.length := by have := b.len; omega
  have key : ∀ x : Int, at_ (out.set m (at_ out k + 1)) x = if x.toNat = m then at_ out k + 1 else at_ out x := fun x => at_set out m _ x hl
  obtain ⟨k1, k2, k3⟩ := b.kin
  have hkm : k.toNat ≠ m := fun e => by
    have : at_ out k = at_ out m := by unfold at_; rw [e]; rfl
    omega
  have hk' : at_ (out.set m (at_ out k + 1)) k = at_ out k := by rw [key, if_neg hkm]
  have ge : ∀ x : Int, 0 ≤ at_ out x → 0 ≤ at_ (out.set m (at_ out k + 1)) x := fun x hx => by rw [key]; split <;> omega
  have old : ∀ x : Int, 0 ≤ at_ out x → at_ (out.set m (at_ out k + 1)) x = at_ out x := fun x hx => by
    rw [key, if_neg]
    intro e
    have : at_ out x = at_ out m := by unfold at_; rw [e]; rfl
    omega
  have hdist : IsDist N n s ((at_ out k).toNat + 1) m := by
    have hdk := b.vis k.toNat (by omega) (by simpa [Int.toNat_of_nonneg k1] using k3)
    have hkk : at_ out (k.toNat : Int) = at_ out k := by rw [Int.toNat_of_nonneg k1]
    rw [hkk] at hdk
    refine ⟨⟨k.toNat, by omega, hdk.1, by rw [Int.toNat_of_nonneg k1]; exact hn⟩, fun e he hw => ?_⟩
    obtain ⟨e0, he0, hd0⟩ := hw.least
    cases e0 with
    | zero =>
      have : m = s := hd0.1
      subst this
      have := b.src.2
      omega
    | succ e1 =>
      obtain ⟨x, hx, hwx, hnx⟩ := hd0.1
      obtain ⟨e2, he2, hdx⟩ := hwx.least
      obtain ⟨q1, q2, q3⟩ := b.near e2 x hx hdx (by omega)
      have := b.done x hx q1 q2 q3 m hm hnx
      omega
  refine ⟨by simp [b.len], ⟨b.src.1, ge _ b.src.2⟩, fun y hy hy0 => ?_, fun y hy hy0 => ?_, fun y hy => ?_, ⟨k1, k2, by rw [hk']; exact k3⟩, fun x hx => ?_, ?_, fun y hy hyn hN => ?_, fun x hx hx0 hxq hxk y hy hN => ?_⟩
  · rw [key] at hy0 ⊢
    by_cases e : ((y : Int).toNat) = m
    · rw [if_pos e]
      have : y = m := by simpa using e
      subst this
      rw [show (at_ out k + 1).toNat = (at_ out k).toNat + 1 by omega]
      exact hdist
    · rw [if_neg e] at hy0 ⊢; exact b.vis y hy hy0
  · rw [key] at hy0 ⊢
    by_cases e : ((y : Int).toNat) = m
    · rw [if_pos e] at hy0; omega
    · rw [if_neg e] at hy0 ⊢; exact b.neg y hy hy0
  · have hr := rest_set out m (at_ out k + 1) hl (by simpa using ho) (by omega)
    rw [key]
    have h1 := b.low y hy
    have h2 := b.low k.toNat (by omega)
    rw [Int.toNat_of_nonneg k1] at h2
    split <;> omega
  · rw [hk']
    rcases List.mem_append.1 hx with hx | hx
    · obtain ⟨q1, q2, q3, q4⟩ := b.qin x hx
      rw [old x (by omega)]; exact ⟨q1, q2, q3, q4⟩
    · obtain rfl : x = (m : Int) := by simpa using hx
      rw [key, if_pos (by simp)]; omega
  · rw [List.pairwise_append]
    refine ⟨?_, by simp, fun x hx y hy => ?_⟩
    · refine b.sort.imp_of_mem fun hx hy hxy => ?_
      have h1 := (b.qin _ hx).2.2.1
      have h2 := (b.qin _ hy).2.2.1
      rw [old _ (by omega), old _ (by omega)]; exact hxy
    · obtain rfl : y = (m : Int) := by simpa using hy
      obtain ⟨q1, q2, q3, q4⟩ := b.qin x hx
      rw [old x (by omega), key (m : Int), if_pos (by simp)]; exact q4
  · by_cases e : y = m
    · subst e; rw [key, if_pos (by simp)]; omega
    · exact ge _ (b.here y (by omega) hyn hN)
  · have hxm : ¬ (x : Int).toNat = m := by
      intro e
      have e2 : x = m := by simpa using e
      subst e2
      exact hxq (by simp)
    rw [key, if_neg hxm] at hx0
    exact ge _ (b.done x hx hx0 (fun q => hxq (List.mem_append_left _ q)) hxk y hy hN)
theorem BfsIn.pass {out q : List Int} {k : Int} {m : Nat} (b : BfsIn N n s out q k m) (h : N k m → 0 ≤ at_ out m) : BfsIn N n s out q k (m + 1) :=
  ⟨b.len, b.src, b.vis, b.neg, b.low, b.kin, b.qin, b.sort, fun y hy hyn hN => by
    by_cases e : y = m
    · subst e; exact h hN
    · exact b.here y (by omega) hyn hN, b.done⟩
theorem Bfs.take {out q : List Int} {k : Int} (b : Bfs N n s out (k :: q)) : BfsIn N n s out q k 0 := by
  obtain ⟨k1, k2, k3⟩ := b.qin k (by simp)
  have hs := List.pairwise_cons.1 b.sort
  exact ⟨b.len, b.src, b.vis, b.neg, b.low, ⟨k1, k2, k3⟩, fun x hx => ⟨(b.qin x (by simp [hx])).1, (b.qin x (by simp [hx])).2.1, hs.1 x hx, b.span k (by simp) x (by simp [hx])⟩, hs.2, fun y hy => by omega, fun x hx h0 hq hk => b.done x hx h0 (by simp [hq, hk])⟩
theorem BfsIn.back {out q : List Int} {k : Int} {m : Nat} (b : BfsIn N n s out q k m) (hm : n ≤ m) : Bfs N n s out q :=
  ⟨b.len, b.src, b.vis, b.neg, b.low, fun x hx => ⟨(b.qin x hx).1, (b.qin x hx).2.1, by have := (b.qin x hx).2.2.1; have := b.kin.2.2; omega⟩, b.sort,
    fun x hx y hy => by have := (b.qin x hx).2.2.1; have := (b.qin y hy).2.2.2; omega, fun x hx h0 hq y hy hN => by
      by_cases e : (x : Int) = k
      · exact b.here y (by omega) hy (e ▸ hN)
      · exact b.done x hx h0 hq e y hy hN⟩
theorem Bfs.start {out : List Int} (hl : out.length = n) (hs : s < n) (h0 : at_ out s = 0) (h1 : ∀ y : Nat, y < n → y ≠ s → at_ out y = -1) : Bfs N n s out [(s : Int)] := by
  refine ⟨hl, ⟨hs, by omega⟩, fun y hy hy0 => ?_, fun y hy hy0 => ?_, fun y hy => ?_, fun x hx => ?_, by simp, fun x hx y hy => ?_, fun x hx hx0 hxq => ?_⟩
  · by_cases e : y = s
    · subst e; rw [h0]; exact ⟨rfl, fun e he => by simp at he⟩
    · rw [h1 y hy e] at hy0; omega
  · by_cases e : y = s
    · subst e; omega
    · exact h1 y hy e
  · have hr : rest_ out ≤ n - 1 := by
      have h2 := rest_set (out.set s (-1)) s 0 (by simp; omega) (by simp [List.getD_eq_getElem?_getD, show s < out.length by omega]) (by omega)
      have h3 : (out.set s (-1)).set s 0 = out := by
        rw [List.set_set]
        refine List.ext_getElem (by simp) fun i q1 q2 => ?_
        rw [List.getElem_set]
        split
        · rename_i e
          subst e
          have : at_ out (s : Int) = out[s] := by unfold at_; simp [List.getD_eq_getElem?_getD, List.getElem?_eq_getElem q2]
          omega
        · rfl
      rw [h3] at h2
      have h4 : rest_ (out.set s (-1)) ≤ (out.set s (-1)).length := List.countP_le_length
      rw [List.length_set] at h4
      omega
    by_cases e : y = s
    · subst e; omega
    · have := h1 y hy e; omega
  · obtain rfl : x = (s : Int) := by simpa using hx
    omega
  · obtain rfl : x = (s : Int) := by simpa using hx
    obtain rfl : y = (s : Int) := by simpa using hy
    omega
  · have : x ≠ s := fun e => by subst e; simp at hxq
    rw [h1 x hx this] at hx0; omega
theorem Bfs.finish {out : List Int} (b : Bfs N n s out []) : DistL N n s out := by
  have all : ∀ d y, y < n → Wk N n s d y → 0 ≤ at_ out y := by
    intro d
    induction d with
    | zero => intro y hy hw; have : y = s := hw; subst this; exact b.src.2
    | succ d ih =>
      intro y hy ⟨x, hx, hw, hN⟩
      exact b.done x hx (ih x hx hw) (by simp) y hy hN
  refine ⟨b.len, fun y hy => ?_⟩
  have e : at_ out (y : Int) = out.getD y default := by unfold at_; simp
  rw [← e]
  rcases Int.lt_or_le (at_ out y) 0 with h | h
  · exact .inl ⟨b.neg y hy h, fun d hw => by have := all d y hy hw; omega⟩
  · exact .inr ⟨(at_ out y).toNat, (Int.toNat_of_nonneg h).symm, b.vis y hy h⟩
end
end Go.Proofs.Xx

/-
  The distances from a seat.
-/
namespace Go.Proofs.Xx
open Go Go.Proofs
set_option linter.unusedSimpArgs false
set_option linter.unusedVariables false
set_option maxRecDepth 100000

theorem steps_ok {h0 : AH} (w : WfH h0) (t : Tab) (from_ n : Nat) (ht : TabB t) (hn : tsize t = n) (hn2 : n ≤ 1000) (hf : from_ < n) :
    Fn Tryz.prog Xh 93 [tabV t, .int .i64 from_] h0 (fun v h' => ∃ l, DistL (nearP t) n from_ l ∧ Hs h0 h' [.sl v 3 1 eI l]) := by
  have S := Hs.start w
  refine Fn_K rfl Tryz.func93 rfl rfl ?_
  all_goals (repeat' (first | refine K_seq ?_ | refine k_cond rfl ?_ | refine K_skip ?_ | refine K_exit ?_ | refine k_block ?_ | refine K_scope ?_ | (refine K_region (id := 0) ?_; (refine bx S ?_; clear S; intro b h S); refine mv ?_; refine KO_nil ?_) | (refine K_region (id := 1) ?_; (first | refine lB S rfl rfl ?_ | refine lES S rfl rfl ?_ | refine lEB S ?_))))
  (refine KO_fn rfl rfl rfl rfl rfl ((size_ok S.wf t).mono ?_); rintro _ h ⟨rfl, x⟩) <;> (replace S := S.join0 x; clear x; rw [hn])
  refine m_make (z := 1) (by_ := 8) (enc := eI) (y0 := 0) S rfl rfl rfl rfl rfl rfl rfl rfl rfl (by intro _; rfl) (by first | omega | grind) rfl rfl ?_; clear S; intro v h S; refine mv ?_; refine KO_nil ?_
  simp only [Int.toNat_natCast] at S
  all_goals (repeat' (first | refine K_seq ?_ | refine k_cond rfl ?_ | refine K_skip ?_ | refine K_exit ?_ | refine k_block ?_ | refine K_scope ?_ | (refine K_region (id := 2) ?_; refine mv ?_; (first | refine lnB S ?_ | refine lnS S rfl rfl ?_); refine mv ?_; refine KO_nil ?_)))
  refine k_loop (σ := Nat × List Int) (fun (i, l) h' => Hs h0 h' [.sl v 3 1 eI l, .blk b (eT t) 25] ∧ i ≤ n ∧ l.length = n ∧ ∀ y : Nat, y < i → at_ l y = -1) (fun (i, l) => n - i) (fun (i, l) => [(1, .int .i64 from_), (2, .pointer (some ⟨b, 0, none⟩)), (5, v), (14, v), (15, .int .i64 n), (16, .int .i64 i)]) (0, List.replicate n 0) (by repeat (first | exact Ks.le_nil _ | refine Ks.le_cons rfl ?_ | refine Ks.le_int ?_)) ?_ ?_
  · exact ⟨S, Nat.zero_le _, by simp, fun y hy => absurd hy (Nat.not_lt_zero _)⟩
  rintro ⟨i, l⟩ h ⟨S, h1, h2, h3⟩
  all_goals (repeat' (first | refine K_seq ?_ | refine k_cond rfl ?_ | refine K_skip ?_ | refine K_exit ?_ | refine k_block ?_ | refine K_scope ?_ | (refine K_region (id := 3) ?_; (first | refine cT ?_ | refine cF ?_ | (refine cS ?_ ?_ <;> intro hc)) <;> (refine KO_nil ?_)) | (refine K_region (id := 4) ?_; refine mv ?_; refine mv ?_; refine KO_nil ?_) | (refine K_region (id := 5) ?_; refine mv ?_; refine mv ?_; (first | refine ixB S ?_ | refine ixS S rfl rfl ?_); (first | (refine sB S rfl rfl ?_; clear S; intro h S) | (refine sE S rfl rfl ?_; clear S; intro h S)); refine KO_nil ?_) | (refine K_region (id := 6) ?_; (first | refine ad ?_ | refine vl ?_); refine mv ?_; refine KO_nil ?_) | (refine K_region (id := 7) ?_; refine mv ?_; refine mv ?_; (first | refine ixB S ?_ | refine ixS S rfl rfl ?_); (first | (refine sB S rfl rfl ?_; clear S; intro h S) | (refine sE S rfl rfl ?_; clear S; intro h S)); refine KO_nil ?_) | (refine K_region (id := 8) ?_; refine mv ?_; (refine one 1 S ?_; clear S; intro u h S); refine mv ?_; refine KO_nil ?_)))
  · refine ⟨(i + 1, l.set i (-1)), ?_, ?_, (by repeat (first | exact Ks.le_nil _ | refine Ks.le_cons rfl ?_ | refine Ks.le_int ?_))⟩
    · simp only; omega
    · refine ⟨S, by omega, by simpa using h2, fun y hy => ?_⟩
      rw [at_set l i _ _ (by omega)]
      split
      · rfl
      · rename_i hne; exact h3 y (by simp at hne; omega)
  have hin : i = n := by omega
  have B : Bfs (nearP t) n from_ (l.set from_ 0) [(from_ : Int)] := by
    refine Bfs.start (by simpa using h2) hf ?_ fun y hy hne => ?_
    · rw [at_set l from_ _ _ (by omega), if_pos (by simp)]
    · rw [at_set l from_ _ _ (by omega), if_neg (by simpa using hne)]; exact h3 y (by omega)
  replace S := S.one eI (from_ : Int) rfl
  clear h1 h2 h3 hc hin
  refine k_loop (σ := List Int × List Int × Value) (fun (out, q, vq) h' => Hs h0 h' [.sl vq 3 1 eI q, .sl v 3 1 eI out, .blk b (eT t) 25] ∧ Bfs (nearP t) n from_ out q ∧ rest_ out + q.length ≤ n) (fun (out, q, vq) => rest_ out + q.length) (fun (out, q, vq) => [(2, .pointer (some ⟨b, 0, none⟩)), (5, v), (7, vq)]) (l.set from_ 0, [(from_ : Int)], u) (by repeat (first | exact Ks.le_nil _ | refine Ks.le_cons rfl ?_ | refine Ks.le_int ?_)) ?_ ?_
  · have := B.low from_ hf
    have h0 := B.src.2
    exact ⟨S, B, by simp only [List.length_cons, List.length_nil]; omega⟩
  clear S B
  rintro ⟨out, q, vq⟩ h ⟨S, B, hrq⟩
  all_goals (repeat' (first | refine K_seq ?_ | refine k_cond rfl ?_ | refine K_skip ?_ | refine K_exit ?_ | refine k_block ?_ | refine K_scope ?_ | (refine K_region (id := 9) ?_; refine mv ?_; (first | refine lnB S ?_ | refine lnS S rfl rfl ?_); (first | refine cT ?_ | refine cF ?_ | (refine cS ?_ ?_ <;> intro hc)) <;> (refine KO_nil ?_)) | (refine K_region (id := 10) ?_; refine mv ?_; (first | refine ixB S ?_ | refine ixS S rfl rfl ?_); (first | refine lB S rfl rfl ?_ | refine lES S rfl rfl ?_ | refine lEB S ?_); refine mv ?_; refine KO_nil ?_) | (refine K_region (id := 11) ?_; refine mv ?_; (refine dr S rfl rfl ?_; clear S; intro vq S); refine mv ?_; refine KO_nil ?_) | (refine K_region (id := 12) ?_; refine mv ?_; (first | refine lnB S ?_ | refine lnS S rfl rfl ?_); refine mv ?_; refine KO_nil ?_) | (refine K_region (id := 19) ?_; refine mv ?_; refine mv ?_; refine KO_nil ?_)))
  · cases q with
    | nil => simp at hc
    | cons k q =>
      clear hc
      have BI := B.take
      obtain ⟨k1, k2, k3⟩ := BI.kin
      have hol := B.len
      rw [List.length_cons] at hrq
      refine k_loop (σ := Nat × List Int × List Int × Value) (fun (m, o2, q2, vq) h' => Hs h0 h' [.sl vq 3 1 eI q2, .sl v 3 1 eI o2, .blk b (eT t) 25] ∧ m ≤ n ∧ BfsIn (nearP t) n from_ o2 q2 k m ∧ rest_ o2 + q2.length ≤ rest_ out + q.length) (fun (m, o2, q2, vq) => n - m) (fun (m, o2, q2, vq) => [(2, .pointer (some ⟨b, 0, none⟩)), (5, v), (7, vq), (8, .int .i64 k), (36, v), (37, .int .i64 n), (38, .int .i64 m)]) (0, out, q, vq) (by repeat (first | exact Ks.le_nil _ | refine Ks.le_cons rfl ?_ | refine Ks.le_int ?_)) ?_ ?_
      · exact ⟨S, Nat.zero_le _, BI, Nat.le_refl _⟩
      clear S BI k3 hol
      rintro ⟨m, o2, q2, vq⟩ h ⟨S, h1, BI, hm⟩
      have hol := BI.len
      have hkk := BI.low k.toNat (by omega)
      rw [Int.toNat_of_nonneg k1] at hkk
      have k3 := BI.kin.2.2
      all_goals (repeat' (first | refine K_seq ?_ | refine k_cond rfl ?_ | refine K_skip ?_ | refine K_exit ?_ | refine k_block ?_ | refine K_scope ?_ | (refine K_region (id := 13) ?_; (first | refine cT ?_ | refine cF ?_ | (refine cS ?_ ?_ <;> intro hc)) <;> (refine KO_nil ?_)) | (refine K_region (id := 14) ?_; refine mv ?_; (first | refine ixB S ?_ | refine ixS S rfl rfl ?_); (first | refine lB S rfl rfl ?_ | refine lES S rfl rfl ?_ | refine lEB S ?_); refine mv ?_; refine mv ?_; refine KO_nil ?_) | (refine K_region (id := 15) ?_; refine mv ?_; (first | refine cT ?_ | refine cF ?_ | (refine cS ?_ ?_ <;> intro hc)) <;> (refine mv ?_; (first | refine off ?_ | (first | refine lB S rfl rfl ?_ | refine lES S rfl rfl ?_ | refine lEB S ?_)); (first | refine off ?_ | refine mv ?_); (first | refine off ?_ | refine mv ?_); (first | (refine off ?_; refine vl ?_; refine KO_nil ?_) | skip))) | (refine K_region (id := 16) ?_; refine mv ?_; refine mv ?_; refine mv ?_; refine mv ?_; (first | refine ixB S ?_ | refine ixS S rfl rfl ?_); (first | refine lB S rfl rfl ?_ | refine lES S rfl rfl ?_ | refine lEB S ?_); (first | refine ad ?_ | refine vl ?_); (first | refine ixB S ?_ | refine ixS S rfl rfl ?_); (first | (refine sB S rfl rfl ?_; clear S; intro h S) | (refine sE S rfl rfl ?_; clear S; intro h S)); refine KO_nil ?_) | (refine K_region (id := 17) ?_; refine mv ?_; refine mv ?_; (refine one 1 S ?_; clear S; intro u h S)) | (refine K_region (id := 18) ?_; (first | refine ad ?_ | refine vl ?_); refine mv ?_; refine KO_nil ?_)))
      · (refine KO_fn rfl rfl rfl rfl rfl ((near_ok S.wf t k m ht (by omega) (by omega)).mono ?_); rintro _ h ⟨⟨rfl, hq⟩ | ⟨rfl, hq⟩, x⟩) <;> (replace S := S.join0 x; clear x; refine vl ?_; refine KO_nil ?_)
        all_goals (repeat' (first | refine K_seq ?_ | refine k_cond rfl ?_ | refine K_skip ?_ | refine K_exit ?_ | refine k_block ?_ | refine K_scope ?_ | (refine K_region (id := 16) ?_; refine mv ?_; refine mv ?_; refine mv ?_; refine mv ?_; (first | refine ixB S ?_ | refine ixS S rfl rfl ?_); (first | refine lB S rfl rfl ?_ | refine lES S rfl rfl ?_ | refine lEB S ?_); (first | refine ad ?_ | refine vl ?_); (first | refine ixB S ?_ | refine ixS S rfl rfl ?_); (first | (refine sB S rfl rfl ?_; clear S; intro h S) | (refine sE S rfl rfl ?_; clear S; intro h S)); refine KO_nil ?_) | (refine K_region (id := 17) ?_; refine mv ?_; refine mv ?_; (refine one 1 S ?_; clear S; intro u h S)) | (refine K_region (id := 18) ?_; (first | refine ad ?_ | refine vl ?_); refine mv ?_; refine KO_nil ?_)))
        · refine app  S rfl rfl ?_; clear S; intro v h S; refine mv ?_; refine KO_nil ?_
          all_goals (repeat' (first | refine K_seq ?_ | refine k_cond rfl ?_ | refine K_skip ?_ | refine K_exit ?_ | refine k_block ?_ | refine K_scope ?_ | (refine K_region (id := 18) ?_; (first | refine ad ?_ | refine vl ?_); refine mv ?_; refine KO_nil ?_)))
          have hmn : m < n := by omega
          have hneg : at_ o2 m < 0 := hc
          have hr := rest_set o2 m (at_ o2 k + 1) (by omega) (by simpa using hneg) (by omega)
          refine ⟨(m + 1, o2.set m (at_ o2 k + 1), q2 ++ [(m : Int)], v), ?_, ?_, (by repeat (first | exact Ks.le_nil _ | refine Ks.le_cons rfl ?_ | refine Ks.le_int ?_))⟩
          · simp only; omega
          · exact ⟨S, by omega, BI.meet (by omega) hq hneg, by rw [List.length_append, List.length_cons, List.length_nil]; omega⟩
        · refine ⟨(m + 1, o2, q2, vq), ?_, ?_, (by repeat (first | exact Ks.le_nil _ | refine Ks.le_cons rfl ?_ | refine Ks.le_int ?_))⟩
          · simp only; omega
          · exact ⟨S, by omega, BI.pass (fun q => absurd q hq), hm⟩
      · refine ⟨(m + 1, o2, q2, vq), ?_, ?_, (by repeat (first | exact Ks.le_nil _ | refine Ks.le_cons rfl ?_ | refine Ks.le_int ?_))⟩
        · simp only; omega
        · exact ⟨S, by omega, BI.pass (fun _ => Int.not_lt.1 hc), hm⟩
      · refine ⟨(o2, q2, vq), ?_, ?_, (by repeat (first | exact Ks.le_nil _ | refine Ks.le_cons rfl ?_ | refine Ks.le_int ?_))⟩
        · simp only [List.length_cons]; omega
        · exact ⟨S, BI.back (by omega), by omega⟩
  · refine K_ret ⟨_, rfl, ?_⟩
    have : q = [] := by
      cases q with
      | nil => rfl
      | cons k q => simp at hc
    subst this
    exact ⟨out, B.finish, S.only (.there .here)⟩
end Go.Proofs.Xx

/-
  The seat of honour of a table; the levels of its seats.
-/
namespace Go.Proofs.Xx
open Go Go.Proofs
set_option linter.unusedSimpArgs false
set_option linter.unusedVariables false
set_option maxRecDepth 100000

def honLong (a b : Int) : Int := if b > 0 then a else a / 2
def honOf (s a b : Int) : Int := if s = 2 then honLong a b else if s = 3 then b + a / 2 else if s = 4 then a / 2 else 0
/-- The seat of honour. -/
def tHon (t : Tab) : Int := honOf t.shape t.A t.B
/-- The levels: the distances, with the table's size where there is none. -/
def lvl (n : Nat) (l : List Int) : List Int := l.map fun x => if x < 0 then (n : Int) else x

def mixl (n : Nat) (l : List Int) (i : Nat) : List Int := (lvl n l).take i ++ l.drop i
end Go.Proofs.Xx

/-
  Names; the check of a table, the program's and the reference's.
-/
namespace Go.Proofs.Xx
open Go Go.Proofs
set_option linter.unusedSimpArgs false
set_option linter.unusedVariables false
set_option maxRecDepth 100000

def lowB (x : UInt8) : Prop := 97 ≤ x.toNat ∧ x.toNat ≤ 122
def nameP (s : List UInt8) : Prop := 1 ≤ s.length ∧ s.length ≤ 12 ∧ ∀ i, i < s.length → lowB (s.getD i default)

theorem name_ok {h0 : AH} (w : WfH h0) (s : List UInt8) (hs : s.length ≤ 1000000) : Fn Tryz.prog Xh 114 [str s] h0 (fun v h' => BoolIs v (nameP s) ∧ Hs h0 h' []) := by
  have S := Hs.start w
  refine Fn_K rfl Tryz.func114 rfl rfl ?_
  all_goals (repeat' (first | refine K_seq ?_ | refine k_block ?_ | (refine K_region (id := 0) ?_; refine mv ?_; refine KO_nil ?_) | (refine K_region (id := 1) ?_; refine mv ?_; refine KO_nil ?_)))
  refine k_loop (σ := Nat) (fun i h' => Hs h0 h' [] ∧ i ≤ s.length ∧ ∀ j, j < i → lowB (s.getD j default)) (fun i => s.length - i) (fun i => [(0, str s), (3, .int .i64 i)]) 0 (by repeat (first | exact Ks.le_nil _ | refine Ks.le_cons rfl ?_)) ?_ ?_
  · exact ⟨S, Nat.zero_le _, fun j hj => absurd hj (Nat.not_lt_zero _)⟩
  clear S
  rintro i h ⟨S, h1, h2⟩
  all_goals (repeat' (first | refine K_seq ?_ | refine k_cond rfl ?_ | refine K_skip ?_ | refine K_exit ?_ | refine k_block ?_ | (refine K_region (id := 2) ?_; refine mv ?_; refine mv ?_; refine tl ?_; (first | (refine cS ?_ ?_ <;> intro hc)) <;> (refine KO_nil ?_)) | (refine K_region (id := 3) ?_; refine mv ?_; refine ad ?_; refine mv ?_; refine KO_nil ?_) | (refine K_region (id := 4) ?_; refine mv ?_; refine mv ?_; refine ti ?_; (first | (refine cS ?_ ?_ <;> intro hc)) <;> (refine mv ?_; (first | refine off ?_ | refine mv ?_); (first | refine off ?_ | refine mv ?_); (first | refine off ?_ | (refine ti ?_)); (first | refine off ?_ | (first | (refine cS ?_ ?_ <;> intro hc))) <;> (refine vl ?_; refine KO_nil ?_))) | (refine K_region (id := 5) ?_; refine mv ?_; refine KO_nil ?_) | (refine K_region (id := 6) ?_; refine mv ?_; refine tl ?_; (first | (refine cS ?_ ?_ <;> intro hc)) <;> (refine mv ?_; (first | refine off ?_ | refine mv ?_); (first | refine off ?_ | refine tl ?_); (first | refine off ?_ | (first | (refine cS ?_ ?_ <;> intro hc))) <;> (refine vl ?_; refine mv ?_; refine KO_nil ?_)))))
  all_goals (try simp only [Int.toNat_natCast] at *)
  · refine K_ret ⟨_, rfl, ?_⟩
    exact ⟨.inr ⟨rfl, fun q => by have := q.2.2 i (by omega); unfold lowB at this; simp only [show (default : UInt8) = 0 from rfl] at this; omega⟩, S.drop⟩
  · refine K_ret ⟨_, rfl, ?_⟩
    exact ⟨.inr ⟨rfl, fun q => by have := q.2.2 i (by omega); unfold lowB at this; simp only [show (default : UInt8) = 0 from rfl] at this; omega⟩, S.drop⟩
  · refine ⟨i + 1, ?_, ?_, (by repeat (first | exact Ks.le_nil _ | refine Ks.le_cons rfl ?_))⟩
    · show s.length - (i + 1) < s.length - i; omega
    · refine ⟨S, by omega, fun j hj => ?_⟩
      rcases Nat.lt_or_ge j i with q | q
      · exact h2 j q
      · have e : j = i := by omega
        subst e
        unfold lowB
        simp only [show (default : UInt8) = 0 from rfl]
        omega
  all_goals (refine K_ret ⟨_, rfl, ?_⟩)
  all_goals refine ⟨?_, S.drop⟩
  · exact .inl ⟨rfl, by omega, by omega, fun j hj => h2 j (by omega)⟩
  · exact .inr ⟨rfl, fun q => by have := q.2.1; omega⟩
  · exact .inr ⟨rfl, fun q => by have := q.1; omega⟩

end Go.Proofs.Xx

/-
  The check of a table, the program's and the reference's.
-/
namespace Go.Proofs.Xx
open Go Go.Proofs
set_option linter.unusedSimpArgs false
set_option linter.unusedVariables false
set_option maxRecDepth 100000

/-- The open seats stand in order, and each is a seat. -/
def OpnOk (n : Int) (l : List Int) : Prop := ∀ i, i < l.length → (0 ≤ l.getD i default ∧ l.getD i default < n) ∧ (0 < i → l.getD (i - 1) default < l.getD i default)
def XYok (t : Tab) : Prop := 0 ≤ t.X ∧ t.X ≤ 1000 ∧ 0 ≤ t.Y ∧ t.Y ≤ 1000
open Classical in
noncomputable def chk (t : Tab) : Int := if ¬ nameP t.name then 4 else if tsize t = 0 then 10 else if ¬ OpnOk (tsize t) t.opn then 11 else if ¬ XYok t then 2 else 0
/-- What a table's list of open seats reads as. -/
abbrev TabR (h : AH) (t : Tab) : Prop := RdL h t.ov 1 eI t.opn ∧ t.name.length ≤ 1000 ∧ t.opn.length ≤ 1000

/-- The same of tables with longer names and lists. -/
abbrev TabL (h : AH) (t : Tab) : Prop := RdL h t.ov 1 eI t.opn ∧ t.name.length ≤ 1000000 ∧ t.opn.length ≤ 1000000
theorem TabR.toL {h : AH} {t : Tab} (r : TabR h t) : TabL h t := ⟨r.1, Nat.le_trans r.2.1 (by decide), Nat.le_trans r.2.2 (by decide)⟩
theorem check_okL {h0 : AH} (w : WfH h0) (t : Tab) (r : TabL h0 t) : Fn Tryz.prog Xh 56 [tabV t] h0 (fun v h' => v = .int .i64 (chk t) ∧ Hs h0 h' []) := by
  have S := Hs.start w
  obtain ⟨hr, hnm, hol⟩ := r
  refine Fn_K rfl Tryz.func56 rfl rfl ?_
  all_goals (repeat' (first | refine K_seq ?_ | (refine K_region (id := 0) ?_; (refine bx S ?_; clear S; intro b h S); refine mv ?_; refine KO_nil ?_) | (refine K_region (id := 1) ?_; refine lB S rfl rfl ?_)))
  (refine KO_fn rfl rfl rfl rfl rfl ((size_ok S.wf t).mono ?_); rintro _ h ⟨rfl, x⟩) <;> (replace S := S.join0 x; clear x; refine mv ?_; refine KO_nil ?_)
  all_goals (repeat' (first | refine K_seq ?_ | refine k_block ?_ | (refine K_region (id := 2) ?_; refine mv ?_; refine KO_nil ?_) | (refine K_region (id := 3) ?_; refine vl ?_; refine lB S rfl rfl ?_)))
  (refine KO_fn rfl rfl rfl rfl rfl ((name_ok S.wf t.name hnm).mono ?_); rintro _ h ⟨⟨rfl, hq⟩ | ⟨rfl, hq⟩, x⟩) <;> (replace S := S.join0 x; clear x; refine vl ?_; refine mv ?_; refine KO_nil ?_)
  all_goals (repeat' (first | refine K_seq ?_ | refine k_cond rfl ?_ | refine K_skip ?_ | refine k_block ?_ | (refine K_region (id := 4) ?_; refine mv ?_; refine KO_nil ?_) | (refine K_region (id := 5) ?_; refine mv ?_; (first | (refine cS ?_ ?_ <;> intro hc)) <;> (refine mv ?_; refine KO_nil ?_)) | (refine K_region (id := 6) ?_; refine mv ?_; refine KO_nil ?_) | (refine K_region (id := 7) ?_; refine vl ?_; refine lB S rfl rfl ?_; refine lnB S ?_; refine mv ?_; refine KO_nil ?_)))
  · refine K_ret ⟨_, rfl, ?_⟩
    exact ⟨by unfold chk; rw [if_neg (by simpa using hq), if_pos hc]; rfl, S.drop⟩
  · refine k_loop (σ := Nat × Int) (fun (i, la) h' => Hs h0 h' [.blk b (tabV t).cells.toList 25] ∧ i ≤ t.opn.length ∧ (∀ j, j < i → (0 ≤ t.opn.getD j default ∧ t.opn.getD j default < tsize t) ∧ (0 < j → t.opn.getD (j - 1) default < t.opn.getD j default)) ∧ (la = if i = 0 then -1 else t.opn.getD (i - 1) default)) (fun (i, la) => t.opn.length - i) (fun (i, la) => [(1, .pointer (some ⟨b, 0, none⟩)), (3, .int .i64 (tsize t)), (4, .int .i64 la), (18, t.ov), (19, .int .i64 t.opn.length), (20, .int .i64 i)]) (0, -1) (by repeat (first | exact Ks.le_nil _ | refine Ks.le_cons rfl ?_)) ?_ ?_
    · exact ⟨S, Nat.zero_le _, fun j hj => absurd hj (Nat.not_lt_zero _), rfl⟩
    clear S
    rintro ⟨i, la⟩ h ⟨S, h1, h2, h3⟩
    all_goals (repeat' (first | refine K_seq ?_ | refine k_cond rfl ?_ | refine K_skip ?_ | refine K_exit ?_ | refine k_block ?_ | (refine K_region (id := 8) ?_; (first | (refine cS ?_ ?_ <;> intro hc)) <;> (refine KO_nil ?_)) | (refine K_region (id := 9) ?_; refine ixB S ?_; refine lEB S ?_; refine mv ?_; refine KO_nil ?_) | (refine K_region (id := 10) ?_; refine mv ?_; refine mv ?_; (first | (refine cS ?_ ?_ <;> intro hc)) <;> (refine mv ?_; (first | refine off ?_ | refine mv ?_); (first | refine off ?_ | refine mv ?_); (first | refine off ?_ | (first | (refine cS ?_ ?_ <;> intro hc))) <;> (refine vl ?_; refine KO_nil ?_))) | (refine K_region (id := 11) ?_; refine mv ?_; refine KO_nil ?_) | (refine K_region (id := 12) ?_; refine mv ?_; refine mv ?_; refine KO_nil ?_) | (refine K_region (id := 13) ?_; refine ad ?_; refine mv ?_; refine KO_nil ?_) | (refine K_region (id := 14) ?_; refine vl ?_; refine lB S rfl rfl ?_; (first | (refine cS ?_ ?_ <;> intro hc)) <;> (refine mv ?_; (first | refine off ?_ | (refine vl ?_)); (first | refine off ?_ | (refine lB S rfl rfl ?_)); (first | refine off ?_ | (first | (refine cS ?_ ?_ <;> intro hc))) <;> (refine vl ?_; refine mv ?_; (first | refine off ?_ | (refine vl ?_)); (first | refine off ?_ | (refine lB S rfl rfl ?_)); (first | refine off ?_ | (first | (refine cS ?_ ?_ <;> intro hc))) <;> (refine vl ?_; refine mv ?_; (first | refine off ?_ | (refine vl ?_)); (first | refine off ?_ | (refine lB S rfl rfl ?_)); (first | refine off ?_ | (first | (refine cS ?_ ?_ <;> intro hc))) <;> (refine vl ?_; refine KO_nil ?_))))) | (refine K_region (id := 15) ?_; refine mv ?_; refine KO_nil ?_) | (refine K_region (id := 16) ?_; refine mv ?_; refine KO_nil ?_)))
    all_goals (try simp only [Int.toNat_natCast] at *)
    · refine K_ret ⟨_, rfl, ?_⟩
      refine ⟨?_, S.drop⟩
      have : ¬ OpnOk (tsize t) t.opn := fun q => by
        have q1 := q i (by omega)
        split at h3 <;> rename_i hi
        · subst hi; omega
        · have := q1.2 (by omega); omega
      unfold chk; rw [if_neg (by simpa using hq), if_neg (by assumption), if_pos this]; rfl
    · refine K_ret ⟨_, rfl, ?_⟩
      refine ⟨?_, S.drop⟩
      have : ¬ OpnOk (tsize t) t.opn := fun q => by have q1 := q i (by omega); omega
      unfold chk; rw [if_neg (by simpa using hq), if_neg (by assumption), if_pos this]; rfl
    · refine ⟨(i + 1, t.opn.getD i default), ?_, ?_, (by repeat (first | exact Ks.le_nil _ | refine Ks.le_cons rfl ?_))⟩
      · show t.opn.length - (i + 1) < t.opn.length - i; omega
      · refine ⟨S, by omega, fun j hj => ?_, by simp⟩
        rcases Nat.lt_or_ge j i with q | q
        · exact h2 j q
        · have e : j = i := by omega
          subst e
          split at h3 <;> rename_i hi
          · exact ⟨by omega, fun q => by omega⟩
          · have := (h2 (j - 1) (by omega)).1
            exact ⟨by omega, fun q => by omega⟩
    all_goals
      have hok : OpnOk (tsize t) t.opn := fun j hj => h2 j (by omega)
      refine K_ret ⟨_, rfl, ?_⟩
      refine ⟨?_, S.drop⟩
      unfold chk; rw [if_neg (by simpa using hq), if_neg (by assumption), if_neg (by simpa using hok)]
      first
        | (rw [if_pos (by unfold XYok; omega)]; rfl)
        | (rw [if_neg (by unfold XYok; omega)]; rfl)
  · refine K_ret ⟨_, rfl, ?_⟩
    exact ⟨by unfold chk; rw [if_pos (by simpa using hq)]; rfl, S.drop⟩
theorem check_ok {h0 : AH} (w : WfH h0) (t : Tab) (r : TabR h0 t) : Fn Tryz.prog Xh 56 [tabV t] h0 (fun v h' => v = .int .i64 (chk t) ∧ Hs h0 h' []) := check_okL w t (TabR.toL r)
end Go.Proofs.Xx

/-
  The reference's size and check of a table.
-/
namespace Go.Proofs.Xx
open Go Go.Proofs
set_option linter.unusedSimpArgs false
set_option linter.unusedVariables false
set_option maxRecDepth 100000

end Go.Proofs.Xx

/-
  The reference's check of a table.
-/
namespace Go.Proofs.Xx
open Go Go.Proofs
set_option linter.unusedSimpArgs false
set_option linter.unusedVariables false
set_option maxRecDepth 100000

theorem tsize_le (t : Tab) : 0 ≤ tsize t ∧ tsize t ≤ 24 := by
  unfold tsize sizeOf1 roundSize longSize shoeSize rowSize
  repeat' split
  all_goals omega

end Go.Proofs.Xx

/-
  A first element that a function accepts.
-/
namespace Go.Proofs.Xx
open Go Go.Proofs
set_option linter.unusedSimpArgs false
set_option linter.unusedVariables false
set_option maxRecDepth 100000

/-- The first index below n where p holds, -1 if none. -/
def IdxIs (v : Value) (p : Nat → Prop) (n : Nat) : Prop := (∃ i : Nat, i < n ∧ v = .int .i64 i ∧ p i ∧ ∀ j, j < i → ¬ p j) ∨ (v = .int .i64 (-1) ∧ ∀ j, j < n → ¬ p j)

theorem indexTab_ok {h0 : AH} (w : WfH h0) (v : Value) (l : List Tab) (g : Nat) (cap : List Value) (p : Nat → Prop) (hr : RdL h0 v 7 eT l) (hl : l.length ≤ 1000)
    (hf : ∀ i h, i < l.length → Hs h0 h [] → Fn Tryz.prog Xh g (tabV (l.getD i default) :: cap) h (fun v h' => BoolIs v (p i) ∧ Hs h h' [])) :
    Fn Tryz.prog Xh 85 [v, .func (.func g) #[] cap.toArray] h0 (fun r h' => IdxIs r p l.length ∧ Hs h0 h' []) := by
  have S := Hs.start w
  refine Fn_K rfl Tryz.func85 rfl rfl ?_
  all_goals (repeat' (first | refine K_seq ?_ | refine k_block ?_ | (refine K_region (id := 0) ?_; refine mv ?_; refine KO_nil ?_) | (refine K_region (id := 1) ?_; refine mv ?_; refine lnB S ?_; refine mv ?_; refine KO_nil ?_)))
  refine k_loop (σ := Nat) (fun i h' => Hs h0 h' [] ∧ i ≤ l.length ∧ ∀ j, j < i → ¬ p j) (fun i => l.length - i) (fun i => [(0, v), (1, .func (.func g) #[] cap.toArray), (7, .int .i64 l.length), (8, .int .i64 i)]) 0 (by repeat (first | exact Ks.le_nil _ | refine Ks.le_cons rfl ?_)) ?_ ?_
  · exact ⟨S, Nat.zero_le _, fun j hj => absurd hj (Nat.not_lt_zero _)⟩
  clear S
  rintro i h ⟨S, h1, h2⟩
  all_goals (repeat' (first | refine K_seq ?_ | refine k_cond rfl ?_ | refine K_skip ?_ | refine K_exit ?_ | refine k_block ?_ | (refine K_region (id := 2) ?_; (first | (refine cS ?_ ?_ <;> intro hc)) <;> (refine KO_nil ?_)) | (refine K_region (id := 3) ?_; refine mv ?_; refine mv ?_; refine KO_nil ?_) | (refine K_region (id := 4) ?_; refine mv ?_; refine mv ?_; refine mv ?_; refine ixB S ?_; refine lEB S ?_) | (refine K_region (id := 7) ?_; refine mv ?_; refine KO_nil ?_)))
  · (refine KO_call rfl rfl rfl rfl ((hf i _ (by omega) S).mono ?_); rintro _ h ⟨⟨rfl, hq⟩ | ⟨rfl, hq⟩, x⟩) <;> (replace S := S.join0 x; clear x; refine KO_nil ?_)
    all_goals (repeat' (first | refine K_seq ?_ | refine k_cond rfl ?_ | refine K_skip ?_ | (refine K_region (id := 5) ?_; refine mv ?_; refine mv ?_; refine KO_nil ?_) | (refine K_region (id := 6) ?_; refine ad ?_; refine mv ?_; refine KO_nil ?_)))
    · refine K_ret ⟨_, rfl, ?_⟩
      exact ⟨.inl ⟨i, by omega, rfl, hq, h2⟩, S⟩
    · refine ⟨i + 1, ?_, ?_, (by repeat (first | exact Ks.le_nil _ | refine Ks.le_cons rfl ?_))⟩
      · show l.length - (i + 1) < l.length - i; omega
      · refine ⟨S, by omega, fun j hj => ?_⟩
        rcases Nat.lt_or_ge j i with q | q
        · exact h2 j q
        · have e : j = i := by omega
          subst e; exact hq
  · refine K_ret ⟨_, rfl, ?_⟩
    exact ⟨.inr ⟨rfl, fun j hj => h2 j (by omega)⟩, S⟩

theorem containsTab_ok {h0 : AH} (w : WfH h0) (v : Value) (l : List Tab) (g : Nat) (cap : List Value) (p : Nat → Prop) (hr : RdL h0 v 7 eT l) (hl : l.length ≤ 1000)
    (hf : ∀ i h, i < l.length → Hs h0 h [] → Fn Tryz.prog Xh g (tabV (l.getD i default) :: cap) h (fun v h' => BoolIs v (p i) ∧ Hs h h' [])) :
    Fn Tryz.prog Xh 64 [v, .func (.func g) #[] cap.toArray] h0 (fun r h' => BoolIs r (∃ i, i < l.length ∧ p i) ∧ Hs h0 h' []) := by
  have S := Hs.start w
  refine Fn_K rfl Tryz.func64 rfl rfl ?_
  all_goals (repeat' (first | refine K_seq ?_ | (refine K_region (id := 0) ?_; refine mv ?_; refine KO_nil ?_) | (refine K_region (id := 1) ?_; refine mv ?_; refine mv ?_)))
  (refine KO_fn rfl rfl rfl rfl rfl ((indexTab_ok S.wf v l g cap p hr hl hf).mono ?_); rintro _ h ⟨⟨i, hi, rfl, hq, hn⟩ | ⟨rfl, hn⟩, x⟩) <;> (replace S := S.join0 x; clear x; (first | refine cT ?_ | refine cF ?_) <;> (refine mv ?_; refine KO_nil ?_))
  all_goals (repeat' (fail))
  all_goals (try omega)
  all_goals (refine K_ret ⟨_, rfl, ?_⟩)
  · exact ⟨.inl ⟨rfl, i, hi, hq⟩, S⟩
  · exact ⟨.inr ⟨rfl, fun ⟨j, hj, hp⟩ => hn j hj hp⟩, S⟩
end Go.Proofs.Xx

/-
  The check of a hall, the program's and the reference's.
-/
namespace Go.Proofs.Xx
open Go Go.Proofs
set_option linter.unusedSimpArgs false
set_option linter.unusedVariables false
set_option maxRecDepth 100000

abbrev tb (l : List Tab) (i : Nat) : Tab := l.getD i default
def dupAt (l : List Tab) (k : Nat) : Prop := ∃ j, j < k ∧ (tb l j).name = (tb l k).name
def goodAt (l : List Tab) (k : Nat) : Prop := chk (tb l k) = 0 ∧ ¬ dupAt l k
def ChkAll (l : List Tab) (i e : Int) : Prop :=
  (16 < l.length ∧ i = 0 ∧ e = 7) ∨ (l.length ≤ 16 ∧ ((∃ k : Nat, k < l.length ∧ i = k ∧ (∀ j, j < k → goodAt l j) ∧ ((chk (tb l k) ≠ 0 ∧ e = chk (tb l k)) ∨ (chk (tb l k) = 0 ∧ dupAt l k ∧ e = 5))) ∨ ((∀ j, j < l.length → goodAt l j) ∧ i = 0 ∧ e = 0)))
/-- What a hall reads as. -/
structure HallR (h : AH) (v : Value) (l : List Tab) : Prop where
  rd : RdL h v 7 eT l
  tab : ∀ i, i < l.length → TabR h (tb l i)
  len : l.length ≤ 1000
  cap : CapOk v
theorem TabR.ext {h h' : AH} {t : Tab} (r : TabR h t) (w : WfH h) (x : Ext h h') : TabR h' t := ⟨r.1.ext w x, r.2⟩
theorem HallR.ext {h h' : AH} {v : Value} {l : List Tab} (r : HallR h v l) (w : WfH h) (x : Ext h h') : HallR h' v l := ⟨r.rd.ext w x, fun i hi => (r.tab i hi).ext w x, r.len, r.cap⟩

/-- A hall that is valid. -/
def ValidL (l : List Tab) : Prop := l.length ≤ 16 ∧ ∀ j, j < l.length → goodAt l j
theorem ChkAll.valid {l : List Tab} {i e : Int} (a : ChkAll l i e) : e = 0 ↔ ValidL l := by
  rcases a with ⟨h1, h2, h3⟩ | ⟨h1, ⟨k, hk, h2, h3, ⟨h4, h5⟩ | ⟨h4, h5, h6⟩⟩ | ⟨h2, h3, h4⟩⟩
  · exact ⟨fun q => by omega, fun q => by have := q.1; omega⟩
  · exact ⟨fun q => absurd (h5 ▸ q) h4, fun q => absurd (q.2 k hk).1 h4⟩
  · exact ⟨fun q => by omega, fun q => absurd h5 (q.2 k hk).2⟩
  · exact ⟨fun _ => ⟨h1, h2⟩, fun _ => h4⟩
theorem ChkAll.uniq {l : List Tab} {i e i' e' : Int} (a : ChkAll l i e) (b : ChkAll l i' e') : i = i' ∧ e = e' := by
  have key : ∀ {k k' : Nat}, (∀ j, j < k → goodAt l j) → ¬ goodAt l k' → k ≤ k' := fun g n => Nat.le_of_not_lt fun q => n (g _ q)
  have bad : ∀ {k : Nat} {e : Int}, ((chk (tb l k) ≠ 0 ∧ e = chk (tb l k)) ∨ (chk (tb l k) = 0 ∧ dupAt l k ∧ e = 5)) → ¬ goodAt l k := fun q g => q.elim (fun q => q.1 g.1) (fun q => g.2 q.2.1)
  rcases a with ⟨h1, h2, h3⟩ | ⟨h1, ⟨k, hk, h2, h3, h4⟩ | ⟨h2, h3, h4⟩⟩ <;> rcases b with ⟨g1, g2, g3⟩ | ⟨g1, ⟨k', hk', g2, g3, g4⟩ | ⟨g2, g3, g4⟩⟩
  · exact ⟨by omega, by omega⟩
  · omega
  · omega
  · omega
  · have e1 := key h3 (bad g4)
    have e2 := key g3 (bad h4)
    have : k = k' := by omega
    subst this
    refine ⟨by omega, ?_⟩
    rcases h4 with ⟨h4, h5⟩ | ⟨h4, h5, h6⟩ <;> rcases g4 with ⟨g4, g5⟩ | ⟨g4, g5, g6⟩
    · omega
    · exact absurd g4 h4
    · exact absurd h4 g4
    · omega
  · exact absurd (g2 k hk) (bad h4)
  · omega
  · exact absurd (h2 k' hk') (bad g4)
  · exact ⟨by omega, by omega⟩
/-- How many seats the first k tables have. -/
def sumT (l : List Tab) : Nat → Int
  | 0 => 0
  | k + 1 => sumT l k + tsize (tb l k)

theorem sameName_ok {h0 : AH} (w : WfH h0) (t u : Tab) (b : Nat) (hb : h0.get b = some (.cells (eT u) 25 none false)) : Fn Tryz.prog Xh 113 [tabV t, .pointer (some ⟨b, 0, none⟩)] h0 (fun v h' => BoolIs v (t.name = u.name) ∧ Hs h0 h' []) := by
  have S := Hs.start w
  refine Fn_K rfl Tryz.func113 rfl rfl ?_
  all_goals (repeat' (first | refine K_seq ?_ | (refine K_region (id := 0) ?_; (refine bx S ?_; clear S; intro b h S); refine mv ?_; refine KO_nil ?_) | (refine K_region (id := 1) ?_; refine vl ?_; refine lB S rfl rfl ?_; refine vl ?_; refine lH S ?_; (refine tS ?_ ?_ <;> intro hc) <;> (refine mv ?_; refine KO_nil ?_))))
  all_goals (refine K_ret ⟨_, rfl, ?_⟩)
  all_goals (refine ⟨?_, S.drop⟩; unfold BoolIs)
  · exact .inl ⟨rfl, hc⟩
  · exact .inr ⟨rfl, hc⟩

theorem checkAll_ok {h0 : AH} (w : WfH h0) (v : Value) (l : List Tab) (H : HallR h0 v l) : Fn Tryz.prog Xh 55 [v] h0 (fun r h' => ∃ i e, r = .tuple #[.int .i64 i, .int .i64 e] ∧ ChkAll l i e ∧ Hs h0 h' []) := by
  have S := Hs.start w
  have hl := H.len
  have hr := H.rd
  refine Fn_K rfl Tryz.func55 rfl rfl ?_
  all_goals (repeat' (first | refine K_seq ?_ | refine k_cond rfl ?_ | refine K_skip ?_ | refine k_block ?_ | (refine K_region (id := 0) ?_; refine mv ?_; refine mv ?_; refine KO_nil ?_) | (refine K_region (id := 1) ?_; refine mv ?_; refine lnB S ?_; (first | (refine cS ?_ ?_ <;> intro hc)) <;> (refine KO_nil ?_)) | (refine K_region (id := 2) ?_; refine mv ?_; refine mv ?_; refine KO_nil ?_) | (refine K_region (id := 3) ?_; refine mv ?_; refine lnB S ?_; refine mv ?_; refine KO_nil ?_)))
  · refine K_ret ⟨_, rfl, ?_⟩
    exact ⟨0, 7, rfl, .inl ⟨by omega, rfl, rfl⟩, S⟩
  · refine k_loop (σ := Nat) (fun i h' => Hs h0 h' [] ∧ i ≤ l.length ∧ ∀ j, j < i → goodAt l j) (fun i => l.length - i) (fun i => [(0, v), (10, v), (11, .int .i64 l.length), (12, .int .i64 i)]) 0 (by repeat (first | exact Ks.le_nil _ | refine Ks.le_cons rfl ?_)) ?_ ?_
    · exact ⟨S, Nat.zero_le _, fun j hj => absurd hj (Nat.not_lt_zero _)⟩
    clear S
    rintro i h ⟨S, h1, h2⟩
    all_goals (repeat' (first | refine K_seq ?_ | refine k_cond rfl ?_ | refine K_skip ?_ | refine K_exit ?_ | refine k_block ?_ | (refine K_region (id := 4) ?_; (first | (refine cS ?_ ?_ <;> intro hc)) <;> (refine KO_nil ?_)) | (refine K_region (id := 5) ?_; refine mv ?_; refine ixB S ?_; refine lEB S ?_; (refine al S ?_; clear S; intro b h S); refine mv ?_; (first | (refine sB S rfl rfl ?_; clear S; intro h S)); refine KO_nil ?_) | (refine K_region (id := 6) ?_; refine lB S rfl rfl ?_) | (refine K_region (id := 12) ?_; refine mv ?_; refine mv ?_; refine KO_nil ?_)))
    · (try simp only [Int.toNat_natCast] at *)
      have hi : i < l.length := by omega
      (refine KO_fn rfl rfl rfl rfl rfl ((check_ok S.wf (tb l i) ((H.tab i hi).ext w S.ext)).mono ?_); rintro _ h ⟨rfl, x⟩) <;> (replace S := S.join0 x; clear x; refine mv ?_; refine KO_nil ?_)
      all_goals (repeat' (first | refine K_seq ?_ | refine k_cond rfl ?_ | refine K_skip ?_ | (refine K_region (id := 7) ?_; refine mv ?_; (first | (refine cS ?_ ?_ <;> intro hc)) <;> (refine KO_nil ?_)) | (refine K_region (id := 8) ?_; refine mv ?_; refine mv ?_; refine mv ?_; refine mv ?_; refine KO_nil ?_) | (refine K_region (id := 9) ?_; refine mv ?_; refine mv ?_)))
      · refine K_ret ⟨_, rfl, ?_⟩
        exact ⟨i, _, rfl, .inr ⟨by omega, .inl ⟨i, hi, rfl, h2, .inl ⟨by simpa using hc, rfl⟩⟩⟩, S.drop⟩
      · refine su 0 i (hr.ext w S.ext) H.cap ?_; intro vs hrs hcs; (refine vl ?_)
        have gb := S.gB (b := b)
        have hlen : ((l.drop 0).take (i - 0)).length = i := by simp; omega
        have hget : ∀ k, k < i → ((l.drop 0).take (i - 0)).getD k default = tb l k := fun k hk => by
          unfold tb
          simp only [List.drop_zero, Nat.sub_zero, List.getD_eq_getElem?_getD, List.getElem?_take, if_pos hk]
        have hf : ∀ k h', k < ((l.drop 0).take (i - 0)).length → Hs h h' [] → Fn Tryz.prog Xh 113 (tabV (((l.drop 0).take (i - 0)).getD k default) :: [.pointer (some ⟨b, 0, none⟩)]) h' (fun v h'' => BoolIs v ((tb l k).name = (tb l i).name) ∧ Hs h' h'' []) := fun k h' hk x => by
          rw [hget k (by omega)]
          exact sameName_ok x.wf (tb l k) (tb l i) b (x.ext.get S.wf gb)
        (refine KO_fn rfl rfl rfl rfl rfl ((containsTab_ok S.wf vs _ 113 [.pointer (some ⟨b, 0, none⟩)] (fun k => (tb l k).name = (tb l i).name) hrs (by omega) hf).mono ?_); rintro _ h ⟨⟨rfl, hq⟩ | ⟨rfl, hq⟩, x⟩) <;> (replace S := S.join0 x; clear x; refine KO_nil ?_)
        all_goals (repeat' (first | refine K_seq ?_ | refine k_cond rfl ?_ | refine K_skip ?_ | (refine K_region (id := 10) ?_; refine mv ?_; refine mv ?_; refine mv ?_; refine KO_nil ?_) | (refine K_region (id := 11) ?_; refine ad ?_; refine mv ?_; refine KO_nil ?_)))
        · refine K_ret ⟨_, rfl, ?_⟩
          obtain ⟨j, hj, hq⟩ := hq
          exact ⟨i, 5, rfl, .inr ⟨by omega, .inl ⟨i, hi, rfl, h2, .inr ⟨by simpa using hc, ⟨j, by omega, hq⟩, rfl⟩⟩⟩, S.drop⟩
        · refine ⟨i + 1, ?_, ?_, (by repeat (first | exact Ks.le_nil _ | refine Ks.le_cons rfl ?_))⟩
          · show l.length - (i + 1) < l.length - i; omega
          · refine ⟨S.drop, by omega, fun j hj => ?_⟩
            rcases Nat.lt_or_ge j i with q | q
            · exact h2 j q
            · obtain rfl : j = i := by omega
              exact ⟨by simpa using hc, fun ⟨k, hk, he⟩ => hq ⟨k, by omega, he⟩⟩
    · refine K_ret ⟨_, rfl, ?_⟩
      exact ⟨0, 0, rfl, .inr ⟨by omega, .inr ⟨fun j hj => h2 j (by omega), rfl, rfl⟩⟩, S⟩

theorem valid_ok {h0 : AH} (w : WfH h0) (v : Value) (l : List Tab) (H : HallR h0 v l) : Fn Tryz.prog Xh 84 [v] h0 (fun r h' => BoolIs r (ValidL l) ∧ Hs h0 h' []) := by
  have S := Hs.start w
  refine Fn_K rfl Tryz.func84 rfl rfl ?_
  all_goals (repeat' (first | refine K_seq ?_ | (refine K_region (id := 0) ?_; refine mv ?_; refine KO_nil ?_) | (refine K_region (id := 1) ?_; refine mv ?_)))
  (refine KO_fn rfl rfl rfl rfl rfl ((checkAll_ok S.wf v l H).mono ?_); rintro _ h ⟨i, e, rfl, hk, x⟩) <;> (replace S := S.join0 x; clear x; refine mv ?_; refine vl ?_; refine vl ?_; refine mv ?_; refine mv ?_; refine KO_nil ?_)
  all_goals (repeat' (first | refine K_seq ?_ | (refine K_region (id := 2) ?_; refine mv ?_; (first | (refine cS ?_ ?_ <;> intro hc)) <;> (refine mv ?_; refine KO_nil ?_))))
  all_goals (refine K_ret ⟨_, rfl, ?_⟩)
  · exact ⟨.inl ⟨rfl, hk.valid.1 hc⟩, S⟩
  · exact ⟨.inr ⟨rfl, fun q => hc (hk.valid.2 q)⟩, S⟩
end Go.Proofs.Xx

/-
  hall.permutation.
-/
namespace Go.Proofs.Xx
open Go Go.Proofs
set_option linter.unusedSimpArgs false
set_option linter.unusedVariables false

def permOk (l : List Int) : Bool := decide ((∀ x ∈ l, 0 ≤ x ∧ x < l.length) ∧ l.Nodup)
def seenL (l : List Int) (i : Nat) : List Value := (List.range l.length).map fun (k : Nat) => Value.bool (decide ((k : Int) ∈ l.take i))
theorem seenL_length (l : List Int) (i : Nat) : (seenL l i).length = l.length := by simp [seenL]
theorem seenL_get {l : List Int} {i k : Nat} (hk : k < l.length) : (seenL l i)[k]? = some (.bool (decide ((k : Int) ∈ l.take i))) := by simp [seenL, hk]
theorem seenL_zero (l : List Int) : zeroRow [.bool false] l.length = seenL l 0 := by
  rw [zeroRow_one]
  apply List.ext_getElem?
  intro k
  by_cases hk : k < l.length
  · rw [seenL_get hk]; simp [hk]
  · rw [List.getElem?_eq_none (by simp; omega), List.getElem?_eq_none (by rw [seenL_length]; omega)]
theorem seenL_set {l : List Int} {i k : Nat} (hi : i < l.length) (hk : k < l.length) (hx : l[i] = (k : Int)) : (seenL l i).set k (.bool true) = seenL l (i + 1) := by
  apply List.ext_getElem?
  intro j
  by_cases hj : j < l.length
  · rw [List.getElem?_set, seenL_get (i := i + 1) hj, List.take_succ_eq_append_getElem hi, hx]
    by_cases hjk : k = j
    · subst hjk; simp [seenL_length, hj]
    · rw [if_neg hjk, seenL_get hj]
      have : ((j : Int) ∈ l.take i ++ [(k : Int)]) ↔ (j : Int) ∈ l.take i := by simp; omega
      simp only [this]
  · rw [List.getElem?_eq_none (by rw [List.length_set, seenL_length]; omega), List.getElem?_eq_none (by rw [seenL_length]; omega)]

theorem nodup_take_succ {l : List Int} {i : Nat} (hi : i < l.length) (h : (l.take i).Nodup) (hn : ¬ l[i] ∈ l.take i) : (l.take (i + 1)).Nodup := by
  rw [List.take_succ_eq_append_getElem hi, List.nodup_append]
  exact ⟨h, by simp, fun a ha b hb q => by simp at hb; subst hb; subst q; exact hn ha⟩

theorem permutation_ok {h : AH} {v : Value} {l : List Int} (w : WfH h) (r : RdI h v l) (hl : l.length < 2^30) :
    Fn Tryz.prog Xh 116 [v] h (fun u h' => u = .bool (permOk l) ∧ Ext h h') := by
  refine Fn_K rfl Tryz.func116 rfl rfl ?_
  refine K_seq (K_region (KO_val rfl rfl rfl (KO_nil ?_)))
  refine K_seq (K_region ?_)
  refine KO_val rfl rfl rfl ?_
  refine KO_len rfl rfl rfl (r.len und23) rfl ?_
  obtain ⟨s, h1, m1, m2, m3⟩ := make_own w el56 z4 by4 (n := l.length) (by omega)
  refine KO_make rfl rfl rfl rfl m1 rfl ?_
  refine KO_val rfl rfl rfl (KO_nil ?_)
  rw [seenL_zero] at m2
  have r1 := r.ext w m3
  refine K_seq (K_seq (K_region ?_))
  refine KO_val rfl rfl rfl ?_
  refine KO_len rfl rfl rfl (r1.len und23) rfl ?_
  refine KO_val rfl rfl rfl (KO_nil ?_)
  refine K_block ?_
  refine K_loop (fun m L h2 => Ext h h2 ∧ ∃ i : Nat, m + i = l.length ∧ Own h2 s h.next 4 1 l.length (seenL l i) ∧ (∀ x ∈ l.take i, 0 ≤ x ∧ x < l.length) ∧ (l.take i).Nodup ∧ L = [(0, v), (3, s), (9, v), (10, .int .i64 l.length), (11, .int .i64 i)]) ?_ l.length
    ⟨m3, 0, rfl, m2, by simp, by simp, rfl⟩ (Ks.le_cons rfl (Ks.le_cons rfl (Ks.le_cons rfl (Ks.le_cons rfl (Ks.le_cons rfl (Ks.le_nil _))))))
  rintro m L h2 ⟨x2, i, him, own, hin, hnd, rfl⟩
  have r2 := r.ext w x2
  refine K_seq (K_region (KO_val rfl rfl rfl (KO_nil ?_)))
  refine K_seq ?_
  refine K_cond2 rfl (fun hv => ?_) (fun hv => ?_)
  · have hv := of_decide_eq_true hv
    have hi : i < l.length := by omega
    refine K_skip ?_
    refine K_seq (K_block (K_seq (K_region ?_)))
    obtain ⟨p, hp1, hp2⟩ := r2.at1 und23 sz3 agg3 (ik := .i64) (ints_get (List.getElem?_eq_getElem hi))
    refine KO_index rfl rfl rfl rfl hp1 rfl ?_
    refine KO_load rfl rfl rfl hp2 rfl ?_
    refine KO_val rfl rfl rfl (KO_nil ?_)
    refine K_seq (K_seq (K_region (KO.mono (R' := fun L' h' => h' = h2 ∧ ∃ B : Bool, (B = true → permOk l = false) ∧ (B = false → 0 ≤ l[i] ∧ l[i] < l.length ∧ ¬ l[i] ∈ l.take i) ∧
      Ks.le [(0, v), (3, s), (5, .int .i64 l[i]), (9, v), (10, .int .i64 l.length), (11, .int .i64 i), (28, .bool B)] L') ?_ ?_)))
    · refine KO_val rfl rfl rfl ?_
      by_cases hx0 : l[i] < 0
      · refine KO_bin rfl rfl rfl rfl (lss_i64 (decide_eq_true hx0)) rfl ?_
        refine KO_val rfl rfl rfl ?_
        iterate 4 refine KO_off rfl rfl ?_
        iterate 2 refine KO_val rfl rfl rfl ?_
        iterate 4 refine KO_off rfl rfl ?_
        refine KO_val rfl rfl rfl (KO_nil ?_)
        refine ⟨rfl, true, fun _ => ?_, (by simp), ?_⟩
        · rw [permOk, decide_eq_false_iff_not]
          rintro ⟨q, -⟩
          have := q l[i] (List.getElem_mem hi); omega
        · repeat (first | exact Ks.le_nil _ | refine Ks.le_cons rfl ?_)
      · refine KO_bin rfl rfl rfl rfl (lss_i64 (decide_eq_false hx0)) rfl ?_
        iterate 3 refine KO_val rfl rfl rfl ?_
        refine KO_len rfl rfl rfl (r2.len und23) rfl ?_
        by_cases hx1 : l[i] ≥ l.length
        · refine KO_bin rfl rfl rfl rfl (geq_i64 (decide_eq_true hx1)) rfl ?_
          iterate 2 refine KO_val rfl rfl rfl ?_
          iterate 4 refine KO_off rfl rfl ?_
          refine KO_val rfl rfl rfl (KO_nil ?_)
          refine ⟨rfl, true, fun _ => ?_, (by simp), ?_⟩
          · rw [permOk, decide_eq_false_iff_not]
            rintro ⟨q, -⟩
            have := q l[i] (List.getElem_mem hi); omega
          · repeat (first | exact Ks.le_nil _ | refine Ks.le_cons rfl ?_)
        · refine KO_bin rfl rfl rfl rfl (geq_i64 (decide_eq_false hx1)) rfl ?_
          iterate 4 refine KO_val rfl rfl rfl ?_
          obtain ⟨k, hk⟩ := Int.eq_ofNat_of_zero_le (show 0 ≤ l[i] by omega)
          have hkl : k < l.length := by omega
          obtain ⟨p2, hq1, hq2⟩ := own.rd.at1 und56 sz4 agg4 (ik := .i64) (seenL_get hkl)
          refine KO_index rfl rfl rfl rfl (by rw [hk]; exact hq1) rfl ?_
          refine KO_load rfl rfl rfl hq2 rfl ?_
          refine KO_val rfl rfl rfl (KO_nil ?_)
          refine ⟨rfl, decide ((k : Int) ∈ l.take i), fun q => ?_, fun q => ?_, ?_⟩
          · have q := of_decide_eq_true q
            rw [permOk, decide_eq_false_iff_not]
            rintro ⟨-, nd⟩
            rw [← List.take_append_drop i l, List.nodup_append] at nd
            refine nd.2.2 _ q (k : Int) ?_ rfl
            rw [← hk, List.drop_eq_getElem_cons hi]; exact List.mem_cons_self
          · have q := of_decide_eq_false q
            rw [← hk] at q
            exact ⟨by omega, by omega, q⟩
          · repeat (first | exact Ks.le_nil _ | refine Ks.le_cons rfl ?_)
    · rintro L' h3 ⟨rfl, B, hB1, hB2, hle⟩
      refine K.le hle ?_
      cases B with
      | true =>
        refine K_cond rfl ?_
        refine K_seq (K_region (KO_val rfl rfl rfl (KO_nil ?_)))
        refine K_ret ?_
        exact ⟨_, rfl, by rw [hB1 rfl]; rfl, x2⟩
      | false =>
        obtain ⟨y1, y2, y3⟩ := hB2 rfl
        refine K_cond rfl ?_
        refine K_skip ?_
        refine K_region ?_
        obtain ⟨k, hk⟩ := Int.eq_ofNat_of_zero_le y1
        have hkl : k < l.length := by omega
        obtain ⟨p2, o1, o2, o3⟩ := own.set und56 sz4 (ik := .i64) hkl (x := .bool true) rfl rfl
        iterate 2 refine KO_val rfl rfl rfl ?_
        refine KO_index rfl rfl rfl rfl (by rw [hk]; exact o1) rfl ?_
        refine KO_store rfl rfl rfl rfl o2 rfl (KO_nil ?_)
        refine K_region ?_
        refine KO_bin rfl rfl rfl rfl (add_i64 (c := ((i + 1 : Nat) : Int)) (by omega) (by omega) (by omega)) rfl ?_
        refine KO_val rfl rfl rfl (KO_nil ?_)
        rw [seenL_set hi hkl hk] at o3 ⊢
        refine ⟨m - 1, _, by omega, ⟨x2.put (Nat.le_refl _) (x2.wf.lt own.obj) _, i + 1, by omega, o3, ?_, nodup_take_succ hi hnd y3, rfl⟩, ?_⟩
        · intro x hx
          rw [List.take_succ_eq_append_getElem hi, List.mem_append] at hx
          rcases hx with hx | hx
          · exact hin x hx
          · simp at hx; subst hx; exact ⟨y1, y2⟩
        · repeat (first | exact Ks.le_nil _ | refine Ks.le_cons rfl ?_)
  · have hv := of_decide_eq_false hv
    have hil : i = l.length := by omega
    subst hil
    rw [List.take_length] at hin hnd
    refine K_exit ?_
    show K Tryz.prog Xh _ _ _ _ _ _
    refine K_seq (K_region (KO_val rfl rfl rfl (KO_nil ?_)))
    refine K_ret ?_
    refine ⟨_, rfl, ?_, x2⟩
    have : permOk l = true := by rw [permOk, decide_eq_true_iff]; exact ⟨hin, hnd⟩
    rw [this]; rfl
end Go.Proofs.Xx

/-
  slices.Equal, slices.Clone of ints.
-/
namespace Go.Proofs.Xx
open Go Go.Proofs
set_option linter.unusedSimpArgs false
set_option linter.unusedVariables false

theorem take_snoc_eq {a b : List Int} {i : Nat} (ha : i < a.length) (hb : i < b.length) (h : a.take i = b.take i) (hx : a[i] = b[i]) : a.take (i + 1) = b.take (i + 1) := by
  rw [List.take_succ_eq_append_getElem ha, List.take_succ_eq_append_getElem hb, h, hx]

theorem equal_ints {h : AH} {v u : Value} {a b : List Int} (ra : RdI h v a) (rb : RdI h u b) (hl : a.length < 2^30) (hl2 : b.length < 2^30) :
    Fn Tryz.prog Xh 59 [v, u] h (fun x h' => x = .bool (decide (a = b)) ∧ h' = h) := by
  refine Fn_K rfl Tryz.func59 rfl rfl ?_
  refine K_seq (K_region (KO_val rfl rfl rfl (KO_nil ?_)))
  refine K_seq (K_seq (K_region ?_))
  refine KO_val rfl rfl rfl ?_
  refine KO_len rfl rfl rfl (ra.len und23) rfl ?_
  refine KO_val rfl rfl rfl ?_
  refine KO_len rfl rfl rfl (rb.len und23) rfl ?_
  by_cases hlen : a.length = b.length
  · refine KO_bin rfl rfl rfl rfl (neq_i64 (v := false) (decide_eq_true (by omega))) rfl (KO_nil ?_)
    refine K_cond rfl (K_skip ?_)
    refine K_seq (K_seq (K_region ?_))
    refine KO_val rfl rfl rfl ?_
    refine KO_len rfl rfl rfl (ra.len und23) rfl ?_
    refine KO_val rfl rfl rfl (KO_nil ?_)
    refine K_block ?_
    refine K_loop (fun m L h' => h' = h ∧ ∃ i : Nat, m + i = a.length ∧ a.take i = b.take i ∧ L = [(0, v), (1, u), (12, .int .i64 a.length), (13, .int .i64 i)]) ?_ a.length
      ⟨rfl, 0, rfl, by simp, rfl⟩ (by repeat (first | exact Ks.le_nil _ | refine Ks.le_cons rfl ?_))
    rintro m L h' ⟨rfl, i, him, hi, rfl⟩
    refine K_seq (K_region (KO_val rfl rfl rfl (KO_nil ?_)))
    refine K_seq ?_
    refine K_cond2 rfl (fun hv => ?_) (fun hv => ?_)
    · have hv := of_decide_eq_true hv
      have hia : i < a.length := by omega
      have hib : i < b.length := by omega
      refine K_skip ?_
      refine K_seq (K_block (K_seq (K_region (KO_val rfl rfl rfl (KO_val rfl rfl rfl (KO_nil ?_))))))
      refine K_seq (K_draw ?_)
      obtain ⟨p, hp1, hp2⟩ := ra.at1 und23 sz3 agg3 (ik := .i64) (ints_get (List.getElem?_eq_getElem hia))
      obtain ⟨q, hq1, hq2⟩ := rb.at1 und23 sz3 agg3 (ik := .i64) (ints_get (List.getElem?_eq_getElem hib))
      refine KO_val rfl rfl rfl ?_
      refine KO_val rfl rfl rfl ?_
      refine KO_index rfl rfl rfl rfl hp1 rfl ?_
      refine KO_load rfl rfl rfl hp2 rfl ?_
      refine KO_val rfl rfl rfl ?_
      refine KO_val rfl rfl rfl ?_
      refine KO_index rfl rfl rfl rfl hq1 rfl ?_
      refine KO_load rfl rfl rfl hq2 rfl ?_
      by_cases hx : a[i] = b[i]
      · refine KO_bin rfl rfl rfl rfl (neq_i64 (v := false) (decide_eq_true hx)) rfl (KO_nil ?_)
        refine K_cond rfl (K_skip ?_)
        refine K_region ?_
        refine KO_bin rfl rfl rfl rfl (add_i64 (c := ((i + 1 : Nat) : Int)) (by omega) (by omega) (by omega)) rfl ?_
        refine KO_val rfl rfl rfl (KO_nil ?_)
        refine ⟨m - 1, _, by omega, ⟨rfl, i + 1, by omega, take_snoc_eq hia hib hi hx, rfl⟩, ?_⟩
        repeat (first | exact Ks.le_nil _ | refine Ks.le_cons rfl ?_)
      · refine KO_bin rfl rfl rfl rfl (neq_i64 (v := true) (decide_eq_false hx)) rfl (KO_nil ?_)
        refine K_cond rfl ?_
        refine K_seq (K_region (KO_val rfl rfl rfl (KO_nil ?_)))
        refine K_ret ⟨_, rfl, ?_, rfl⟩
        have : decide (a = b) = false := by
          rw [decide_eq_false_iff_not]
          intro q; subst q; exact hx rfl
        rw [this]; rfl
    · have hv := of_decide_eq_false hv
      refine K_exit ?_
      show K Tryz.prog Xh _ _ _ _ _ _
      refine K_seq (K_region (KO_val rfl rfl rfl (KO_nil ?_)))
      refine K_ret ⟨_, rfl, ?_, rfl⟩
      have : decide (a = b) = true := by
        rw [decide_eq_true_iff]
        rw [List.take_of_length_le (by omega), List.take_of_length_le (by omega)] at hi
        exact hi
      rw [this]; rfl
  · refine KO_bin rfl rfl rfl rfl (neq_i64 (v := true) (decide_eq_false (by omega))) rfl (KO_nil ?_)
    refine K_cond rfl ?_
    refine K_seq (K_region (KO_val rfl rfl rfl (KO_nil ?_)))
    refine K_ret ⟨_, rfl, ?_, rfl⟩
    have : decide (a = b) = false := by
      rw [decide_eq_false_iff_not]
      intro q; subst q; exact hlen rfl
    rw [this]; rfl
end Go.Proofs.Xx

/-
  Copies of halls; when halls are the same; which are few.
-/
namespace Go.Proofs.Xx
open Go Go.Proofs
set_option linter.unusedSimpArgs false
set_option linter.unusedVariables false
set_option maxRecDepth 100000

theorem ints_flat (l : List Int) : l.flatMap eI = ints l := by
  induction l with
  | nil => rfl
  | cons x l ih => simp [eI, ints, ih]
theorem RdL.toI {h : AH} {v : Value} {l : List Int} (r : RdL h v 1 eI l) : RdI h v l := by
  unfold RdL at r; rw [ints_flat] at r; exact r
theorem equal_ok {h0 : AH} (w : WfH h0) (v u : Value) (a b : List Int) (ra : RdL h0 v 1 eI a) (rb : RdL h0 u 1 eI b) (ha : a.length ≤ 1000000) (hb : b.length ≤ 1000000) : Fn Tryz.prog Xh 59 [v, u] h0 (fun r h' => BoolIs r (a = b) ∧ Hs h0 h' []) := by
  refine (equal_ints ra.toI rb.toI (by omega) (by omega)).mono ?_
  rintro x h ⟨rfl, rfl⟩
  refine ⟨?_, Hs.start w⟩
  by_cases q : a = b
  · exact .inl ⟨by simp [q], q⟩
  · exact .inr ⟨by simp [q], q⟩
theorem Hs.nilS {h0 h : AH} {rs : List Rs} {α : Type} {e : TypeId} {z : Nat} {enc : α → List Value} (S : Hs h0 h rs) : Hs h0 h (.sl (.slice none 0 0) e z enc [] :: rs) :=
  S.grow (fp := fun _ => False) (Ext.refl S.wf) (.inl ⟨rfl, rfl⟩) fun b hb => hb.elim
theorem Hs.anyS {h0 h : AH} {rs : List Rs} {p : AH → Fp → Prop} (S : Hs h0 h rs) (k : ∀ h', p h' fun _ => False) : Hs h0 h (.any p :: rs) :=
  S.grow (fp := fun _ => False) (Ext.refl S.wf) (fun h' _ => k h') fun b hb => hb.elim
theorem Hs.anyP {h0 h : AH} {rs : List Rs} {p : AH → Fp → Prop} (S : Hs h0 h rs) (a : At rs (.any p)) : ∃ fp, p h fp := by
  obtain ⟨fp, k, -⟩ := a.ok S.sep
  exact ⟨fp, k h fun _ _ => rfl⟩
theorem Hs.capS {h0 h : AH} {rs : List Rs} {v : Value} {α : Type} {e : TypeId} {z : Nat} {enc : α → List Value} {l : List α} (S : Hs h0 h rs) (a : At rs (.sl v e z enc l)) : CapOk v := by
  obtain ⟨fp, k, -⟩ := a.ok S.sep
  rcases k with ⟨rfl, -⟩ | ⟨b, o, cc, slk, rfl, -⟩
  · exact Nat.le_refl _
  · exact Nat.le_refl _

/-- Tables that differ at most in where their open seats lie. -/
def SameTab (t u : Tab) : Prop := t = { u with os := t.os }
def SameAll (l m : List Tab) : Prop := l.length = m.length ∧ ∀ i, i < l.length → SameTab (tb l i) (tb m i)
/-- Halls that are examined. -/
def FewP (l : List Tab) : Prop := l.length ≤ 20 ∧ ∀ i, i < l.length → (tb l i).name.length ≤ 40 ∧ (tb l i).opn.length ≤ 40
/-- The open seats of the first k tables. -/
def OpnR (l l2 : List Tab) (k : Nat) (h : AH) (fp : Fp) : Prop := ∀ j, j < k → RdL h (tb l2 j).ov 1 eI (tb l j).opn
end Go.Proofs.Xx

/-
  Seats of tables and halls, first seats, tables by name; the program's and the reference's.
-/
namespace Go.Proofs.Xx
open Go Go.Proofs
set_option linter.unusedSimpArgs false
set_option linter.unusedVariables false
set_option maxRecDepth 100000

theorem sumT_le (l : List Tab) : ∀ n, 0 ≤ sumT l n ∧ sumT l n ≤ 24 * n
  | 0 => by simp [sumT]
  | n + 1 => by
    have := sumT_le l n
    have := tsize_le (tb l n)
    simp only [sumT]; omega
open Classical in
noncomputable def seatsV (t : Tab) : Int := if chk t = 0 then tsize t else 0
theorem seats_ok {h0 : AH} (w : WfH h0) (t : Tab) (r : TabR h0 t) : Fn Tryz.prog Xh 29 [tabV t] h0 (fun v h' => v = .int .i64 (seatsV t) ∧ Hs h0 h' []) := by
  have S := Hs.start w
  refine Fn_K rfl Tryz.func29 rfl rfl ?_
  all_goals (repeat' (first | refine K_seq ?_ | (refine K_region (id := 0) ?_; (refine bx S ?_; clear S; intro b h S); refine mv ?_; refine KO_nil ?_) | (refine K_region (id := 1) ?_; refine lB S rfl rfl ?_)))
  (refine KO_fn rfl rfl rfl rfl rfl ((check_ok S.wf t (r.ext w S.ext)).mono ?_); rintro _ h ⟨rfl, x⟩) <;> (replace S := S.join0 x; clear x; (first | (refine cS ?_ ?_ <;> intro hc)) <;> (refine KO_nil ?_))
  all_goals (repeat' (first | refine K_seq ?_ | refine k_cond rfl ?_ | refine K_skip ?_ | (refine K_region (id := 2) ?_; refine mv ?_; refine KO_nil ?_) | (refine K_region (id := 3) ?_; refine lB S rfl rfl ?_)))
  · refine K_ret ⟨_, rfl, ?_⟩
    exact ⟨by unfold seatsV; rw [if_neg hc]; rfl, S.drop⟩
  · (refine KO_fn rfl rfl rfl rfl rfl ((size_ok S.wf t).mono ?_); rintro _ h ⟨rfl, x⟩) <;> (replace S := S.join0 x; clear x; refine mv ?_; refine KO_nil ?_)
    all_goals (repeat' (fail))
    refine K_ret ⟨_, rfl, ?_⟩
    exact ⟨by unfold seatsV; rw [if_pos (by simpa using hc)]; rfl, S.drop⟩
open Classical in
noncomputable def firstV (l : List Tab) (t : Int) : Int := if 0 ≤ t ∧ t < l.length ∧ ValidL l then sumT l t.toNat else 0
theorem first_ok {h0 : AH} (w : WfH h0) (v : Value) (l : List Tab) (H : HallR h0 v l) (t : Int) : Fn Tryz.prog Xh 31 [v, .int .i64 t] h0 (fun r h' => r = .int .i64 (firstV l t) ∧ Hs h0 h' []) := by
  have S := Hs.start w
  have hl := H.len
  have hr := H.rd
  by_cases ht0 : t < 0
  · refine Fn_K rfl Tryz.func31 rfl rfl ?_
    all_goals (repeat' (first | refine K_seq ?_ | refine k_cond rfl ?_ | (refine K_region (id := 0) ?_; refine mv ?_; refine KO_nil ?_) | (refine K_region (id := 1) ?_; refine mv ?_; (refine cT ?_) <;> (refine mv ?_; refine off ?_; refine off ?_; refine off ?_; (refine off ?_) <;> (refine vl ?_; refine mv ?_; refine off ?_; (first | (refine off ?_; refine off ?_; refine vl ?_; refine KO_nil ?_))))) | (refine K_region (id := 2) ?_; refine mv ?_; refine KO_nil ?_)))
    all_goals (try omega)
    refine K_ret ⟨_, rfl, ?_⟩
    exact ⟨by unfold firstV; rw [if_neg (by omega)]; rfl, S⟩
  obtain ⟨n, rfl⟩ := Int.eq_ofNat_of_zero_le (show 0 ≤ t by omega)
  refine Fn_K rfl Tryz.func31 rfl rfl ?_
  all_goals (repeat' (first | refine K_seq ?_ | refine k_cond rfl ?_ | (refine K_region (id := 0) ?_; refine mv ?_; refine KO_nil ?_) | (refine K_region (id := 1) ?_; refine mv ?_; (refine cF ?_) <;> (refine mv ?_; refine mv ?_; refine mv ?_; (first | (refine lnB S ?_)); (first | (first | (refine cS ?_ ?_ <;> intro hc))) <;> (refine vl ?_; refine mv ?_; (first | refine off ?_ | refine mv ?_); (first | (refine off ?_; refine off ?_; refine vl ?_; refine KO_nil ?_) | skip)))) | (refine K_region (id := 2) ?_; refine mv ?_; refine KO_nil ?_)))
  all_goals (try omega)
  · refine K_ret ⟨_, rfl, ?_⟩
    exact ⟨by unfold firstV; rw [if_neg (by omega)]; rfl, S⟩
  · (refine KO_fn rfl rfl rfl rfl rfl ((valid_ok S.wf v l H).mono ?_); rintro _ h ⟨⟨rfl, hq⟩ | ⟨rfl, hq⟩, x⟩) <;> (replace S := S.join0 x; clear x; refine vl ?_; refine vl ?_; refine KO_nil ?_)
    all_goals (repeat' (first | refine K_seq ?_ | refine k_cond rfl ?_ | refine K_skip ?_ | (refine K_region (id := 2) ?_; refine mv ?_; refine KO_nil ?_) | (refine K_region (id := 3) ?_; refine mv ?_; refine KO_nil ?_) | (refine K_region (id := 4) ?_; refine mv ?_; refine mv ?_)))
    · refine su 0 n (hr.ext w S.ext) H.cap ?_; intro vs hrs hcs
      have T := S
      have w1 := S.wf
      replace S := Hs.start w1
      have hlen : ((l.drop 0).take (n - 0)).length = n := by simp; omega
      have hget : ∀ k, k < n → ((l.drop 0).take (n - 0)).getD k default = tb l k := fun k hk => by
        unfold tb
        simp only [List.drop_zero, Nat.sub_zero, List.getD_eq_getElem?_getD, List.getElem?_take, if_pos hk]
      generalize ((l.drop 0).take (n - 0)) = ls at hrs hlen hget
      (refine lnB S ?_); refine mv ?_; refine KO_nil ?_
      all_goals (repeat' (refine k_block ?_))
      refine k_loop (σ := Nat) (fun i h' => Hs h h' [] ∧ i ≤ n) (fun i => n - i) (fun i => [(5, .int .i64 (sumT l i)), (23, vs), (24, .int .i64 n), (25, .int .i64 i)]) 0 (by repeat (first | exact Ks.le_nil _ | refine Ks.le_cons rfl ?_ | refine Ks.le_int ?_)) ?_ ?_
      · exact ⟨S, Nat.zero_le _⟩
      clear S
      rintro i h2 ⟨S, h1⟩
      all_goals (repeat' (first | refine K_seq ?_ | refine k_cond rfl ?_ | refine K_skip ?_ | refine K_exit ?_ | refine k_block ?_ | (refine K_region (id := 5) ?_; (first | (refine cS ?_ ?_ <;> intro hc)) <;> (refine KO_nil ?_)) | (refine K_region (id := 6) ?_; refine ixB S ?_; refine lEB S ?_; (refine al S ?_; clear S; intro b h S); (first | (refine sB S rfl rfl ?_; clear S; intro h S)); refine KO_nil ?_) | (refine K_region (id := 7) ?_; refine mv ?_; refine lB S rfl rfl ?_) | (refine K_region (id := 9) ?_; refine mv ?_; refine mv ?_; refine KO_nil ?_)))
      · (try simp only [Int.toNat_natCast] at *)
        have hi : i < n := by omega
        have b1 := sumT_le l i
        have b2 := tsize_le (ls.getD i default)
        (refine KO_fn rfl rfl rfl rfl rfl ((size_ok S.wf (ls.getD i default)).mono ?_); rintro _ h ⟨rfl, x⟩) <;> (replace S := S.join0 x; clear x; refine ad ?_; refine mv ?_; refine KO_nil ?_)
        rw [hget i hi]
        all_goals (repeat' (first | (refine K_region (id := 8) ?_; refine ad ?_; refine mv ?_; refine KO_nil ?_)))
        refine ⟨i + 1, ?_, ?_, (by repeat (first | exact Ks.le_nil _ | refine Ks.le_cons rfl ?_))⟩
        · show n - (i + 1) < n - i; omega
        · exact ⟨S.drop, by omega⟩
      · refine K_ret ⟨_, rfl, ?_⟩
        have : i = n := by omega
        subst this
        exact ⟨by unfold firstV; rw [if_pos ⟨by omega, by omega, hq⟩, Int.toNat_natCast]; rfl, T.join0 S⟩
    · refine K_ret ⟨_, rfl, ?_⟩
      exact ⟨by unfold firstV; rw [if_neg (fun q => hq q.2.2)]; rfl, S⟩
theorem lastSize_ok {h0 : AH} (w : WfH h0) (v : Value) (l : List Tab) (H : HallR h0 v l) : Fn Tryz.prog Xh 87 [v] h0 (fun r h' => r = .int .i64 (if l.length = 0 then 0 else tsize (tb l (l.length - 1))) ∧ Hs h0 h' []) := by
  have S := Hs.start w
  have hl := H.len
  have hr := H.rd
  refine Fn_K rfl Tryz.func87 rfl rfl ?_
  all_goals (repeat' (first | refine K_seq ?_ | refine k_cond rfl ?_ | refine K_skip ?_ | (refine K_region (id := 0) ?_; refine mv ?_; refine KO_nil ?_) | (refine K_region (id := 1) ?_; refine mv ?_; refine lnB S ?_; (first | (refine cS ?_ ?_ <;> intro hc)) <;> (refine KO_nil ?_)) | (refine K_region (id := 2) ?_; refine mv ?_; refine KO_nil ?_) | (refine K_region (id := 3) ?_; refine mv ?_; refine mv ?_; refine lnB S ?_; refine sb ?_; refine ixB S ?_; refine lEB S ?_)))
  · refine K_ret ⟨_, rfl, ?_⟩
    exact ⟨by rw [if_pos (by omega)]; rfl, S⟩
  · (refine KO_fn rfl rfl rfl rfl rfl ((size_ok S.wf _).mono ?_); rintro _ h ⟨rfl, x⟩) <;> (replace S := S.join0 x; clear x; refine mv ?_; refine KO_nil ?_)
    all_goals (repeat' (fail))
    refine K_ret ⟨_, rfl, ?_⟩
    exact ⟨by rw [if_neg (by omega), show l.length - 1 = ((l.length : Int) - 1).toNat by omega]; rfl, S⟩
open Classical in
noncomputable def countV (l : List Tab) : Int := if ValidL l then sumT l l.length else 0
theorem count_ok {h0 : AH} (w : WfH h0) (v : Value) (l : List Tab) (H : HallR h0 v l) : Fn Tryz.prog Xh 33 [v] h0 (fun r h' => r = .int .i64 (countV l) ∧ Hs h0 h' []) := by
  have S := Hs.start w
  have hl := H.len
  have hr := H.rd
  refine Fn_K rfl Tryz.func33 rfl rfl ?_
  all_goals (repeat' (first | refine K_seq ?_ | (refine K_region (id := 0) ?_; refine mv ?_; refine KO_nil ?_) | (refine K_region (id := 1) ?_; refine mv ?_)))
  (refine KO_fn rfl rfl rfl rfl rfl ((valid_ok S.wf v l H).mono ?_); rintro _ h ⟨⟨rfl, hq⟩ | ⟨rfl, hq⟩, x⟩) <;> (replace S := S.join0 x; clear x; refine vl ?_; refine KO_nil ?_)
  all_goals (repeat' (first | refine K_seq ?_ | refine k_cond rfl ?_ | refine K_skip ?_ | (refine K_region (id := 2) ?_; refine mv ?_; refine KO_nil ?_) | (refine K_region (id := 3) ?_; refine mv ?_; refine mv ?_; refine lnB S ?_; refine sb ?_)))
  · have hs : firstV l ((l.length : Int) - 1) + (if l.length = 0 then 0 else tsize (tb l (l.length - 1))) = sumT l l.length := by
      unfold firstV
      cases hk : l.length with
      | zero => rw [if_neg (by omega)]; simp [sumT]
      | succ k => rw [if_pos ⟨by omega, by omega, hq⟩, if_neg (by omega), show ((k + 1 : Nat) : Int) - 1 = (k : Int) by omega, Int.toNat_natCast, Nat.add_sub_cancel]; rfl
    have b1 := sumT_le l l.length
    (refine KO_fn rfl rfl rfl rfl rfl ((first_ok S.wf v l (H.ext w S.ext) _).mono ?_); rintro _ h ⟨rfl, x⟩) <;> (replace S := S.join0 x; clear x; refine mv ?_)
    (refine KO_fn rfl rfl rfl rfl rfl ((lastSize_ok S.wf v l (H.ext w S.ext)).mono ?_); rintro _ h ⟨rfl, x⟩) <;> (replace S := S.join0 x; clear x; refine ad ?_; refine mv ?_; refine KO_nil ?_)
    all_goals (repeat' (fail))
    refine K_ret ⟨_, rfl, ?_⟩
    exact ⟨by unfold countV; rw [if_pos hq, ← hs]; rfl, S⟩
  · refine K_ret ⟨_, rfl, ?_⟩
    exact ⟨by unfold countV; rw [if_neg hq]; rfl, S⟩

def FindIs (l : List Tab) (nm : List UInt8) (v : Value) : Prop :=
  (∃ k : Nat, v = .tuple #[.int .i64 k, .bool true] ∧ ValidL l ∧ k < l.length ∧ (tb l k).name = nm ∧ ∀ j, j < k → ¬ (tb l j).name = nm) ∨
  (v = .tuple #[.int .i64 0, .bool false] ∧ (¬ ValidL l ∨ ∀ j, j < l.length → ¬ (tb l j).name = nm))
def eSt (p : Nat × Nat) : List Value := [.int .i64 (p.1 : Int), .int .i64 (p.2 : Int)]
/-- The seats of the first n tables, and the first k of the next. -/
def SeatsTo (l : List Tab) (n k : Nat) (out : List (Nat × Nat)) : Prop := (out.length : Int) = sumT l n + k ∧ ∀ x, x < out.length → ((out.getD x default).1 < n ∨ ((out.getD x default).1 = n ∧ (out.getD x default).2 < k)) ∧ ((out.getD x default).2 : Int) < tsize (tb l (out.getD x default).1) ∧ (x : Int) = sumT l (out.getD x default).1 + (out.getD x default).2
end Go.Proofs.Xx
