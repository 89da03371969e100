/-
  The hall's small functions.
-/
import Derived.Test.YticddjokabmfmaaGreatDoorM5
import Derived.Test.YticddjokabmfmaaGreatDoorM6

namespace Go.Proofs.Xx
open Go Go.Proofs
set_option linter.unusedSimpArgs false
set_option linter.unusedVariables false
set_option maxRecDepth 100000
set_option linter.unusedSectionVars false
variable {Xh : Extern} [KX Xh]

def roundSize (a b : Int) : Int := if 1 ≤ a ∧ a ≤ 24 ∧ b = 0 then a else 0
def longSize (a b : Int) : Int := if 1 ≤ a ∧ a ≤ 11 ∧ 0 ≤ b ∧ b ≤ 2 then 2 * a + b else 0
def shoeSize (a b : Int) : Int := if 1 ≤ a ∧ a ≤ 8 ∧ 1 ≤ b ∧ b ≤ 8 then a + 2 * b else 0
def rowSize (a b : Int) : Int := if 1 ≤ a ∧ a ≤ 24 ∧ 0 ≤ b ∧ b ≤ a then a else 0

theorem roundSeats_ok {h : AH} (a b : Int) : Fn Tryz.prog Xh 193 [.int .i64 a, .int .i64 b] h (fun v h' => v = .int .i64 (roundSize a b) ∧ h' = h) := by
  refine Fn_K (by first | exact KX.no _ _ _ (by decide) rfl) Tryz.func193 rfl rfl ?_
  all_goals (repeat' (first | refine K_seq ?_ | refine k_cond rfl ?_ | refine K_skip ?_ | (refine K_region (id := 0) ?_; refine mv ?_; refine KO_nil ?_) | (refine K_region (id := 1) ?_; refine mv ?_; (first | (refine cS ?_ ?_ <;> intro hc)) <;> (refine mv ?_; (first | refine off ?_ | refine mv ?_); (first | refine off ?_ | (first | (refine cS ?_ ?_ <;> intro hc))) <;> (refine vl ?_; refine mv ?_; (first | refine off ?_ | refine mv ?_); (first | refine off ?_ | (first | (refine cS ?_ ?_ <;> intro hc))) <;> (refine vl ?_; refine KO_nil ?_)))) | (refine K_region (id := 2) ?_; refine mv ?_; refine KO_nil ?_) | (refine K_region (id := 3) ?_; refine mv ?_; refine mv ?_; refine KO_nil ?_)))
  all_goals (refine K_ret ⟨_, rfl, ?_⟩)
  all_goals (refine ⟨?_, rfl⟩; unfold roundSize; first | (rw [if_pos (by omega)]; rfl) | (rw [if_neg (by omega)]; rfl))
theorem longSeats_ok {h : AH} (a b : Int) : Fn Tryz.prog Xh 198 [.int .i64 a, .int .i64 b] h (fun v h' => v = .int .i64 (longSize a b) ∧ h' = h) := by
  refine Fn_K (by first | exact KX.no _ _ _ (by decide) rfl) Tryz.func198 rfl rfl ?_
  all_goals (repeat' (first | refine K_seq ?_ | refine k_cond rfl ?_ | refine K_skip ?_ | (refine K_region (id := 0) ?_; refine mv ?_; refine KO_nil ?_) | (refine K_region (id := 1) ?_; refine mv ?_; (first | (refine cS ?_ ?_ <;> intro hc)) <;> (refine mv ?_; (first | refine off ?_ | refine mv ?_); (first | refine off ?_ | (first | (refine cS ?_ ?_ <;> intro hc))) <;> (refine vl ?_; refine mv ?_; (first | refine off ?_ | refine mv ?_); (first | refine off ?_ | (first | (refine cS ?_ ?_ <;> intro hc))) <;> (refine vl ?_; refine mv ?_; (first | refine off ?_ | refine mv ?_); (first | refine off ?_ | (first | (refine cS ?_ ?_ <;> intro hc))) <;> (refine vl ?_; refine KO_nil ?_))))) | (refine K_region (id := 2) ?_; refine mv ?_; refine KO_nil ?_) | (refine K_region (id := 3) ?_; refine mv ?_; refine ml ?_; refine mv ?_; refine ad ?_; refine mv ?_; refine KO_nil ?_)))
  all_goals (refine K_ret ⟨_, rfl, ?_⟩)
  all_goals (refine ⟨?_, rfl⟩; unfold longSize; first | (rw [if_pos (by omega)]; rfl) | (rw [if_neg (by omega)]; rfl))
theorem shoeSeats_ok {h : AH} (a b : Int) : Fn Tryz.prog Xh 203 [.int .i64 a, .int .i64 b] h (fun v h' => v = .int .i64 (shoeSize a b) ∧ h' = h) := by
  refine Fn_K (by first | exact KX.no _ _ _ (by decide) rfl) Tryz.func203 rfl rfl ?_
  all_goals (repeat' (first | refine K_seq ?_ | refine k_cond rfl ?_ | refine K_skip ?_ | (refine K_region (id := 0) ?_; refine mv ?_; refine KO_nil ?_) | (refine K_region (id := 1) ?_; refine mv ?_; (first | (refine cS ?_ ?_ <;> intro hc)) <;> (refine mv ?_; (first | refine off ?_ | refine mv ?_); (first | refine off ?_ | (first | (refine cS ?_ ?_ <;> intro hc))) <;> (refine vl ?_; refine mv ?_; (first | refine off ?_ | refine mv ?_); (first | refine off ?_ | (first | (refine cS ?_ ?_ <;> intro hc))) <;> (refine vl ?_; refine mv ?_; (first | refine off ?_ | refine mv ?_); (first | refine off ?_ | (first | (refine cS ?_ ?_ <;> intro hc))) <;> (refine vl ?_; refine KO_nil ?_))))) | (refine K_region (id := 2) ?_; refine mv ?_; refine KO_nil ?_) | (refine K_region (id := 3) ?_; refine mv ?_; refine mv ?_; refine ml ?_; refine ad ?_; refine mv ?_; refine KO_nil ?_)))
  all_goals (refine K_ret ⟨_, rfl, ?_⟩)
  all_goals (refine ⟨?_, rfl⟩; unfold shoeSize; first | (rw [if_pos (by omega)]; rfl) | (rw [if_neg (by omega)]; rfl))
theorem rowSeats_ok {h : AH} (a b : Int) : Fn Tryz.prog Xh 208 [.int .i64 a, .int .i64 b] h (fun v h' => v = .int .i64 (rowSize a b) ∧ h' = h) := by
  refine Fn_K (by first | exact KX.no _ _ _ (by decide) rfl) Tryz.func208 rfl rfl ?_
  all_goals (repeat' (first | refine K_seq ?_ | refine k_cond rfl ?_ | refine K_skip ?_ | (refine K_region (id := 0) ?_; refine mv ?_; refine KO_nil ?_) | (refine K_region (id := 1) ?_; refine mv ?_; (first | (refine cS ?_ ?_ <;> intro hc)) <;> (refine mv ?_; (first | refine off ?_ | refine mv ?_); (first | refine off ?_ | (first | (refine cS ?_ ?_ <;> intro hc))) <;> (refine vl ?_; refine mv ?_; (first | refine off ?_ | refine mv ?_); (first | refine off ?_ | (first | (refine cS ?_ ?_ <;> intro hc))) <;> (refine vl ?_; refine mv ?_; (first | refine off ?_ | refine mv ?_); (first | refine off ?_ | refine mv ?_); (first | refine off ?_ | (first | (refine cS ?_ ?_ <;> intro hc))) <;> (refine vl ?_; refine KO_nil ?_))))) | (refine K_region (id := 2) ?_; refine mv ?_; refine KO_nil ?_) | (refine K_region (id := 3) ?_; refine mv ?_; refine mv ?_; refine KO_nil ?_)))
  all_goals (refine K_ret ⟨_, rfl, ?_⟩)
  all_goals (refine ⟨?_, rfl⟩; unfold rowSize; first | (rw [if_pos (by omega)]; rfl) | (rw [if_neg (by omega)]; rfl))

/-! Which seats are beside, which across: x is before y. -/
def roundB (a b x y : Int) : Prop := y - x = 1 ∨ y - x = a - 1
def roundA (a b x y : Int) : Prop := a % 2 = 0 ∧ y - x = a / 2
def longB (a b x y : Int) : Prop :=
  if b = 2 ∧ y = 2 * a + 1 then x = 0 ∨ x = y - 1
  else if 0 < b ∧ (x = a ∨ y = a) then y - x = 1
  else y - x = 1 ∧ (y < a ∨ x ≥ a + min b 1)
def longA (a b x y : Int) : Prop := if b = 2 ∧ y = 2 * a + 1 then x = a else x < a ∧ x + y = a + min b 1 + a - 1
def shoeB (a b x y : Int) : Prop := y - x = 1
def shoeA (a b x y : Int) : Prop := x < b ∧ x + y = a + 2 * b - 1
def rowB (a b x y : Int) : Prop := y - x = 1 ∧ (b = 0 ∨ y % b ≠ 0)

/-- The sizes and the seats are within bounds. -/
def Bds (a b x y : Int) : Prop := 0 ≤ a ∧ a ≤ 100 ∧ 0 ≤ b ∧ b ≤ 100 ∧ 0 ≤ x ∧ x ≤ 1000 ∧ 0 ≤ y ∧ y ≤ 1000

end Go.Proofs.Xx

/-
  The hall's layouts; which seats are beside and across, by the table.
-/
namespace Go.Proofs.Xx
open Go Go.Proofs
set_option linter.unusedSimpArgs false
set_option linter.unusedVariables false
set_option maxRecDepth 100000
set_option linter.unusedSectionVars false
variable {Xh : Extern} [KX Xh]

/-- A slice's value. -/
structure Tab where
  name : List UInt8
  shape : Int
  A : Int
  B : Int
  os : SlV
  opn : List Int
  X : Int
  Y : Int
abbrev Tab.ov (t : Tab) : Value := t.os.val
instance : Inhabited Tab := ⟨⟨[], 0, 0, 0, ⟨none, 0, 0⟩, [], 0, 0⟩⟩
def eT (t : Tab) : List Value := [str t.name, .int .u8 t.shape, .int .i64 t.A, .int .i64 t.B, t.ov, .int .i64 t.X, .int .i64 t.Y]
abbrev tabV (t : Tab) : Value := .agg (eT t).toArray

def fnV (n : Nat) : Value := .func (.func n) #[] #[]
def wRound : List UInt8 := [114, 111, 117, 110, 100]
def wLong : List UInt8 := [108, 111, 110, 103]
def wShoe : List UInt8 := [104, 111, 114, 115, 101, 115, 104, 111, 101]
def wRow : List UInt8 := [114, 111, 119]
def lay1 : List Value := [str wRound, fnV 193, fnV 194, fnV 195, fnV 196, fnV 197]
def lay2 : List Value := [str wLong, fnV 198, fnV 199, fnV 200, fnV 201, fnV 202]
def lay3 : List Value := [str wShoe, fnV 203, fnV 204, fnV 205, fnV 206, fnV 207]
def lay4 : List Value := [str wRow, fnV 208, fnV 209, fnV 210, fnV 211, fnV 212]
def lay0 : List Value := [str [], .nilFunc, .nilFunc, .nilFunc, .nilFunc, .nilFunc]
def LayIs (s : Int) (v : Value) : Prop :=
  (v = .tuple #[.agg lay1.toArray, .bool true] ∧ s = 1) ∨ (v = .tuple #[.agg lay2.toArray, .bool true] ∧ s = 2) ∨ (v = .tuple #[.agg lay3.toArray, .bool true] ∧ s = 3) ∨
  (v = .tuple #[.agg lay4.toArray, .bool true] ∧ s = 4) ∨ (v = .tuple #[.agg lay0.toArray, .bool false] ∧ ¬ (1 ≤ s ∧ s ≤ 4))

theorem layoutOf_ok {h0 : AH} (w : WfH h0) (s : Int) : Fn Tryz.prog Xh 174 [.int .u8 s] h0 (fun v h' => LayIs s v ∧ Hs h0 h' []) := by
  have S := Hs.start w
  refine Fn_K (by first | exact KX.no _ _ _ (by decide) rfl) Tryz.func174 rfl rfl ?_
  all_goals (repeat' (first | refine K_seq ?_ | refine k_cond rfl ?_ | refine K_skip ?_ | refine k_block ?_ | (refine K_region (id := 0) ?_; (refine al S ?_; clear S; intro b h S); refine mv ?_; refine KO_nil ?_) | (refine K_region (id := 1) ?_; refine mv ?_; refine KO_nil ?_) | (refine K_region (id := 2) ?_; (first | (refine cS ?_ ?_ <;> intro hc)) <;> (refine mv ?_; refine KO_nil ?_)) | (refine K_region (id := 3) ?_; refine vl ?_; (first | (refine sB S rfl rfl ?_; clear S; intro h S)); refine mv ?_; refine KO_nil ?_) | (refine K_region (id := 4) ?_; (first | (refine cS ?_ ?_ <;> intro hc)) <;> (refine mv ?_; refine KO_nil ?_)) | (refine K_region (id := 5) ?_; refine vl ?_; (first | (refine sB S rfl rfl ?_; clear S; intro h S)); refine mv ?_; refine KO_nil ?_) | (refine K_region (id := 6) ?_; (first | (refine cS ?_ ?_ <;> intro hc)) <;> (refine mv ?_; refine KO_nil ?_)) | (refine K_region (id := 7) ?_; refine vl ?_; (first | (refine sB S rfl rfl ?_; clear S; intro h S)); refine mv ?_; refine KO_nil ?_) | (refine K_region (id := 8) ?_; (first | (refine cS ?_ ?_ <;> intro hc)) <;> (refine mv ?_; refine KO_nil ?_)) | (refine K_region (id := 9) ?_; refine vl ?_; (first | (refine sB S rfl rfl ?_; clear S; intro h S)); refine mv ?_; refine KO_nil ?_) | (refine K_region (id := 10) ?_; refine vl ?_; (first | (refine sB S rfl rfl ?_; clear S; intro h S)); refine mv ?_; refine KO_nil ?_)))
  all_goals (refine K_ret ⟨_, ret_cell S rfl (by first | exact .here) (by exact rfl) (by exact rfl), ?_⟩)
  all_goals (refine ⟨?_, S.drop⟩; unfold LayIs)
  · exact .inl ⟨rfl, by omega⟩
  · exact .inr (.inl ⟨rfl, by omega⟩)
  · exact .inr (.inr (.inl ⟨rfl, by omega⟩))
  · exact .inr (.inr (.inr (.inl ⟨rfl, by omega⟩)))
  · exact .inr (.inr (.inr (.inr ⟨rfl, by omega⟩)))

def sizeOf1 (s a b : Int) : Int := if s = 1 then roundSize a b else if s = 2 then longSize a b else if s = 3 then shoeSize a b else if s = 4 then rowSize a b else 0
def tsize (t : Tab) : Int := sizeOf1 t.shape t.A t.B

theorem size_ok {h0 : AH} (w : WfH h0) (t : Tab) : Fn Tryz.prog Xh 158 [tabV t] h0 (fun v h' => v = .int .i64 (tsize t) ∧ Hs h0 h' []) := by
  have S := Hs.start w
  refine Fn_K (by first | exact KX.no _ _ _ (by decide) rfl) Tryz.func158 rfl rfl ?_
  all_goals (repeat' (first | refine K_seq ?_ | (refine K_region (id := 0) ?_; (refine bx S ?_; clear S; intro b h S); refine mv ?_; refine KO_nil ?_) | (refine K_region (id := 1) ?_; refine vl ?_; refine lB S rfl rfl ?_)))
  (refine KO_fn rfl rfl rfl rfl rfl ((layoutOf_ok S.wf _).mono ?_); rintro _ h ⟨⟨rfl, hs⟩ | ⟨rfl, hs⟩ | ⟨rfl, hs⟩ | ⟨rfl, hs⟩ | ⟨rfl, hs⟩, x⟩) <;> (have S := S.join0 x; refine mv ?_; refine vl ?_; refine vl ?_; (refine al S ?_; clear S; intro b h S); (first | (refine sB S rfl rfl ?_; clear S; intro h S)); refine mv ?_; refine KO_nil ?_)
  all_goals (repeat' (first | refine K_seq ?_ | refine k_cond rfl ?_ | refine K_skip ?_ | (refine K_region (id := 2) ?_; refine mv ?_; refine vl ?_; refine KO_nil ?_) | (refine K_region (id := 3) ?_; refine mv ?_; refine KO_nil ?_) | (refine K_region (id := 4) ?_; refine vl ?_; refine lB S rfl rfl ?_; refine vl ?_; refine lB S rfl rfl ?_; refine vl ?_; refine lB S rfl rfl ?_)))
  · (refine KO_call rfl rfl rfl rfl ((roundSeats_ok _ _).mono ?_); rintro _ _ ⟨rfl, rfl⟩) <;> (refine mv ?_; refine KO_nil ?_)
    all_goals (repeat' (fail))
    refine K_ret ⟨_, rfl, ?_⟩
    exact ⟨by simp [oneOrTuple, tsize, sizeOf1, hs], S.drop⟩
  · (refine KO_call rfl rfl rfl rfl ((longSeats_ok _ _).mono ?_); rintro _ _ ⟨rfl, rfl⟩) <;> (refine mv ?_; refine KO_nil ?_)
    all_goals (repeat' (fail))
    refine K_ret ⟨_, rfl, ?_⟩
    exact ⟨by simp [oneOrTuple, tsize, sizeOf1, hs], S.drop⟩
  · (refine KO_call rfl rfl rfl rfl ((shoeSeats_ok _ _).mono ?_); rintro _ _ ⟨rfl, rfl⟩) <;> (refine mv ?_; refine KO_nil ?_)
    all_goals (repeat' (fail))
    refine K_ret ⟨_, rfl, ?_⟩
    exact ⟨by simp [oneOrTuple, tsize, sizeOf1, hs], S.drop⟩
  · (refine KO_call rfl rfl rfl rfl ((rowSeats_ok _ _).mono ?_); rintro _ _ ⟨rfl, rfl⟩) <;> (refine mv ?_; refine KO_nil ?_)
    all_goals (repeat' (fail))
    refine K_ret ⟨_, rfl, ?_⟩
    exact ⟨by simp [oneOrTuple, tsize, sizeOf1, hs], S.drop⟩
  · refine K_ret ⟨_, rfl, ?_⟩
    refine ⟨?_, S.drop⟩
    simp only [oneOrTuple, tsize, sizeOf1]
    rw [if_neg (by omega), if_neg (by omega), if_neg (by omega), if_neg (by omega)]

def besideP (t : Tab) (x y : Int) : Prop := x ≠ y ∧ ((t.shape = 1 ∧ roundB t.A t.B (min x y) (max x y)) ∨ (t.shape = 2 ∧ longB t.A t.B (min x y) (max x y)) ∨ (t.shape = 3 ∧ shoeB t.A t.B (min x y) (max x y)) ∨ (t.shape = 4 ∧ rowB t.A t.B (min x y) (max x y)))
def acrossP (t : Tab) (x y : Int) : Prop := x ≠ y ∧ ((t.shape = 1 ∧ roundA t.A t.B (min x y) (max x y)) ∨ (t.shape = 2 ∧ longA t.A t.B (min x y) (max x y)) ∨ (t.shape = 3 ∧ shoeA t.A t.B (min x y) (max x y)))
def nearP (t : Tab) (x y : Int) : Prop := besideP t x y ∨ acrossP t x y
def TabB (t : Tab) : Prop := 1 ≤ t.shape ∧ t.shape ≤ 4 ∧ 0 ≤ t.A ∧ t.A ≤ 100 ∧ 0 ≤ t.B ∧ t.B ≤ 100

theorem tsize_le (t : Tab) : 0 ≤ tsize t ∧ tsize t ≤ 24 := by
  unfold tsize sizeOf1 roundSize longSize shoeSize rowSize
  repeat' split
  all_goals omega

end Go.Proofs.Xx

/-
  Names; the check of a table, the program's and the reference's.
-/
namespace Go.Proofs.Xx
open Go Go.Proofs
set_option linter.unusedSimpArgs false
set_option linter.unusedVariables false
set_option maxRecDepth 100000
set_option linter.unusedSectionVars false
variable {Xh : Extern} [KX Xh]

theorem hname_ok {h0 : AH} (w : WfH h0) (s : List UInt8) (hs : s.length ≤ 1000000) : Fn Tryz.prog Xh 169 [str s] h0 (fun v h' => BoolIs v (nameP s) ∧ Hs h0 h' []) := by
  have S := Hs.start w
  refine Fn_K (by first | rfl | exact KX.no _ _ _ (by decide) rfl) Tryz.func169 rfl rfl ?_
  all_goals (repeat' (first | refine K_seq ?_ | refine k_cond rfl ?_ | refine K_skip ?_ | refine K_exit ?_ | refine k_block ?_ | refine K_scope ?_ | refine K_label ?_ | (refine K_region (id := 0) ?_; refine mv ?_; refine KO_nil ?_) | (refine K_region (id := 1) ?_; refine mv ?_; refine KO_nil ?_)))
  refine k_loop (σ := Nat) (fun i h' => Hs h0 h' [] ∧ i ≤ s.length ∧ ∀ j, j < i → lowB (s.getD j default)) (fun i => s.length - i) (fun i => [(0, str s), (3, .int .i64 i)]) 0 (by repeat (first | exact Ks.le_nil _ | refine Ks.le_cons rfl ?_ | refine Ks.le_int ?_)) ?_ ?_
  · exact ⟨S, Nat.zero_le _, fun j hj => absurd hj (Nat.not_lt_zero _)⟩
  clear S
  rintro i h ⟨S, h1, h2⟩
  all_goals (repeat' (first | refine K_seq ?_ | refine k_cond rfl ?_ | refine K_skip ?_ | refine K_exit ?_ | refine k_block ?_ | refine K_scope ?_ | refine K_label ?_ | (refine K_region (id := 2) ?_; refine mv ?_; refine mv ?_; refine tl ?_; (first | refine cT ?_ | refine cF ?_ | (refine cS ?_ ?_ <;> intro hc)) <;> (refine KO_nil ?_)) | (refine K_region (id := 3) ?_; refine mv ?_; (first | refine ad ?_ | refine vl ?_); refine mv ?_; refine KO_nil ?_) | (refine K_region (id := 4) ?_; refine mv ?_; refine mv ?_; (first | refine ti ?_ | refine vl ?_); (first | refine cT ?_ | refine cF ?_ | (refine cS ?_ ?_ <;> intro hc)) <;> (refine mv ?_; (first | refine off ?_ | refine mv ?_); (first | refine off ?_ | refine mv ?_); (first | refine off ?_ | (first | refine ti ?_ | refine vl ?_)); (first | refine off ?_ | (first | refine cT ?_ | refine cF ?_ | (refine cS ?_ ?_ <;> intro hc))) <;> (refine vl ?_; refine KO_nil ?_))) | (refine K_region (id := 5) ?_; refine mv ?_; refine KO_nil ?_) | (refine K_region (id := 6) ?_; refine mv ?_; refine tl ?_; (first | refine cT ?_ | refine cF ?_ | (refine cS ?_ ?_ <;> intro hc)) <;> (refine mv ?_; (first | refine off ?_ | refine mv ?_); (first | refine off ?_ | refine tl ?_); (first | refine off ?_ | (first | refine cT ?_ | refine cF ?_ | (refine cS ?_ ?_ <;> intro hc))) <;> (refine vl ?_; refine mv ?_; refine KO_nil ?_)))))
  all_goals (try simp only [Int.toNat_natCast] at *)
  · refine K_ret ⟨_, rfl, ?_⟩
    exact ⟨.inr ⟨rfl, fun q => by have := q.2.2 i (by omega); unfold lowB at this; simp only [show (default : UInt8) = 0 from rfl] at this; omega⟩, S.drop⟩
  · refine K_ret ⟨_, rfl, ?_⟩
    exact ⟨.inr ⟨rfl, fun q => by have := q.2.2 i (by omega); unfold lowB at this; simp only [show (default : UInt8) = 0 from rfl] at this; omega⟩, S.drop⟩
  · refine ⟨i + 1, ?_, ?_, (by repeat (first | exact Ks.le_nil _ | refine Ks.le_cons rfl ?_ | refine Ks.le_int ?_))⟩
    · show s.length - (i + 1) < s.length - i; omega
    · refine ⟨S, by omega, fun j hj => ?_⟩
      rcases Nat.lt_or_ge j i with q | q
      · exact h2 j q
      · have e : j = i := by omega
        subst e
        unfold lowB
        simp only [show (default : UInt8) = 0 from rfl]
        omega
  all_goals (refine K_ret ⟨_, rfl, ?_⟩)
  all_goals refine ⟨?_, S.drop⟩
  · exact .inl ⟨rfl, by omega, by omega, fun j hj => h2 j (by omega)⟩
  · exact .inr ⟨rfl, fun q => by have := q.2.1; omega⟩
  · exact .inr ⟨rfl, fun q => by have := q.1; omega⟩

end Go.Proofs.Xx

/-
  The check of a table, the program's and the reference's.
-/
namespace Go.Proofs.Xx
open Go Go.Proofs
set_option linter.unusedSimpArgs false
set_option linter.unusedVariables false
set_option maxRecDepth 100000
set_option linter.unusedSectionVars false
variable {Xh : Extern} [KX Xh]

/-- The open seats stand in order, and each is a seat. -/
def OpnOk (n : Int) (l : List Int) : Prop := ∀ i, i < l.length → (0 ≤ l.getD i default ∧ l.getD i default < n) ∧ (0 < i → l.getD (i - 1) default < l.getD i default)
def XYok (t : Tab) : Prop := 0 ≤ t.X ∧ t.X ≤ 1000 ∧ 0 ≤ t.Y ∧ t.Y ≤ 1000
open Classical in
noncomputable def chk (t : Tab) : Int := if ¬ nameP t.name then 4 else if tsize t = 0 then 10 else if ¬ OpnOk (tsize t) t.opn then 11 else if ¬ XYok t then 2 else 0
/-- What a table's list of open seats reads as. -/
abbrev TabR (h : AH) (t : Tab) : Prop := RdL h t.ov 1 eI t.opn ∧ t.name.length ≤ 1000 ∧ t.opn.length ≤ 1000

/-- The same of tables with longer names and lists. -/
abbrev TabL (h : AH) (t : Tab) : Prop := RdL h t.ov 1 eI t.opn ∧ t.name.length ≤ 1000000 ∧ t.opn.length ≤ 1000000
theorem TabR.toL {h : AH} {t : Tab} (r : TabR h t) : TabL h t := ⟨r.1, Nat.le_trans r.2.1 (by decide), Nat.le_trans r.2.2 (by decide)⟩
theorem check_okL {h0 : AH} (w : WfH h0) (t : Tab) (r : TabL h0 t) : Fn Tryz.prog Xh 133 [tabV t] h0 (fun v h' => v = .int .i64 (chk t) ∧ Hs h0 h' []) := by
  have S := Hs.start w
  obtain ⟨hr, hnm, hol⟩ := r
  refine Fn_K (by first | exact KX.no _ _ _ (by decide) rfl) Tryz.func133 rfl rfl ?_
  all_goals (repeat' (first | refine K_seq ?_ | (refine K_region (id := 0) ?_; (refine bx S ?_; clear S; intro b h S); refine mv ?_; refine KO_nil ?_) | (refine K_region (id := 1) ?_; refine lB S rfl rfl ?_)))
  (refine KO_fn rfl rfl rfl rfl rfl ((size_ok S.wf t).mono ?_); rintro _ h ⟨rfl, x⟩) <;> (replace S := S.join0 x; clear x; refine mv ?_; refine KO_nil ?_)
  all_goals (repeat' (first | refine K_seq ?_ | refine k_block ?_ | (refine K_region (id := 2) ?_; refine mv ?_; refine KO_nil ?_) | (refine K_region (id := 3) ?_; refine vl ?_; refine lB S rfl rfl ?_)))
  (refine KO_fn rfl rfl rfl rfl rfl ((hname_ok S.wf t.name hnm).mono ?_); rintro _ h ⟨⟨rfl, hq⟩ | ⟨rfl, hq⟩, x⟩) <;> (replace S := S.join0 x; clear x; refine vl ?_; refine mv ?_; refine KO_nil ?_)
  all_goals (repeat' (first | refine K_seq ?_ | refine k_cond rfl ?_ | refine K_skip ?_ | refine k_block ?_ | (refine K_region (id := 4) ?_; refine mv ?_; refine KO_nil ?_) | (refine K_region (id := 5) ?_; refine mv ?_; (first | (refine cS ?_ ?_ <;> intro hc)) <;> (refine mv ?_; refine KO_nil ?_)) | (refine K_region (id := 6) ?_; refine mv ?_; refine KO_nil ?_) | (refine K_region (id := 7) ?_; refine vl ?_; refine lB S rfl rfl ?_; refine lnB S ?_; refine mv ?_; refine KO_nil ?_)))
  · refine K_ret ⟨_, rfl, ?_⟩
    exact ⟨by unfold chk; rw [if_neg (by simpa using hq), if_pos hc]; rfl, S.drop⟩
  · refine k_loop (σ := Nat × Int) (fun (i, la) h' => Hs h0 h' [.blk b (tabV t).cells.toList 76] ∧ i ≤ t.opn.length ∧ (∀ j, j < i → (0 ≤ t.opn.getD j default ∧ t.opn.getD j default < tsize t) ∧ (0 < j → t.opn.getD (j - 1) default < t.opn.getD j default)) ∧ (la = if i = 0 then -1 else t.opn.getD (i - 1) default)) (fun (i, la) => t.opn.length - i) (fun (i, la) => [(1, .pointer (some ⟨b, 0, none⟩)), (3, .int .i64 (tsize t)), (4, .int .i64 la), (18, t.ov), (19, .int .i64 t.opn.length), (20, .int .i64 i)]) (0, -1) (by repeat (first | exact Ks.le_nil _ | refine Ks.le_cons rfl ?_)) ?_ ?_
    · exact ⟨S, Nat.zero_le _, fun j hj => absurd hj (Nat.not_lt_zero _), rfl⟩
    clear S
    rintro ⟨i, la⟩ h ⟨S, h1, h2, h3⟩
    all_goals (repeat' (first | refine K_seq ?_ | refine k_cond rfl ?_ | refine K_skip ?_ | refine K_exit ?_ | refine k_block ?_ | (refine K_region (id := 8) ?_; (first | (refine cS ?_ ?_ <;> intro hc)) <;> (refine KO_nil ?_)) | (refine K_region (id := 9) ?_; refine ixB S ?_; refine lEB S ?_; refine mv ?_; refine KO_nil ?_) | (refine K_region (id := 10) ?_; refine mv ?_; refine mv ?_; (first | (refine cS ?_ ?_ <;> intro hc)) <;> (refine mv ?_; (first | refine off ?_ | refine mv ?_); (first | refine off ?_ | refine mv ?_); (first | refine off ?_ | (first | (refine cS ?_ ?_ <;> intro hc))) <;> (refine vl ?_; refine KO_nil ?_))) | (refine K_region (id := 11) ?_; refine mv ?_; refine KO_nil ?_) | (refine K_region (id := 12) ?_; refine mv ?_; refine mv ?_; refine KO_nil ?_) | (refine K_region (id := 13) ?_; refine ad ?_; refine mv ?_; refine KO_nil ?_) | (refine K_region (id := 14) ?_; refine vl ?_; refine lB S rfl rfl ?_; (first | (refine cS ?_ ?_ <;> intro hc)) <;> (refine mv ?_; (first | refine off ?_ | (refine vl ?_)); (first | refine off ?_ | (refine lB S rfl rfl ?_)); (first | refine off ?_ | (first | (refine cS ?_ ?_ <;> intro hc))) <;> (refine vl ?_; refine mv ?_; (first | refine off ?_ | (refine vl ?_)); (first | refine off ?_ | (refine lB S rfl rfl ?_)); (first | refine off ?_ | (first | (refine cS ?_ ?_ <;> intro hc))) <;> (refine vl ?_; refine mv ?_; (first | refine off ?_ | (refine vl ?_)); (first | refine off ?_ | (refine lB S rfl rfl ?_)); (first | refine off ?_ | (first | (refine cS ?_ ?_ <;> intro hc))) <;> (refine vl ?_; refine KO_nil ?_))))) | (refine K_region (id := 15) ?_; refine mv ?_; refine KO_nil ?_) | (refine K_region (id := 16) ?_; refine mv ?_; refine KO_nil ?_)))
    all_goals (try simp only [Int.toNat_natCast] at *)
    · refine K_ret ⟨_, rfl, ?_⟩
      refine ⟨?_, S.drop⟩
      have : ¬ OpnOk (tsize t) t.opn := fun q => by
        have q1 := q i (by omega)
        split at h3 <;> rename_i hi
        · subst hi; omega
        · have := q1.2 (by omega); omega
      unfold chk; rw [if_neg (by simpa using hq), if_neg (by assumption), if_pos this]; rfl
    · refine K_ret ⟨_, rfl, ?_⟩
      refine ⟨?_, S.drop⟩
      have : ¬ OpnOk (tsize t) t.opn := fun q => by have q1 := q i (by omega); omega
      unfold chk; rw [if_neg (by simpa using hq), if_neg (by assumption), if_pos this]; rfl
    · refine ⟨(i + 1, t.opn.getD i default), ?_, ?_, (by repeat (first | exact Ks.le_nil _ | refine Ks.le_cons rfl ?_))⟩
      · show t.opn.length - (i + 1) < t.opn.length - i; omega
      · refine ⟨S, by omega, fun j hj => ?_, by simp⟩
        rcases Nat.lt_or_ge j i with q | q
        · exact h2 j q
        · have e : j = i := by omega
          subst e
          split at h3 <;> rename_i hi
          · exact ⟨by omega, fun q => by omega⟩
          · have := (h2 (j - 1) (by omega)).1
            exact ⟨by omega, fun q => by omega⟩
    all_goals
      have hok : OpnOk (tsize t) t.opn := fun j hj => h2 j (by omega)
      refine K_ret ⟨_, rfl, ?_⟩
      refine ⟨?_, S.drop⟩
      unfold chk; rw [if_neg (by simpa using hq), if_neg (by assumption), if_neg (by simpa using hok)]
      first
        | (rw [if_pos (by unfold XYok; omega)]; rfl)
        | (rw [if_neg (by unfold XYok; omega)]; rfl)
  · refine K_ret ⟨_, rfl, ?_⟩
    exact ⟨by unfold chk; rw [if_pos (by simpa using hq)]; rfl, S.drop⟩
theorem hcheck_ok {h0 : AH} (w : WfH h0) (t : Tab) (r : TabR h0 t) : Fn Tryz.prog Xh 133 [tabV t] h0 (fun v h' => v = .int .i64 (chk t) ∧ Hs h0 h' []) := check_okL w t (TabR.toL r)
end Go.Proofs.Xx

/-
  A first element that a function accepts.
-/
namespace Go.Proofs.Xx
open Go Go.Proofs
set_option linter.unusedSimpArgs false
set_option linter.unusedVariables false
set_option maxRecDepth 100000
set_option linter.unusedSectionVars false
variable {Xh : Extern} [KX Xh]

/-- The first index below n where p holds, -1 if none. -/
def IdxIs (v : Value) (p : Nat → Prop) (n : Nat) : Prop := (∃ i : Nat, i < n ∧ v = .int .i64 i ∧ p i ∧ ∀ j, j < i → ¬ p j) ∨ (v = .int .i64 (-1) ∧ ∀ j, j < n → ¬ p j)

theorem indexTab_ok {h0 : AH} (w : WfH h0) (v : Value) (l : List Tab) (g : Nat) (cap : List Value) (p : Nat → Prop) (hr : RdL h0 v 7 eT l) (hl : l.length ≤ 1000)
    (hf : ∀ i h, i < l.length → Hs h0 h [] → Fn Tryz.prog Xh g (tabV (l.getD i default) :: cap) h (fun v h' => BoolIs v (p i) ∧ Hs h h' [])) :
    Fn Tryz.prog Xh 156 [v, .func (.func g) #[] cap.toArray] h0 (fun r h' => IdxIs r p l.length ∧ Hs h0 h' []) := by
  have S := Hs.start w
  refine Fn_K (by first | rfl | exact KX.no _ _ _ (by decide) rfl) Tryz.func156 rfl rfl ?_
  all_goals (repeat' (first | refine K_seq ?_ | refine k_cond rfl ?_ | refine K_skip ?_ | refine K_exit ?_ | refine k_block ?_ | refine K_scope ?_ | refine K_label ?_ | (refine K_region (id := 0) ?_; refine mv ?_; refine KO_nil ?_) | (refine K_region (id := 1) ?_; refine mv ?_; (first | refine lnB S ?_ | refine lnS S rfl rfl ?_); refine mv ?_; refine KO_nil ?_)))
  refine k_loop (σ := Nat) (fun i h' => Hs h0 h' [] ∧ i ≤ l.length ∧ ∀ j, j < i → ¬ p j) (fun i => l.length - i) (fun i => [(0, v), (1, .func (.func g) #[] cap.toArray), (7, .int .i64 l.length), (8, .int .i64 i)]) 0 (by repeat (first | exact Ks.le_nil _ | refine Ks.le_cons rfl ?_ | refine Ks.le_int ?_)) ?_ ?_
  · exact ⟨S, Nat.zero_le _, fun j hj => absurd hj (Nat.not_lt_zero _)⟩
  clear S
  rintro i h ⟨S, h1, h2⟩
  all_goals (repeat' (first | refine K_seq ?_ | refine k_cond rfl ?_ | refine K_skip ?_ | refine K_exit ?_ | refine k_block ?_ | refine K_scope ?_ | refine K_label ?_ | (refine K_region (id := 2) ?_; (first | refine cT ?_ | refine cF ?_ | (refine cS ?_ ?_ <;> intro hc)) <;> (refine KO_nil ?_)) | (refine K_region (id := 3) ?_; refine mv ?_; refine mv ?_; refine KO_nil ?_) | (refine K_region (id := 4) ?_; refine mv ?_; refine mv ?_; refine mv ?_; (first | refine ixB S ?_ | refine ixS2 S rfl rfl ?_); (first | refine lB S rfl rfl ?_ | refine lES2 S rfl rfl ?_ | refine lEB S ?_ | refine lH S ?_)) | (refine K_region (id := 7) ?_; refine mv ?_; refine KO_nil ?_)))
  · (refine KO_call rfl rfl rfl rfl ((hf i _ (by omega) S).mono ?_); rintro _ h ⟨⟨rfl, hq⟩ | ⟨rfl, hq⟩, x⟩) <;> (replace S := S.join0 x; clear x; refine KO_nil ?_)
    all_goals (repeat' (first | refine K_seq ?_ | refine k_cond rfl ?_ | refine K_skip ?_ | refine K_exit ?_ | refine k_block ?_ | refine K_scope ?_ | refine K_label ?_ | (refine K_region (id := 5) ?_; refine mv ?_; refine mv ?_; refine KO_nil ?_) | (refine K_region (id := 6) ?_; (first | refine ad ?_ | refine vl ?_); refine mv ?_; refine KO_nil ?_)))
    · refine K_ret ⟨_, rfl, ?_⟩
      exact ⟨.inl ⟨i, by omega, rfl, hq, h2⟩, S⟩
    · refine ⟨i + 1, ?_, ?_, (by repeat (first | exact Ks.le_nil _ | refine Ks.le_cons rfl ?_ | refine Ks.le_int ?_))⟩
      · show l.length - (i + 1) < l.length - i; omega
      · refine ⟨S, by omega, fun j hj => ?_⟩
        rcases Nat.lt_or_ge j i with q | q
        · exact h2 j q
        · have e : j = i := by omega
          subst e; exact hq
  · refine K_ret ⟨_, rfl, ?_⟩
    exact ⟨.inr ⟨rfl, fun j hj => h2 j (by omega)⟩, S⟩

theorem containsTab_ok {h0 : AH} (w : WfH h0) (v : Value) (l : List Tab) (g : Nat) (cap : List Value) (p : Nat → Prop) (hr : RdL h0 v 7 eT l) (hl : l.length ≤ 1000)
    (hf : ∀ i h, i < l.length → Hs h0 h [] → Fn Tryz.prog Xh g (tabV (l.getD i default) :: cap) h (fun v h' => BoolIs v (p i) ∧ Hs h h' [])) :
    Fn Tryz.prog Xh 134 [v, .func (.func g) #[] cap.toArray] h0 (fun r h' => BoolIs r (∃ i, i < l.length ∧ p i) ∧ Hs h0 h' []) := by
  have S := Hs.start w
  refine Fn_K (by first | rfl | exact KX.no _ _ _ (by decide) rfl) Tryz.func134 rfl rfl ?_
  all_goals (repeat' (first | refine K_seq ?_ | refine k_cond rfl ?_ | refine K_skip ?_ | refine K_exit ?_ | refine k_block ?_ | refine K_scope ?_ | refine K_label ?_ | (refine K_region (id := 0) ?_; refine mv ?_; refine KO_nil ?_) | (refine K_region (id := 1) ?_; refine mv ?_; refine mv ?_)))
  (refine KO_fn rfl rfl rfl rfl rfl ((indexTab_ok S.wf v l g cap p hr hl hf).mono ?_); rintro _ h ⟨⟨i, hi, rfl, hq, hn⟩ | ⟨rfl, hn⟩, x⟩) <;> (replace S := S.join0 x; clear x; (first | refine cT ?_ | refine cF ?_ | (refine cS ?_ ?_ <;> intro hc)) <;> (refine mv ?_; refine KO_nil ?_))
  all_goals (repeat' (first | refine K_seq ?_ | refine k_cond rfl ?_ | refine K_skip ?_ | refine K_exit ?_ | refine k_block ?_ | refine K_scope ?_ | refine K_label ?_))
  all_goals (try omega)
  all_goals (refine K_ret ⟨_, rfl, ?_⟩)
  · exact ⟨.inl ⟨rfl, i, hi, hq⟩, S⟩
  · exact ⟨.inr ⟨rfl, fun ⟨j, hj, hp⟩ => hn j hj hp⟩, S⟩
end Go.Proofs.Xx

/-
  The check of a hall, the program's and the reference's.
-/
namespace Go.Proofs.Xx
open Go Go.Proofs
set_option linter.unusedSimpArgs false
set_option linter.unusedVariables false
set_option maxRecDepth 100000
set_option linter.unusedSectionVars false
variable {Xh : Extern} [KX Xh]

abbrev tb (l : List Tab) (i : Nat) : Tab := l.getD i default
def dupAt (l : List Tab) (k : Nat) : Prop := ∃ j, j < k ∧ (tb l j).name = (tb l k).name
def goodAt (l : List Tab) (k : Nat) : Prop := chk (tb l k) = 0 ∧ ¬ dupAt l k
def ChkAll (l : List Tab) (i e : Int) : Prop :=
  (16 < l.length ∧ i = 0 ∧ e = 7) ∨ (l.length ≤ 16 ∧ ((∃ k : Nat, k < l.length ∧ i = k ∧ (∀ j, j < k → goodAt l j) ∧ ((chk (tb l k) ≠ 0 ∧ e = chk (tb l k)) ∨ (chk (tb l k) = 0 ∧ dupAt l k ∧ e = 5))) ∨ ((∀ j, j < l.length → goodAt l j) ∧ i = 0 ∧ e = 0)))
/-- What a hall reads as. -/
structure HallR (h : AH) (v : Value) (l : List Tab) : Prop where
  rd : RdL h v 7 eT l
  tab : ∀ i, i < l.length → TabR h (tb l i)
  len : l.length ≤ 1000
  cap : CapOk v
theorem TabR.ext {h h' : AH} {t : Tab} (r : TabR h t) (w : WfH h) (x : Ext h h') : TabR h' t := ⟨r.1.ext w x, r.2⟩
theorem HallR.ext {h h' : AH} {v : Value} {l : List Tab} (r : HallR h v l) (w : WfH h) (x : Ext h h') : HallR h' v l := ⟨r.rd.ext w x, fun i hi => (r.tab i hi).ext w x, r.len, r.cap⟩

/-- A hall that is valid. -/
def ValidL (l : List Tab) : Prop := l.length ≤ 16 ∧ ∀ j, j < l.length → goodAt l j
theorem ChkAll.valid {l : List Tab} {i e : Int} (a : ChkAll l i e) : e = 0 ↔ ValidL l := by
  rcases a with ⟨h1, h2, h3⟩ | ⟨h1, ⟨k, hk, h2, h3, ⟨h4, h5⟩ | ⟨h4, h5, h6⟩⟩ | ⟨h2, h3, h4⟩⟩
  · exact ⟨fun q => by omega, fun q => by have := q.1; omega⟩
  · exact ⟨fun q => absurd (h5 ▸ q) h4, fun q => absurd (q.2 k hk).1 h4⟩
  · exact ⟨fun q => by omega, fun q => absurd h5 (q.2 k hk).2⟩
  · exact ⟨fun _ => ⟨h1, h2⟩, fun _ => h4⟩
theorem ChkAll.uniq {l : List Tab} {i e i' e' : Int} (a : ChkAll l i e) (b : ChkAll l i' e') : i = i' ∧ e = e' := by
  have key : ∀ {k k' : Nat}, (∀ j, j < k → goodAt l j) → ¬ goodAt l k' → k ≤ k' := fun g n => Nat.le_of_not_lt fun q => n (g _ q)
  have bad : ∀ {k : Nat} {e : Int}, ((chk (tb l k) ≠ 0 ∧ e = chk (tb l k)) ∨ (chk (tb l k) = 0 ∧ dupAt l k ∧ e = 5)) → ¬ goodAt l k := fun q g => q.elim (fun q => q.1 g.1) (fun q => g.2 q.2.1)
  rcases a with ⟨h1, h2, h3⟩ | ⟨h1, ⟨k, hk, h2, h3, h4⟩ | ⟨h2, h3, h4⟩⟩ <;> rcases b with ⟨g1, g2, g3⟩ | ⟨g1, ⟨k', hk', g2, g3, g4⟩ | ⟨g2, g3, g4⟩⟩
  · exact ⟨by omega, by omega⟩
  · omega
  · omega
  · omega
  · have e1 := key h3 (bad g4)
    have e2 := key g3 (bad h4)
    have : k = k' := by omega
    subst this
    refine ⟨by omega, ?_⟩
    rcases h4 with ⟨h4, h5⟩ | ⟨h4, h5, h6⟩ <;> rcases g4 with ⟨g4, g5⟩ | ⟨g4, g5, g6⟩
    · omega
    · exact absurd g4 h4
    · exact absurd h4 g4
    · omega
  · exact absurd (g2 k hk) (bad h4)
  · omega
  · exact absurd (h2 k' hk') (bad g4)
  · exact ⟨by omega, by omega⟩
/-- How many seats the first k tables have. -/
def sumT (l : List Tab) : Nat → Int
  | 0 => 0
  | k + 1 => sumT l k + tsize (tb l k)

theorem sameName_ok {h0 : AH} (w : WfH h0) (t u : Tab) (b : Nat) (hb : h0.get b = some (.cells (eT u) 76 none false)) : Fn Tryz.prog Xh 135 [tabV t, .pointer (some ⟨b, 0, none⟩)] h0 (fun v h' => BoolIs v (t.name = u.name) ∧ Hs h0 h' []) := by
  have S := Hs.start w
  refine Fn_K (by first | exact KX.no _ _ _ (by decide) rfl) Tryz.func135 rfl rfl ?_
  all_goals (repeat' (first | refine K_seq ?_ | (refine K_region (id := 0) ?_; (refine bx S ?_; clear S; intro b h S); refine mv ?_; refine KO_nil ?_) | (refine K_region (id := 1) ?_; refine vl ?_; refine lB S rfl rfl ?_; refine vl ?_; refine lH S ?_; (refine tS ?_ ?_ <;> intro hc) <;> (refine mv ?_; refine KO_nil ?_))))
  all_goals (refine K_ret ⟨_, rfl, ?_⟩)
  all_goals (refine ⟨?_, S.drop⟩; unfold BoolIs)
  · exact .inl ⟨rfl, hc⟩
  · exact .inr ⟨rfl, hc⟩

theorem checkAll_ok {h0 : AH} (w : WfH h0) (v : Value) (l : List Tab) (H : HallR h0 v l) : Fn Tryz.prog Xh 93 [v] h0 (fun r h' => ∃ i e, r = .tuple #[.int .i64 i, .int .i64 e] ∧ ChkAll l i e ∧ Hs h0 h' []) := by
  have S := Hs.start w
  have hl := H.len
  have hr := H.rd
  refine Fn_K (by first | exact KX.no _ _ _ (by decide) rfl) Tryz.func93 rfl rfl ?_
  all_goals (repeat' (first | refine K_seq ?_ | refine k_cond rfl ?_ | refine K_skip ?_ | refine k_block ?_ | (refine K_region (id := 0) ?_; refine mv ?_; refine mv ?_; refine KO_nil ?_) | (refine K_region (id := 1) ?_; refine mv ?_; refine lnB S ?_; (first | (refine cS ?_ ?_ <;> intro hc)) <;> (refine KO_nil ?_)) | (refine K_region (id := 2) ?_; refine mv ?_; refine mv ?_; refine KO_nil ?_) | (refine K_region (id := 3) ?_; refine mv ?_; refine lnB S ?_; refine mv ?_; refine KO_nil ?_)))
  · refine K_ret ⟨_, rfl, ?_⟩
    exact ⟨0, 7, rfl, .inl ⟨by omega, rfl, rfl⟩, S⟩
  · refine k_loop (σ := Nat) (fun i h' => Hs h0 h' [] ∧ i ≤ l.length ∧ ∀ j, j < i → goodAt l j) (fun i => l.length - i) (fun i => [(0, v), (10, v), (11, .int .i64 l.length), (12, .int .i64 i)]) 0 (by repeat (first | exact Ks.le_nil _ | refine Ks.le_cons rfl ?_)) ?_ ?_
    · exact ⟨S, Nat.zero_le _, fun j hj => absurd hj (Nat.not_lt_zero _)⟩
    clear S
    rintro i h ⟨S, h1, h2⟩
    all_goals (repeat' (first | refine K_seq ?_ | refine k_cond rfl ?_ | refine K_skip ?_ | refine K_exit ?_ | refine k_block ?_ | (refine K_region (id := 4) ?_; (first | (refine cS ?_ ?_ <;> intro hc)) <;> (refine KO_nil ?_)) | (refine K_region (id := 5) ?_; refine mv ?_; refine ixB S ?_; refine lEB S ?_; (refine al S ?_; clear S; intro b h S); refine mv ?_; (first | (refine sB S rfl rfl ?_; clear S; intro h S)); refine KO_nil ?_) | (refine K_region (id := 6) ?_; refine lB S rfl rfl ?_) | (refine K_region (id := 12) ?_; refine mv ?_; refine mv ?_; refine KO_nil ?_)))
    · (try simp only [Int.toNat_natCast] at *)
      have hi : i < l.length := by omega
      (refine KO_fn rfl rfl rfl rfl rfl ((hcheck_ok S.wf (tb l i) ((H.tab i hi).ext w S.ext)).mono ?_); rintro _ h ⟨rfl, x⟩) <;> (replace S := S.join0 x; clear x; refine mv ?_; refine KO_nil ?_)
      all_goals (repeat' (first | refine K_seq ?_ | refine k_cond rfl ?_ | refine K_skip ?_ | (refine K_region (id := 7) ?_; refine mv ?_; (first | (refine cS ?_ ?_ <;> intro hc)) <;> (refine KO_nil ?_)) | (refine K_region (id := 8) ?_; refine mv ?_; refine mv ?_; refine mv ?_; refine mv ?_; refine KO_nil ?_) | (refine K_region (id := 9) ?_; refine mv ?_; refine mv ?_)))
      · refine K_ret ⟨_, rfl, ?_⟩
        exact ⟨i, _, rfl, .inr ⟨by omega, .inl ⟨i, hi, rfl, h2, .inl ⟨by simpa using hc, rfl⟩⟩⟩, S.drop⟩
      · refine su 0 i (hr.ext w S.ext) H.cap ?_; intro vs hrs hcs; (refine vl ?_)
        have gb := S.gB (b := b)
        have hlen : ((l.drop 0).take (i - 0)).length = i := by simp; omega
        have hget : ∀ k, k < i → ((l.drop 0).take (i - 0)).getD k default = tb l k := fun k hk => by
          unfold tb
          simp only [List.drop_zero, Nat.sub_zero, List.getD_eq_getElem?_getD, List.getElem?_take, if_pos hk]
        have hf : ∀ k h', k < ((l.drop 0).take (i - 0)).length → Hs h h' [] → Fn Tryz.prog Xh 135 (tabV (((l.drop 0).take (i - 0)).getD k default) :: [.pointer (some ⟨b, 0, none⟩)]) h' (fun v h'' => BoolIs v ((tb l k).name = (tb l i).name) ∧ Hs h' h'' []) := fun k h' hk x => by
          rw [hget k (by omega)]
          exact sameName_ok x.wf (tb l k) (tb l i) b (x.ext.get S.wf gb)
        (refine KO_fn rfl rfl rfl rfl rfl ((containsTab_ok S.wf vs _ 135 [.pointer (some ⟨b, 0, none⟩)] (fun k => (tb l k).name = (tb l i).name) hrs (by omega) hf).mono ?_); rintro _ h ⟨⟨rfl, hq⟩ | ⟨rfl, hq⟩, x⟩) <;> (replace S := S.join0 x; clear x; refine KO_nil ?_)
        all_goals (repeat' (first | refine K_seq ?_ | refine k_cond rfl ?_ | refine K_skip ?_ | (refine K_region (id := 10) ?_; refine mv ?_; refine mv ?_; refine mv ?_; refine KO_nil ?_) | (refine K_region (id := 11) ?_; refine ad ?_; refine mv ?_; refine KO_nil ?_)))
        · refine K_ret ⟨_, rfl, ?_⟩
          obtain ⟨j, hj, hq⟩ := hq
          exact ⟨i, 5, rfl, .inr ⟨by omega, .inl ⟨i, hi, rfl, h2, .inr ⟨by simpa using hc, ⟨j, by omega, hq⟩, rfl⟩⟩⟩, S.drop⟩
        · refine ⟨i + 1, ?_, ?_, (by repeat (first | exact Ks.le_nil _ | refine Ks.le_cons rfl ?_))⟩
          · show l.length - (i + 1) < l.length - i; omega
          · refine ⟨S.drop, by omega, fun j hj => ?_⟩
            rcases Nat.lt_or_ge j i with q | q
            · exact h2 j q
            · obtain rfl : j = i := by omega
              exact ⟨by simpa using hc, fun ⟨k, hk, he⟩ => hq ⟨k, by omega, he⟩⟩
    · refine K_ret ⟨_, rfl, ?_⟩
      exact ⟨0, 0, rfl, .inr ⟨by omega, .inr ⟨fun j hj => h2 j (by omega), rfl, rfl⟩⟩, S⟩

theorem valid_ok {h0 : AH} (w : WfH h0) (v : Value) (l : List Tab) (H : HallR h0 v l) : Fn Tryz.prog Xh 137 [v] h0 (fun r h' => BoolIs r (ValidL l) ∧ Hs h0 h' []) := by
  have S := Hs.start w
  refine Fn_K (by first | exact KX.no _ _ _ (by decide) rfl) Tryz.func137 rfl rfl ?_
  all_goals (repeat' (first | refine K_seq ?_ | (refine K_region (id := 0) ?_; refine mv ?_; refine KO_nil ?_) | (refine K_region (id := 1) ?_; refine mv ?_)))
  (refine KO_fn rfl rfl rfl rfl rfl ((checkAll_ok S.wf v l H).mono ?_); rintro _ h ⟨i, e, rfl, hk, x⟩) <;> (replace S := S.join0 x; clear x; refine mv ?_; refine vl ?_; refine vl ?_; refine mv ?_; refine mv ?_; refine KO_nil ?_)
  all_goals (repeat' (first | refine K_seq ?_ | (refine K_region (id := 2) ?_; refine mv ?_; (first | (refine cS ?_ ?_ <;> intro hc)) <;> (refine mv ?_; refine KO_nil ?_))))
  all_goals (refine K_ret ⟨_, rfl, ?_⟩)
  · exact ⟨.inl ⟨rfl, hk.valid.1 hc⟩, S⟩
  · exact ⟨.inr ⟨rfl, fun q => hc (hk.valid.2 q)⟩, S⟩
end Go.Proofs.Xx

/-
  Seats of tables and halls, first seats, tables by name; the program's and the reference's.
-/
namespace Go.Proofs.Xx
open Go Go.Proofs
set_option linter.unusedSimpArgs false
set_option linter.unusedVariables false
set_option maxRecDepth 100000
set_option linter.unusedSectionVars false
variable {Xh : Extern} [KX Xh]

theorem sumT_le (l : List Tab) : ∀ n, 0 ≤ sumT l n ∧ sumT l n ≤ 24 * n
  | 0 => by simp [sumT]
  | n + 1 => by
    have := sumT_le l n
    have := tsize_le (tb l n)
    simp only [sumT]; omega
open Classical in
noncomputable def seatsV (t : Tab) : Int := if chk t = 0 then tsize t else 0
open Classical in
noncomputable def firstV (l : List Tab) (t : Int) : Int := if 0 ≤ t ∧ t < l.length ∧ ValidL l then sumT l t.toNat else 0
theorem first_ok {h0 : AH} (w : WfH h0) (v : Value) (l : List Tab) (H : HallR h0 v l) (t : Int) : Fn Tryz.prog Xh 138 [v, .int .i64 t] h0 (fun r h' => r = .int .i64 (firstV l t) ∧ Hs h0 h' []) := by
  have S := Hs.start w
  have hl := H.len
  have hr := H.rd
  by_cases ht0 : t < 0
  · refine Fn_K (by first | exact KX.no _ _ _ (by decide) rfl) Tryz.func138 rfl rfl ?_
    all_goals (repeat' (first | refine K_seq ?_ | refine k_cond rfl ?_ | (refine K_region (id := 0) ?_; refine mv ?_; refine KO_nil ?_) | (refine K_region (id := 1) ?_; refine mv ?_; (refine cT ?_) <;> (refine mv ?_; refine off ?_; refine off ?_; refine off ?_; (refine off ?_) <;> (refine vl ?_; refine mv ?_; refine off ?_; (first | (refine off ?_; refine off ?_; refine vl ?_; refine KO_nil ?_))))) | (refine K_region (id := 2) ?_; refine mv ?_; refine KO_nil ?_)))
    all_goals (try omega)
    refine K_ret ⟨_, rfl, ?_⟩
    exact ⟨by unfold firstV; rw [if_neg (by omega)]; rfl, S⟩
  obtain ⟨n, rfl⟩ := Int.eq_ofNat_of_zero_le (show 0 ≤ t by omega)
  refine Fn_K (by first | exact KX.no _ _ _ (by decide) rfl) Tryz.func138 rfl rfl ?_
  all_goals (repeat' (first | refine K_seq ?_ | refine k_cond rfl ?_ | (refine K_region (id := 0) ?_; refine mv ?_; refine KO_nil ?_) | (refine K_region (id := 1) ?_; refine mv ?_; (refine cF ?_) <;> (refine mv ?_; refine mv ?_; refine mv ?_; (first | (refine lnB S ?_)); (first | (first | (refine cS ?_ ?_ <;> intro hc))) <;> (refine vl ?_; refine mv ?_; (first | refine off ?_ | refine mv ?_); (first | (refine off ?_; refine off ?_; refine vl ?_; refine KO_nil ?_) | skip)))) | (refine K_region (id := 2) ?_; refine mv ?_; refine KO_nil ?_)))
  all_goals (try omega)
  · refine K_ret ⟨_, rfl, ?_⟩
    exact ⟨by unfold firstV; rw [if_neg (by omega)]; rfl, S⟩
  · (refine KO_fn rfl rfl rfl rfl rfl ((valid_ok S.wf v l H).mono ?_); rintro _ h ⟨⟨rfl, hq⟩ | ⟨rfl, hq⟩, x⟩) <;> (replace S := S.join0 x; clear x; refine vl ?_; refine vl ?_; refine KO_nil ?_)
    all_goals (repeat' (first | refine K_seq ?_ | refine k_cond rfl ?_ | refine K_skip ?_ | (refine K_region (id := 2) ?_; refine mv ?_; refine KO_nil ?_) | (refine K_region (id := 3) ?_; refine mv ?_; refine KO_nil ?_) | (refine K_region (id := 4) ?_; refine mv ?_; refine mv ?_)))
    · refine su 0 n (hr.ext w S.ext) H.cap ?_; intro vs hrs hcs
      have T := S
      have w1 := S.wf
      replace S := Hs.start w1
      have hlen : ((l.drop 0).take (n - 0)).length = n := by simp; omega
      have hget : ∀ k, k < n → ((l.drop 0).take (n - 0)).getD k default = tb l k := fun k hk => by
        unfold tb
        simp only [List.drop_zero, Nat.sub_zero, List.getD_eq_getElem?_getD, List.getElem?_take, if_pos hk]
      generalize ((l.drop 0).take (n - 0)) = ls at hrs hlen hget
      (refine lnB S ?_); refine mv ?_; refine KO_nil ?_
      all_goals (repeat' (refine k_block ?_))
      refine k_loop (σ := Nat) (fun i h' => Hs h h' [] ∧ i ≤ n) (fun i => n - i) (fun i => [(5, .int .i64 (sumT l i)), (23, vs), (24, .int .i64 n), (25, .int .i64 i)]) 0 (by repeat (first | exact Ks.le_nil _ | refine Ks.le_cons rfl ?_ | refine Ks.le_int ?_)) ?_ ?_
      · exact ⟨S, Nat.zero_le _⟩
      clear S
      rintro i h2 ⟨S, h1⟩
      all_goals (repeat' (first | refine K_seq ?_ | refine k_cond rfl ?_ | refine K_skip ?_ | refine K_exit ?_ | refine k_block ?_ | (refine K_region (id := 5) ?_; (first | (refine cS ?_ ?_ <;> intro hc)) <;> (refine KO_nil ?_)) | (refine K_region (id := 6) ?_; refine ixB S ?_; refine lEB S ?_; (refine al S ?_; clear S; intro b h S); (first | (refine sB S rfl rfl ?_; clear S; intro h S)); refine KO_nil ?_) | (refine K_region (id := 7) ?_; refine mv ?_; refine lB S rfl rfl ?_) | (refine K_region (id := 9) ?_; refine mv ?_; refine mv ?_; refine KO_nil ?_)))
      · (try simp only [Int.toNat_natCast] at *)
        have hi : i < n := by omega
        have b1 := sumT_le l i
        have b2 := tsize_le (ls.getD i default)
        (refine KO_fn rfl rfl rfl rfl rfl ((size_ok S.wf (ls.getD i default)).mono ?_); rintro _ h ⟨rfl, x⟩) <;> (replace S := S.join0 x; clear x; refine ad ?_; refine mv ?_; refine KO_nil ?_)
        rw [hget i hi]
        all_goals (repeat' (first | (refine K_region (id := 8) ?_; refine ad ?_; refine mv ?_; refine KO_nil ?_)))
        refine ⟨i + 1, ?_, ?_, (by repeat (first | exact Ks.le_nil _ | refine Ks.le_cons rfl ?_))⟩
        · show n - (i + 1) < n - i; omega
        · exact ⟨S.drop, by omega⟩
      · refine K_ret ⟨_, rfl, ?_⟩
        have : i = n := by omega
        subst this
        exact ⟨by unfold firstV; rw [if_pos ⟨by omega, by omega, hq⟩, Int.toNat_natCast]; rfl, T.join0 S⟩
    · refine K_ret ⟨_, rfl, ?_⟩
      exact ⟨by unfold firstV; rw [if_neg (fun q => hq q.2.2)]; rfl, S⟩
theorem lastSize_ok {h0 : AH} (w : WfH h0) (v : Value) (l : List Tab) (H : HallR h0 v l) : Fn Tryz.prog Xh 139 [v] h0 (fun r h' => r = .int .i64 (if l.length = 0 then 0 else tsize (tb l (l.length - 1))) ∧ Hs h0 h' []) := by
  have S := Hs.start w
  have hl := H.len
  have hr := H.rd
  refine Fn_K (by first | exact KX.no _ _ _ (by decide) rfl) Tryz.func139 rfl rfl ?_
  all_goals (repeat' (first | refine K_seq ?_ | refine k_cond rfl ?_ | refine K_skip ?_ | (refine K_region (id := 0) ?_; refine mv ?_; refine KO_nil ?_) | (refine K_region (id := 1) ?_; refine mv ?_; refine lnB S ?_; (first | (refine cS ?_ ?_ <;> intro hc)) <;> (refine KO_nil ?_)) | (refine K_region (id := 2) ?_; refine mv ?_; refine KO_nil ?_) | (refine K_region (id := 3) ?_; refine mv ?_; refine mv ?_; refine lnB S ?_; refine sb ?_; refine ixB S ?_; refine lEB S ?_)))
  · refine K_ret ⟨_, rfl, ?_⟩
    exact ⟨by rw [if_pos (by omega)]; rfl, S⟩
  · (refine KO_fn rfl rfl rfl rfl rfl ((size_ok S.wf _).mono ?_); rintro _ h ⟨rfl, x⟩) <;> (replace S := S.join0 x; clear x; refine mv ?_; refine KO_nil ?_)
    all_goals (repeat' (fail))
    refine K_ret ⟨_, rfl, ?_⟩
    exact ⟨by rw [if_neg (by omega), show l.length - 1 = ((l.length : Int) - 1).toNat by omega]; rfl, S⟩
open Classical in
noncomputable def countV (l : List Tab) : Int := if ValidL l then sumT l l.length else 0
theorem count_ok {h0 : AH} (w : WfH h0) (v : Value) (l : List Tab) (H : HallR h0 v l) : Fn Tryz.prog Xh 95 [v] h0 (fun r h' => r = .int .i64 (countV l) ∧ Hs h0 h' []) := by
  have S := Hs.start w
  have hl := H.len
  have hr := H.rd
  refine Fn_K (by first | exact KX.no _ _ _ (by decide) rfl) Tryz.func95 rfl rfl ?_
  all_goals (repeat' (first | refine K_seq ?_ | (refine K_region (id := 0) ?_; refine mv ?_; refine KO_nil ?_) | (refine K_region (id := 1) ?_; refine mv ?_)))
  (refine KO_fn rfl rfl rfl rfl rfl ((valid_ok S.wf v l H).mono ?_); rintro _ h ⟨⟨rfl, hq⟩ | ⟨rfl, hq⟩, x⟩) <;> (replace S := S.join0 x; clear x; refine vl ?_; refine KO_nil ?_)
  all_goals (repeat' (first | refine K_seq ?_ | refine k_cond rfl ?_ | refine K_skip ?_ | (refine K_region (id := 2) ?_; refine mv ?_; refine KO_nil ?_) | (refine K_region (id := 3) ?_; refine mv ?_; refine mv ?_; refine lnB S ?_; refine sb ?_)))
  · have hs : firstV l ((l.length : Int) - 1) + (if l.length = 0 then 0 else tsize (tb l (l.length - 1))) = sumT l l.length := by
      unfold firstV
      cases hk : l.length with
      | zero => rw [if_neg (by omega)]; simp [sumT]
      | succ k => rw [if_pos ⟨by omega, by omega, hq⟩, if_neg (by omega), show ((k + 1 : Nat) : Int) - 1 = (k : Int) by omega, Int.toNat_natCast, Nat.add_sub_cancel]; rfl
    have b1 := sumT_le l l.length
    (refine KO_fn rfl rfl rfl rfl rfl ((first_ok S.wf v l (H.ext w S.ext) _).mono ?_); rintro _ h ⟨rfl, x⟩) <;> (replace S := S.join0 x; clear x; refine mv ?_)
    (refine KO_fn rfl rfl rfl rfl rfl ((lastSize_ok S.wf v l (H.ext w S.ext)).mono ?_); rintro _ h ⟨rfl, x⟩) <;> (replace S := S.join0 x; clear x; refine ad ?_; refine mv ?_; refine KO_nil ?_)
    all_goals (repeat' (fail))
    refine K_ret ⟨_, rfl, ?_⟩
    exact ⟨by unfold countV; rw [if_pos hq, ← hs]; rfl, S⟩
  · refine K_ret ⟨_, rfl, ?_⟩
    exact ⟨by unfold countV; rw [if_neg hq]; rfl, S⟩

theorem findName_ok {h0 : AH} (w : WfH h0) (t : Tab) (nm : List UInt8) (b : Nat) (hb : h0.get b = some (.cells [str nm] 9 none false)) : Fn Tryz.prog Xh 157 [tabV t, .pointer (some ⟨b, 0, none⟩)] h0 (fun v h' => BoolIs v (t.name = nm) ∧ Hs h0 h' []) := by
  have S := Hs.start w
  refine Fn_K (by first | exact KX.no _ _ _ (by decide) rfl) Tryz.func157 rfl rfl ?_
  all_goals (repeat' (first | refine K_seq ?_ | (refine K_region (id := 0) ?_; (refine bx S ?_; clear S; intro b h S); refine mv ?_; refine KO_nil ?_) | (refine K_region (id := 1) ?_; refine vl ?_; refine lB S rfl rfl ?_; refine lH S ?_; (refine tS ?_ ?_ <;> intro hc) <;> (refine mv ?_; refine KO_nil ?_))))
  all_goals (refine K_ret ⟨_, rfl, ?_⟩)
  all_goals (refine ⟨?_, S.drop⟩; unfold BoolIs)
  · exact .inl ⟨rfl, hc⟩
  · exact .inr ⟨rfl, hc⟩
def FindIs (l : List Tab) (nm : List UInt8) (v : Value) : Prop :=
  (∃ k : Nat, v = .tuple #[.int .i64 k, .bool true] ∧ ValidL l ∧ k < l.length ∧ (tb l k).name = nm ∧ ∀ j, j < k → ¬ (tb l j).name = nm) ∨
  (v = .tuple #[.int .i64 0, .bool false] ∧ (¬ ValidL l ∨ ∀ j, j < l.length → ¬ (tb l j).name = nm))
theorem hfind_ok {h0 : AH} (w : WfH h0) (v : Value) (l : List Tab) (H : HallR h0 v l) (nm : List UInt8) : Fn Tryz.prog Xh 117 [v, str nm] h0 (fun r h' => FindIs l nm r ∧ Hs h0 h' []) := by
  have S := Hs.start w
  have hl := H.len
  have hr := H.rd
  refine Fn_K (by first | exact KX.no _ _ _ (by decide) rfl) Tryz.func117 rfl rfl ?_
  all_goals (repeat' (first | refine K_seq ?_ | (refine K_region (id := 0) ?_; (refine bx S ?_; clear S; intro b h S); refine mv ?_; refine mv ?_; refine KO_nil ?_) | (refine K_region (id := 1) ?_; refine mv ?_; refine vl ?_)))
  have gb := S.gB (b := b)
  have hf : ∀ i h', i < l.length → Hs h h' [] → Fn Tryz.prog Xh 157 (tabV (l.getD i default) :: [.pointer (some ⟨b, 0, none⟩)]) h' (fun v h'' => BoolIs v ((tb l i).name = nm) ∧ Hs h' h'' []) := fun i h' hi x => findName_ok x.wf (tb l i) nm b (x.ext.get S.wf gb)
  (refine KO_fn rfl rfl rfl rfl rfl ((indexTab_ok S.wf v l 157 [.pointer (some ⟨b, 0, none⟩)] (fun i => (tb l i).name = nm) (hr.ext w S.ext) (by omega) hf).mono ?_); rintro _ h ⟨⟨k, hk, rfl, hq, hn⟩ | ⟨rfl, hn⟩, x⟩) <;> (replace S := S.join0 x; clear x; refine mv ?_; refine KO_nil ?_)
  all_goals (repeat' (first | refine K_seq ?_ | refine k_cond rfl ?_ | (refine K_region (id := 2) ?_; refine mv ?_; (first | refine cT ?_ | refine cF ?_) <;> (refine mv ?_; (first | refine off ?_ | refine mv ?_); (first | (refine off ?_; refine off ?_; refine vl ?_; refine KO_nil ?_) | skip))) | (refine K_region (id := 3) ?_; refine mv ?_; refine mv ?_; refine KO_nil ?_)))
  all_goals (try omega)
  · (refine KO_fn rfl rfl rfl rfl rfl ((valid_ok S.wf v l (H.ext w S.ext)).mono ?_); rintro _ h ⟨⟨rfl, hv⟩ | ⟨rfl, hv⟩, x⟩) <;> (replace S := S.join0 x; clear x; refine vl ?_; refine vl ?_; refine KO_nil ?_)
    all_goals (repeat' (first | refine K_seq ?_ | refine k_cond rfl ?_ | refine K_skip ?_ | (refine K_region (id := 3) ?_; refine mv ?_; refine mv ?_; refine KO_nil ?_) | (refine K_region (id := 4) ?_; refine mv ?_; refine mv ?_; refine mv ?_; refine KO_nil ?_)))
    all_goals (refine K_ret ⟨_, rfl, ?_⟩)
    · exact ⟨.inl ⟨k, rfl, hv, hk, hq, hn⟩, S.drop⟩
    · exact ⟨.inr ⟨rfl, .inl hv⟩, S.drop⟩
  · refine K_ret ⟨_, rfl, ?_⟩
    exact ⟨.inr ⟨rfl, .inr hn⟩, S.drop⟩

end Go.Proofs.Xx

/-
  The size of a table as a known function; a right hall as a known answer.
-/
namespace Go.Proofs.Xx
set_option linter.unusedSectionVars false
set_option linter.unusedSimpArgs false
open Go Go.RowKit
set_option linter.unusedVariables false
set_option maxRecDepth 100000
def withSize (X : Extern) : Extern := fun g args h => match Nat.beq g 158, args with
  | true, [.agg cs] => match cs.toList with
    | [.string _, .int .u8 s, .int .i64 a, .int .i64 b, .slice p n c, .int .i64 x, .int .i64 y] => some (.int .i64 (sizeOf1 s a b), h.lo0)
    | _ => X g args h
  | _, _ => X g args h
theorem int_back (k : IntKind) (n : Int) : ∀ e v', VR e (.int k n) v' → ∀ e2, VR e2 (.int k n) v' := fun e v' q e2 => by cases q; exact .int k n
theorem withSize_ok {X : Extern} (hX : XOk Tryz.prog X) : XOk Tryz.prog (withSize X) := by
  intro g args h u h1 hx B e w args' r hargs
  unfold withSize at hx
  split at hx
  · rename_i cs hg
    have hg := Nat.eq_of_beq_eq_true hg
    subst hg
    split at hx
    · rename_i st s a b p n c x y hcs
      cases hx
      have ha : [Value.agg cs] = [tabV ⟨st.data.toList, s, a, b, ⟨p, n, c⟩, [], x, y⟩] := by
        unfold tabV eT
        rw [← Array.toArray_toList (xs := cs), hcs]
        rfl
      obtain ⟨n1, v1, h2, hc, rfl, x1⟩ := size_ok (Xh := Xa) r.wf ⟨st.data.toList, s, a, b, ⟨p, n, c⟩, [], x, y⟩
      rw [← ha] at hc
      exact CallOk.keep (callA_sound Xa_ok noNumG (exec_sound follows Xa_ok noNumG n1)) hc (fun b hb => x1.ext.old b hb) (int_back _ _) B e w args' r hargs
    · exact hX _ _ _ _ _ hx B e w args' r hargs
  · exact hX _ _ _ _ _ hx B e w args' r hargs
def int64? : Value → Option Int
  | .int .i64 n => some n
  | _ => none
def ints? : List Value → Option (List Int)
  | [] => some []
  | v :: r => match int64? v, ints? r with
    | some n, some l => some (n :: l)
    | _, _ => none
theorem ints?_eq : ∀ {l : List Value} {m : List Int}, ints? l = some m → l = m.flatMap eI ∧ m.length = l.length
  | [], m, h => by cases h; exact ⟨rfl, rfl⟩
  | v :: r, m, h => by
    unfold ints? at h
    split at h
    · rename_i n l h1 h2
      cases h
      obtain ⟨e1, e2⟩ := ints?_eq h2
      unfold int64? at h1
      split at h1
      · cases h1
        exact ⟨by rw [List.flatMap_cons, ← e1]; rfl, by simp [e2]⟩
      · cases h1
    · cases h
/-- The ints that a slice reads as. -/
def rdInts (h : AH) : Option Addr → Nat → Nat → Option (List Int)
  | none, 0, 0 => some []
  | some ⟨b, o, none⟩, n, _ => match h.get b with
    | some (.cells cs _ _ _) => match takeAt cs o n with
      | some l => ints? l
      | none => none
    | _ => none
  | _, _, _ => none
theorem rdInts_ok {h : AH} {p : Option Addr} {n c : Nat} {l : List Int} (q : rdInts h p n c = some l) : RdL h (.slice p n c) 1 eI l := by
  unfold rdInts at q
  split at q
  · cases q; exact .inl ⟨rfl, rfl, rfl⟩
  · split at q
    · rename_i cs e s r hg
      split at q
      · rename_i l2 ht
        obtain ⟨e1, e2⟩ := ints?_eq q
        have hl : l2.length = n := takeAt_len ht
        refine .inr ⟨_, _, _, cs, e, s, r, by rw [e2, hl], hg, ?_⟩
        rw [e2, hl, Nat.mul_one, ← e1]; exact ht
      · cases q
    · cases q
  · cases q
/-- The tables that k pieces of seven cells read as. -/
def parseT (h : AH) : Nat → List Value → Option (List Tab)
  | 0, [] => some []
  | k + 1, .string st :: .int .u8 s :: .int .i64 a :: .int .i64 b :: .slice p n c :: .int .i64 x :: .int .i64 y :: r => match rdInts h p n c, parseT h k r with
    | some o, some l => some (⟨st.data.toList, s, a, b, ⟨p, n, c⟩, o, x, y⟩ :: l)
    | _, _ => none
  | _, _ => none
theorem parseT_ok {h : AH} : ∀ {k : Nat} {cs : List Value} {l : List Tab}, parseT h k cs = some l → cs = l.flatMap eT ∧ l.length = k ∧ ∀ t ∈ l, RdL h t.ov 1 eI t.opn
  | 0, cs, l, q => by
    unfold parseT at q
    split at q
    · cases q; exact ⟨rfl, rfl, fun t ht => by cases ht⟩
    · rename_i h0; cases h0
    · cases q
  | k + 1, cs, l, q => by
    unfold parseT at q
    split at q
    · rename_i h0; cases h0
    · rename_i k' st s a b p n c x y r h0
      cases h0
      split at q
      · rename_i o l2 h1 h2
        cases q
        obtain ⟨e1, e2, e3⟩ := parseT_ok h2
        refine ⟨by rw [List.flatMap_cons, ← e1]; rfl, by simp [e2], fun t ht => ?_⟩
        rcases List.mem_cons.1 ht with rfl | ht
        · exact rdInts_ok h1
        · exact e3 t ht
      · cases q
    · cases q
def readT (h : AH) : Value → Option (List Tab)
  | .slice (some ⟨b, o, none⟩) n _ => match h.get b with
    | some (.cells cs _ _ _) => match takeAt cs o (n * 7) with
      | some l => parseT h n l
      | none => none
    | _ => none
  | _ => none
theorem readT_ok {h : AH} {v : Value} {l : List Tab} (q : readT h v = some l) : RdL h v 7 eT l ∧ ∀ t ∈ l, RdL h t.ov 1 eI t.opn := by
  unfold readT at q
  split at q
  · split at q
    · rename_i cs e s r hg
      split at q
      · rename_i l2 ht
        obtain ⟨e1, e2, e3⟩ := parseT_ok q
        refine ⟨.inr ⟨_, _, _, cs, e, s, r, by rw [e2], hg, ?_⟩, e3⟩
        rw [e2, ← e1]; exact ht
      · cases q
    · cases q
  · cases q
def okO (n : Int) : Int → List Int → Bool
  | _, [] => true
  | lo, x :: r => decide (lo < x) && (decide (x < n) && okO n x r)
theorem okO_ok {n : Int} : ∀ {l : List Int} {lo : Int}, okO n lo l = true → ∀ i, i < l.length → lo < l.getD i default ∧ l.getD i default < n ∧ (0 < i → l.getD (i - 1) default < l.getD i default)
  | [], lo, h, i, hi => absurd hi (Nat.not_lt_zero _)
  | x :: r, lo, h, i, hi => by
    unfold okO at h
    simp only [Bool.and_eq_true, decide_eq_true_eq] at h
    obtain ⟨h1, h2, h3⟩ := h
    have ih := okO_ok h3
    cases i with
    | zero => exact ⟨h1, h2, fun q => absurd q (Nat.lt_irrefl _)⟩
    | succ i =>
      obtain ⟨q1, q2, q3⟩ := ih i (by simpa using hi)
      refine ⟨Int.lt_trans h1 q1, q2, fun _ => ?_⟩
      cases i with
      | zero => exact q1
      | succ i => exact q3 (Nat.succ_pos _)
def okT (t : Tab) : Bool := (decide (1 ≤ t.name.length) && (decide (t.name.length ≤ 12) && t.name.all fun x => decide (97 ≤ x.toNat) && decide (x.toNat ≤ 122))) && (!decide (tsize t = 0) && (okO (tsize t) (-1) t.opn && (decide (0 ≤ t.X) && (decide (t.X ≤ 1000) && (decide (0 ≤ t.Y) && (decide (t.Y ≤ 1000) && decide (t.opn.length ≤ 1000)))))))
theorem okT_ok {t : Tab} (h : okT t = true) : chk t = 0 ∧ t.name.length ≤ 1000 ∧ t.opn.length ≤ 1000 := by
  unfold okT at h
  simp only [Bool.and_eq_true, decide_eq_true_eq, Bool.not_eq_true', decide_eq_false_iff_not, List.all_eq_true] at h
  obtain ⟨⟨h1, h2, h3⟩, h4, h5, h6, h7, h8, h9, h10⟩ := h
  refine ⟨?_, by omega, h10⟩
  have hn : nameP t.name := ⟨h1, h2, fun i hi => h3 _ (by rw [List.getD_eq_getElem?_getD, List.getElem?_eq_getElem hi]; exact List.getElem_mem hi)⟩
  have ho : OpnOk (tsize t) t.opn := fun i hi => by
    obtain ⟨q1, q2, q3⟩ := okO_ok h5 i hi
    exact ⟨⟨by omega, q2⟩, q3⟩
  unfold chk
  rw [if_neg (fun q => q hn), if_neg h4, if_neg (fun q => q ho), if_neg (fun q => q ⟨h6, h7, h8, h9⟩)]
def okN : List Tab → Bool
  | [] => true
  | t :: r => (r.all fun u => !decide (t.name = u.name)) && okN r
theorem okN_ok : ∀ {l : List Tab}, okN l = true → ∀ i j, i < j → j < l.length → (tb l i).name ≠ (tb l j).name
  | [], h, i, j, _, hj => absurd hj (Nat.not_lt_zero _)
  | t :: r, h, i, j, hij, hj => by
    unfold okN at h
    simp only [Bool.and_eq_true, List.all_eq_true, Bool.not_eq_true', decide_eq_false_iff_not] at h
    cases j with
    | zero => exact absurd hij (Nat.not_lt_zero _)
    | succ j =>
      cases i with
      | zero =>
        have hj' : j < r.length := by simpa using hj
        refine h.1 (tb r j) ?_
        unfold tb
        rw [List.getD_eq_getElem?_getD, List.getElem?_eq_getElem hj']; exact List.getElem_mem hj'
      | succ i => exact okN_ok h.2 i j (by omega) (by simpa using hj)
def capB : Value → Bool
  | .slice _ n c => Nat.ble n c
  | _ => true
def okH (v : Value) (l : List Tab) : Bool := Nat.ble l.length 16 && (l.all okT && (okN l && capB v))
def withHall (X : Extern) : Extern := fun g args h => match Nat.beq g 93, args with
  | true, [v] => match readT h v with
    | some l => match okH v l with
      | true => some (.tuple #[.int .i64 0, .int .i64 0], h.lo0)
      | false => X g args h
    | none => X g args h
  | _, _ => X g args h
theorem withHall_ok {X : Extern} (hX : XOk Tryz.prog X) : XOk Tryz.prog (withHall X) := by
  intro g args h u h1 hx B e w args' r hargs
  unfold withHall at hx
  split at hx
  · rename_i v hg
    have hg := Nat.eq_of_beq_eq_true hg
    subst hg
    split at hx
    · rename_i l hl
      split at hx
      · rename_i hk
        cases hx
        obtain ⟨r1, r2⟩ := readT_ok hl
        unfold okH at hk
        simp only [Bool.and_eq_true, List.all_eq_true] at hk
        obtain ⟨k1, k2, k3, k4⟩ := hk
        have k1 := Nat.le_of_ble_eq_true k1
        have mem : ∀ i, i < l.length → tb l i ∈ l := fun i hi => by unfold tb; rw [List.getD_eq_getElem?_getD, List.getElem?_eq_getElem hi]; exact List.getElem_mem hi
        have hc : CapOk v := by
          cases v <;> first | exact Nat.le_of_ble_eq_true k4 | trivial
        have H : HallR h v l := ⟨r1, fun i hi => ⟨r2 _ (mem i hi), (okT_ok (k2 _ (mem i hi))).2⟩, by omega, hc⟩
        have hv : ∀ j, j < l.length → goodAt l j := fun j hj => ⟨(okT_ok (k2 _ (mem j hj))).1, fun ⟨i, hi, he⟩ => okN_ok k3 i j hi hj he⟩
        obtain ⟨n1, v1, h2, hc1, ⟨i, e1, rfl, hk, x1⟩⟩ := checkAll_ok (Xh := Xa) r.wf v l H
        obtain ⟨rfl, rfl⟩ := hk.uniq (i' := 0) (e' := 0) (.inr ⟨k1, .inr ⟨hv, rfl, rfl⟩⟩)
        refine CallOk.keep (callA_sound Xa_ok noNumG (exec_sound follows Xa_ok noNumG n1)) hc1 (fun b hb => x1.ext.old b hb) (fun e v' q e2 => ?_) B e w args' r hargs
        cases q with
        | tuple _ c' q =>
          refine .tuple [.int .i64 0, .int .i64 0] c' ?_
          cases q with
          | cons _ _ _ _ q1 q2 =>
            cases q2 with
            | cons _ _ _ _ q3 q4 =>
              cases q4
              exact .cons _ _ _ _ (int_back _ _ _ _ q1 _) (.cons _ _ _ _ (int_back _ _ _ _ q3 _) .nil)
      · exact hX _ _ _ _ _ hx B e w args' r hargs
    · exact hX _ _ _ _ _ hx B e w args' r hargs
  · exact hX _ _ _ _ _ hx B e w args' r hargs
end Go.Proofs.Xx

/-
  The service's examples, run; what is known of the functions that are called.
-/
namespace Go.Proofs.Xx
set_option linter.unusedSectionVars false
set_option linter.unusedSimpArgs false
open Go Go.RowKit
set_option linter.unusedVariables false
set_option maxRecDepth 100000
theorem awake_run : (match callA Tryz.prog (withSize (withHall Xa)) (exec Tryz.prog (withSize (withHall Xa)) 3000) 12 [] ⟨.e, 0, 0⟩ with | some (.bool true, _) => true | _ => false) = true := by decide +kernel
/-- What is known of the functions that are called. -/
def Xh : Extern := withKnown Xa 12 true
theorem Xh_ok : XOk Tryz.prog Xh := by
  have h := awake_run
  split at h
  · rename_i h' hc
    exact withKnown_ok Xa_ok (callA_sound (withSize_ok (withHall_ok Xa_ok)) noNumG (exec_sound follows (withSize_ok (withHall_ok Xa_ok)) noNumG 3000)) hc
  · cases h
instance kxH : KX Xh := ⟨fun f args h q r => by
  unfold Xh withKnown
  split
  · rename_i hg
    exact absurd (Nat.eq_of_beq_eq_true hg) q
  · exact r⟩
end Go.Proofs.Xx

/-
  Names; guests and the checks of a guest, the program's and the reference's.
-/
namespace Go.Proofs.Xx
set_option linter.unusedSectionVars false
open Go Go.Proofs
set_option linter.unusedSimpArgs false
set_option linter.unusedVariables false
set_option maxRecDepth 100000

variable [Flag]
theorem awake_ok {h0 : AH} : Fn Tryz.prog Xh 12 [] h0 (fun v h' => v = .bool true ∧ h' = h0) := Fn_known rfl ⟨rfl, rfl⟩
theorem name_ok {h : AH} (s : List UInt8) : Fn Tryz.prog Xh 222 [str s] h (fun v h' => BoolIs v (nameP s) ∧ h' = h) := by
  refine Fn_K (by first | rfl | exact KX.no _ _ _ (by decide) rfl) Tryz.func222 rfl rfl ?_
  all_goals (repeat' (first | refine K_seq ?_ | refine k_cond rfl ?_ | refine K_skip ?_ | refine K_exit ?_ | refine k_block ?_ | refine K_scope ?_ | refine K_label ?_ | (refine K_region (id := 0) ?_; refine mv ?_; refine KO_nil ?_) | (refine K_region (id := 1) ?_; refine mv ?_; refine tl ?_; (first | refine cT ?_ | refine cF ?_ | (refine cS ?_ ?_ <;> intro hc)) <;> (refine mv ?_; (first | refine off ?_ | refine mv ?_); (first | refine off ?_ | refine tl ?_); (first | refine off ?_ | (first | refine cT ?_ | refine cF ?_ | (refine cS ?_ ?_ <;> intro hc))) <;> (refine vl ?_; refine KO_nil ?_))) | (refine K_region (id := 2) ?_; refine mv ?_; refine KO_nil ?_)))
  · refine K_ret ⟨_, rfl, ?_⟩
    exact ⟨.inr ⟨rfl, fun q => by have := q.1; omega⟩, rfl⟩
  · refine K_ret ⟨_, rfl, ?_⟩
    exact ⟨.inr ⟨rfl, fun q => by have := q.2.1; omega⟩, rfl⟩
  all_goals (repeat' (first | refine K_seq ?_ | refine k_cond rfl ?_ | refine K_skip ?_ | refine K_exit ?_ | refine k_block ?_ | refine K_scope ?_ | refine K_label ?_ | (refine K_region (id := 3) ?_; refine mv ?_; refine tl ?_; refine mv ?_; refine KO_nil ?_)))
  refine k_loop (σ := Nat) (fun i h' => h' = h ∧ i ≤ s.length ∧ ∀ j, j < i → lowB (s.getD j default)) (fun i => s.length - i) (fun i => [(0, str s), (13, .int .i64 s.length), (14, .int .i64 i)]) 0 (by repeat (first | exact Ks.le_nil _ | refine Ks.le_cons rfl ?_ | refine Ks.le_int ?_)) ?_ ?_
  · exact ⟨rfl, Nat.zero_le _, fun j hj => absurd hj (Nat.not_lt_zero _)⟩
  rintro i h ⟨rfl, h1, h2⟩
  all_goals (repeat' (first | refine K_seq ?_ | refine k_cond rfl ?_ | refine K_skip ?_ | refine K_exit ?_ | refine k_block ?_ | refine K_scope ?_ | refine K_label ?_ | (refine K_region (id := 4) ?_; (first | refine cT ?_ | refine cF ?_ | (refine cS ?_ ?_ <;> intro hc)) <;> (refine KO_nil ?_)) | (refine K_region (id := 5) ?_; refine mv ?_; refine mv ?_; refine KO_nil ?_) | (refine K_region (id := 6) ?_; refine mv ?_; refine mv ?_; (first | refine ti ?_ | refine vl ?_); (first | refine cT ?_ | refine cF ?_ | (refine cS ?_ ?_ <;> intro hc)) <;> (refine mv ?_; (first | refine off ?_ | refine mv ?_); (first | refine off ?_ | refine mv ?_); (first | refine off ?_ | (first | refine ti ?_ | refine vl ?_)); (first | refine off ?_ | (first | refine cT ?_ | refine cF ?_ | (refine cS ?_ ?_ <;> intro hc))) <;> (refine vl ?_; refine KO_nil ?_))) | (refine K_region (id := 7) ?_; refine mv ?_; refine KO_nil ?_) | (refine K_region (id := 8) ?_; (first | refine ad ?_ | refine vl ?_); refine mv ?_; refine KO_nil ?_) | (refine K_region (id := 9) ?_; refine mv ?_; refine KO_nil ?_)))
  all_goals (try simp only [Int.toNat_natCast] at *)
  · refine K_ret ⟨_, rfl, ?_⟩
    exact ⟨.inr ⟨rfl, fun q => by have := q.2.2 i (by omega); unfold lowB at this; simp only [u8def] at this; omega⟩, rfl⟩
  · refine K_ret ⟨_, rfl, ?_⟩
    exact ⟨.inr ⟨rfl, fun q => by have := q.2.2 i (by omega); unfold lowB at this; simp only [u8def] at this; omega⟩, rfl⟩
  · refine ⟨i + 1, ?_, ?_, (by repeat (first | exact Ks.le_nil _ | refine Ks.le_cons rfl ?_ | refine Ks.le_int ?_))⟩
    · show s.length - (i + 1) < s.length - i; omega
    · refine ⟨rfl, by omega, nxtD h2 ?_⟩
      unfold lowB
      simp only [u8def]
      omega
  · refine K_ret ⟨_, rfl, ?_⟩
    exact ⟨.inl ⟨rfl, by omega, by omega, fun j hj => h2 j (by omega)⟩, rfl⟩
theorem some_ok {h : AH} (s : List UInt8) : Fn Tryz.prog Xh 223 [str s] h (fun v h' => BoolIs v (someP s) ∧ h' = h) := by
  refine Fn_K (by first | rfl | exact KX.no _ _ _ (by decide) rfl) Tryz.func223 rfl rfl ?_
  all_goals (repeat' (first | refine K_seq ?_ | refine k_cond rfl ?_ | refine K_skip ?_ | refine K_exit ?_ | refine k_block ?_ | refine K_scope ?_ | refine K_label ?_ | (refine K_region (id := 0) ?_; refine mv ?_; refine KO_nil ?_) | (refine K_region (id := 1) ?_; refine mv ?_; (refine tS ?_ ?_ <;> intro hc) <;> (refine mv ?_; (first | refine off ?_ | refine mv ?_); (first | (refine off ?_; refine vl ?_; refine mv ?_; refine KO_nil ?_) | skip)))))
  · refine K_ret ⟨_, rfl, ?_⟩
    exact ⟨.inl ⟨rfl, .inl hc⟩, rfl⟩
  (refine KO_fn rfl rfl rfl rfl rfl ((name_ok s).mono ?_); rintro _ _ ⟨⟨rfl, hq⟩ | ⟨rfl, hq⟩, rfl⟩) <;> (refine vl ?_; refine mv ?_; refine KO_nil ?_)
  all_goals (all_goals (repeat' (first | refine K_seq ?_ | refine k_cond rfl ?_ | refine K_skip ?_ | refine K_exit ?_ | refine k_block ?_ | refine K_scope ?_ | refine K_label ?_)))
  all_goals (refine K_ret ⟨_, rfl, ?_⟩)
  · exact ⟨.inl ⟨rfl, .inr hq⟩, rfl⟩
  · exact ⟨.inr ⟨rfl, fun q => by rcases q with q | q; exact hc q; exact hq q⟩, rfl⟩
end Go.Proofs.Xx

/-
  Guests; the check of a guest, the program's and the reference's.
-/
namespace Go.Proofs.Xx
set_option linter.unusedSectionVars false
open Go Go.Proofs
set_option linter.unusedSimpArgs false
set_option linter.unusedVariables false
set_option maxRecDepth 100000

/-- What a guest is, wherever its tongues lie. -/
structure Gu where
  name : List UInt8
  rank : List UInt8
  court : List UInt8
  since : Int
  side : Int
  diet : List UInt8
  host : Bool
  access : Bool
  tg : List (List UInt8)
instance : Inhabited Gu := ⟨⟨[], [], [], 0, 0, [], false, false, []⟩⟩
structure Gst extends Gu where
  tv : SlV
instance : Inhabited Gst := ⟨⟨default, ⟨none, 0, 0⟩⟩⟩
def gV (g : Gst) : Value := .agg #[str g.name, str g.rank, str g.court, .int .i64 g.since, .int .i64 g.side, str g.diet, .bool g.host, .bool g.access, g.tv.val]
def eG (g : Gst) : List Value := [str g.name, str g.rank, str g.court, .int .i64 g.since, .int .i64 g.side, str g.diet, .bool g.host, .bool g.access, g.tv.val]
/-- What a guest's tongues read as. -/
def GstR (h : AH) (g : Gst) : Prop := RdL h g.tv.val 1 eS g.tg ∧ g.tg.length ≤ 9223372036854775807
def TgOk (l : List (List UInt8)) : Prop := ∀ i, i < l.length → nameP (l.getD i default) ∧ (0 < i → sLt (l.getD (i - 1) default) (l.getD i default))
def NmsOk (g : Gu) : Prop := nameP g.name ∧ someP g.rank ∧ someP g.court ∧ someP g.diet
open Classical in
noncomputable def chkG (g : Gu) : Int :=
  if ¬ NmsOk g then 4
  else if ¬ (0 ≤ g.since ∧ g.since ≤ 9999) then 21
  else if ¬ (0 ≤ g.side ∧ g.side ≤ 2) then 20
  else if ¬ (g.tg.length ≤ 4 ∧ TgOk g.tg) then 22
  else 0
theorem chkG_4 {g : Gu} (h : ¬ NmsOk g) : chkG g = 4 := by unfold chkG; rw [if_pos h]
theorem chkG_21 {g : Gu} (h : NmsOk g) (h2 : ¬ (0 ≤ g.since ∧ g.since ≤ 9999)) : chkG g = 21 := by unfold chkG; rw [if_neg (by simpa using h), if_pos h2]
theorem chkG_20 {g : Gu} (h : NmsOk g) (h2 : 0 ≤ g.since ∧ g.since ≤ 9999) (h3 : ¬ (0 ≤ g.side ∧ g.side ≤ 2)) : chkG g = 20 := by
  unfold chkG; rw [if_neg (by simpa using h), if_neg (by simpa using h2), if_pos h3]
theorem chkG_22 {g : Gu} (h : NmsOk g) (h2 : 0 ≤ g.since ∧ g.since ≤ 9999) (h3 : 0 ≤ g.side ∧ g.side ≤ 2) (h4 : ¬ (g.tg.length ≤ 4 ∧ TgOk g.tg)) : chkG g = 22 := by
  unfold chkG; rw [if_neg (by simpa using h), if_neg (by simpa using h2), if_neg (by simpa using h3), if_pos h4]
theorem chkG_0 {g : Gu} (h : NmsOk g) (h2 : 0 ≤ g.since ∧ g.since ≤ 9999) (h3 : 0 ≤ g.side ∧ g.side ≤ 2) (h4 : g.tg.length ≤ 4 ∧ TgOk g.tg) : chkG g = 0 := by
  unfold chkG; rw [if_neg (by simpa using h), if_neg (by simpa using h2), if_neg (by simpa using h3), if_neg (by simpa using h4)]
variable [Flag]
theorem check_ok {h0 : AH} (w : WfH h0) (g : Gst) (r : GstR h0 g) : Fn Tryz.prog Xh 187 [gV g] h0 (fun v h' => v = .int .i64 (chkG g.toGu) ∧ Hs h0 h' []) := by
  have S := Hs.start w
  have hr : RdL h0 g.tv.val 1 eS g.tg := r.1
  have hbig := r.2
  unfold gV
  refine Fn_K (by first | rfl) Tryz.func187 rfl rfl ?_
  all_goals (repeat' (first | refine K_seq ?_ | refine k_block ?_ | (refine K_region (id := 0) ?_; (refine bx S ?_; clear S; intro b h S); refine mv ?_; refine KO_nil ?_)))
  all_goals (repeat' (first | (refine K_region (id := 1) ?_; refine vl ?_; refine lB S rfl rfl ?_)))
  (refine KO_fn rfl rfl rfl rfl rfl ((name_ok g.name).mono ?_); rintro _ _ ⟨⟨rfl, q1⟩ | ⟨rfl, q1⟩, rfl⟩) <;> (refine vl ?_; refine mv ?_; (first | refine off ?_ | (refine vl ?_)); (first | refine off ?_ | (refine lB S rfl rfl ?_)); (first | (refine off ?_; refine off ?_; refine vl ?_; refine mv ?_; refine off ?_; refine off ?_; (first | (refine off ?_; refine off ?_; refine vl ?_; refine mv ?_; refine off ?_; refine off ?_; (first | (refine off ?_; refine off ?_; refine vl ?_; refine mv ?_; refine KO_nil ?_))))) | skip))
  any_goals ((refine KO_fn rfl rfl rfl rfl rfl ((some_ok g.rank).mono ?_); rintro _ _ ⟨⟨rfl, q2⟩ | ⟨rfl, q2⟩, rfl⟩) <;> ((refine vl ?_); refine vl ?_; refine mv ?_; (first | refine off ?_ | (refine vl ?_)); (first | refine off ?_ | (refine lB S rfl rfl ?_)); (first | (refine off ?_; refine off ?_; refine vl ?_; refine mv ?_; refine off ?_; refine off ?_; (first | (refine off ?_; refine off ?_; refine vl ?_; refine mv ?_; refine KO_nil ?_))) | skip)))
  any_goals ((refine KO_fn rfl rfl rfl rfl rfl ((some_ok g.court).mono ?_); rintro _ _ ⟨⟨rfl, q3⟩ | ⟨rfl, q3⟩, rfl⟩) <;> ((refine vl ?_); refine vl ?_; refine mv ?_; (first | refine off ?_ | (refine vl ?_)); (first | refine off ?_ | (refine lB S rfl rfl ?_)); (first | (refine off ?_; refine off ?_; refine vl ?_; refine mv ?_; refine KO_nil ?_) | skip)))
  any_goals ((refine KO_fn rfl rfl rfl rfl rfl ((some_ok g.diet).mono ?_); rintro _ _ ⟨⟨rfl, q4⟩ | ⟨rfl, q4⟩, rfl⟩) <;> ((refine vl ?_); refine vl ?_; refine mv ?_; refine KO_nil ?_))
  all_goals (repeat' (first | refine K_seq ?_ | refine k_cond rfl ?_ | refine K_skip ?_ | refine k_block ?_ | (refine K_region (id := 2) ?_; refine mv ?_; refine KO_nil ?_) | (refine K_region (id := 3) ?_; refine vl ?_; refine lB S rfl rfl ?_; (first | (refine cS ?_ ?_ <;> intro hc)) <;> (refine mv ?_; (first | refine off ?_ | (refine vl ?_)); (first | refine off ?_ | (refine lB S rfl rfl ?_)); (first | refine off ?_ | (first | (refine cS ?_ ?_ <;> intro hc))) <;> (refine vl ?_; refine mv ?_; refine KO_nil ?_))) | (refine K_region (id := 4) ?_; refine mv ?_; refine KO_nil ?_) | (refine K_region (id := 5) ?_; refine vl ?_; refine lB S rfl rfl ?_; (first | (refine cS ?_ ?_ <;> intro hc)) <;> (refine mv ?_; (first | refine off ?_ | (refine vl ?_)); (first | refine off ?_ | (refine lB S rfl rfl ?_)); (first | refine off ?_ | (first | (refine cS ?_ ?_ <;> intro hc))) <;> (refine vl ?_; refine mv ?_; refine KO_nil ?_))) | (refine K_region (id := 6) ?_; refine mv ?_; refine KO_nil ?_) | (refine K_region (id := 7) ?_; refine vl ?_; refine lB S rfl rfl ?_; refine lnB S ?_; (first | (refine cS ?_ ?_ <;> intro hc)) <;> (refine mv ?_; refine KO_nil ?_)) | (refine K_region (id := 8) ?_; refine mv ?_; refine KO_nil ?_) | (refine K_region (id := 9) ?_; refine vl ?_; refine lB S rfl rfl ?_; refine lnB S ?_; refine mv ?_; refine KO_nil ?_)))
  any_goals
    refine K_ret ⟨_, rfl, ?_⟩
    refine ⟨?_, S.drop⟩
    first
      | (rw [chkG_4 (fun q => by unfold NmsOk at q; grind)]; rfl)
      | (rw [chkG_21 ⟨q1, q2, q3, q4⟩ (by omega)]; rfl)
      | (rw [chkG_20 ⟨q1, q2, q3, q4⟩ (by omega) (by omega)]; rfl)
      | (rw [chkG_22 ⟨q1, q2, q3, q4⟩ (by omega) (by omega) (fun q => by have := q.1; omega)]; rfl)
  have h1 : 0 ≤ g.since ∧ g.since ≤ 9999 := by omega
  have h2 : 0 ≤ g.side ∧ g.side ≤ 2 := by omega
  have h3 : g.tg.length ≤ 4 := by omega
  refine k_loop (σ := Nat) (fun i h' => Hs h0 h' [.blk b (eG g) 122] ∧ i ≤ g.tg.length ∧ ∀ j, j < i → nameP (g.tg.getD j default) ∧ (0 < j → sLt (g.tg.getD (j - 1) default) (g.tg.getD j default))) (fun i => g.tg.length - i) (fun i => [(1, .pointer (some ⟨b, 0, none⟩)), (52, g.tv.val), (53, .int .i64 g.tg.length), (54, .int .i64 i)]) 0 (by repeat (first | exact Ks.le_nil _ | refine Ks.le_cons rfl ?_)) ?_ ?_
  · exact ⟨S, Nat.zero_le _, fun j hj => absurd hj (Nat.not_lt_zero _)⟩
  clear S
  rintro i h ⟨S, g1, g2⟩
  all_goals (repeat' (first | refine K_seq ?_ | refine k_cond rfl ?_ | refine K_skip ?_ | refine K_exit ?_ | refine k_block ?_ | (refine K_region (id := 10) ?_; (first | (refine cS ?_ ?_ <;> intro hc)) <;> (refine KO_nil ?_)) | (refine K_region (id := 11) ?_; refine mv ?_; refine ixB S ?_; refine lEB S ?_; refine mv ?_; refine mv ?_; refine KO_nil ?_) | (refine K_region (id := 12) ?_; refine mv ?_) | (refine K_region (id := 15) ?_; refine mv ?_; refine KO_nil ?_)))
  · (try simp only [Int.toNat_natCast] at *)
    (refine KO_fn rfl rfl rfl rfl rfl ((name_ok _).mono ?_); rintro _ _ ⟨⟨rfl, q5⟩ | ⟨rfl, q5⟩, rfl⟩) <;> (refine vl ?_; refine mv ?_; (first | refine off ?_ | refine mv ?_); (first | refine off ?_ | (first | (refine cS ?_ ?_ <;> intro hc))) <;> ((first | refine off ?_ | refine mv ?_); (first | refine off ?_ | (refine vl ?_)); (first | refine off ?_ | (refine lB S rfl rfl ?_)); (first | refine off ?_ | refine mv ?_); (first | refine off ?_ | (refine sb ?_)); (first | refine off ?_ | (refine ixB S ?_)); (first | refine off ?_ | (refine lEB S ?_)); (first | refine off ?_ | refine mv ?_); (first | refine off ?_ | (refine tO ?_ ?_ <;> intro hc)) <;> ((first | refine off ?_ | refine vl ?_); refine vl ?_; refine KO_nil ?_)))
    all_goals (all_goals (repeat' (first | refine K_seq ?_ | refine k_cond rfl ?_ | refine K_skip ?_ | (refine K_region (id := 13) ?_; refine mv ?_; refine KO_nil ?_) | (refine K_region (id := 14) ?_; refine ad ?_; refine mv ?_; refine KO_nil ?_))))
    · refine K_ret ⟨_, rfl, ?_⟩
      rw [show ((i : Int) - 1).toNat = i - 1 by omega] at hc
      exact ⟨by rw [chkG_22 ⟨q1, q2, q3, q4⟩ h1 h2 (fun q => hc ((q.2 i (by omega)).2 (by omega)))]; rfl, S.drop⟩
    · rw [show ((i : Int) - 1).toNat = i - 1 by omega] at hc
      refine ⟨i + 1, ?_, ?_, (by repeat (first | exact Ks.le_nil _ | refine Ks.le_cons rfl ?_))⟩
      · show g.tg.length - (i + 1) < g.tg.length - i; omega
      · exact ⟨S, by omega, nxtD g2 ⟨q5, fun _ => Classical.not_not.1 hc⟩⟩
    · refine ⟨i + 1, ?_, ?_, (by repeat (first | exact Ks.le_nil _ | refine Ks.le_cons rfl ?_))⟩
      · show g.tg.length - (i + 1) < g.tg.length - i; omega
      · exact ⟨S, by omega, nxtD g2 ⟨q5, fun q => by omega⟩⟩
    · refine K_ret ⟨_, rfl, ?_⟩
      exact ⟨by rw [chkG_22 ⟨q1, q2, q3, q4⟩ h1 h2 (fun q => q5 (q.2 i (by omega)).1)]; rfl, S.drop⟩
  · refine K_ret ⟨_, rfl, ?_⟩
    exact ⟨by rw [chkG_0 ⟨q1, q2, q3, q4⟩ h1 h2 ⟨h3, fun j hj => g2 j (by omega)⟩]; rfl, S.drop⟩
end Go.Proofs.Xx

/-
  Several resources as one.
-/
namespace Go.Proofs.Xx
set_option linter.unusedSectionVars false
open Go
set_option linter.unusedSimpArgs false
set_option linter.unusedVariables false

/-- The resources lie apart, on blocks of U. -/
def Star (h : AH) : List Rs → Fp → Prop
  | [], _ => True
  | r :: rs, U => ∃ fp : Fp, r.ok h fp ∧ (∀ b, fp b → U b) ∧ Star h rs (fun b => U b ∧ ¬ fp b)
theorem Star.mono {h : AH} : ∀ {rs : List Rs} {U U' : Fp}, (∀ b, U b → U' b) → Star h rs U → Star h rs U'
  | [], _, _, _, _ => trivial
  | r :: rs, U, U', hu, ⟨fp, h1, h2, h3⟩ => ⟨fp, h1, fun b hb => hu b (h2 b hb), h3.mono fun b hb => ⟨hu b hb.1, hb.2⟩⟩
theorem Star.local {h h' : AH} : ∀ {rs : List Rs} {U : Fp}, Star h rs U → (∀ b, U b → h'.get b = h.get b) → Star h' rs U
  | [], _, _, _ => trivial
  | r :: rs, U, ⟨fp, h1, h2, h3⟩, hs => ⟨fp, h1.local fun b hb => hs b (h2 b hb), h2, h3.local fun b hb => hs b hb.1⟩
theorem Star.sep {lo : Nat} {h : AH} {rs : List Rs} : ∀ {l : List Rs} {U V : Fp}, Star h l U → (∀ b, U b → lo ≤ b ∧ b < h.next ∧ V b) → Sep lo h rs (fun b => V b ∧ ¬ U b) → Sep lo h (l ++ rs) V
  | [], U, V, _, _, k => k.mono fun b hb => hb.1
  | r :: l, U, V, ⟨fp, h1, h2, h3⟩, hu, k => ⟨fp, h1, fun b hb => hu b (h2 b hb), h3.sep (fun b hb => ⟨(hu b hb.1).1, (hu b hb.1).2.1, (hu b hb.1).2.2, hb.2⟩) (k.mono fun b hb => ⟨⟨hb.1, fun q => hb.2 (h2 b q)⟩, fun q => hb.2 q.1⟩)⟩
theorem Sep.star {lo : Nat} {h : AH} {rs : List Rs} : ∀ {l : List Rs} {V : Fp}, Sep lo h (l ++ rs) V → ∃ U : Fp, Star h l U ∧ (∀ b, U b → lo ≤ b ∧ b < h.next ∧ V b) ∧ Sep lo h rs (fun b => V b ∧ ¬ U b)
  | [], V, k => ⟨fun _ => False, trivial, fun b hb => hb.elim, k.mono fun b hb => ⟨hb, id⟩⟩
  | r :: l, V, ⟨fp, h1, h2, h3⟩ => by
    obtain ⟨U, k1, k2, k3⟩ := h3.star
    refine ⟨fun b => fp b ∨ U b, ⟨fp, h1, fun b hb => .inl hb, k1.mono fun b hb => ⟨.inr hb, (k2 b hb).2.2.2⟩⟩, fun b hb => ?_, k3.mono fun b hb => ⟨hb.1.1, fun q => ?_⟩⟩
    · rcases hb with hb | hb
      · exact h2 b hb
      · exact ⟨(k2 b hb).1, (k2 b hb).2.1, (k2 b hb).2.2.1⟩
    · rcases q with q | q
      · exact hb.1.2 q
      · exact hb.2 q
/-- What is so of s, and the resources that go with it, as one. -/
abbrev packR {σ : Type} (φ : σ → Prop) (f : σ → List Rs) : Rs := .any (fun h fp => ∃ s, φ s ∧ Star h (f s) fp)
theorem Hs.unpack {σ : Type} {φ : σ → Prop} {f : σ → List Rs} {h0 h : AH} {rs : List Rs} (S : Hs h0 h (packR φ f :: rs)) : ∃ s, φ s ∧ Hs h0 h (f s ++ rs) := by
  obtain ⟨fp, k1, k2, k3⟩ := S.sep
  obtain ⟨s, hs, hst⟩ := k1 h fun _ _ => rfl
  exact ⟨s, hs, S.ext, hst.sep k2 k3⟩
theorem Hs.pack {σ : Type} {φ : σ → Prop} {f : σ → List Rs} {h0 h : AH} {rs : List Rs} (s : σ) (hs : φ s) (S : Hs h0 h (f s ++ rs)) : Hs h0 h (packR φ f :: rs) := by
  obtain ⟨U, k1, k2, k3⟩ := S.sep.star
  exact ⟨S.ext, U, fun h' q => ⟨s, hs, k1.local q⟩, k2, k3⟩
section
variable {P : Program} {X : Extern} {sz : Nat} {L : Ks} {h h0 : AH} {rs : List Rs} {ops : Array Oper} {os : List Oper} {o : Oper} {R : Ks → AH → Prop}
/-- v[:b] of a slice of one's own, with room behind. -/
theorem tk {α : Type} {x hi : Operand} {ty e : TypeId} {v vh : Value} {z : Nat} {enc : α → List Value} {l : List α} {f : Rs → List Rs} {dd : List Rs} {d : Tmp} (b : Nat) (S : Hs h0 h rs) (ho : o.op = .slice ty x none (some hi) none) (hx : kA L x = some v) [i : HasS rs v α e z enc l f dd]
    (w : ∀ v', Hs h0 h (f (.sl v' e z enc (l.take b))) → KO P X sz ops os (L.put d v') h R) (hg : guardA ops L.tree o.guard = some true := by exact rfl) (hhi : kA L hi = some vh := by exact rfl) (hbo : boundOf (some vh) l.length = some b := by exact rfl) (hb : b ≤ l.length := by first | omega | grind)
    (hz : ∀ x, (enc x).length = z := by intro _; rfl) (hu : elemZ P ty = some z := by exact rfl) (hdst : o.dst = some d := by exact rfl) (hds : Nat.blt d sz = true := by exact rfl) : KO P X sz ops (o :: os) L h R := by
  obtain ⟨fp, k1, k2, -⟩ := (i.ut (.sl v e z enc l)).ok (h' := h) S.ext.next (Nat.le_refl _) S.sep
  have hue : ∃ e', P.underlying ty = some (.slice e') ∧ sizeT P e' = some z := by
    unfold elemZ at hu
    split at hu
    · exact ⟨_, by assumption, hu⟩
    · cases hu
  obtain ⟨e', hu1, hu2⟩ := hue
  have hhi' : evA L.tree hi = some vh := tree_le hhi
  have go : ∀ v', aSlice P ty v none (some vh) none h = some v' → (∀ fq, (Rs.sl v e z enc l).ok h fq → (Rs.sl v' e z enc (l.take b)).ok h fq) → KO P X sz ops (o :: os) L h R := fun v' q1 q2 => by
    refine KO_val (v := v') (h' := h) hg ?_ (by simp only [putK, hdst, hds]) (w v' (S.same (i.ut _) q2))
    rw [ho]
    simp only [aOp, tree_le hx, evOpt, hhi', q1, nextOf, aSlice3_none]
  have h0b : boundOf none 0 = some 0 := rfl
  rcases k1 with ⟨rfl, rfl⟩ | ⟨bb, o', cc, slk, cap, g1, g2, g3, g4, g5, g6⟩
  · obtain rfl : b = 0 := by simpa using hb
    refine go (.slice none 0 0) ?_ fun fq q => .inl ⟨rfl, by simp⟩
    have : boundOf (some vh) 0 = some 0 := hbo
    simp only [aSlice, hu1, hu2, this, h0b]
  · subst g1
    have t1 : Nat.ble 0 b = true := by simp
    have t2 : Nat.ble b cap = true := Nat.ble_eq_true_of_le (Nat.le_trans hb g5.1)
    have hlen : (l.take b).length = b := by simp; omega
    have sub := takeAt_sub (i := 0) (m := b * z) g4 (by rw [Nat.zero_add]; exact Nat.mul_le_mul_right z hb)
    rw [List.drop_zero, ← flatMap_take hz, Nat.add_zero] at sub
    have key : ∀ fq, (Rs.sl (.slice (some ⟨bb, o', none⟩) l.length cap) e z enc l).ok h fq → (Rs.sl (.slice (some ⟨bb, o', none⟩) (b - 0) (cap - 0)) e z enc (l.take b)).ok h fq := fun fq q => by
      rcases q with ⟨q1, -⟩ | ⟨b2, o2, cc2, sl2, cap2, q1, q2, q3, q4, q5, q6⟩
      · cases q1
      · cases q1
        exact .inr ⟨bb, o', cc, slk, cap, by rw [hlen, Nat.sub_zero, Nat.sub_zero], g2, q3, by rw [hlen]; exact sub, ⟨by rw [hlen]; exact Nat.le_trans hb g5.1, g5.2⟩, g6⟩
    cases hk : (slk.isNone && Nat.beq 0 cap) with
    | false =>
      refine go (.slice (some ⟨bb, o', none⟩) (b - 0) (cap - 0)) ?_ key
      simp only [aSlice, hu1, hu2, g2, h0b, hbo, t1, t2, hk, Bool.and_self, Nat.zero_mul, Nat.add_zero]
    | true =>
      refine go (.slice (some ⟨bb, o', none⟩) (b - 0) (cap - 0)) ?_ key
      simp only [aSlice, hu1, hu2, g2, h0b, hbo, t1, t2, hk, Bool.and_self]
/-- A slice of some elements, of one's own. -/
theorem bsn {ty : TypeId} {n : Nat} {ps : Array (Nat × Operand)} {vs : List (Nat × Value)} {c : List Value} {e : TypeId} {α : Type} {z : Nat} {d : Tmp} (enc : α → List Value) (l : List α) (S : Hs h0 h rs) (w : ∀ u h', Hs h0 h' (.sl u e z enc l :: rs) → KO P X sz ops os (L.put d u) h' R) (ho : o.op = .buildSlice ty n ps := by exact rfl) (hg : guardA ops L.tree o.guard = some true := by exact rfl)
    (hx : kParts L ps.toList = some vs := by exact rfl) (hv : aBuildSlice P ty n vs h = some (.slice (some ⟨h.next, 0, none⟩) n n, h.add (.cells c e none false)) := by exact rfl) (hl : l.length = n := by exact rfl) (hc : c = l.flatMap enc := by exact rfl) (hz : c.length = l.length * z := by exact rfl) (hdst : o.dst = some d := by exact rfl) (hds : Nat.blt d sz = true := by exact rfl) : KO P X sz ops (o :: os) L h R := by
  subst hl
  exact KO_bslice ho hg hx hv (by simp only [putK, hdst, hds]) (w _ _ ((S.add c e).asSl (z := z) enc l hc hz))
end
end Go.Proofs.Xx

/-
  Rolls; books in memory; New, Clone, copied, Add.
-/
namespace Go.Proofs.Xx
set_option linter.unusedSectionVars false
open Go Go.Proofs
set_option linter.unusedSimpArgs false
set_option linter.unusedVariables false
set_option maxRecDepth 100000

/-- Some resources of a list. -/
class SubR (rs rs' : List Rs) : Prop where
  sub : ∀ {h0 h : AH}, Hs h0 h rs → Hs h0 h rs'
instance (priority := 2000) SubR.here {rs : List Rs} : SubR rs rs := ⟨id⟩
instance SubR.there {r : Rs} {rs rs' : List Rs} [i : SubR rs rs'] : SubR (r :: rs) rs' := ⟨fun S => i.sub S.tail⟩
theorem Hs.sub {h0 h : AH} {rs rs' : List Rs} [i : SubR rs rs'] (S : Hs h0 h rs) : Hs h0 h rs' := i.sub S
/-- r stands in rs, and the rest. -/
class DtI (rs : List Rs) (r : Rs) (rs' : outParam (List Rs)) : Prop where
  dt : Dt rs r rs'
instance (priority := 2000) DtI.here {r : Rs} {rs : List Rs} : DtI (r :: rs) r rs := ⟨.here⟩
instance DtI.there {r s : Rs} {rs rs' : List Rs} [i : DtI rs r rs'] : DtI (s :: rs) r (s :: rs') := ⟨.there i.dt⟩
/-- The resources l stand in rs. -/
class SelR (rs l : List Rs) : Prop where
  sel : ∀ {lo : Nat} {h : AH} {U : Fp}, Sep lo h rs U → Sep lo h l U
instance (priority := 2000) SelR.here {rs : List Rs} : SelR rs rs := ⟨id⟩
instance SelR.nil {rs : List Rs} : SelR rs [] := ⟨fun _ => trivial⟩
instance SelR.cons {rs rs' l : List Rs} {r : Rs} [i : DtI rs r rs'] [j : SelR rs' l] : SelR rs (r :: l) := ⟨fun k => by
  obtain ⟨fp, k1, k2, k3⟩ := i.dt.sep k
  exact ⟨fp, k1, k2, j.sel k3⟩⟩
instance (priority := 500) SelR.there {rs l : List Rs} {r : Rs} [j : SelR rs l] : SelR (r :: rs) l := ⟨fun ⟨_, _, _, k⟩ => j.sel (k.mono fun _ q => q.1)⟩
theorem Hs.pick {h0 h : AH} {rs l : List Rs} [i : SelR rs l] (S : Hs h0 h rs) : Hs h0 h l := ⟨S.ext, i.sel S.sep⟩
/-- v reads as l as long as the resources rs are there. -/
abbrev RdS {α : Type} (h0 : AH) (rs : List Rs) (v : Value) (z : Nat) (enc : α → List Value) (l : List α) : Prop := ∀ h, Hs h0 h rs → RdL h v z enc l
theorem RdS.base {α : Type} {h0 : AH} {rs : List Rs} {v : Value} {z : Nat} {enc : α → List Value} {l : List α} (w : WfH h0) (r : RdL h0 v z enc l) : RdS h0 rs v z enc l := fun h S => r.ext w S.ext

structure Ti where
  a : List UInt8
  b : List UInt8
  k : Int
instance : Inhabited Ti := ⟨⟨[], [], 0⟩⟩
def eTi (t : Ti) : List Value := [str t.a, str t.b, .int .u8 t.k]
def tiV (t : Ti) : Value := .agg #[str t.a, str t.b, .int .u8 t.k]
/-- Where the guest of a name stands. -/
def gat : List Gu → List UInt8 → Option Nat
  | [], _ => none
  | g :: r, n => if g.name = n then some 0 else (gat r n).map (· + 1)
structure Rl where
  us : List Gu
  ts : List Ti
instance : Inhabited Rl := ⟨⟨[], []⟩⟩
open Classical in
noncomputable def addF (r : Rl) (g : Gu) : Rl × Int :=
  if chkG g ≠ 0 then (r, chkG g) else if gat r.us g.name ≠ none then (r, 5) else if 64 ≤ r.us.length then (r, 7) else (⟨r.us ++ [g], r.ts⟩, 0)
theorem addF_e {r : Rl} {g : Gu} (h : chkG g ≠ 0) : addF r g = (r, chkG g) := by unfold addF; rw [if_pos h]
theorem addF_5 {r : Rl} {g : Gu} (h : chkG g = 0) (h2 : gat r.us g.name ≠ none) : addF r g = (r, 5) := by unfold addF; rw [if_neg (by simpa using h), if_pos h2]
theorem addF_7 {r : Rl} {g : Gu} (h : chkG g = 0) (h2 : gat r.us g.name = none) (h3 : 64 ≤ r.us.length) : addF r g = (r, 7) := by unfold addF; rw [if_neg (by simpa using h), if_neg (by simpa using h2), if_pos h3]
theorem addF_0 {r : Rl} {g : Gu} (h : chkG g = 0) (h2 : gat r.us g.name = none) (h3 : ¬ 64 ≤ r.us.length) : addF r g = (⟨r.us ++ [g], r.ts⟩, 0) := by unfold addF; rw [if_neg (by simpa using h), if_neg (by simpa using h2), if_neg h3]

/-- What the map of a book tells. -/
def AtOk (m : List (List UInt8 × Int)) (us : List Gu) : Prop := ∀ n, mGet m n = (gat us n).map Int.ofNat
theorem gat_app {us : List Gu} {g : Gu} (n : List UInt8) : gat (us ++ [g]) n = match gat us n with | some i => some i | none => if g.name = n then some us.length else none := by
  induction us with
  | nil => simp [gat]
  | cons x r ih =>
    simp only [List.cons_append, gat]
    by_cases h : x.name = n
    · simp [h]
    · simp only [if_neg h, ih]
      cases gat r n <;> simp <;> split <;> simp
theorem AtOk.app {m : List (List UInt8 × Int)} {us : List Gu} {g : Gu} (a : AtOk m us) (hn : gat us g.name = none) : AtOk (mPut m g.name us.length) (us ++ [g]) := fun n => by
  rw [mGet_put, gat_app]
  by_cases h : n = g.name
  · subst h; simp [hn]
  · rw [if_neg h, a n]
    cases gat us n with
    | none => simp; exact fun q => h q.symm
    | some i => simp
/-- The tongues of all guests can be read. -/
def TgsOk (gs : List Gst) (h : AH) (fp : Fp) : Prop := ∀ g ∈ gs, (Rs.rd g.tv.val 1 eS g.tg).ok h fp
abbrev tgR (gs : List Gst) : Rs := .any (TgsOk gs)
structure BkS where
  vg : SlV
  vt : SlV
  m : Nat
  mp : List (List UInt8 × Int)
  gs : List Gst
abbrev bkL (b : Nat) (ts : List Ti) (s : BkS) : List Rs := [.blk b [s.vg.val, s.vt.val, .map (some s.m)] 234, .sl s.vg.val 122 9 eG s.gs, .sl s.vt.val 152 3 eTi ts, .mp s.m (.int .i64) s.mp, tgR s.gs]
/-- A book with the content of a roll. -/
abbrev bookR (b : Nat) (r : Rl) : Rs := packR (fun s : BkS => s.gs.map (·.toGu) = r.us ∧ AtOk s.mp r.us) (bkL b r.ts)
theorem Hs.bk {h0 h : AH} {rs0 rs : List Rs} {b : Nat} {r : Rl} (S : Hs h0 h rs0) (vg vt : SlV) (m : Nat) (mp : List (List UInt8 × Int)) (gs : List Gst) (q1 : gs.map (·.toGu) = r.us) (q2 : AtOk mp r.us)
    [i : SelR rs0 (.blk b [vg.val, vt.val, .map (some m)] 234 :: .sl vg.val 122 9 eG gs :: .sl vt.val 152 3 eTi r.ts :: .mp m (.int .i64) mp :: tgR gs :: rs)] : Hs h0 h (bookR b r :: rs) :=
  Hs.pack (s := ⟨vg, vt, m, mp, gs⟩) ⟨q1, q2⟩ (show Hs h0 h (.blk b [vg.val, vt.val, .map (some m)] 234 :: .sl vg.val 122 9 eG gs :: .sl vt.val 152 3 eTi r.ts :: .mp m (.int .i64) mp :: tgR gs :: rs) from S.pick)
theorem TgsOk.rd {h : AH} {fp : Fp} {gs : List Gst} (k : TgsOk gs h fp) {i : Nat} (hi : i < gs.length) : RdL h (gs.getD i default).tv.val 1 eS (gs.getD i default).tg := by
  have q := k _ (List.getElem_mem hi)
  rw [show gs.getD i default = gs[i] by rw [List.getD_eq_getElem?_getD, List.getElem?_eq_getElem hi]; rfl]
  rcases q with ⟨q1, q2⟩ | ⟨b, o, cap, cc, e, s, r, q1, q2, q3, q4⟩
  · exact .inl ⟨q1, by rw [q2]; rfl, by rw [q2]; rfl⟩
  · exact .inr ⟨b, o, cap, cc, e, s, r, q1, q2, q4⟩
theorem rd_mono {α : Type} {v : Value} {z : Nat} {enc : α → List Value} {l : List α} {h : AH} {fp fp' : Fp} (k : (Rs.rd v z enc l).ok h fp) (hf : ∀ b, fp b → fp' b) : (Rs.rd v z enc l).ok h fp' := by
  rcases k with k | ⟨b, o, cap, cc, e, s, r, q1, q2, q3, q4⟩
  · exact .inl k
  · exact .inr ⟨b, o, cap, cc, e, s, r, q1, q2, hf b q3, q4⟩
theorem sl_rd {α : Type} {v : Value} {e : TypeId} {z : Nat} {enc : α → List Value} {l : List α} {h : AH} {fp : Fp} (k : (Rs.sl v e z enc l).ok h fp) : (Rs.rd v z enc l).ok h fp := by
  rcases k with k | ⟨b, o, cc, slk, cap, h1, h2, h3, h4, -⟩
  · exact .inl k
  · exact .inr ⟨b, o, _, cc, e, slk, false, h1, h2, h3, h4⟩
/-- One more guest's tongues. -/
theorem Hs.tgApp {h0 h : AH} {rs : List Rs} {gs : List Gst} {g : Gst} {e : TypeId} (S : Hs h0 h (.sl g.tv.val e 1 eS g.tg :: tgR gs :: rs)) : Hs h0 h (tgR (gs ++ [g]) :: rs) := by
  obtain ⟨f1, k1, k2, f2, k3, k4, k5⟩ := S.sep
  refine ⟨S.ext, fun b => f1 b ∨ f2 b, fun h' q g' hg => ?_, fun b hb => ?_, k5.mono fun b hb => ⟨trivial, fun q => ?_⟩⟩
  · rcases List.mem_append.1 hg with hg | hg
    · exact rd_mono (k3 h' (fun b hb => q b (.inr hb)) g' hg) fun b hb => .inr hb
    · obtain rfl := List.mem_singleton.1 hg
      exact rd_mono (sl_rd (k1.local fun b hb => q b (.inl hb))) fun b hb => .inl hb
  · rcases hb with hb | hb
    · exact k2 b hb
    · exact ⟨(k4 b hb).1, (k4 b hb).2.1, trivial⟩
  · rcases q with q | q
    · exact hb.1.2 q
    · exact hb.2 q
theorem chkG_ok {g : Gu} (h : chkG g = 0) : NmsOk g ∧ (0 ≤ g.since ∧ g.since ≤ 9999) ∧ (0 ≤ g.side ∧ g.side ≤ 2) ∧ g.tg.length ≤ 4 ∧ TgOk g.tg := by
  unfold chkG at h
  split at h
  · cases h
  · split at h
    · cases h
    · split at h
      · cases h
      · split at h
        · cases h
        · rename_i a b c d
          exact ⟨Classical.not_not.1 a, Classical.not_not.1 b, Classical.not_not.1 c, (Classical.not_not.1 d).1, (Classical.not_not.1 d).2⟩
variable [Flag]
theorem bnone_ok {h0 : AH} (w : WfH h0) {b m : Nat} {vg vt : Value} (hb : h0.get b = some (.cells [vg, vt, .map (some m)] 234 none false)) : Fn Tryz.prog Xh 186 [.pointer (some ⟨b, 0, none⟩)] h0 (fun v h' => v = .bool false ∧ Hs h0 h' []) := by
  have S := Hs.start w
  refine Fn_K (by first | rfl) Tryz.func186 rfl rfl ?_
  all_goals (repeat' (first | refine K_seq ?_ | (refine K_region (id := 0) ?_; refine mv ?_; refine KO_nil ?_) | (refine K_region (id := 1) ?_; refine mv ?_; refine vl ?_; refine mv ?_; refine mv ?_; refine vl ?_; (first | (refine vl ?_)); (first | (refine lH S ?_)); refine vl ?_; refine vl ?_; refine mv ?_; refine KO_nil ?_)))
  refine K_ret ⟨_, rfl, ?_⟩
  exact ⟨rfl, S⟩
theorem cloneW_ok {h0 : AH} (w : WfH h0) (v : Value) (a : List (List UInt8)) (r : RdL h0 v 1 eS a) (hl : a.length ≤ 1000000) : Fn Tryz.prog Xh 224 [v] h0 (fun u h' => Hs h0 h' [.sl u 9 1 eS a]) := by
  have S := Hs.start w
  have r0 := r
  rcases r with ⟨rfl, h1, -⟩ | ⟨b, o, cap, cc, e, s, q, rfl, h1, h2⟩
  · obtain rfl : a = [] := List.length_eq_zero_iff.1 h1
    refine Fn_K (by first | rfl) Tryz.func224 rfl rfl ?_
    all_goals (repeat' (first | refine K_seq ?_ | refine k_cond rfl ?_ | (refine K_region (id := 0) ?_; refine mv ?_; refine KO_nil ?_) | (refine K_region (id := 1) ?_; refine mv ?_; refine vl ?_; refine KO_nil ?_) | (refine K_region (id := 2) ?_; refine mv ?_; refine KO_nil ?_)))
    refine K_ret ⟨_, rfl, ?_⟩
    exact S.nilS
  · refine Fn_K (by first | rfl) Tryz.func224 rfl rfl ?_
    all_goals (repeat' (first | refine K_seq ?_ | refine k_cond rfl ?_ | refine K_skip ?_ | (refine K_region (id := 0) ?_; refine mv ?_; refine KO_nil ?_) | (refine K_region (id := 1) ?_; refine mv ?_; refine vl ?_; refine KO_nil ?_) | (refine K_region (id := 3) ?_; skip)))
    refine nw 1 eS S ?_; clear S; intro u h S; (refine mv ?_)
    refine apd S rfl rfl (r0.ext w S.ext) ?_; clear S; intro v' h S; (refine mv ?_; refine KO_nil ?_)
    all_goals (repeat' (fail))
    refine K_ret ⟨_, rfl, ?_⟩
    exact S
theorem copied_ok {h0 : AH} (w : WfH h0) (g : Gst) (r : RdL h0 g.tv.val 1 eS g.tg) (hl : g.tg.length ≤ 1000000) : Fn Tryz.prog Xh 188 [gV g] h0 (fun v h' => ∃ tv : SlV, v = gV { g with tv := tv } ∧ Hs h0 h' [.sl tv.val 9 1 eS g.tg]) := by
  have S := Hs.start w
  unfold gV
  refine Fn_K (by first | rfl) Tryz.func188 rfl rfl ?_
  all_goals (repeat' (first | refine K_seq ?_ | (refine K_region (id := 0) ?_; (refine bx S ?_; clear S; intro b h S); (refine al S ?_; clear S; intro b h S); refine KO_nil ?_) | (refine K_region (id := 1) ?_; refine vl ?_; refine lB S rfl rfl ?_)))
  (refine KO_fn rfl rfl rfl rfl rfl ((cloneW_ok S.wf g.tv.val g.tg (r.ext w S.ext) hl).mono ?_); rintro v h x) <;> (replace S := S.join1 x; clear x; obtain ⟨tv, rfl⟩ := S.slRd.sV v; refine vl ?_; (first | (refine sB S rfl rfl ?_; clear S; intro h S)); refine KO_nil ?_)
  all_goals (repeat' (first | refine K_seq ?_ | (refine K_region (id := 2) ?_; refine lB S rfl rfl ?_; (first | (refine sB S rfl rfl ?_; clear S; intro h S)); refine KO_nil ?_)))
  refine K_ret ⟨_, ret_cell S rfl (by first | exact .there .here) (by exact rfl) (by exact rfl), ?_⟩
  exact ⟨tv, rfl, S.only .here⟩
theorem new_ok {h0 : AH} (w : WfH h0) : Fn Tryz.prog Xh 170 [] h0 (fun v h' => ∃ b, v = .pointer (some ⟨b, 0, none⟩) ∧ Hs h0 h' [bookR b ⟨[], []⟩]) := by
  have S := Hs.start w
  refine Fn_K (by first | rfl) Tryz.func170 rfl rfl ?_
  all_goals (repeat' (first | refine K_seq ?_ | (refine K_region (id := 0) ?_; refine mv ?_; refine KO_nil ?_)))
  refine K_region (id := 1) ?_
  refine mkm (α := Int) (.int .i64) S ?_; clear S; intro m h S; (refine vl ?_; (refine bx S ?_; clear S; intro b h S); refine mv ?_; refine KO_nil ?_)
  all_goals (repeat' (fail))
  refine K_ret ⟨_, rfl, ?_⟩
  refine ⟨_, rfl, ?_⟩
  have S := ((S.nilS (e := 122) (z := 9) (enc := eG)).nilS (e := 152) (z := 3) (enc := eTi)).anyS (p := TgsOk []) fun h' g hg => by cases hg
  replace S : Hs h0 _ [tgR [], .sl (SlV.val ⟨none, 0, 0⟩) 152 3 eTi [], .sl (SlV.val ⟨none, 0, 0⟩) 122 9 eG [], .blk b [SlV.val ⟨none, 0, 0⟩, SlV.val ⟨none, 0, 0⟩, .map (some m)] 234, .mp m (.int .i64) []] := S
  exact S.bk (r := ⟨[], []⟩) ⟨none, 0, 0⟩ ⟨none, 0, 0⟩ m [] [] rfl fun n => rfl
theorem add_ok {h0 h : AH} {rs : List Rs} {p : Nat} {r : Rl} (S : Hs h0 h (bookR p r :: rs)) (g : Gst) (hr : RdS h0 rs g.tv.val 1 eS g.tg) (hl : g.tg.length ≤ 9223372036854775807) (hu : r.us.length ≤ 64) :
    Fn Tryz.prog Xh 171 [.pointer (some ⟨p, 0, none⟩), gV g] h (fun v h' => v = .int .i64 (addF r g.toGu).2 ∧ Hs h0 h' (bookR p (addF r g.toGu).1 :: rs)) := by
  obtain ⟨⟨vg, vt, m, mp, gs⟩, ⟨q1, q2⟩, S⟩ := S.unpack
  have e1 : gs.length = r.us.length := by rw [← q1]; simp
  dsimp only [bkL, List.cons_append, List.nil_append] at q1 q2 S
  unfold gV
  refine Fn_K (by first | rfl) Tryz.func171 rfl rfl ?_
  all_goals (repeat' (first | refine K_seq ?_ | (refine K_region (id := 0) ?_; (refine bx S ?_; clear S; intro b h S); refine mv ?_; refine KO_nil ?_) | (refine K_region (id := 1) ?_; refine mv ?_)))
  (refine KO_fn rfl rfl rfl rfl rfl ((bnone_ok S.wf (blk_get S (.there .here))).mono ?_); rintro _ h ⟨rfl, x⟩) <;> (replace S := S.join0 x; clear x; refine KO_nil ?_)
  all_goals (repeat' (first | refine K_seq ?_ | refine k_cond rfl ?_ | refine K_skip ?_ | (refine K_region (id := 3) ?_; refine lB S rfl rfl ?_)))
  (refine KO_fn rfl rfl rfl rfl rfl ((check_ok S.wf g ⟨hr _ S.sub, hl⟩).mono ?_); rintro _ h ⟨rfl, x⟩) <;> (replace S := S.join0 x; clear x; refine mv ?_; refine KO_nil ?_)
  all_goals (repeat' (first | refine K_seq ?_ | refine k_cond rfl ?_ | refine K_skip ?_ | (refine K_region (id := 4) ?_; refine mv ?_; (first | (refine cS ?_ ?_ <;> intro hc)) <;> (refine KO_nil ?_)) | (refine K_region (id := 5) ?_; refine mv ?_; refine mv ?_; refine KO_nil ?_) | (refine K_draw (id := 6) ?_; refine mv ?_; refine vl ?_; refine vl ?_; refine lB S rfl rfl ?_; refine vl ?_; refine lB S rfl rfl ?_)))
  · refine K_ret ⟨_, rfl, ?_⟩
    rw [addF_e hc]
    exact ⟨rfl, S.bk vg vt m mp gs q1 q2⟩
  · have hc0 : chkG g.toGu = 0 := by simpa using hc
    replace S : Hs h0 h (.blk b (eG g) 122 :: .blk p [vg.val, vt.val, .map (some m)] 234 :: .sl vg.val 122 9 eG gs :: .sl vt.val 152 3 eTi r.ts :: .mp m (.int .i64) mp :: tgR gs :: rs) := S
    refine lk S (.there (.there (.there (.there .here)))) (fun i hi => ?_) (fun hi => ?_)
    · simp only [okV]
      (refine mv ?_; refine vl ?_; refine vl ?_; refine mv ?_; refine mv ?_; refine KO_nil ?_)
      all_goals (repeat' (first | refine K_seq ?_ | refine k_cond rfl ?_ | (refine K_region (id := 7) ?_; refine mv ?_; refine KO_nil ?_) | (refine K_region (id := 8) ?_; refine mv ?_; refine KO_nil ?_)))
      refine K_ret ⟨_, rfl, ?_⟩
      rw [addF_5 hc0 (by rw [q2] at hi; intro q; rw [q] at hi; cases hi)]
      exact ⟨rfl, S.bk vg vt m mp gs q1 q2⟩
    · simp only [okV]
      (refine mv ?_; refine vl ?_; refine vl ?_; refine mv ?_; refine mv ?_; refine KO_nil ?_)
      all_goals (repeat' (first | refine K_seq ?_ | refine k_cond rfl ?_ | refine K_skip ?_ | (refine K_region (id := 7) ?_; refine mv ?_; refine KO_nil ?_) | (refine K_region (id := 9) ?_; refine mv ?_; refine vl ?_; refine vl ?_; refine vl ?_; refine lB S rfl rfl ?_; refine lnS S rfl rfl ?_; (first | (refine cS ?_ ?_ <;> intro hc)) <;> (refine KO_nil ?_)) | (refine K_region (id := 10) ?_; refine mv ?_; refine KO_nil ?_) | (refine K_draw (id := 11) ?_; refine mv ?_; refine vl ?_; refine vl ?_; refine lB S rfl rfl ?_; refine vl ?_; refine lB S rfl rfl ?_; refine mv ?_; refine vl ?_; refine vl ?_; refine vl ?_; refine lB S rfl rfl ?_; refine lnS S rfl rfl ?_)))
      · refine K_ret ⟨_, rfl, ?_⟩
        rw [addF_7 hc0 (by rw [q2] at hi; cases hq : gat r.us g.name with | none => rfl | some i => rw [hq] at hi; cases hi) (by omega)]
        exact ⟨rfl, S.bk vg vt m mp gs q1 q2⟩
      · have hn : gat r.us g.name = none := by rw [q2] at hi; cases hq : gat r.us g.name with | none => rfl | some i => rw [hq] at hi; cases hi
        have hn64 : ¬ 64 ≤ r.us.length := by omega
        refine up (x := (gs.length : Int)) (key := g.name) S (.there (.there (.there (.there .here)))) (.there (.there (.there (.there .here)))) (fun h S => ?_) (.inl rfl)
        (refine KO_nil ?_)
        have ht4 := (chkG_ok hc0).2.2.2.1
        (repeat (refine K_seq ?_)); refine K_drawX (id := 12) [(5, (0, 2))] [some (p)] ?_; refine KX_cons ?_; (first | (refine mv ?_ <;> refine KO_nil ⟨⟨by (first | exact True.intro), rfl⟩, ?_⟩)); refine KX_cons ?_; (first | (refine mv ?_ <;> refine KO_nil ⟨⟨by (first | exact True.intro), rfl⟩, ?_⟩)); refine KX_cons ?_; (first | (refine vl ?_ <;> refine KO_nil ⟨⟨by (first | exact True.intro), rfl⟩, ?_⟩)); refine KX_cons ?_; (first | (refine vl ?_ <;> refine KO_nil ⟨⟨by (first | exact True.intro), rfl⟩, ?_⟩)); refine KX_cons ?_; (first | (refine vl ?_ <;> refine KO_nil ⟨⟨by (first | exact True.intro), rfl⟩, ?_⟩)); refine KX_cons ?_; (first | (refine lB S rfl rfl ?_ <;> refine KO_nil ⟨⟨by (first | exact Or.inr rfl), rfl⟩, ?_⟩)); refine KX_cons ?_; (first | (refine lB S rfl rfl ?_ <;> refine KO_nil ⟨⟨by (first | exact True.intro), rfl⟩, ?_⟩))
        ((refine KX_cons ?_; first | refine KO_fn rfl rfl rfl rfl rfl ((copied_ok S.wf g (hr _ S.sub) (by omega)).mono ?_)); rintro _ h ⟨tv, rfl, x⟩) <;> ((refine KO_nil ⟨⟨True.intro, ?_⟩, ?_⟩; (focus ((show keepsX _ _ _ _ _; simp only [keepsX]; (repeat' (first | exact True.intro | refine And.intro ?_ ?_)); all_goals (intro hw; first | exact x.ext.old _ S.bB))))); replace S := S.join1 x; clear x; refine KX_cons ?_; (first | ((refine one 9 S ?_; have S0 := S; clear S; intro u h S); refine KO_nil ⟨⟨True.intro, ?_⟩, ?_⟩; (focus ((show keepsX _ _ _ _ _; simp only [keepsX]; (repeat' (first | exact True.intro | refine And.intro ?_ ?_)); all_goals (intro hw; first | exact (S.gB).trans (S0.gB).symm)))); clear S0)))
        refine KX_cons ?_; refine app (y0 := { g with tv := tv }) S rfl rfl ?_; have S0 := S; clear S; intro v h S; obtain ⟨vg', rfl⟩ := S.sV v; refine KO_nil ⟨⟨True.intro, ?_⟩, ?_⟩; (focus ((show keepsX _ _ _ _ _; simp only [keepsX]; (repeat' (first | exact True.intro | refine And.intro ?_ ?_)); all_goals (intro hw; first | exact absurd hw (by decide +kernel))))); clear S0; (refine KX_cons ?_; (first | (refine vl ?_ <;> refine KO_nil ⟨⟨by (first | exact True.intro), rfl⟩, ?_⟩)); refine KX_cons ?_; (first | (refine vl ?_ <;> refine KO_nil ⟨⟨by (first | exact True.intro), rfl⟩, ?_⟩)); refine KX_cons ?_; (first | (refine vl ?_ <;> refine KO_nil ⟨⟨by (first | exact True.intro), rfl⟩, ?_⟩)); refine KX_cons ?_; (first | ((refine sB S rfl rfl ?_; have S0 := S; clear S; intro h S); refine KO_nil ⟨⟨True.intro, ?_⟩, ?_⟩; (focus ((show keepsX _ _ _ _ _; simp only [keepsX]; (repeat' (first | exact True.intro | refine And.intro ?_ ?_)); all_goals (intro hw; first | exact absurd hw (by decide +kernel))))); clear S0)); refine KX_nil ?_)
        all_goals (repeat' (first | refine K_seq ?_ | (refine K_region (id := 13) ?_; refine mv ?_; refine KO_nil ?_)))
        refine K_ret ⟨_, rfl, ?_⟩
        rw [addF_0 hc0 hn hn64]
        replace S : Hs h0 h (.sl vg'.val 122 9 eG (gs ++ [{ g with tv := tv }]) :: .sl tv.val 9 1 eS g.tg :: .blk b (eG g) 122 :: .blk p [vg'.val, vt.val, .map (some m)] 234 :: .sl vt.val 152 3 eTi r.ts :: .mp m (.int .i64) (mPut mp g.name gs.length) :: tgR gs :: rs) := S
        have S := (show Hs h0 h (.sl tv.val 9 1 eS g.tg :: tgR gs :: .sl vg'.val 122 9 eG (gs ++ [{ g with tv := tv }]) :: .blk p [vg'.val, vt.val, .map (some m)] 234 :: .sl vt.val 152 3 eTi r.ts :: .mp m (.int .i64) (mPut mp g.name gs.length) :: rs) from S.pick)
        have S := Hs.tgApp (g := { g with tv := tv }) S
        refine ⟨rfl, S.bk vg' vt m (mPut mp g.name gs.length) (gs ++ [{ g with tv := tv }]) (by simp [q1]) ?_⟩
        rw [e1]; exact q2.app hn
end Go.Proofs.Xx
