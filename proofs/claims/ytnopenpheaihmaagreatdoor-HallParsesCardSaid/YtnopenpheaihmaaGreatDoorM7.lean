/-
  Facts of this program's types; the reference's permutation check.
-/
import Derived.Test.YtnopenpheaihmaaGreatDoorM4
import Derived.Test.YtnopenpheaihmaaGreatDoorM6
import Derived.KernelRfl
import Derived.Test.YtnopenpheaihmaaGreatDoorM5

namespace Go.Proofs.Xx
open Go Go.Proofs
set_option linter.unusedSimpArgs false
set_option linter.unusedVariables false

theorem und23 : Tryz.prog.underlying 23 = some (.slice 3) := by kernel_rfl
theorem sz3 : sizeT Tryz.prog 3 = some 1 := by kernel_rfl
theorem agg3 : isAggT Tryz.prog 3 = some false := by kernel_rfl
theorem z3 : zeroCellsT Tryz.prog 3 = some [.int .i64 0] := by kernel_rfl
theorem z4 : zeroCellsT Tryz.prog 4 = some [.bool false] := by kernel_rfl
/-- v reads as the ints l. -/
abbrev RdI (h : AH) (v : Value) (l : List Int) : Prop := Rd h v 1 l.length (ints l)

def refPerm (l : List Int) : Bool := decide (∀ i : Nat, i < l.length → (i : Int) ∈ l)

end Go.Proofs.Xx

/-
  The hall's small functions.
-/
namespace Go.Proofs.Xx
open Go Go.Proofs
set_option linter.unusedSimpArgs false
set_option linter.unusedVariables false
set_option maxRecDepth 100000

def BoolIs (v : Value) (p : Prop) : Prop := (v = .bool true ∧ p) ∨ (v = .bool false ∧ ¬ p)

def roundSize (a b : Int) : Int := if 1 ≤ a ∧ a ≤ 24 ∧ b = 0 then a else 0
def longSize (a b : Int) : Int := if 1 ≤ a ∧ a ≤ 11 ∧ 0 ≤ b ∧ b ≤ 2 then 2 * a + b else 0
def shoeSize (a b : Int) : Int := if 1 ≤ a ∧ a ≤ 8 ∧ 1 ≤ b ∧ b ≤ 8 then a + 2 * b else 0
def rowSize (a b : Int) : Int := if 1 ≤ a ∧ a ≤ 24 ∧ 0 ≤ b ∧ b ≤ a then a else 0

theorem roundSeats_ok {h : AH} (a b : Int) : Fn Tryz.prog Xh 143 [.int .i64 a, .int .i64 b] h (fun v h' => v = .int .i64 (roundSize a b) ∧ h' = h) := by
  refine Fn_K rfl Tryz.func143 rfl rfl ?_
  all_goals (repeat' (first | refine K_seq ?_ | refine k_cond rfl ?_ | refine K_skip ?_ | (refine K_region (id := 0) ?_; refine mv ?_; refine KO_nil ?_) | (refine K_region (id := 1) ?_; refine mv ?_; (first | (refine cS ?_ ?_ <;> intro hc)) <;> (refine mv ?_; (first | refine off ?_ | refine mv ?_); (first | refine off ?_ | (first | (refine cS ?_ ?_ <;> intro hc))) <;> (refine vl ?_; refine mv ?_; (first | refine off ?_ | refine mv ?_); (first | refine off ?_ | (first | (refine cS ?_ ?_ <;> intro hc))) <;> (refine vl ?_; refine KO_nil ?_)))) | (refine K_region (id := 2) ?_; refine mv ?_; refine KO_nil ?_) | (refine K_region (id := 3) ?_; refine mv ?_; refine mv ?_; refine KO_nil ?_)))
  all_goals (refine K_ret ⟨_, rfl, ?_⟩)
  all_goals (refine ⟨?_, rfl⟩; unfold roundSize; first | (rw [if_pos (by omega)]; rfl) | (rw [if_neg (by omega)]; rfl))
theorem longSeats_ok {h : AH} (a b : Int) : Fn Tryz.prog Xh 148 [.int .i64 a, .int .i64 b] h (fun v h' => v = .int .i64 (longSize a b) ∧ h' = h) := by
  refine Fn_K rfl Tryz.func148 rfl rfl ?_
  all_goals (repeat' (first | refine K_seq ?_ | refine k_cond rfl ?_ | refine K_skip ?_ | (refine K_region (id := 0) ?_; refine mv ?_; refine KO_nil ?_) | (refine K_region (id := 1) ?_; refine mv ?_; (first | (refine cS ?_ ?_ <;> intro hc)) <;> (refine mv ?_; (first | refine off ?_ | refine mv ?_); (first | refine off ?_ | (first | (refine cS ?_ ?_ <;> intro hc))) <;> (refine vl ?_; refine mv ?_; (first | refine off ?_ | refine mv ?_); (first | refine off ?_ | (first | (refine cS ?_ ?_ <;> intro hc))) <;> (refine vl ?_; refine mv ?_; (first | refine off ?_ | refine mv ?_); (first | refine off ?_ | (first | (refine cS ?_ ?_ <;> intro hc))) <;> (refine vl ?_; refine KO_nil ?_))))) | (refine K_region (id := 2) ?_; refine mv ?_; refine KO_nil ?_) | (refine K_region (id := 3) ?_; refine mv ?_; refine ml ?_; refine mv ?_; refine ad ?_; refine mv ?_; refine KO_nil ?_)))
  all_goals (refine K_ret ⟨_, rfl, ?_⟩)
  all_goals (refine ⟨?_, rfl⟩; unfold longSize; first | (rw [if_pos (by omega)]; rfl) | (rw [if_neg (by omega)]; rfl))
theorem shoeSeats_ok {h : AH} (a b : Int) : Fn Tryz.prog Xh 153 [.int .i64 a, .int .i64 b] h (fun v h' => v = .int .i64 (shoeSize a b) ∧ h' = h) := by
  refine Fn_K rfl Tryz.func153 rfl rfl ?_
  all_goals (repeat' (first | refine K_seq ?_ | refine k_cond rfl ?_ | refine K_skip ?_ | (refine K_region (id := 0) ?_; refine mv ?_; refine KO_nil ?_) | (refine K_region (id := 1) ?_; refine mv ?_; (first | (refine cS ?_ ?_ <;> intro hc)) <;> (refine mv ?_; (first | refine off ?_ | refine mv ?_); (first | refine off ?_ | (first | (refine cS ?_ ?_ <;> intro hc))) <;> (refine vl ?_; refine mv ?_; (first | refine off ?_ | refine mv ?_); (first | refine off ?_ | (first | (refine cS ?_ ?_ <;> intro hc))) <;> (refine vl ?_; refine mv ?_; (first | refine off ?_ | refine mv ?_); (first | refine off ?_ | (first | (refine cS ?_ ?_ <;> intro hc))) <;> (refine vl ?_; refine KO_nil ?_))))) | (refine K_region (id := 2) ?_; refine mv ?_; refine KO_nil ?_) | (refine K_region (id := 3) ?_; refine mv ?_; refine mv ?_; refine ml ?_; refine ad ?_; refine mv ?_; refine KO_nil ?_)))
  all_goals (refine K_ret ⟨_, rfl, ?_⟩)
  all_goals (refine ⟨?_, rfl⟩; unfold shoeSize; first | (rw [if_pos (by omega)]; rfl) | (rw [if_neg (by omega)]; rfl))
theorem rowSeats_ok {h : AH} (a b : Int) : Fn Tryz.prog Xh 158 [.int .i64 a, .int .i64 b] h (fun v h' => v = .int .i64 (rowSize a b) ∧ h' = h) := by
  refine Fn_K rfl Tryz.func158 rfl rfl ?_
  all_goals (repeat' (first | refine K_seq ?_ | refine k_cond rfl ?_ | refine K_skip ?_ | (refine K_region (id := 0) ?_; refine mv ?_; refine KO_nil ?_) | (refine K_region (id := 1) ?_; refine mv ?_; (first | (refine cS ?_ ?_ <;> intro hc)) <;> (refine mv ?_; (first | refine off ?_ | refine mv ?_); (first | refine off ?_ | (first | (refine cS ?_ ?_ <;> intro hc))) <;> (refine vl ?_; refine mv ?_; (first | refine off ?_ | refine mv ?_); (first | refine off ?_ | (first | (refine cS ?_ ?_ <;> intro hc))) <;> (refine vl ?_; refine mv ?_; (first | refine off ?_ | refine mv ?_); (first | refine off ?_ | refine mv ?_); (first | refine off ?_ | (first | (refine cS ?_ ?_ <;> intro hc))) <;> (refine vl ?_; refine KO_nil ?_))))) | (refine K_region (id := 2) ?_; refine mv ?_; refine KO_nil ?_) | (refine K_region (id := 3) ?_; refine mv ?_; refine mv ?_; refine KO_nil ?_)))
  all_goals (refine K_ret ⟨_, rfl, ?_⟩)
  all_goals (refine ⟨?_, rfl⟩; unfold rowSize; first | (rw [if_pos (by omega)]; rfl) | (rw [if_neg (by omega)]; rfl))

/-! Which seats are beside, which across: x is before y. -/
def roundB (a b x y : Int) : Prop := y - x = 1 ∨ y - x = a - 1
def roundA (a b x y : Int) : Prop := a % 2 = 0 ∧ y - x = a / 2
def longB (a b x y : Int) : Prop :=
  if b = 2 ∧ y = 2 * a + 1 then x = 0 ∨ x = y - 1
  else if 0 < b ∧ (x = a ∨ y = a) then y - x = 1
  else y - x = 1 ∧ (y < a ∨ x ≥ a + min b 1)
def longA (a b x y : Int) : Prop := if b = 2 ∧ y = 2 * a + 1 then x = a else x < a ∧ x + y = a + min b 1 + a - 1
def shoeB (a b x y : Int) : Prop := y - x = 1
def shoeA (a b x y : Int) : Prop := x < b ∧ x + y = a + 2 * b - 1
def rowB (a b x y : Int) : Prop := y - x = 1 ∧ (b = 0 ∨ y % b ≠ 0)

/-- The sizes and the seats are within bounds. -/
def Bds (a b x y : Int) : Prop := 0 ≤ a ∧ a ≤ 100 ∧ 0 ≤ b ∧ b ≤ 100 ∧ 0 ≤ x ∧ x ≤ 1000 ∧ 0 ≤ y ∧ y ≤ 1000

end Go.Proofs.Xx

/-
  The hall's layouts; which seats are beside and across, by the table.
-/
namespace Go.Proofs.Xx
open Go Go.Proofs
set_option linter.unusedSimpArgs false
set_option linter.unusedVariables false
set_option maxRecDepth 100000

/-- A slice's value. -/
structure SlV where
  p : Option Addr
  n : Nat
  c : Nat
abbrev SlV.val (s : SlV) : Value := .slice s.p s.n s.c
theorem Rd.isSl {h : AH} {v : Value} {z n : Nat} {c : List Value} (r : Rd h v z n c) : ∃ s : SlV, v = s.val := by
  rcases r with ⟨rfl, -, -⟩ | ⟨b, o, cap, cc, e, s, q, rfl, -, -⟩
  · exact ⟨⟨none, 0, 0⟩, rfl⟩
  · exact ⟨⟨some ⟨b, o, none⟩, n, cap⟩, rfl⟩
structure Tab where
  name : List UInt8
  shape : Int
  A : Int
  B : Int
  os : SlV
  opn : List Int
  X : Int
  Y : Int
abbrev Tab.ov (t : Tab) : Value := t.os.val
instance : Inhabited Tab := ⟨⟨[], 0, 0, 0, ⟨none, 0, 0⟩, [], 0, 0⟩⟩
def eT (t : Tab) : List Value := [str t.name, .int .u8 t.shape, .int .i64 t.A, .int .i64 t.B, t.ov, .int .i64 t.X, .int .i64 t.Y]
abbrev tabV (t : Tab) : Value := .agg (eT t).toArray

def fnV (n : Nat) : Value := .func (.func n) #[] #[]
def wRound : List UInt8 := [114, 111, 117, 110, 100]
def wLong : List UInt8 := [108, 111, 110, 103]
def wShoe : List UInt8 := [104, 111, 114, 115, 101, 115, 104, 111, 101]
def wRow : List UInt8 := [114, 111, 119]
def lay1 : List Value := [str wRound, fnV 143, fnV 144, fnV 145, fnV 146, fnV 147]
def lay2 : List Value := [str wLong, fnV 148, fnV 149, fnV 150, fnV 151, fnV 152]
def lay3 : List Value := [str wShoe, fnV 153, fnV 154, fnV 155, fnV 156, fnV 157]
def lay4 : List Value := [str wRow, fnV 158, fnV 159, fnV 160, fnV 161, fnV 162]
def lay0 : List Value := [str [], .nilFunc, .nilFunc, .nilFunc, .nilFunc, .nilFunc]
def LayIs (s : Int) (v : Value) : Prop :=
  (v = .tuple #[.agg lay1.toArray, .bool true] ∧ s = 1) ∨ (v = .tuple #[.agg lay2.toArray, .bool true] ∧ s = 2) ∨ (v = .tuple #[.agg lay3.toArray, .bool true] ∧ s = 3) ∨
  (v = .tuple #[.agg lay4.toArray, .bool true] ∧ s = 4) ∨ (v = .tuple #[.agg lay0.toArray, .bool false] ∧ ¬ (1 ≤ s ∧ s ≤ 4))

theorem layoutOf_ok {h0 : AH} (w : WfH h0) (s : Int) : Fn Tryz.prog Xh 109 [.int .u8 s] h0 (fun v h' => LayIs s v ∧ Hs h0 h' []) := by
  have S := Hs.start w
  refine Fn_K rfl Tryz.func109 rfl rfl ?_
  all_goals (repeat' (first | refine K_seq ?_ | refine k_cond rfl ?_ | refine K_skip ?_ | refine k_block ?_ | (refine K_region (id := 0) ?_; (refine al S ?_; clear S; intro b h S); refine mv ?_; refine KO_nil ?_) | (refine K_region (id := 1) ?_; refine mv ?_; refine KO_nil ?_) | (refine K_region (id := 2) ?_; (first | (refine cS ?_ ?_ <;> intro hc)) <;> (refine mv ?_; refine KO_nil ?_)) | (refine K_region (id := 3) ?_; refine vl ?_; (first | (refine sB S rfl rfl ?_; clear S; intro h S)); refine mv ?_; refine KO_nil ?_) | (refine K_region (id := 4) ?_; (first | (refine cS ?_ ?_ <;> intro hc)) <;> (refine mv ?_; refine KO_nil ?_)) | (refine K_region (id := 5) ?_; refine vl ?_; (first | (refine sB S rfl rfl ?_; clear S; intro h S)); refine mv ?_; refine KO_nil ?_) | (refine K_region (id := 6) ?_; (first | (refine cS ?_ ?_ <;> intro hc)) <;> (refine mv ?_; refine KO_nil ?_)) | (refine K_region (id := 7) ?_; refine vl ?_; (first | (refine sB S rfl rfl ?_; clear S; intro h S)); refine mv ?_; refine KO_nil ?_) | (refine K_region (id := 8) ?_; (first | (refine cS ?_ ?_ <;> intro hc)) <;> (refine mv ?_; refine KO_nil ?_)) | (refine K_region (id := 9) ?_; refine vl ?_; (first | (refine sB S rfl rfl ?_; clear S; intro h S)); refine mv ?_; refine KO_nil ?_) | (refine K_region (id := 10) ?_; refine vl ?_; (first | (refine sB S rfl rfl ?_; clear S; intro h S)); refine mv ?_; refine KO_nil ?_)))
  all_goals (refine K_ret ⟨_, ret_cell S rfl (by first | exact .here) (by exact rfl) (by exact rfl), ?_⟩)
  all_goals (refine ⟨?_, S.drop⟩; unfold LayIs)
  · exact .inl ⟨rfl, by omega⟩
  · exact .inr (.inl ⟨rfl, by omega⟩)
  · exact .inr (.inr (.inl ⟨rfl, by omega⟩))
  · exact .inr (.inr (.inr (.inl ⟨rfl, by omega⟩)))
  · exact .inr (.inr (.inr (.inr ⟨rfl, by omega⟩)))

def sizeOf1 (s a b : Int) : Int := if s = 1 then roundSize a b else if s = 2 then longSize a b else if s = 3 then shoeSize a b else if s = 4 then rowSize a b else 0
def tsize (t : Tab) : Int := sizeOf1 t.shape t.A t.B

theorem size_ok {h0 : AH} (w : WfH h0) (t : Tab) : Fn Tryz.prog Xh 83 [tabV t] h0 (fun v h' => v = .int .i64 (tsize t) ∧ Hs h0 h' []) := by
  have S := Hs.start w
  refine Fn_K rfl Tryz.func83 rfl rfl ?_
  all_goals (repeat' (first | refine K_seq ?_ | (refine K_region (id := 0) ?_; (refine bx S ?_; clear S; intro b h S); refine mv ?_; refine KO_nil ?_) | (refine K_region (id := 1) ?_; refine vl ?_; refine lB S rfl rfl ?_)))
  (refine KO_fn rfl rfl rfl rfl rfl ((layoutOf_ok S.wf _).mono ?_); rintro _ h ⟨⟨rfl, hs⟩ | ⟨rfl, hs⟩ | ⟨rfl, hs⟩ | ⟨rfl, hs⟩ | ⟨rfl, hs⟩, x⟩) <;> (have S := S.join0 x; refine mv ?_; refine vl ?_; refine vl ?_; (refine al S ?_; clear S; intro b h S); (first | (refine sB S rfl rfl ?_; clear S; intro h S)); refine mv ?_; refine KO_nil ?_)
  all_goals (repeat' (first | refine K_seq ?_ | refine k_cond rfl ?_ | refine K_skip ?_ | (refine K_region (id := 2) ?_; refine mv ?_; refine vl ?_; refine KO_nil ?_) | (refine K_region (id := 3) ?_; refine mv ?_; refine KO_nil ?_) | (refine K_region (id := 4) ?_; refine vl ?_; refine lB S rfl rfl ?_; refine vl ?_; refine lB S rfl rfl ?_; refine vl ?_; refine lB S rfl rfl ?_)))
  · (refine KO_call rfl rfl rfl rfl ((roundSeats_ok _ _).mono ?_); rintro _ _ ⟨rfl, rfl⟩) <;> (refine mv ?_; refine KO_nil ?_)
    all_goals (repeat' (fail))
    refine K_ret ⟨_, rfl, ?_⟩
    exact ⟨by simp [oneOrTuple, tsize, sizeOf1, hs], S.drop⟩
  · (refine KO_call rfl rfl rfl rfl ((longSeats_ok _ _).mono ?_); rintro _ _ ⟨rfl, rfl⟩) <;> (refine mv ?_; refine KO_nil ?_)
    all_goals (repeat' (fail))
    refine K_ret ⟨_, rfl, ?_⟩
    exact ⟨by simp [oneOrTuple, tsize, sizeOf1, hs], S.drop⟩
  · (refine KO_call rfl rfl rfl rfl ((shoeSeats_ok _ _).mono ?_); rintro _ _ ⟨rfl, rfl⟩) <;> (refine mv ?_; refine KO_nil ?_)
    all_goals (repeat' (fail))
    refine K_ret ⟨_, rfl, ?_⟩
    exact ⟨by simp [oneOrTuple, tsize, sizeOf1, hs], S.drop⟩
  · (refine KO_call rfl rfl rfl rfl ((rowSeats_ok _ _).mono ?_); rintro _ _ ⟨rfl, rfl⟩) <;> (refine mv ?_; refine KO_nil ?_)
    all_goals (repeat' (fail))
    refine K_ret ⟨_, rfl, ?_⟩
    exact ⟨by simp [oneOrTuple, tsize, sizeOf1, hs], S.drop⟩
  · refine K_ret ⟨_, rfl, ?_⟩
    refine ⟨?_, S.drop⟩
    simp only [oneOrTuple, tsize, sizeOf1]
    rw [if_neg (by omega), if_neg (by omega), if_neg (by omega), if_neg (by omega)]

def besideP (t : Tab) (x y : Int) : Prop := x ≠ y ∧ ((t.shape = 1 ∧ roundB t.A t.B (min x y) (max x y)) ∨ (t.shape = 2 ∧ longB t.A t.B (min x y) (max x y)) ∨ (t.shape = 3 ∧ shoeB t.A t.B (min x y) (max x y)) ∨ (t.shape = 4 ∧ rowB t.A t.B (min x y) (max x y)))
def acrossP (t : Tab) (x y : Int) : Prop := x ≠ y ∧ ((t.shape = 1 ∧ roundA t.A t.B (min x y) (max x y)) ∨ (t.shape = 2 ∧ longA t.A t.B (min x y) (max x y)) ∨ (t.shape = 3 ∧ shoeA t.A t.B (min x y) (max x y)))
def nearP (t : Tab) (x y : Int) : Prop := besideP t x y ∨ acrossP t x y
def TabB (t : Tab) : Prop := 1 ≤ t.shape ∧ t.shape ≤ 4 ∧ 0 ≤ t.A ∧ t.A ≤ 100 ∧ 0 ≤ t.B ∧ t.B ≤ 100

end Go.Proofs.Xx

/-
  Distances in a graph, by breadth first search and by levels.
-/
namespace Go.Proofs.Xx
set_option linter.unusedVariables false

section
variable (N : Int → Int → Prop) (n s : Nat)
/-- There is a walk of d steps from s to y. -/
def Wk : Nat → Nat → Prop
  | 0, y => y = s
  | d + 1, y => ∃ x : Nat, x < n ∧ Wk d x ∧ N x y
def IsDist (d y : Nat) : Prop := Wk N n s d y ∧ ∀ e, e < d → ¬ Wk N n s e y
/-- The list tells all distances; -1 where there is no way. -/
def DistL (l : List Int) : Prop := l.length = n ∧ ∀ y, y < n → (l.getD y default = -1 ∧ ∀ d, ¬ Wk N n s d y) ∨ ∃ d : Nat, l.getD y default = (d : Int) ∧ IsDist N n s d y
end
section
variable {N : Int → Int → Prop} {n s : Nat}
theorem IsDist.unique {d e y : Nat} (h1 : IsDist N n s d y) (h2 : IsDist N n s e y) : d = e := by
  rcases Nat.lt_trichotomy d e with h | h | h
  · exact absurd h1.1 (h2.2 d h)
  · exact h
  · exact absurd h2.1 (h1.2 e h)
theorem Wk.least {d y : Nat} (h : Wk N n s d y) : ∃ e, e ≤ d ∧ IsDist N n s e y := by
  induction d using Nat.strongRecOn with
  | _ d ih =>
    by_cases hd : ∃ e, e < d ∧ Wk N n s e y
    · obtain ⟨e, h1, h2⟩ := hd
      obtain ⟨e', h3, h4⟩ := ih e h1 h2
      exact ⟨e', by omega, h4⟩
    · exact ⟨d, Nat.le_refl _, h, fun e he hw => hd ⟨e, he, hw⟩⟩
theorem DistL.unique {l m : List Int} (h1 : DistL N n s l) (h2 : DistL N n s m) : l = m := by
  refine List.ext_getElem (h1.1.trans h2.1.symm) fun i q1 q2 => ?_
  have hi : i < n := by have := h1.1; omega
  have e1 : l.getD i default = l[i] := by simp [List.getD_eq_getElem?_getD, List.getElem?_eq_getElem q1]
  have e2 : m.getD i default = m[i] := by simp [List.getD_eq_getElem?_getD, List.getElem?_eq_getElem q2]
  have a := h1.2 i hi
  have b := h2.2 i hi
  rw [e1] at a; rw [e2] at b
  rcases a with ⟨a1, a2⟩ | ⟨d, a1, a2⟩ <;> rcases b with ⟨b1, b2⟩ | ⟨e, b1, b2⟩
  · omega
  · exact absurd b2.1 (a2 e)
  · exact absurd a2.1 (b2 d)
  · have := a2.unique b2; omega

abbrev at_ (l : List Int) (x : Int) : Int := l.getD x.toNat default

abbrev rest_ (l : List Int) : Nat := l.countP (fun x => decide (x < 0))
theorem rest_set : ∀ (l : List Int) (m : Nat) (v : Int), m < l.length → l.getD m default < 0 → 0 ≤ v → rest_ (l.set m v) + 1 = rest_ l
  | [], m, v, h, _, _ => by simp at h
  | x :: l, 0, v, _, h1, h2 => by
    have h1' : x < 0 := by simpa using h1
    have h2' : ¬ v < 0 := by omega
    simp [rest_, h1', h2']
  | x :: l, m + 1, v, h, h1, h2 => by
    have ih := rest_set l m v (by simpa using h) (by simpa using h1) h2
    unfold rest_ at ih ⊢
    simp only [List.set_cons_succ, List.countP_cons]
    omega

/-- Breadth first search: out, the queue; k is being gone through, up to m. -/
structure BfsIn (N : Int → Int → Prop) (n s : Nat) (out q : List Int) (k : Int) (m : Nat) : Prop where
  len : out.length = n
  src : s < n ∧ 0 ≤ at_ out s
  vis : ∀ y : Nat, y < n → 0 ≤ at_ out y → IsDist N n s (at_ out y).toNat y
  neg : ∀ y : Nat, y < n → at_ out y < 0 → at_ out y = -1
  low : ∀ y : Nat, y < n → at_ out y + (rest_ out : Int) ≤ (n : Int) - 1
  kin : 0 ≤ k ∧ k < n ∧ 0 ≤ at_ out k
  qin : ∀ x ∈ q, 0 ≤ x ∧ x < n ∧ at_ out k ≤ at_ out x ∧ at_ out x ≤ at_ out k + 1
  sort : q.Pairwise fun x y => at_ out x ≤ at_ out y
  here : ∀ y : Nat, y < m → y < n → N k y → 0 ≤ at_ out y
  done : ∀ x : Nat, x < n → 0 ≤ at_ out x → (x : Int) ∉ q → (x : Int) ≠ k → ∀ y : Nat, y < n → N x y → 0 ≤ at_ out y
structure Bfs (N : Int → Int → Prop) (n s : Nat) (out q : List Int) : Prop where
  len : out.length = n
  src : s < n ∧ 0 ≤ at_ out s
  vis : ∀ y : Nat, y < n → 0 ≤ at_ out y → IsDist N n s (at_ out y).toNat y
  neg : ∀ y : Nat, y < n → at_ out y < 0 → at_ out y = -1
  low : ∀ y : Nat, y < n → at_ out y + (rest_ out : Int) ≤ (n : Int) - 1
  qin : ∀ x ∈ q, 0 ≤ x ∧ x < n ∧ 0 ≤ at_ out x
  sort : q.Pairwise fun x y => at_ out x ≤ at_ out y
  span : ∀ x ∈ q, ∀ y ∈ q, at_ out y ≤ at_ out x + 1
  done : ∀ x : Nat, x < n → 0 ≤ at_ out x → (x : Int) ∉ q → ∀ y : Nat, y < n → N x y → 0 ≤ at_ out y

theorem BfsIn.near {out q : List Int} {k : Int} {m : Nat} (b : BfsIn N n s out q k m) : ∀ (e y : Nat), y < n → IsDist N n s e y → (e : Int) < at_ out k → 0 ≤ at_ out y ∧ (y : Int) ∉ q ∧ (y : Int) ≠ k := by
  intro e
  induction e with
  | zero =>
    intro y hy hd he
    have : y = s := hd.1
    subst this
    have h0 := b.src.2
    have h1 := (b.vis y hy h0).unique hd
    refine ⟨h0, fun q1 => ?_, fun q1 => ?_⟩
    · have := (b.qin _ q1).2.2.1; omega
    · rw [← q1] at he; omega
  | succ e ih =>
    intro y hy hd he
    obtain ⟨x, hx, hw, hn⟩ := hd.1
    have hdx : IsDist N n s e x := ⟨hw, fun e' he' hw' => hd.2 (e' + 1) (by omega) ⟨x, hx, hw', hn⟩⟩
    obtain ⟨q1, q2, q3⟩ := ih x hx hdx (by omega)
    have hy0 := b.done x hx q1 q2 q3 y hy hn
    have h1 := (b.vis y hy hy0).unique hd
    refine ⟨hy0, fun q1 => ?_, fun q1 => ?_⟩
    · have := (b.qin _ q1).2.2.1; omega
    · rw [← q1] at he; omega

theorem Bfs.take {out q : List Int} {k : Int} (b : Bfs N n s out (k :: q)) : BfsIn N n s out q k 0 := by
  obtain ⟨k1, k2, k3⟩ := b.qin k (by simp)
  have hs := List.pairwise_cons.1 b.sort
  exact ⟨b.len, b.src, b.vis, b.neg, b.low, ⟨k1, k2, k3⟩, fun x hx => ⟨(b.qin x (by simp [hx])).1, (b.qin x (by simp [hx])).2.1, hs.1 x hx, b.span k (by simp) x (by simp [hx])⟩, hs.2, fun y hy => by omega, fun x hx h0 hq hk => b.done x hx h0 (by simp [hq, hk])⟩
theorem BfsIn.back {out q : List Int} {k : Int} {m : Nat} (b : BfsIn N n s out q k m) (hm : n ≤ m) : Bfs N n s out q :=
  ⟨b.len, b.src, b.vis, b.neg, b.low, fun x hx => ⟨(b.qin x hx).1, (b.qin x hx).2.1, by have := (b.qin x hx).2.2.1; have := b.kin.2.2; omega⟩, b.sort,
    fun x hx y hy => by have := (b.qin x hx).2.2.1; have := (b.qin y hy).2.2.2; omega, fun x hx h0 hq y hy hN => by
      by_cases e : (x : Int) = k
      · exact b.here y (by omega) hy (e ▸ hN)
      · exact b.done x hx h0 hq e y hy hN⟩
theorem Bfs.start {out : List Int} (hl : out.length = n) (hs : s < n) (h0 : at_ out s = 0) (h1 : ∀ y : Nat, y < n → y ≠ s → at_ out y = -1) : Bfs N n s out [(s : Int)] := by
  refine ⟨hl, ⟨hs, by omega⟩, fun y hy hy0 => ?_, fun y hy hy0 => ?_, fun y hy => ?_, fun x hx => ?_, by simp, fun x hx y hy => ?_, fun x hx hx0 hxq => ?_⟩
  · by_cases e : y = s
    · subst e; rw [h0]; exact ⟨rfl, fun e he => by simp at he⟩
    · rw [h1 y hy e] at hy0; omega
  · by_cases e : y = s
    · subst e; omega
    · exact h1 y hy e
  · have hr : rest_ out ≤ n - 1 := by
      have h2 := rest_set (out.set s (-1)) s 0 (by simp; omega) (by simp [List.getD_eq_getElem?_getD, show s < out.length by omega]) (by omega)
      have h3 : (out.set s (-1)).set s 0 = out := by
        rw [List.set_set]
        refine List.ext_getElem (by simp) fun i q1 q2 => ?_
        rw [List.getElem_set]
        split
        · rename_i e
          subst e
          have : at_ out (s : Int) = out[s] := by unfold at_; simp [List.getD_eq_getElem?_getD, List.getElem?_eq_getElem q2]
          omega
        · rfl
      rw [h3] at h2
      have h4 : rest_ (out.set s (-1)) ≤ (out.set s (-1)).length := List.countP_le_length
      rw [List.length_set] at h4
      omega
    by_cases e : y = s
    · subst e; omega
    · have := h1 y hy e; omega
  · obtain rfl : x = (s : Int) := by simpa using hx
    omega
  · obtain rfl : x = (s : Int) := by simpa using hx
    obtain rfl : y = (s : Int) := by simpa using hy
    omega
  · have : x ≠ s := fun e => by subst e; simp at hxq
    rw [h1 x hx this] at hx0; omega
theorem Bfs.finish {out : List Int} (b : Bfs N n s out []) : DistL N n s out := by
  have all : ∀ d y, y < n → Wk N n s d y → 0 ≤ at_ out y := by
    intro d
    induction d with
    | zero => intro y hy hw; have : y = s := hw; subst this; exact b.src.2
    | succ d ih =>
      intro y hy ⟨x, hx, hw, hN⟩
      exact b.done x hx (ih x hx hw) (by simp) y hy hN
  refine ⟨b.len, fun y hy => ?_⟩
  have e : at_ out (y : Int) = out.getD y default := by unfold at_; simp
  rw [← e]
  rcases Int.lt_or_le (at_ out y) 0 with h | h
  · exact .inl ⟨b.neg y hy h, fun d hw => by have := all d y hy hw; omega⟩
  · exact .inr ⟨(at_ out y).toNat, (Int.toNat_of_nonneg h).symm, b.vis y hy h⟩
end
end Go.Proofs.Xx

/-
  The distances from a seat.
-/
namespace Go.Proofs.Xx
open Go Go.Proofs
set_option linter.unusedSimpArgs false
set_option linter.unusedVariables false
set_option maxRecDepth 100000

end Go.Proofs.Xx

/-
  The seat of honour of a table; the levels of its seats.
-/
namespace Go.Proofs.Xx
open Go Go.Proofs
set_option linter.unusedSimpArgs false
set_option linter.unusedVariables false
set_option maxRecDepth 100000

def honLong (a b : Int) : Int := if b > 0 then a else a / 2
def honOf (s a b : Int) : Int := if s = 2 then honLong a b else if s = 3 then b + a / 2 else if s = 4 then a / 2 else 0
/-- The seat of honour. -/
def tHon (t : Tab) : Int := honOf t.shape t.A t.B
/-- The levels: the distances, with the table's size where there is none. -/
def lvl (n : Nat) (l : List Int) : List Int := l.map fun x => if x < 0 then (n : Int) else x

def mixl (n : Nat) (l : List Int) (i : Nat) : List Int := (lvl n l).take i ++ l.drop i
end Go.Proofs.Xx

/-
  Names; the check of a table, the program's and the reference's.
-/
namespace Go.Proofs.Xx
open Go Go.Proofs
set_option linter.unusedSimpArgs false
set_option linter.unusedVariables false
set_option maxRecDepth 100000

def lowB (x : UInt8) : Prop := 97 ≤ x.toNat ∧ x.toNat ≤ 122
def nameP (s : List UInt8) : Prop := 1 ≤ s.length ∧ s.length ≤ 12 ∧ ∀ i, i < s.length → lowB (s.getD i default)

theorem name_ok {h0 : AH} (w : WfH h0) (s : List UInt8) (hs : s.length ≤ 1000000) : Fn Tryz.prog Xh 114 [str s] h0 (fun v h' => BoolIs v (nameP s) ∧ Hs h0 h' []) := by
  have S := Hs.start w
  refine Fn_K rfl Tryz.func114 rfl rfl ?_
  all_goals (repeat' (first | refine K_seq ?_ | refine k_block ?_ | (refine K_region (id := 0) ?_; refine mv ?_; refine KO_nil ?_) | (refine K_region (id := 1) ?_; refine mv ?_; refine KO_nil ?_)))
  refine k_loop (σ := Nat) (fun i h' => Hs h0 h' [] ∧ i ≤ s.length ∧ ∀ j, j < i → lowB (s.getD j default)) (fun i => s.length - i) (fun i => [(0, str s), (3, .int .i64 i)]) 0 (by repeat (first | exact Ks.le_nil _ | refine Ks.le_cons rfl ?_)) ?_ ?_
  · exact ⟨S, Nat.zero_le _, fun j hj => absurd hj (Nat.not_lt_zero _)⟩
  clear S
  rintro i h ⟨S, h1, h2⟩
  all_goals (repeat' (first | refine K_seq ?_ | refine k_cond rfl ?_ | refine K_skip ?_ | refine K_exit ?_ | refine k_block ?_ | (refine K_region (id := 2) ?_; refine mv ?_; refine mv ?_; refine tl ?_; (first | (refine cS ?_ ?_ <;> intro hc)) <;> (refine KO_nil ?_)) | (refine K_region (id := 3) ?_; refine mv ?_; refine ad ?_; refine mv ?_; refine KO_nil ?_) | (refine K_region (id := 4) ?_; refine mv ?_; refine mv ?_; refine ti ?_; (first | (refine cS ?_ ?_ <;> intro hc)) <;> (refine mv ?_; (first | refine off ?_ | refine mv ?_); (first | refine off ?_ | refine mv ?_); (first | refine off ?_ | (refine ti ?_)); (first | refine off ?_ | (first | (refine cS ?_ ?_ <;> intro hc))) <;> (refine vl ?_; refine KO_nil ?_))) | (refine K_region (id := 5) ?_; refine mv ?_; refine KO_nil ?_) | (refine K_region (id := 6) ?_; refine mv ?_; refine tl ?_; (first | (refine cS ?_ ?_ <;> intro hc)) <;> (refine mv ?_; (first | refine off ?_ | refine mv ?_); (first | refine off ?_ | refine tl ?_); (first | refine off ?_ | (first | (refine cS ?_ ?_ <;> intro hc))) <;> (refine vl ?_; refine mv ?_; refine KO_nil ?_)))))
  all_goals (try simp only [Int.toNat_natCast] at *)
  · refine K_ret ⟨_, rfl, ?_⟩
    exact ⟨.inr ⟨rfl, fun q => by have := q.2.2 i (by omega); unfold lowB at this; simp only [show (default : UInt8) = 0 from rfl] at this; omega⟩, S.drop⟩
  · refine K_ret ⟨_, rfl, ?_⟩
    exact ⟨.inr ⟨rfl, fun q => by have := q.2.2 i (by omega); unfold lowB at this; simp only [show (default : UInt8) = 0 from rfl] at this; omega⟩, S.drop⟩
  · refine ⟨i + 1, ?_, ?_, (by repeat (first | exact Ks.le_nil _ | refine Ks.le_cons rfl ?_))⟩
    · show s.length - (i + 1) < s.length - i; omega
    · refine ⟨S, by omega, fun j hj => ?_⟩
      rcases Nat.lt_or_ge j i with q | q
      · exact h2 j q
      · have e : j = i := by omega
        subst e
        unfold lowB
        simp only [show (default : UInt8) = 0 from rfl]
        omega
  all_goals (refine K_ret ⟨_, rfl, ?_⟩)
  all_goals refine ⟨?_, S.drop⟩
  · exact .inl ⟨rfl, by omega, by omega, fun j hj => h2 j (by omega)⟩
  · exact .inr ⟨rfl, fun q => by have := q.2.1; omega⟩
  · exact .inr ⟨rfl, fun q => by have := q.1; omega⟩

theorem refName_ok {h0 : AH} (w : WfH h0) (s : List UInt8) (hs : s.length ≤ 1000000) : Fn Tryz.prog Xh 123 [str s] h0 (fun v h' => BoolIs v (nameP s) ∧ Hs h0 h' []) := by
  have S := Hs.start w
  refine Fn_K rfl Tryz.func123 rfl rfl ?_
  all_goals (repeat' (first | refine K_seq ?_ | refine k_cond rfl ?_ | refine K_skip ?_ | refine k_block ?_ | (refine K_region (id := 0) ?_; refine mv ?_; refine KO_nil ?_) | (refine K_region (id := 1) ?_; refine mv ?_; refine tl ?_; (first | (refine cS ?_ ?_ <;> intro hc)) <;> (refine mv ?_; (first | refine off ?_ | refine mv ?_); (first | refine off ?_ | refine tl ?_); (first | refine off ?_ | (first | (refine cS ?_ ?_ <;> intro hc))) <;> (refine vl ?_; refine KO_nil ?_))) | (refine K_region (id := 2) ?_; refine mv ?_; refine KO_nil ?_) | (refine K_region (id := 3) ?_; refine mv ?_; refine KO_nil ?_)))
  · refine K_ret ⟨_, rfl, ?_⟩
    exact ⟨.inr ⟨rfl, fun q => by have := q.1; omega⟩, S.drop⟩
  · refine K_ret ⟨_, rfl, ?_⟩
    exact ⟨.inr ⟨rfl, fun q => by have := q.2.1; omega⟩, S.drop⟩
  rename_i hc1
  refine k_loop (σ := Nat) (fun i h' => Hs h0 h' [] ∧ i ≤ s.length ∧ ∀ j, j < i → lowB (s.getD j default)) (fun i => s.length - i) (fun i => [(0, str s), (3, .int .i64 i)]) 0 (by repeat (first | exact Ks.le_nil _ | refine Ks.le_cons rfl ?_)) ?_ ?_
  · exact ⟨S, Nat.zero_le _, fun j hj => absurd hj (Nat.not_lt_zero _)⟩
  clear S
  rintro i h ⟨S, h1, h2⟩
  all_goals (repeat' (first | refine K_seq ?_ | refine k_cond rfl ?_ | refine K_skip ?_ | refine K_exit ?_ | refine k_block ?_ | (refine K_region (id := 4) ?_; refine mv ?_; refine mv ?_; refine tl ?_; (first | (refine cS ?_ ?_ <;> intro hc)) <;> (refine KO_nil ?_)) | (refine K_region (id := 5) ?_; refine mv ?_; refine ad ?_; refine mv ?_; refine KO_nil ?_) | (refine K_region (id := 6) ?_; refine mv ?_; refine mv ?_; refine ti ?_; (first | (refine cS ?_ ?_ <;> intro hc)) <;> (refine mv ?_; (first | refine off ?_ | refine mv ?_); (first | refine off ?_ | refine mv ?_); (first | refine off ?_ | (refine ti ?_)); (first | refine off ?_ | (first | (refine cS ?_ ?_ <;> intro hc))) <;> (refine vl ?_; refine KO_nil ?_))) | (refine K_region (id := 7) ?_; refine mv ?_; refine KO_nil ?_) | (refine K_region (id := 8) ?_; refine mv ?_; refine KO_nil ?_)))
  all_goals (try simp only [Int.toNat_natCast] at *)
  · refine K_ret ⟨_, rfl, ?_⟩
    exact ⟨.inr ⟨rfl, fun q => by have := q.2.2 i (by omega); unfold lowB at this; simp only [show (default : UInt8) = 0 from rfl] at this; omega⟩, S.drop⟩
  · refine K_ret ⟨_, rfl, ?_⟩
    exact ⟨.inr ⟨rfl, fun q => by have := q.2.2 i (by omega); unfold lowB at this; simp only [show (default : UInt8) = 0 from rfl] at this; omega⟩, S.drop⟩
  · refine ⟨i + 1, ?_, ?_, (by repeat (first | exact Ks.le_nil _ | refine Ks.le_cons rfl ?_))⟩
    · show s.length - (i + 1) < s.length - i; omega
    · refine ⟨S, by omega, fun j hj => ?_⟩
      rcases Nat.lt_or_ge j i with q | q
      · exact h2 j q
      · have e : j = i := by omega
        subst e
        unfold lowB
        simp only [show (default : UInt8) = 0 from rfl]
        omega
  all_goals (refine K_ret ⟨_, rfl, ?_⟩)
  exact ⟨.inl ⟨rfl, by omega, by omega, fun j hj => h2 j (by omega)⟩, S.drop⟩
end Go.Proofs.Xx

/-
  The check of a table, the program's and the reference's.
-/
namespace Go.Proofs.Xx
open Go Go.Proofs
set_option linter.unusedSimpArgs false
set_option linter.unusedVariables false
set_option maxRecDepth 100000

/-- The open seats stand in order, and each is a seat. -/
def OpnOk (n : Int) (l : List Int) : Prop := ∀ i, i < l.length → (0 ≤ l.getD i default ∧ l.getD i default < n) ∧ (0 < i → l.getD (i - 1) default < l.getD i default)
def XYok (t : Tab) : Prop := 0 ≤ t.X ∧ t.X ≤ 1000 ∧ 0 ≤ t.Y ∧ t.Y ≤ 1000
open Classical in
noncomputable def chk (t : Tab) : Int := if ¬ nameP t.name then 4 else if tsize t = 0 then 10 else if ¬ OpnOk (tsize t) t.opn then 11 else if ¬ XYok t then 2 else 0
/-- What a table's list of open seats reads as. -/
abbrev TabR (h : AH) (t : Tab) : Prop := RdL h t.ov 1 eI t.opn ∧ t.name.length ≤ 1000 ∧ t.opn.length ≤ 1000

/-- The same of tables with longer names and lists. -/
abbrev TabL (h : AH) (t : Tab) : Prop := RdL h t.ov 1 eI t.opn ∧ t.name.length ≤ 1000000 ∧ t.opn.length ≤ 1000000
theorem check_okL {h0 : AH} (w : WfH h0) (t : Tab) (r : TabL h0 t) : Fn Tryz.prog Xh 56 [tabV t] h0 (fun v h' => v = .int .i64 (chk t) ∧ Hs h0 h' []) := by
  have S := Hs.start w
  obtain ⟨hr, hnm, hol⟩ := r
  refine Fn_K rfl Tryz.func56 rfl rfl ?_
  all_goals (repeat' (first | refine K_seq ?_ | (refine K_region (id := 0) ?_; (refine bx S ?_; clear S; intro b h S); refine mv ?_; refine KO_nil ?_) | (refine K_region (id := 1) ?_; refine lB S rfl rfl ?_)))
  (refine KO_fn rfl rfl rfl rfl rfl ((size_ok S.wf t).mono ?_); rintro _ h ⟨rfl, x⟩) <;> (replace S := S.join0 x; clear x; refine mv ?_; refine KO_nil ?_)
  all_goals (repeat' (first | refine K_seq ?_ | refine k_block ?_ | (refine K_region (id := 2) ?_; refine mv ?_; refine KO_nil ?_) | (refine K_region (id := 3) ?_; refine vl ?_; refine lB S rfl rfl ?_)))
  (refine KO_fn rfl rfl rfl rfl rfl ((name_ok S.wf t.name hnm).mono ?_); rintro _ h ⟨⟨rfl, hq⟩ | ⟨rfl, hq⟩, x⟩) <;> (replace S := S.join0 x; clear x; refine vl ?_; refine mv ?_; refine KO_nil ?_)
  all_goals (repeat' (first | refine K_seq ?_ | refine k_cond rfl ?_ | refine K_skip ?_ | refine k_block ?_ | (refine K_region (id := 4) ?_; refine mv ?_; refine KO_nil ?_) | (refine K_region (id := 5) ?_; refine mv ?_; (first | (refine cS ?_ ?_ <;> intro hc)) <;> (refine mv ?_; refine KO_nil ?_)) | (refine K_region (id := 6) ?_; refine mv ?_; refine KO_nil ?_) | (refine K_region (id := 7) ?_; refine vl ?_; refine lB S rfl rfl ?_; refine lnB S ?_; refine mv ?_; refine KO_nil ?_)))
  · refine K_ret ⟨_, rfl, ?_⟩
    exact ⟨by unfold chk; rw [if_neg (by simpa using hq), if_pos hc]; rfl, S.drop⟩
  · refine k_loop (σ := Nat × Int) (fun (i, la) h' => Hs h0 h' [.blk b (tabV t).cells.toList 25] ∧ i ≤ t.opn.length ∧ (∀ j, j < i → (0 ≤ t.opn.getD j default ∧ t.opn.getD j default < tsize t) ∧ (0 < j → t.opn.getD (j - 1) default < t.opn.getD j default)) ∧ (la = if i = 0 then -1 else t.opn.getD (i - 1) default)) (fun (i, la) => t.opn.length - i) (fun (i, la) => [(1, .pointer (some ⟨b, 0, none⟩)), (3, .int .i64 (tsize t)), (4, .int .i64 la), (18, t.ov), (19, .int .i64 t.opn.length), (20, .int .i64 i)]) (0, -1) (by repeat (first | exact Ks.le_nil _ | refine Ks.le_cons rfl ?_)) ?_ ?_
    · exact ⟨S, Nat.zero_le _, fun j hj => absurd hj (Nat.not_lt_zero _), rfl⟩
    clear S
    rintro ⟨i, la⟩ h ⟨S, h1, h2, h3⟩
    all_goals (repeat' (first | refine K_seq ?_ | refine k_cond rfl ?_ | refine K_skip ?_ | refine K_exit ?_ | refine k_block ?_ | (refine K_region (id := 8) ?_; (first | (refine cS ?_ ?_ <;> intro hc)) <;> (refine KO_nil ?_)) | (refine K_region (id := 9) ?_; refine ixB S ?_; refine lEB S ?_; refine mv ?_; refine KO_nil ?_) | (refine K_region (id := 10) ?_; refine mv ?_; refine mv ?_; (first | (refine cS ?_ ?_ <;> intro hc)) <;> (refine mv ?_; (first | refine off ?_ | refine mv ?_); (first | refine off ?_ | refine mv ?_); (first | refine off ?_ | (first | (refine cS ?_ ?_ <;> intro hc))) <;> (refine vl ?_; refine KO_nil ?_))) | (refine K_region (id := 11) ?_; refine mv ?_; refine KO_nil ?_) | (refine K_region (id := 12) ?_; refine mv ?_; refine mv ?_; refine KO_nil ?_) | (refine K_region (id := 13) ?_; refine ad ?_; refine mv ?_; refine KO_nil ?_) | (refine K_region (id := 14) ?_; refine vl ?_; refine lB S rfl rfl ?_; (first | (refine cS ?_ ?_ <;> intro hc)) <;> (refine mv ?_; (first | refine off ?_ | (refine vl ?_)); (first | refine off ?_ | (refine lB S rfl rfl ?_)); (first | refine off ?_ | (first | (refine cS ?_ ?_ <;> intro hc))) <;> (refine vl ?_; refine mv ?_; (first | refine off ?_ | (refine vl ?_)); (first | refine off ?_ | (refine lB S rfl rfl ?_)); (first | refine off ?_ | (first | (refine cS ?_ ?_ <;> intro hc))) <;> (refine vl ?_; refine mv ?_; (first | refine off ?_ | (refine vl ?_)); (first | refine off ?_ | (refine lB S rfl rfl ?_)); (first | refine off ?_ | (first | (refine cS ?_ ?_ <;> intro hc))) <;> (refine vl ?_; refine KO_nil ?_))))) | (refine K_region (id := 15) ?_; refine mv ?_; refine KO_nil ?_) | (refine K_region (id := 16) ?_; refine mv ?_; refine KO_nil ?_)))
    all_goals (try simp only [Int.toNat_natCast] at *)
    · refine K_ret ⟨_, rfl, ?_⟩
      refine ⟨?_, S.drop⟩
      have : ¬ OpnOk (tsize t) t.opn := fun q => by
        have q1 := q i (by omega)
        split at h3 <;> rename_i hi
        · subst hi; omega
        · have := q1.2 (by omega); omega
      unfold chk; rw [if_neg (by simpa using hq), if_neg (by assumption), if_pos this]; rfl
    · refine K_ret ⟨_, rfl, ?_⟩
      refine ⟨?_, S.drop⟩
      have : ¬ OpnOk (tsize t) t.opn := fun q => by have q1 := q i (by omega); omega
      unfold chk; rw [if_neg (by simpa using hq), if_neg (by assumption), if_pos this]; rfl
    · refine ⟨(i + 1, t.opn.getD i default), ?_, ?_, (by repeat (first | exact Ks.le_nil _ | refine Ks.le_cons rfl ?_))⟩
      · show t.opn.length - (i + 1) < t.opn.length - i; omega
      · refine ⟨S, by omega, fun j hj => ?_, by simp⟩
        rcases Nat.lt_or_ge j i with q | q
        · exact h2 j q
        · have e : j = i := by omega
          subst e
          split at h3 <;> rename_i hi
          · exact ⟨by omega, fun q => by omega⟩
          · have := (h2 (j - 1) (by omega)).1
            exact ⟨by omega, fun q => by omega⟩
    all_goals
      have hok : OpnOk (tsize t) t.opn := fun j hj => h2 j (by omega)
      refine K_ret ⟨_, rfl, ?_⟩
      refine ⟨?_, S.drop⟩
      unfold chk; rw [if_neg (by simpa using hq), if_neg (by assumption), if_neg (by simpa using hok)]
      first
        | (rw [if_pos (by unfold XYok; omega)]; rfl)
        | (rw [if_neg (by unfold XYok; omega)]; rfl)
  · refine K_ret ⟨_, rfl, ?_⟩
    exact ⟨by unfold chk; rw [if_pos (by simpa using hq)]; rfl, S.drop⟩
end Go.Proofs.Xx

/-
  The reference's size and check of a table.
-/
namespace Go.Proofs.Xx
open Go Go.Proofs
set_option linter.unusedSimpArgs false
set_option linter.unusedVariables false
set_option maxRecDepth 100000

theorem within_ok {h : AH} (n a b : Int) : Fn Tryz.prog Xh 106 [.int .i64 n, .int .i64 a, .int .i64 b] h (fun v h' => BoolIs v (a ≤ n ∧ n ≤ b) ∧ h' = h) := by
  refine Fn_K rfl Tryz.func106 rfl rfl ?_
  all_goals (repeat' (first | refine K_seq ?_ | (refine K_region (id := 0) ?_; refine mv ?_; refine KO_nil ?_) | (refine K_region (id := 1) ?_; refine mv ?_; refine mv ?_; (first | (refine cS ?_ ?_ <;> intro hc)) <;> (refine mv ?_; (first | refine off ?_ | refine mv ?_); (first | refine off ?_ | refine mv ?_); (first | refine off ?_ | (first | (refine cS ?_ ?_ <;> intro hc))) <;> (refine vl ?_; refine mv ?_; refine KO_nil ?_)))))
  all_goals (refine K_ret ⟨_, rfl, ?_⟩)
  all_goals (refine ⟨?_, rfl⟩; unfold BoolIs)
  all_goals first | exact .inl ⟨rfl, by omega⟩ | exact .inr ⟨rfl, by omega⟩

theorem refSize_ok {h0 : AH} (w : WfH h0) (t : Tab) : Fn Tryz.prog Xh 51 [tabV t] h0 (fun v h' => v = .int .i64 (tsize t) ∧ Hs h0 h' []) := by
  have S := Hs.start w
  refine Fn_K rfl Tryz.func51 rfl rfl ?_
  all_goals (repeat' (first | refine K_seq ?_ | refine k_cond rfl ?_ | refine K_skip ?_ | refine k_block ?_ | (refine K_region (id := 0) ?_; (refine bx S ?_; clear S; intro b h S); refine mv ?_; refine KO_nil ?_) | (refine K_region (id := 1) ?_; refine vl ?_; refine lB S rfl rfl ?_; refine KO_nil ?_) | (refine K_region (id := 2) ?_; (first | (refine cS ?_ ?_ <;> intro hc)) <;> (refine mv ?_; refine KO_nil ?_)) | (refine K_region (id := 3) ?_; refine vl ?_; refine lB S rfl rfl ?_) | (refine K_region (id := 5) ?_; (first | (refine cS ?_ ?_ <;> intro hc)) <;> (refine mv ?_; refine KO_nil ?_)) | (refine K_region (id := 6) ?_; refine vl ?_; refine lB S rfl rfl ?_) | (refine K_region (id := 8) ?_; (first | (refine cS ?_ ?_ <;> intro hc)) <;> (refine mv ?_; refine KO_nil ?_)) | (refine K_region (id := 9) ?_; refine vl ?_; refine lB S rfl rfl ?_) | (refine K_region (id := 11) ?_; (first | (refine cS ?_ ?_ <;> intro hc)) <;> (refine mv ?_; refine KO_nil ?_)) | (refine K_region (id := 12) ?_; refine vl ?_; refine lB S rfl rfl ?_) | (refine K_region (id := 14) ?_; refine mv ?_; refine KO_nil ?_)))
  · (refine KO_fn rfl rfl rfl rfl rfl ((within_ok _ _ _).mono ?_); rintro _ _ ⟨⟨rfl, hq⟩ | ⟨rfl, hq⟩, rfl⟩) <;> (refine mv ?_; (first | refine off ?_ | (refine vl ?_)); (first | refine off ?_ | (refine lB S rfl rfl ?_)); (first | refine off ?_ | (first | (refine cS ?_ ?_ <;> intro hc))) <;> (refine vl ?_; refine KO_nil ?_))
    all_goals (repeat' (first | refine K_seq ?_ | refine k_cond rfl ?_ | refine K_skip ?_ | (refine K_region (id := 4) ?_; refine vl ?_; refine lB S rfl rfl ?_; refine mv ?_; refine KO_nil ?_) | (refine K_region (id := 14) ?_; refine mv ?_; refine KO_nil ?_)))
    all_goals (refine K_ret ⟨_, rfl, ?_⟩)
    all_goals (refine ⟨?_, S.drop⟩; unfold tsize sizeOf1; rw [if_pos (by omega)]; unfold roundSize)
    all_goals first | (rw [if_pos (by omega)]; rfl) | (rw [if_neg (by omega)]; rfl)
  · (refine KO_fn rfl rfl rfl rfl rfl ((within_ok _ _ _).mono ?_); rintro _ _ ⟨⟨rfl, hq⟩ | ⟨rfl, hq⟩, rfl⟩) <;> (refine mv ?_; (first | refine off ?_ | (refine vl ?_)); (first | refine off ?_ | (refine lB S rfl rfl ?_)); (first | (refine off ?_; refine vl ?_; refine KO_nil ?_) | skip))
    any_goals ((refine KO_fn rfl rfl rfl rfl rfl ((within_ok _ _ _).mono ?_); rintro _ _ ⟨⟨rfl, hq2⟩ | ⟨rfl, hq2⟩, rfl⟩) <;> (refine vl ?_; refine KO_nil ?_))
    all_goals (repeat' (first | refine K_seq ?_ | refine k_cond rfl ?_ | refine K_skip ?_ | (refine K_region (id := 7) ?_; refine vl ?_; refine lB S rfl rfl ?_; refine ml ?_; refine vl ?_; refine lB S rfl rfl ?_; refine ad ?_; refine mv ?_; refine KO_nil ?_) | (refine K_region (id := 14) ?_; refine mv ?_; refine KO_nil ?_)))
    all_goals (refine K_ret ⟨_, rfl, ?_⟩)
    all_goals (refine ⟨?_, S.drop⟩; unfold tsize sizeOf1; rw [if_neg (by omega), if_pos (by omega)]; unfold longSize)
    all_goals first | (rw [if_pos (by omega)]; rfl) | (rw [if_neg (by omega)]; rfl)
  · (refine KO_fn rfl rfl rfl rfl rfl ((within_ok _ _ _).mono ?_); rintro _ _ ⟨⟨rfl, hq⟩ | ⟨rfl, hq⟩, rfl⟩) <;> (refine mv ?_; (first | refine off ?_ | (refine vl ?_)); (first | refine off ?_ | (refine lB S rfl rfl ?_)); (first | (refine off ?_; refine vl ?_; refine KO_nil ?_) | skip))
    any_goals ((refine KO_fn rfl rfl rfl rfl rfl ((within_ok _ _ _).mono ?_); rintro _ _ ⟨⟨rfl, hq2⟩ | ⟨rfl, hq2⟩, rfl⟩) <;> (refine vl ?_; refine KO_nil ?_))
    all_goals (repeat' (first | refine K_seq ?_ | refine k_cond rfl ?_ | refine K_skip ?_ | (refine K_region (id := 10) ?_; refine vl ?_; refine lB S rfl rfl ?_; refine vl ?_; refine lB S rfl rfl ?_; refine ml ?_; refine ad ?_; refine mv ?_; refine KO_nil ?_) | (refine K_region (id := 14) ?_; refine mv ?_; refine KO_nil ?_)))
    all_goals (refine K_ret ⟨_, rfl, ?_⟩)
    all_goals (refine ⟨?_, S.drop⟩; unfold tsize sizeOf1; rw [if_neg (by omega), if_neg (by omega), if_pos (by omega)]; unfold shoeSize)
    all_goals first | (rw [if_pos (by omega)]; rfl) | (rw [if_neg (by omega)]; rfl)
  · (refine KO_fn rfl rfl rfl rfl rfl ((within_ok _ _ _).mono ?_); rintro _ _ ⟨⟨rfl, hq⟩ | ⟨rfl, hq⟩, rfl⟩) <;> (refine mv ?_; (first | refine off ?_ | (refine vl ?_)); (first | refine off ?_ | (refine lB S rfl rfl ?_)); (first | refine off ?_ | (refine vl ?_)); (first | refine off ?_ | (refine lB S rfl rfl ?_)); (first | (refine off ?_; refine vl ?_; refine KO_nil ?_) | skip))
    any_goals ((refine KO_fn rfl rfl rfl rfl rfl ((within_ok _ _ _).mono ?_); rintro _ _ ⟨⟨rfl, hq2⟩ | ⟨rfl, hq2⟩, rfl⟩) <;> (refine vl ?_; refine KO_nil ?_))
    all_goals (repeat' (first | refine K_seq ?_ | refine k_cond rfl ?_ | refine K_skip ?_ | (refine K_region (id := 13) ?_; refine vl ?_; refine lB S rfl rfl ?_; refine mv ?_; refine KO_nil ?_) | (refine K_region (id := 14) ?_; refine mv ?_; refine KO_nil ?_)))
    all_goals (refine K_ret ⟨_, rfl, ?_⟩)
    all_goals (refine ⟨?_, S.drop⟩; unfold tsize sizeOf1; rw [if_neg (by omega), if_neg (by omega), if_neg (by omega), if_pos (by omega)]; unfold rowSize)
    all_goals first | (rw [if_pos (by omega)]; rfl) | (rw [if_neg (by omega)]; rfl)
  · refine K_ret ⟨_, rfl, ?_⟩
    refine ⟨?_, S.drop⟩
    unfold tsize sizeOf1; rw [if_neg (by omega), if_neg (by omega), if_neg (by omega), if_neg (by omega)]; rfl
end Go.Proofs.Xx

/-
  The reference's check of a table.
-/
namespace Go.Proofs.Xx
open Go Go.Proofs
set_option linter.unusedSimpArgs false
set_option linter.unusedVariables false
set_option maxRecDepth 100000

theorem tsize_le (t : Tab) : 0 ≤ tsize t ∧ tsize t ≤ 24 := by
  unfold tsize sizeOf1 roundSize longSize shoeSize rowSize
  repeat' split
  all_goals omega

theorem refCheck_okL {h0 : AH} (w : WfH h0) (t : Tab) (r : TabL h0 t) : Fn Tryz.prog Xh 67 [tabV t] h0 (fun v h' => v = .int .i64 (chk t) ∧ Hs h0 h' []) := by
  have S := Hs.start w
  have hts := tsize_le t
  obtain ⟨hr, hnm, hol⟩ := r
  refine Fn_K rfl Tryz.func67 rfl rfl ?_
  all_goals (repeat' (first | refine K_seq ?_ | (refine K_region (id := 0) ?_; (refine bx S ?_; clear S; intro b h S); refine mv ?_; refine KO_nil ?_) | (refine K_region (id := 1) ?_; refine lB S rfl rfl ?_)))
  (refine KO_fn rfl rfl rfl rfl rfl ((refSize_ok S.wf t).mono ?_); rintro _ h ⟨rfl, x⟩) <;> (replace S := S.join0 x; clear x; refine mv ?_; refine KO_nil ?_)
  all_goals (repeat' (first | refine K_seq ?_ | (refine K_region (id := 2) ?_; refine vl ?_; refine lB S rfl rfl ?_)))
  (refine KO_fn rfl rfl rfl rfl rfl ((refName_ok S.wf t.name hnm).mono ?_); rintro _ h ⟨⟨rfl, hq⟩ | ⟨rfl, hq⟩, x⟩) <;> (replace S := S.join0 x; clear x; refine vl ?_; refine KO_nil ?_)
  all_goals (repeat' (first | refine K_seq ?_ | refine k_cond rfl ?_ | refine K_skip ?_ | refine k_block ?_ | (refine K_region (id := 3) ?_; refine mv ?_; refine KO_nil ?_) | (refine K_region (id := 4) ?_; refine mv ?_; (first | (refine cS ?_ ?_ <;> intro hc)) <;> (refine KO_nil ?_)) | (refine K_region (id := 5) ?_; refine mv ?_; refine KO_nil ?_) | (refine K_region (id := 6) ?_; refine mv ?_; refine KO_nil ?_)))
  · refine K_ret ⟨_, rfl, ?_⟩
    exact ⟨by unfold chk; rw [if_neg (by simpa using hq), if_pos hc]; rfl, S.drop⟩
  · refine k_loop (σ := Nat) (fun i h' => Hs h0 h' [.blk b (tabV t).cells.toList 25] ∧ i ≤ t.opn.length ∧ (∀ j, j < i → (0 ≤ t.opn.getD j default ∧ t.opn.getD j default < tsize t) ∧ (0 < j → t.opn.getD (j - 1) default < t.opn.getD j default))) (fun i => t.opn.length - i) (fun i => [(1, .pointer (some ⟨b, 0, none⟩)), (3, .int .i64 (tsize t)), (4, .int .i64 i)]) 0 (by repeat (first | exact Ks.le_nil _ | refine Ks.le_cons rfl ?_)) ?_ ?_
    · exact ⟨S, Nat.zero_le _, fun j hj => absurd hj (Nat.not_lt_zero _)⟩
    clear S
    rintro i h ⟨S, h1, h2⟩
    all_goals (repeat' (first | refine K_seq ?_ | refine k_cond rfl ?_ | refine K_skip ?_ | refine K_exit ?_ | refine k_block ?_ | (refine K_region (id := 7) ?_; refine mv ?_; refine vl ?_; refine lB S rfl rfl ?_; refine lnB S ?_; (first | (refine cS ?_ ?_ <;> intro hc)) <;> (refine KO_nil ?_)) | (refine K_draw (id := 9) ?_; refine vl ?_; refine lB S rfl rfl ?_; refine mv ?_; refine ixB S ?_; refine lEB S ?_; refine mv ?_; refine sb ?_) | (refine K_region (id := 11) ?_; refine vl ?_; refine lB S rfl rfl ?_)))
    · (refine KO_fn rfl rfl rfl rfl rfl ((within_ok _ _ _).mono ?_); rintro _ _ ⟨⟨rfl, hq3⟩ | ⟨rfl, hq3⟩, rfl⟩) <;> (refine vl ?_; refine mv ?_; (first | refine off ?_ | refine mv ?_); (first | refine off ?_ | (first | (refine cS ?_ ?_ <;> intro hc))) <;> ((first | refine off ?_ | refine mv ?_); (first | refine off ?_ | (refine vl ?_)); (first | refine off ?_ | (refine lB S rfl rfl ?_)); (first | refine off ?_ | refine mv ?_); (first | refine off ?_ | (refine ixB S ?_)); (first | refine off ?_ | (refine lEB S ?_)); (first | refine off ?_ | (refine vl ?_)); (first | refine off ?_ | (refine lB S rfl rfl ?_)); (first | refine off ?_ | refine mv ?_); (first | refine off ?_ | (refine sb ?_)); (first | refine off ?_ | (refine ixB S ?_)); (first | refine off ?_ | (refine lEB S ?_)); (first | refine off ?_ | (first | (refine cS ?_ ?_ <;> intro hc))) <;> ((first | refine off ?_ | refine vl ?_); refine vl ?_; refine KO_nil ?_)))
      all_goals (repeat' (first | refine K_seq ?_ | refine k_cond rfl ?_ | refine K_skip ?_ | (refine K_region (id := 8) ?_; refine mv ?_; refine ad ?_; refine mv ?_; refine KO_nil ?_) | (refine K_region (id := 10) ?_; refine mv ?_; refine KO_nil ?_)))
      all_goals (try simp only [Int.toNat_natCast] at *)
      · refine K_ret ⟨_, rfl, ?_⟩
        refine ⟨?_, S.drop⟩
        rw [show ((i : Int) - 1).toNat = i - 1 by omega] at hc
        have : ¬ OpnOk (tsize t) t.opn := fun q => by have q1 := (q i (by omega)).2 (by omega); omega
        unfold chk; rw [if_neg (by simpa using hq), if_neg (by assumption), if_pos this]; rfl
      · refine ⟨i + 1, ?_, ?_, (by repeat (first | exact Ks.le_nil _ | refine Ks.le_cons rfl ?_))⟩
        · show t.opn.length - (i + 1) < t.opn.length - i; omega
        · rw [show ((i : Int) - 1).toNat = i - 1 by omega] at hc
          refine ⟨S, by omega, fun j hj => ?_⟩
          rcases Nat.lt_or_ge j i with q | q
          · exact h2 j q
          · have e : j = i := by omega
            subst e
            exact ⟨by omega, fun q => by omega⟩
      · refine ⟨i + 1, ?_, ?_, (by repeat (first | exact Ks.le_nil _ | refine Ks.le_cons rfl ?_))⟩
        · show t.opn.length - (i + 1) < t.opn.length - i; omega
        · refine ⟨S, by omega, fun j hj => ?_⟩
          have e : j = i := by omega
          subst e
          exact ⟨by omega, fun q => by omega⟩
      · refine K_ret ⟨_, rfl, ?_⟩
        refine ⟨?_, S.drop⟩
        have : ¬ OpnOk (tsize t) t.opn := fun q => by have q1 := (q i (by omega)).1; omega
        unfold chk; rw [if_neg (by simpa using hq), if_neg (by assumption), if_pos this]; rfl
    have hok : OpnOk (tsize t) t.opn := fun j hj => h2 j (by omega)
    (refine KO_fn rfl rfl rfl rfl rfl ((within_ok _ _ _).mono ?_); rintro _ _ ⟨⟨rfl, hq3⟩ | ⟨rfl, hq3⟩, rfl⟩) <;> (refine vl ?_; refine mv ?_; (first | refine off ?_ | (refine vl ?_)); (first | refine off ?_ | (refine lB S rfl rfl ?_)); (first | (refine off ?_; refine off ?_; refine vl ?_; refine KO_nil ?_) | skip))
    any_goals ((refine KO_fn rfl rfl rfl rfl rfl ((within_ok _ _ _).mono ?_); rintro _ _ ⟨⟨rfl, hq4⟩ | ⟨rfl, hq4⟩, rfl⟩) <;> ((refine vl ?_); refine vl ?_; refine KO_nil ?_))
    all_goals (repeat' (first | refine K_seq ?_ | refine k_cond rfl ?_ | refine K_skip ?_ | (refine K_region (id := 12) ?_; refine mv ?_; refine KO_nil ?_) | (refine K_region (id := 13) ?_; refine mv ?_; refine KO_nil ?_)))
    all_goals
      refine K_ret ⟨_, rfl, ?_⟩
      refine ⟨?_, S.drop⟩
      unfold chk; rw [if_neg (by simpa using hq), if_neg (by assumption), if_neg (by simpa using hok)]
      first
        | (rw [if_pos (by unfold XYok; omega)]; rfl)
        | (rw [if_neg (by unfold XYok; omega)]; rfl)
  · refine K_ret ⟨_, rfl, ?_⟩
    exact ⟨by unfold chk; rw [if_pos (by simpa using hq)]; rfl, S.drop⟩
end Go.Proofs.Xx

/-
  A first element that a function accepts.
-/
namespace Go.Proofs.Xx
open Go Go.Proofs
set_option linter.unusedSimpArgs false
set_option linter.unusedVariables false
set_option maxRecDepth 100000

/-- The first index below n where p holds, -1 if none. -/
def IdxIs (v : Value) (p : Nat → Prop) (n : Nat) : Prop := (∃ i : Nat, i < n ∧ v = .int .i64 i ∧ p i ∧ ∀ j, j < i → ¬ p j) ∨ (v = .int .i64 (-1) ∧ ∀ j, j < n → ¬ p j)

end Go.Proofs.Xx

/-
  The check of a hall, the program's and the reference's.
-/
namespace Go.Proofs.Xx
open Go Go.Proofs
set_option linter.unusedSimpArgs false
set_option linter.unusedVariables false
set_option maxRecDepth 100000

abbrev tb (l : List Tab) (i : Nat) : Tab := l.getD i default
def dupAt (l : List Tab) (k : Nat) : Prop := ∃ j, j < k ∧ (tb l j).name = (tb l k).name
def goodAt (l : List Tab) (k : Nat) : Prop := chk (tb l k) = 0 ∧ ¬ dupAt l k
def ChkAll (l : List Tab) (i e : Int) : Prop :=
  (16 < l.length ∧ i = 0 ∧ e = 7) ∨ (l.length ≤ 16 ∧ ((∃ k : Nat, k < l.length ∧ i = k ∧ (∀ j, j < k → goodAt l j) ∧ ((chk (tb l k) ≠ 0 ∧ e = chk (tb l k)) ∨ (chk (tb l k) = 0 ∧ dupAt l k ∧ e = 5))) ∨ ((∀ j, j < l.length → goodAt l j) ∧ i = 0 ∧ e = 0)))
/-- What a hall reads as. -/
structure HallR (h : AH) (v : Value) (l : List Tab) : Prop where
  rd : RdL h v 7 eT l
  tab : ∀ i, i < l.length → TabR h (tb l i)
  len : l.length ≤ 1000
  cap : CapOk v
theorem TabR.ext {h h' : AH} {t : Tab} (r : TabR h t) (w : WfH h) (x : Ext h h') : TabR h' t := ⟨r.1.ext w x, r.2⟩
theorem HallR.ext {h h' : AH} {v : Value} {l : List Tab} (r : HallR h v l) (w : WfH h) (x : Ext h h') : HallR h' v l := ⟨r.rd.ext w x, fun i hi => (r.tab i hi).ext w x, r.len, r.cap⟩

/-- A hall that is valid. -/
def ValidL (l : List Tab) : Prop := l.length ≤ 16 ∧ ∀ j, j < l.length → goodAt l j
theorem ChkAll.valid {l : List Tab} {i e : Int} (a : ChkAll l i e) : e = 0 ↔ ValidL l := by
  rcases a with ⟨h1, h2, h3⟩ | ⟨h1, ⟨k, hk, h2, h3, ⟨h4, h5⟩ | ⟨h4, h5, h6⟩⟩ | ⟨h2, h3, h4⟩⟩
  · exact ⟨fun q => by omega, fun q => by have := q.1; omega⟩
  · exact ⟨fun q => absurd (h5 ▸ q) h4, fun q => absurd (q.2 k hk).1 h4⟩
  · exact ⟨fun q => by omega, fun q => absurd h5 (q.2 k hk).2⟩
  · exact ⟨fun _ => ⟨h1, h2⟩, fun _ => h4⟩
theorem ChkAll.uniq {l : List Tab} {i e i' e' : Int} (a : ChkAll l i e) (b : ChkAll l i' e') : i = i' ∧ e = e' := by
  have key : ∀ {k k' : Nat}, (∀ j, j < k → goodAt l j) → ¬ goodAt l k' → k ≤ k' := fun g n => Nat.le_of_not_lt fun q => n (g _ q)
  have bad : ∀ {k : Nat} {e : Int}, ((chk (tb l k) ≠ 0 ∧ e = chk (tb l k)) ∨ (chk (tb l k) = 0 ∧ dupAt l k ∧ e = 5)) → ¬ goodAt l k := fun q g => q.elim (fun q => q.1 g.1) (fun q => g.2 q.2.1)
  rcases a with ⟨h1, h2, h3⟩ | ⟨h1, ⟨k, hk, h2, h3, h4⟩ | ⟨h2, h3, h4⟩⟩ <;> rcases b with ⟨g1, g2, g3⟩ | ⟨g1, ⟨k', hk', g2, g3, g4⟩ | ⟨g2, g3, g4⟩⟩
  · exact ⟨by omega, by omega⟩
  · omega
  · omega
  · omega
  · have e1 := key h3 (bad g4)
    have e2 := key g3 (bad h4)
    have : k = k' := by omega
    subst this
    refine ⟨by omega, ?_⟩
    rcases h4 with ⟨h4, h5⟩ | ⟨h4, h5, h6⟩ <;> rcases g4 with ⟨g4, g5⟩ | ⟨g4, g5, g6⟩
    · omega
    · exact absurd g4 h4
    · exact absurd h4 g4
    · omega
  · exact absurd (g2 k hk) (bad h4)
  · omega
  · exact absurd (h2 k' hk') (bad g4)
  · exact ⟨by omega, by omega⟩
/-- How many seats the first k tables have. -/
def sumT (l : List Tab) : Nat → Int
  | 0 => 0
  | k + 1 => sumT l k + tsize (tb l k)

end Go.Proofs.Xx

/-
  hall.permutation.
-/
namespace Go.Proofs.Xx
open Go Go.Proofs
set_option linter.unusedSimpArgs false
set_option linter.unusedVariables false

def permOk (l : List Int) : Bool := decide ((∀ x ∈ l, 0 ≤ x ∧ x < l.length) ∧ l.Nodup)
def seenL (l : List Int) (i : Nat) : List Value := (List.range l.length).map fun (k : Nat) => Value.bool (decide ((k : Int) ∈ l.take i))
end Go.Proofs.Xx

/-
  slices.Equal, slices.Clone of ints.
-/
namespace Go.Proofs.Xx
open Go Go.Proofs
set_option linter.unusedSimpArgs false
set_option linter.unusedVariables false

theorem take_snoc_eq {a b : List Int} {i : Nat} (ha : i < a.length) (hb : i < b.length) (h : a.take i = b.take i) (hx : a[i] = b[i]) : a.take (i + 1) = b.take (i + 1) := by
  rw [List.take_succ_eq_append_getElem ha, List.take_succ_eq_append_getElem hb, h, hx]

theorem equal_ints {h : AH} {v u : Value} {a b : List Int} (ra : RdI h v a) (rb : RdI h u b) (hl : a.length < 2^30) (hl2 : b.length < 2^30) :
    Fn Tryz.prog Xh 59 [v, u] h (fun x h' => x = .bool (decide (a = b)) ∧ h' = h) := by
  refine Fn_K rfl Tryz.func59 rfl rfl ?_
  refine K_seq (K_region (KO_val rfl rfl rfl (KO_nil ?_)))
  refine K_seq (K_seq (K_region ?_))
  refine KO_val rfl rfl rfl ?_
  refine KO_len rfl rfl rfl (ra.len und23) rfl ?_
  refine KO_val rfl rfl rfl ?_
  refine KO_len rfl rfl rfl (rb.len und23) rfl ?_
  by_cases hlen : a.length = b.length
  · refine KO_bin rfl rfl rfl rfl (neq_i64 (v := false) (decide_eq_true (by omega))) rfl (KO_nil ?_)
    refine K_cond rfl (K_skip ?_)
    refine K_seq (K_seq (K_region ?_))
    refine KO_val rfl rfl rfl ?_
    refine KO_len rfl rfl rfl (ra.len und23) rfl ?_
    refine KO_val rfl rfl rfl (KO_nil ?_)
    refine K_block ?_
    refine K_loop (fun m L h' => h' = h ∧ ∃ i : Nat, m + i = a.length ∧ a.take i = b.take i ∧ L = [(0, v), (1, u), (12, .int .i64 a.length), (13, .int .i64 i)]) ?_ a.length
      ⟨rfl, 0, rfl, by simp, rfl⟩ (by repeat (first | exact Ks.le_nil _ | refine Ks.le_cons rfl ?_))
    rintro m L h' ⟨rfl, i, him, hi, rfl⟩
    refine K_seq (K_region (KO_val rfl rfl rfl (KO_nil ?_)))
    refine K_seq ?_
    refine K_cond2 rfl (fun hv => ?_) (fun hv => ?_)
    · have hv := of_decide_eq_true hv
      have hia : i < a.length := by omega
      have hib : i < b.length := by omega
      refine K_skip ?_
      refine K_seq (K_block (K_seq (K_region (KO_val rfl rfl rfl (KO_val rfl rfl rfl (KO_nil ?_))))))
      refine K_seq (K_draw ?_)
      obtain ⟨p, hp1, hp2⟩ := ra.at1 und23 sz3 agg3 (ik := .i64) (ints_get (List.getElem?_eq_getElem hia))
      obtain ⟨q, hq1, hq2⟩ := rb.at1 und23 sz3 agg3 (ik := .i64) (ints_get (List.getElem?_eq_getElem hib))
      refine KO_val rfl rfl rfl ?_
      refine KO_val rfl rfl rfl ?_
      refine KO_index rfl rfl rfl rfl hp1 rfl ?_
      refine KO_load rfl rfl rfl hp2 rfl ?_
      refine KO_val rfl rfl rfl ?_
      refine KO_val rfl rfl rfl ?_
      refine KO_index rfl rfl rfl rfl hq1 rfl ?_
      refine KO_load rfl rfl rfl hq2 rfl ?_
      by_cases hx : a[i] = b[i]
      · refine KO_bin rfl rfl rfl rfl (neq_i64 (v := false) (decide_eq_true hx)) rfl (KO_nil ?_)
        refine K_cond rfl (K_skip ?_)
        refine K_region ?_
        refine KO_bin rfl rfl rfl rfl (add_i64 (c := ((i + 1 : Nat) : Int)) (by omega) (by omega) (by omega)) rfl ?_
        refine KO_val rfl rfl rfl (KO_nil ?_)
        refine ⟨m - 1, _, by omega, ⟨rfl, i + 1, by omega, take_snoc_eq hia hib hi hx, rfl⟩, ?_⟩
        repeat (first | exact Ks.le_nil _ | refine Ks.le_cons rfl ?_)
      · refine KO_bin rfl rfl rfl rfl (neq_i64 (v := true) (decide_eq_false hx)) rfl (KO_nil ?_)
        refine K_cond rfl ?_
        refine K_seq (K_region (KO_val rfl rfl rfl (KO_nil ?_)))
        refine K_ret ⟨_, rfl, ?_, rfl⟩
        have : decide (a = b) = false := by
          rw [decide_eq_false_iff_not]
          intro q; subst q; exact hx rfl
        rw [this]; rfl
    · have hv := of_decide_eq_false hv
      refine K_exit ?_
      show K Tryz.prog Xh _ _ _ _ _ _
      refine K_seq (K_region (KO_val rfl rfl rfl (KO_nil ?_)))
      refine K_ret ⟨_, rfl, ?_, rfl⟩
      have : decide (a = b) = true := by
        rw [decide_eq_true_iff]
        rw [List.take_of_length_le (by omega), List.take_of_length_le (by omega)] at hi
        exact hi
      rw [this]; rfl
  · refine KO_bin rfl rfl rfl rfl (neq_i64 (v := true) (decide_eq_false (by omega))) rfl (KO_nil ?_)
    refine K_cond rfl ?_
    refine K_seq (K_region (KO_val rfl rfl rfl (KO_nil ?_)))
    refine K_ret ⟨_, rfl, ?_, rfl⟩
    have : decide (a = b) = false := by
      rw [decide_eq_false_iff_not]
      intro q; subst q; exact hlen rfl
    rw [this]; rfl
end Go.Proofs.Xx

/-
  Copies of halls; when halls are the same; which are few.
-/
namespace Go.Proofs.Xx
open Go Go.Proofs
set_option linter.unusedSimpArgs false
set_option linter.unusedVariables false
set_option maxRecDepth 100000

theorem ints_flat (l : List Int) : l.flatMap eI = ints l := by
  induction l with
  | nil => rfl
  | cons x l ih => simp [eI, ints, ih]
theorem RdL.toI {h : AH} {v : Value} {l : List Int} (r : RdL h v 1 eI l) : RdI h v l := by
  unfold RdL at r; rw [ints_flat] at r; exact r
theorem equal_ok {h0 : AH} (w : WfH h0) (v u : Value) (a b : List Int) (ra : RdL h0 v 1 eI a) (rb : RdL h0 u 1 eI b) (ha : a.length ≤ 1000000) (hb : b.length ≤ 1000000) : Fn Tryz.prog Xh 59 [v, u] h0 (fun r h' => BoolIs r (a = b) ∧ Hs h0 h' []) := by
  refine (equal_ints ra.toI rb.toI (by omega) (by omega)).mono ?_
  rintro x h ⟨rfl, rfl⟩
  refine ⟨?_, Hs.start w⟩
  by_cases q : a = b
  · exact .inl ⟨by simp [q], q⟩
  · exact .inr ⟨by simp [q], q⟩
theorem Hs.nilS {h0 h : AH} {rs : List Rs} {α : Type} {e : TypeId} {z : Nat} {enc : α → List Value} (S : Hs h0 h rs) : Hs h0 h (.sl (.slice none 0 0) e z enc [] :: rs) :=
  S.grow (fp := fun _ => False) (Ext.refl S.wf) (.inl ⟨rfl, rfl⟩) fun b hb => hb.elim
theorem Hs.anyS {h0 h : AH} {rs : List Rs} {p : AH → Fp → Prop} (S : Hs h0 h rs) (k : ∀ h', p h' fun _ => False) : Hs h0 h (.any p :: rs) :=
  S.grow (fp := fun _ => False) (Ext.refl S.wf) (fun h' _ => k h') fun b hb => hb.elim
theorem Hs.anyP {h0 h : AH} {rs : List Rs} {p : AH → Fp → Prop} (S : Hs h0 h rs) (a : At rs (.any p)) : ∃ fp, p h fp := by
  obtain ⟨fp, k, -⟩ := a.ok S.sep
  exact ⟨fp, k h fun _ _ => rfl⟩
theorem Hs.capS {h0 h : AH} {rs : List Rs} {v : Value} {α : Type} {e : TypeId} {z : Nat} {enc : α → List Value} {l : List α} (S : Hs h0 h rs) (a : At rs (.sl v e z enc l)) : CapOk v := by
  obtain ⟨fp, k, -⟩ := a.ok S.sep
  rcases k with ⟨rfl, -⟩ | ⟨b, o, cc, slk, rfl, -⟩
  · exact Nat.le_refl _
  · exact Nat.le_refl _

/-- Tables that differ at most in where their open seats lie. -/
def SameTab (t u : Tab) : Prop := t = { u with os := t.os }
theorem sameTab_iff (t u : Tab) : SameTab t u ↔ t.name = u.name ∧ t.shape = u.shape ∧ t.A = u.A ∧ t.B = u.B ∧ t.X = u.X ∧ t.Y = u.Y ∧ t.opn = u.opn := by
  cases t; cases u; unfold SameTab; simp
  intros; exact ⟨fun q => ⟨q.2.1, q.2.2, q.1⟩, fun q => ⟨q.2.2, q.1, q.2.1⟩⟩
theorem sameTable_ok {h0 : AH} (w : WfH h0) (t u : Tab) (rt : RdL h0 t.ov 1 eI t.opn) (ru : RdL h0 u.ov 1 eI u.opn) (ht : t.opn.length ≤ 1000000) (hu : u.opn.length ≤ 1000000) : Fn Tryz.prog Xh 72 [tabV t, tabV u] h0 (fun r h' => BoolIs r (SameTab t u) ∧ Hs h0 h' []) := by
  have S := Hs.start w
  refine Fn_K rfl Tryz.func72 rfl rfl ?_
  all_goals (repeat' (first | refine K_seq ?_ | (refine K_region (id := 0) ?_; (refine bx S ?_; clear S; intro b h S); (refine bx S ?_; clear S; intro b h S); refine mv ?_; refine KO_nil ?_) | (refine K_region (id := 1) ?_; refine vl ?_; refine lB S rfl rfl ?_; refine vl ?_; refine lB S rfl rfl ?_; (refine tS ?_ ?_ <;> intro hc) <;> (refine mv ?_; (first | refine off ?_ | (refine vl ?_)); (first | refine off ?_ | (refine lB S rfl rfl ?_)); (first | refine off ?_ | (refine vl ?_)); (first | refine off ?_ | (refine lB S rfl rfl ?_)); (first | refine off ?_ | (first | (refine cS ?_ ?_ <;> intro hc))) <;> (refine vl ?_; refine mv ?_; (first | refine off ?_ | (refine vl ?_)); (first | refine off ?_ | (refine lB S rfl rfl ?_)); (first | refine off ?_ | (refine vl ?_)); (first | refine off ?_ | (refine lB S rfl rfl ?_)); (first | refine off ?_ | (first | (refine cS ?_ ?_ <;> intro hc))) <;> (refine vl ?_; refine mv ?_; (first | refine off ?_ | (refine vl ?_)); (first | refine off ?_ | (refine lB S rfl rfl ?_)); (first | refine off ?_ | (refine vl ?_)); (first | refine off ?_ | (refine lB S rfl rfl ?_)); (first | refine off ?_ | (first | (refine cS ?_ ?_ <;> intro hc))) <;> (refine vl ?_; refine mv ?_; (first | refine off ?_ | (refine vl ?_)); (first | refine off ?_ | (refine lB S rfl rfl ?_)); (first | refine off ?_ | (refine vl ?_)); (first | refine off ?_ | (refine lB S rfl rfl ?_)); (first | refine off ?_ | (first | (refine cS ?_ ?_ <;> intro hc))) <;> (refine vl ?_; refine mv ?_; (first | refine off ?_ | (refine vl ?_)); (first | refine off ?_ | (refine lB S rfl rfl ?_)); (first | refine off ?_ | (refine vl ?_)); (first | refine off ?_ | (refine lB S rfl rfl ?_)); (first | refine off ?_ | (first | (refine cS ?_ ?_ <;> intro hc))) <;> (refine vl ?_; refine mv ?_; (first | refine off ?_ | (refine vl ?_)); (first | refine off ?_ | (refine lB S rfl rfl ?_)); (first | refine off ?_ | (refine vl ?_)); (first | refine off ?_ | (refine lB S rfl rfl ?_)); (first | (refine off ?_; refine vl ?_; refine mv ?_; refine KO_nil ?_) | skip))))))))))
  · (refine KO_fn rfl rfl rfl rfl rfl ((equal_ok S.wf t.ov u.ov t.opn u.opn (rt.ext w S.ext) (ru.ext w S.ext) ht hu).mono ?_); rintro _ h ⟨⟨rfl, hq⟩ | ⟨rfl, hq⟩, x⟩) <;> (replace S := S.join0 x; clear x; refine vl ?_; refine mv ?_; refine KO_nil ?_)
    all_goals (repeat' (fail))
    all_goals (refine K_ret ⟨_, rfl, ?_⟩)
    · exact ⟨.inl ⟨rfl, (sameTab_iff t u).2 ⟨by assumption, by assumption, by assumption, by assumption, by assumption, by assumption, hq⟩⟩, S.drop⟩
    · exact ⟨.inr ⟨rfl, fun q => hq ((sameTab_iff t u).1 q).2.2.2.2.2.2⟩, S.drop⟩
  all_goals (refine K_ret ⟨_, rfl, ?_⟩)
  all_goals (refine ⟨.inr ⟨rfl, fun q => ?_⟩, S.drop⟩; have q := (sameTab_iff t u).1 q; obtain ⟨q1, q2, q3, q4, q5, q6, -⟩ := q; first | exact hc q1 | exact hc q2 | exact hc q3 | exact hc q4 | exact hc q5 | exact hc q6)
def SameAll (l m : List Tab) : Prop := l.length = m.length ∧ ∀ i, i < l.length → SameTab (tb l i) (tb m i)
theorem equalTabs_ok {h0 : AH} (w : WfH h0) (v u : Value) (l m : List Tab) (hv : RdL h0 v 7 eT l) (hu : RdL h0 u 7 eT m) (hl : ∀ i, i < l.length → TabR h0 (tb l i)) (hm : ∀ i, i < m.length → TabR h0 (tb m i)) (hl2 : l.length ≤ 1000) (hm2 : m.length ≤ 1000) :
    Fn Tryz.prog Xh 119 [v, u, .func (.func 72) #[] #[]] h0 (fun r h' => BoolIs r (SameAll l m) ∧ Hs h0 h' []) := by
  have S := Hs.start w
  refine Fn_K rfl Tryz.func119 rfl rfl ?_
  all_goals (repeat' (first | refine K_seq ?_ | refine k_cond rfl ?_ | refine K_skip ?_ | refine k_block ?_ | (refine K_region (id := 0) ?_; refine mv ?_; refine KO_nil ?_) | (refine K_region (id := 1) ?_; refine mv ?_; refine lnB S ?_; refine mv ?_; refine lnB S ?_; (first | (refine cS ?_ ?_ <;> intro hc)) <;> (refine KO_nil ?_)) | (refine K_region (id := 2) ?_; refine mv ?_; refine KO_nil ?_) | (refine K_region (id := 3) ?_; refine mv ?_; refine lnB S ?_; refine mv ?_; refine KO_nil ?_)))
  · refine K_ret ⟨_, rfl, ?_⟩
    exact ⟨.inr ⟨rfl, fun q => hc (by rw [q.1])⟩, S⟩
  · refine k_loop (σ := Nat) (fun i h' => Hs h0 h' [] ∧ i ≤ l.length ∧ ∀ j, j < i → SameTab (tb l j) (tb m j)) (fun i => l.length - i) (fun i => [(1, u), (2, .func (.func 72) #[] #[]), (15, v), (16, .int .i64 l.length), (17, .int .i64 i)]) 0 (by repeat (first | exact Ks.le_nil _ | refine Ks.le_cons rfl ?_)) ?_ ?_
    · exact ⟨S, Nat.zero_le _, fun j hj => absurd hj (Nat.not_lt_zero _)⟩
    clear S
    rintro i h ⟨S, h1, h2⟩
    have hlm : l.length = m.length := by omega
    all_goals (repeat' (first | refine K_seq ?_ | refine k_cond rfl ?_ | refine K_skip ?_ | refine K_exit ?_ | refine k_block ?_ | (refine K_region (id := 4) ?_; (first | (refine cS ?_ ?_ <;> intro hc)) <;> (refine KO_nil ?_)) | (refine K_region (id := 5) ?_; refine mv ?_; refine ixB S ?_; refine lEB S ?_; (refine al S ?_; clear S; intro b h S); refine mv ?_; (first | (refine sB S rfl rfl ?_; clear S; intro h S)); refine KO_nil ?_) | (refine K_region (id := 6) ?_; refine mv ?_; refine mv ?_; refine ixB S ?_; refine lEB S ?_; (refine al S ?_; clear S; intro b h S); (first | (refine sB S rfl rfl ?_; clear S; intro h S)); refine KO_nil ?_) | (refine K_region (id := 7) ?_; refine mv ?_; refine lB S rfl rfl ?_; refine lB S rfl rfl ?_) | (refine K_region (id := 10) ?_; refine mv ?_; refine KO_nil ?_)))
    · (try simp only [Int.toNat_natCast] at *)
      have hi : i < l.length := by omega
      have k1 := hl i hi
      have k2 := hm i (by omega)
      (refine KO_call rfl rfl rfl rfl ((sameTable_ok S.wf (tb l i) (tb m i) (k1.1.ext w S.ext) (k2.1.ext w S.ext) (by omega) (by omega)).mono ?_); rintro _ h ⟨⟨rfl, hq⟩ | ⟨rfl, hq⟩, x⟩) <;> (replace S := S.join0 x; clear x; refine vl ?_; refine KO_nil ?_)
      all_goals (repeat' (first | refine K_seq ?_ | refine k_cond rfl ?_ | refine K_skip ?_ | (refine K_region (id := 8) ?_; refine mv ?_; refine KO_nil ?_) | (refine K_region (id := 9) ?_; refine ad ?_; refine mv ?_; refine KO_nil ?_)))
      · refine ⟨i + 1, ?_, ?_, (by repeat (first | exact Ks.le_nil _ | refine Ks.le_cons rfl ?_))⟩
        · show l.length - (i + 1) < l.length - i; omega
        · refine ⟨S.drop, by omega, fun j hj => ?_⟩
          rcases Nat.lt_or_ge j i with q | q
          · exact h2 j q
          · obtain rfl : j = i := by omega
            exact hq
      · refine K_ret ⟨_, rfl, ?_⟩
        exact ⟨.inr ⟨rfl, fun q => hq (q.2 i hi)⟩, S.drop⟩
    · refine K_ret ⟨_, rfl, ?_⟩
      exact ⟨.inl ⟨rfl, hlm, fun j hj => h2 j (by omega)⟩, S⟩
theorem same_ok {h0 : AH} (w : WfH h0) (v u : Value) (l m : List Tab) (hv : RdL h0 v 7 eT l) (hu : RdL h0 u 7 eT m) (hl : ∀ i, i < l.length → TabR h0 (tb l i)) (hm : ∀ i, i < m.length → TabR h0 (tb m i)) (hl2 : l.length ≤ 1000) (hm2 : m.length ≤ 1000) :
    Fn Tryz.prog Xh 62 [v, u] h0 (fun r h' => BoolIs r (SameAll l m) ∧ Hs h0 h' []) := by
  have S := Hs.start w
  refine Fn_K rfl Tryz.func62 rfl rfl ?_
  all_goals (repeat' (first | refine K_seq ?_ | (refine K_region (id := 0) ?_; refine mv ?_; refine KO_nil ?_) | (refine K_region (id := 1) ?_; refine mv ?_; refine mv ?_)))
  (refine KO_fn rfl rfl rfl rfl rfl ((equalTabs_ok S.wf v u l m hv hu hl hm hl2 hm2).mono ?_); rintro _ h ⟨hq, x⟩) <;> (replace S := S.join0 x; clear x; refine mv ?_; refine KO_nil ?_)
  all_goals (repeat' (fail))
  refine K_ret ⟨_, rfl, ?_⟩
  exact ⟨hq, S⟩

/-- Halls that are examined. -/
def FewP (l : List Tab) : Prop := l.length ≤ 20 ∧ ∀ i, i < l.length → (tb l i).name.length ≤ 40 ∧ (tb l i).opn.length ≤ 40
/-- The open seats of the first k tables. -/
def OpnR (l l2 : List Tab) (k : Nat) (h : AH) (fp : Fp) : Prop := ∀ j, j < k → RdL h (tb l2 j).ov 1 eI (tb l j).opn
end Go.Proofs.Xx

/-
  Texts divided at a byte; numbers that are read; lines that are read as tables; texts that are read as halls.
-/
namespace Go.Proofs.Xx
open Go Go.Proofs
set_option linter.unusedSimpArgs false
set_option linter.unusedVariables false

/-- A piece ahead of the first piece. -/
def prep (a : List UInt8) : List (List UInt8) → List (List UInt8)
  | [] => [a]
  | w :: r => (a ++ w) :: r
/-- A text's pieces between the bytes c. -/
def spl (c : UInt8) : List UInt8 → List (List UInt8)
  | [] => [[]]
  | x :: s => if x = c then [] :: spl c s else prep [x] (spl c s)
theorem prep_nil : ∀ {l : List (List UInt8)}, l ≠ [] → prep [] l = l
  | [], h => absurd rfl h
  | w :: r, _ => rfl
theorem prep_ne {a : List UInt8} : ∀ {l : List (List UInt8)}, prep a l ≠ []
  | [] => by simp [prep]
  | _ :: _ => by simp [prep]
theorem prep_prep {a b : List UInt8} : ∀ {l : List (List UInt8)}, l ≠ [] → prep a (prep b l) = prep (a ++ b) l
  | [], h => absurd rfl h
  | w :: r, _ => by simp [prep]
theorem prep_len {a : List UInt8} : ∀ {l : List (List UInt8)}, l ≠ [] → (prep a l).length = l.length
  | [], h => absurd rfl h
  | w :: r, _ => rfl
theorem spl_ne (c : UInt8) : ∀ s, spl c s ≠ []
  | [] => by simp [spl]
  | x :: s => by
    unfold spl
    split
    · simp
    · exact prep_ne
theorem splL_len (c : UInt8) : ∀ s, (spl c s).length = s.countP (· == c) + 1
  | [] => rfl
  | x :: s => by
    unfold spl
    split
    · rename_i h; subst h; simp [splL_len x s]
    · rename_i h; rw [prep_len (spl_ne c s), splL_len c s, List.countP_cons_of_neg (by simpa using h)]
theorem spl_free {c : UInt8} : ∀ {s : List UInt8}, c ∉ s → spl c s = [s]
  | [], _ => rfl
  | x :: s, h => by
    have h1 : x ≠ c := fun e => h (by simp [e])
    have h2 : c ∉ s := fun q => h (List.mem_cons_of_mem _ q)
    rw [spl, if_neg h1, spl_free h2]; rfl
theorem spl_cut {c : UInt8} : ∀ {a b : List UInt8}, c ∉ a → spl c (a ++ c :: b) = a :: spl c b
  | [], b, _ => by simp [spl]
  | x :: a, b, h => by
    have h1 : x ≠ c := fun e => h (by simp [e])
    have h2 : c ∉ a := fun q => h (List.mem_cons_of_mem _ q)
    rw [List.cons_append, spl, if_neg h1, spl_cut h2]; rfl
theorem spl_one {c : UInt8} {s w : List UInt8} (h : spl c s = [w]) : s = w ∧ c ∉ s := by
  have hl := splL_len c s
  rw [h] at hl
  have h0 : s.countP (· == c) = 0 := by simpa using hl.symm
  have hn : c ∉ s := fun q => by
    have := List.countP_eq_zero.1 h0 c q
    simp at this
  rw [spl_free hn] at h
  exact ⟨by simpa using h, hn⟩
theorem fstIx_none {c : UInt8} : ∀ {s : List UInt8}, fstIx c s = none ↔ c ∉ s
  | [] => by simp [fstIx]
  | x :: s => by
    unfold fstIx
    by_cases h : x = c
    · simp [h]
    · simp only [if_neg h, Option.map_eq_none_iff, fstIx_none, List.mem_cons, not_or]
      exact ⟨fun q => ⟨fun e => h e.symm, q⟩, fun q => q.2⟩
theorem fstIx_some {c : UInt8} : ∀ {s : List UInt8} {m : Nat}, fstIx c s = some m → m < s.length ∧ c ∉ s.take m ∧ s = s.take m ++ c :: s.drop (m + 1)
  | [], m, h => by cases h
  | x :: s, m, h => by
    unfold fstIx at h
    by_cases e : x = c
    · rw [if_pos e] at h; cases h
      subst e
      simp
    · rw [if_neg e] at h
      obtain ⟨k, hk, rfl⟩ := Option.map_eq_some_iff.1 h
      obtain ⟨h1, h2, h3⟩ := fstIx_some hk
      refine ⟨by simpa using h1, ?_, ?_⟩
      · simp only [List.take_succ_cons, List.mem_cons, not_or]
        exact ⟨fun q => e q.symm, h2⟩
      · simp only [List.take_succ_cons, List.drop_succ_cons, List.cons_append]
        rw [← h3]
theorem spl_some {c : UInt8} {s : List UInt8} {m : Nat} (h : fstIx c s = some m) : spl c s = s.take m :: spl c (s.drop (m + 1)) := by
  obtain ⟨h1, h2, h3⟩ := fstIx_some h
  conv => lhs; rw [h3]
  exact spl_cut h2

/-! numbers -/
def digB (x : UInt8) : Prop := 48 ≤ x.toNat ∧ x.toNat ≤ 57
instance (x : UInt8) : Decidable (digB x) := inferInstanceAs (Decidable (_ ∧ _))
/-- The value of digits. -/
def valD (s : List UInt8) : Nat := s.foldl (fun n x => 10 * n + (x.toNat - 48)) 0
theorem valD_snoc (s : List UInt8) (x : UInt8) : valD (s ++ [x]) = 10 * valD s + (x.toNat - 48) := by simp [valD]
theorem valD_take {s : List UInt8} {i : Nat} (h : i < s.length) : valD (s.take (i + 1)) = 10 * valD (s.take i) + ((s.getD i default).toNat - 48) := by
  rw [← valD_snoc]
  congr 1
  rw [List.take_add_one, List.getElem?_eq_getElem h]
  simp [List.getD, h]
/-- A number is read. -/
def numP (s : List UInt8) : Prop := 1 ≤ s.length ∧ s.length ≤ 9 ∧ (1 < s.length → s.getD 0 default ≠ 48) ∧ ∀ i, i < s.length → digB (s.getD i default)
/-! lines -/
def wTable : List UInt8 := [116, 97, 98, 108, 101]
def shp (w : List UInt8) : Int := if w = wRound then 1 else if w = wLong then 2 else if w = wShoe then 3 else if w = wRow then 4 else 0
abbrev wAt (ws : List (List UInt8)) (i : Nat) : List UInt8 := ws.getD i default
/-- Words that are read as a table. -/
def LineP (ws : List (List UInt8)) : Prop := 7 ≤ ws.length ∧ wAt ws 0 = wTable ∧ wAt ws 1 ≠ [] ∧ shp (wAt ws 2) ≠ 0 ∧ ∀ i, 3 ≤ i → i < ws.length → numP (wAt ws i)
/-- The number of word i, as it is read. -/
def nAt (ws : List (List UInt8)) (i : Nat) : Int := valD (wAt ws i)
def lineT (ws : List (List UInt8)) : Tab := { name := wAt ws 1, shape := shp (wAt ws 2), A := nAt ws 3, B := nAt ws 4, os := ⟨none, 0, 0⟩, opn := (ws.drop 7).map fun w => (valD w : Int), X := nAt ws 5, Y := nAt ws 6 }
/-! texts -/
inductive PRes where
  | ok (l : List Tab)
  | bad (i : Nat) (e : Int)
open Classical in
noncomputable def prs : List Tab → Nat → List (List UInt8) → PRes
  | acc, i, [] => .ok acc
  | acc, i, [w] => if w = [] then .ok acc else .bad i 3
  | acc, i, w :: u :: r => if ¬ LineP (spl 32 w) then .bad i 3 else if chk (lineT (spl 32 w)) ≠ 0 then .bad i (chk (lineT (spl 32 w))) else if (∃ j, j < acc.length ∧ (tb acc j).name = (lineT (spl 32 w)).name) then .bad i 5 else if acc.length = 16 then .bad i 7 else prs (acc ++ [lineT (spl 32 w)]) (i + 1) (u :: r)
/-- What a text is read as. -/
noncomputable def parseR (s : List UInt8) : PRes := if 65536 < s.length then .bad 0 7 else prs [] 0 (spl 10 s)
theorem prs_nil {acc : List Tab} {i : Nat} : prs acc i [[]] = .ok acc := by simp [prs]
theorem prs_last {acc : List Tab} {i : Nat} {w : List UInt8} (h : w ≠ []) : prs acc i [w] = .bad i 3 := by simp [prs, h]
section
variable {acc : List Tab} {i : Nat} {w : List UInt8} {r : List (List UInt8)}
theorem prs_form (hr : r ≠ []) (h : ¬ LineP (spl 32 w)) : prs acc i (w :: r) = .bad i 3 := by
  match r, hr with
  | u :: r, _ => rw [prs, if_pos h]
theorem prs_chk (hr : r ≠ []) (h : LineP (spl 32 w)) (h2 : chk (lineT (spl 32 w)) ≠ 0) : prs acc i (w :: r) = .bad i (chk (lineT (spl 32 w))) := by
  match r, hr with
  | u :: r, _ => rw [prs, if_neg (not_not_intro h), if_pos h2]
theorem prs_dup (hr : r ≠ []) (h : LineP (spl 32 w)) (h2 : chk (lineT (spl 32 w)) = 0) (h3 : ∃ j, j < acc.length ∧ (tb acc j).name = (lineT (spl 32 w)).name) : prs acc i (w :: r) = .bad i 5 := by
  match r, hr with
  | u :: r, _ => rw [prs, if_neg (not_not_intro h), if_neg (not_not_intro h2), if_pos h3]
theorem prs_many (hr : r ≠ []) (h : LineP (spl 32 w)) (h2 : chk (lineT (spl 32 w)) = 0) (h3 : ¬ ∃ j, j < acc.length ∧ (tb acc j).name = (lineT (spl 32 w)).name) (h4 : acc.length = 16) : prs acc i (w :: r) = .bad i 7 := by
  match r, hr with
  | u :: r, _ => rw [prs, if_neg (not_not_intro h), if_neg (not_not_intro h2), if_neg h3, if_pos h4]
theorem prs_go (hr : r ≠ []) (h : LineP (spl 32 w)) (h2 : chk (lineT (spl 32 w)) = 0) (h3 : ¬ ∃ j, j < acc.length ∧ (tb acc j).name = (lineT (spl 32 w)).name) (h4 : acc.length ≠ 16) : prs acc i (w :: r) = prs (acc ++ [lineT (spl 32 w)]) (i + 1) r := by
  match r, hr with
  | u :: r, _ => rw [prs, if_neg (not_not_intro h), if_neg (not_not_intro h2), if_neg h3, if_neg h4]
end
end Go.Proofs.Xx

/-
  Seats of tables and halls, first seats, tables by name; the program's and the reference's.
-/
namespace Go.Proofs.Xx
open Go Go.Proofs
set_option linter.unusedSimpArgs false
set_option linter.unusedVariables false
set_option maxRecDepth 100000

open Classical in
noncomputable def seatsV (t : Tab) : Int := if chk t = 0 then tsize t else 0
open Classical in
noncomputable def firstV (l : List Tab) (t : Int) : Int := if 0 ≤ t ∧ t < l.length ∧ ValidL l then sumT l t.toNat else 0
open Classical in
noncomputable def countV (l : List Tab) : Int := if ValidL l then sumT l l.length else 0
def FindIs (l : List Tab) (nm : List UInt8) (v : Value) : Prop :=
  (∃ k : Nat, v = .tuple #[.int .i64 k, .bool true] ∧ ValidL l ∧ k < l.length ∧ (tb l k).name = nm ∧ ∀ j, j < k → ¬ (tb l j).name = nm) ∨
  (v = .tuple #[.int .i64 0, .bool false] ∧ (¬ ValidL l ∨ ∀ j, j < l.length → ¬ (tb l j).name = nm))
def eSt (p : Nat × Nat) : List Value := [.int .i64 (p.1 : Int), .int .i64 (p.2 : Int)]
/-- The seats of the first n tables, and the first k of the next. -/
def SeatsTo (l : List Tab) (n k : Nat) (out : List (Nat × Nat)) : Prop := (out.length : Int) = sumT l n + k ∧ ∀ x, x < out.length → ((out.getD x default).1 < n ∨ ((out.getD x default).1 = n ∧ (out.getD x default).2 < k)) ∧ ((out.getD x default).2 : Int) < tsize (tb l (out.getD x default).1) ∧ (x : Int) = sumT l (out.getD x default).1 + (out.getD x default).2
end Go.Proofs.Xx

/-
  Swapping within a range of a list; ranges in order.
-/
namespace Go.Proofs.Xx
set_option linter.unusedVariables false
set_option linter.unusedSectionVars false

section
variable {α : Type} [Inhabited α]
theorem getD_set (l : List α) {i : Nat} (x : α) (h : i < l.length) (j : Nat) : (l.set i x).getD j default = if j = i then x else l.getD j default := by
  rw [List.getD_eq_getElem?_getD, List.getD_eq_getElem?_getD, List.getElem?_set]
  by_cases e : i = j
  · subst e; rw [if_pos rfl, if_pos rfl, if_pos h]; rfl
  · rw [if_neg e, if_neg (fun q => e q.symm)]
theorem getD_snoc1 (l : List α) (x : α) {j : Nat} (h : j < l.length) : (l ++ [x]).getD j default = l.getD j default := by
  simp only [List.getD_eq_getElem?_getD, List.getElem?_append_left h]
theorem getD_snoc2 (l : List α) (x : α) {j : Nat} (h : j = l.length) : (l ++ [x]).getD j default = x := by
  subst h
  simp only [List.getD_eq_getElem?_getD, List.getElem?_append_right (Nat.le_refl _), Nat.sub_self, List.getElem?_cons_zero, Option.getD_some]
/-- Two elements change places. -/
def swp (l : List α) (i j : Nat) : List α := (l.set i (l.getD j default)).set j (l.getD i default)
theorem swp_len (l : List α) (i j : Nat) : (swp l i j).length = l.length := by simp [swp]
theorem swp_get {l : List α} {i j : Nat} (hi : i < l.length) (hj : j < l.length) (k : Nat) : (swp l i j).getD k default = if k = j then l.getD i default else if k = i then l.getD j default else l.getD k default := by
  unfold swp
  rw [getD_set _ _ (by simpa using hj), getD_set _ _ hi]
/-- l' is l, with elements in [a, b) exchanged. -/
inductive Sw (a b : Nat) : List α → List α → Prop
  | refl (l : List α) : Sw a b l l
  | step {l l' : List α} (i j : Nat) (h : Sw a b l l') (hi : a ≤ i ∧ i < b) (hj : a ≤ j ∧ j < b) (hb : b ≤ l'.length) : Sw a b l (swp l' i j)
theorem Sw.len {a b : Nat} {l l' : List α} (h : Sw a b l l') : l'.length = l.length := by
  induction h with
  | refl => rfl
  | step i j h hi hj hb ih => rw [swp_len, ih]
theorem Sw.out {a b : Nat} {l l' : List α} (h : Sw a b l l') {k : Nat} (hk : k < a ∨ b ≤ k) : l'.getD k default = l.getD k default := by
  induction h with
  | refl => rfl
  | step i j h hi hj hb ih => rw [swp_get (by omega) (by omega), if_neg (by omega), if_neg (by omega), ih]
theorem Sw.in_ {a b : Nat} {l l' : List α} (h : Sw a b l l') : ∀ {k : Nat}, a ≤ k → k < b → ∃ m, a ≤ m ∧ m < b ∧ l'.getD k default = l.getD m default := by
  induction h with
  | refl => intro k h1 h2; exact ⟨k, h1, h2, rfl⟩
  | step i j h hi hj hb ih =>
    intro k h1 h2
    rw [swp_get (by omega) (by omega)]
    split
    · exact ih hi.1 hi.2
    · split
      · exact ih hj.1 hj.2
      · exact ih h1 h2
theorem Sw.trans {a b : Nat} {l m n : List α} (h : Sw a b l m) (g : Sw a b m n) : Sw a b l n := by
  induction g with
  | refl => exact h
  | step i j g hi hj hb ih => exact .step i j ih hi hj hb
theorem Sw.mono {a b a' b' : Nat} {l m : List α} (h : Sw a b l m) (ha : a' ≤ a) (hb : b ≤ b') (hl : b' ≤ l.length) : Sw a' b' l m := by
  induction h with
  | refl => exact .refl _
  | step i j g hi hj hbl ih =>
    exact .step i j ih ⟨by omega, by omega⟩ ⟨by omega, by omega⟩ (by rw [g.len]; exact hl)
theorem Sw.one {a b : Nat} {l : List α} (i j : Nat) (hi : a ≤ i ∧ i < b) (hj : a ≤ j ∧ j < b) (hb : b ≤ l.length) : Sw a b l (swp l i j) := .step i j (.refl l) hi hj hb

/-- An order by weight. -/
structure WOrd (lt : α → α → Prop) : Prop where
  irr : ∀ x, ¬ lt x x
  tr : ∀ {x y z}, lt x y → lt y z → lt x z
  ntr : ∀ {x y z}, ¬ lt y x → ¬ lt z y → ¬ lt z x
theorem WOrd.asym {lt : α → α → Prop} (W : WOrd lt) {x y : α} (h : lt x y) : ¬ lt y x := fun g => W.irr x (W.tr h g)

/-- The elements in [a, b) stand in order. -/
def Srt (lt : α → α → Prop) (a b : Nat) (l : List α) : Prop := ∀ i j, a ≤ i → i < j → j < b → ¬ lt (l.getD j default) (l.getD i default)
/-! ### insertion -/
/-- [a, i] stands in order but for the element at j, which is on its way down. -/
def InsI (lt : α → α → Prop) (a i j : Nat) (l : List α) : Prop := ∀ p q, a ≤ p → p < q → q ≤ i → q ≠ j → ¬ lt (l.getD q default) (l.getD p default)
theorem InsI.start {lt : α → α → Prop} {a i : Nat} {l : List α} (h : Srt lt a i l) : InsI lt a i i l := fun p q h1 h2 h3 h4 => h p q h1 h2 (by omega)
theorem InsI.next {lt : α → α → Prop} (W : WOrd lt) {a i j : Nat} {l : List α} (h : InsI lt a i j l) (hj : a < j) (hji : j ≤ i) (hl : i < l.length) (hc : lt (l.getD j default) (l.getD (j - 1) default)) : InsI lt a i (j - 1) (swp l j (j - 1)) := by
  intro p q h1 h2 h3 h4
  have g := swp_get (l := l) (i := j) (j := j - 1) (by omega) (by omega)
  rw [g q, g p, if_neg h4]
  by_cases e1 : q = j
  · subst e1
    rw [if_pos rfl]
    by_cases e2 : p = q - 1
    · rw [if_pos e2]; exact W.asym hc
    · rw [if_neg e2, if_neg (by omega)]; exact h p (q - 1) h1 (by omega) (by omega) (by omega)
  · rw [if_neg e1]
    by_cases e2 : p = j - 1
    · rw [if_pos e2]; exact h j q (by omega) (by omega) h3 e1
    · rw [if_neg e2]
      by_cases e3 : p = j
      · rw [if_pos e3]; exact h (j - 1) q (by omega) (by omega) h3 e1
      · rw [if_neg e3]; exact h p q h1 h2 h3 e1
theorem InsI.done {lt : α → α → Prop} (W : WOrd lt) {a i j : Nat} {l : List α} (h : InsI lt a i j l) (hc : j ≤ a ∨ ¬ lt (l.getD j default) (l.getD (j - 1) default)) : Srt lt a (i + 1) l := by
  intro p q h1 h2 h3
  by_cases e : q = j
  · subst e
    rcases hc with hc | hc
    · omega
    · by_cases e2 : p = q - 1
      · rw [e2]; exact hc
      · exact W.ntr (h p (q - 1) h1 (by omega) (by omega) (by omega)) hc
  · exact h p q h1 h2 (by omega) e

/-! ### heaps -/
def HeapAt (lt : α → α → Prop) (f hi k : Nat) (l : List α) : Prop :=
  (2 * k + 1 < hi → ¬ lt (l.getD (f + k) default) (l.getD (f + (2 * k + 1)) default)) ∧ (2 * k + 2 < hi → ¬ lt (l.getD (f + k) default) (l.getD (f + (2 * k + 2)) default))
def Heap (lt : α → α → Prop) (f lo hi : Nat) (l : List α) : Prop := ∀ k, lo ≤ k → HeapAt lt f hi k l
/-- A heap but for the element at root, which is on its way down. -/
def SiftI (lt : α → α → Prop) (f lo hi root : Nat) (l : List α) : Prop :=
  (∀ k, lo ≤ k → k ≠ root → HeapAt lt f hi k l) ∧ ∀ k, lo ≤ k → (root = 2 * k + 1 ∨ root = 2 * k + 2) → ∀ c, (c = 2 * root + 1 ∨ c = 2 * root + 2) → c < hi → ¬ lt (l.getD (f + k) default) (l.getD (f + c) default)
theorem SiftI.start {lt : α → α → Prop} {f lo hi : Nat} {l : List α} (h : Heap lt f (lo + 1) hi l) : SiftI lt f lo hi lo l := ⟨fun k h1 h2 => h k (by omega), fun k h1 h2 => by omega⟩
theorem SiftI.done {lt : α → α → Prop} {f lo hi root : Nat} {l : List α} (h : SiftI lt f lo hi root l) (hc : HeapAt lt f hi root l) : Heap lt f lo hi l := fun k h1 => by
  by_cases e : k = root
  · subst e; exact hc
  · exact h.1 k h1 e
theorem SiftI.next {lt : α → α → Prop} (W : WOrd lt) {f lo hi root c : Nat} {l : List α} (h : SiftI lt f lo hi root l) (hr : lo ≤ root) (hcc : c = 2 * root + 1 ∨ c = 2 * root + 2) (hch : c < hi) (hl : f + hi ≤ l.length)
    (hm : ∀ d, (d = 2 * root + 1 ∨ d = 2 * root + 2) → d < hi → ¬ lt (l.getD (f + c) default) (l.getD (f + d) default)) (hc : lt (l.getD (f + root) default) (l.getD (f + c) default)) :
    SiftI lt f lo hi c (swp l (f + root) (f + c)) := by
  have g := swp_get (l := l) (i := f + root) (j := f + c) (by omega) (by omega)
  -- the element at k, after the exchange
  have at_c : (swp l (f + root) (f + c)).getD (f + c) default = l.getD (f + root) default := by rw [g, if_pos rfl]
  have at_r : (swp l (f + root) (f + c)).getD (f + root) default = l.getD (f + c) default := by rw [g, if_neg (by omega), if_pos rfl]
  have at_o : ∀ k, k ≠ c → k ≠ root → (swp l (f + root) (f + c)).getD (f + k) default = l.getD (f + k) default := fun k h1 h2 => by rw [g, if_neg (by omega), if_neg (by omega)]
  refine ⟨fun k h1 h2 => ?_, fun k h1 h2 d hd hdh => ?_⟩
  · by_cases e : k = root
    · subst e
      refine ⟨fun q => ?_, fun q => ?_⟩
      · rw [at_r]
        by_cases e1 : 2 * k + 1 = c
        · rw [e1, at_c]; exact W.asym hc
        · rw [at_o _ e1 (by omega)]; exact hm _ (.inl rfl) q
      · rw [at_r]
        by_cases e1 : 2 * k + 2 = c
        · rw [e1, at_c]; exact W.asym hc
        · rw [at_o _ e1 (by omega)]; exact hm _ (.inr rfl) q
    · have hk := h.1 k h1 e
      rw [HeapAt, at_o k h2 e]
      refine ⟨fun q => ?_, fun q => ?_⟩
      · by_cases e1 : 2 * k + 1 = root
        · rw [e1, at_r]; exact h.2 k h1 (.inl e1.symm) c hcc hch
        · by_cases e2 : 2 * k + 1 = c
          · omega
          · rw [at_o _ e2 e1]; exact hk.1 q
      · by_cases e1 : 2 * k + 2 = root
        · rw [e1, at_r]; exact h.2 k h1 (.inr e1.symm) c hcc hch
        · by_cases e2 : 2 * k + 2 = c
          · omega
          · rw [at_o _ e2 e1]; exact hk.2 q
  · have e : k = root := by omega
    subst e
    rw [at_r, at_o d (by omega) (by omega)]
    have hk := h.1 c (by omega) (by omega)
    rcases hd with hd | hd
    · subst hd; exact hk.1 hdh
    · subst hd; exact hk.2 hdh
theorem Heap.max {lt : α → α → Prop} (W : WOrd lt) {f hi : Nat} {l : List α} (h : Heap lt f 0 hi l) (k : Nat) (hk : k < hi) : ¬ lt (l.getD (f + 0) default) (l.getD (f + k) default) := by
  induction k using Nat.strongRecOn with
  | _ k ih =>
    rcases Nat.eq_zero_or_pos k with e | e
    · subst e; exact W.irr _
    · have hp := h ((k - 1) / 2) (Nat.zero_le _)
      have hi' := ih ((k - 1) / 2) (by omega) (by omega)
      -- ¬ lt root parent, ¬ lt parent k
      rcases (by omega : k = 2 * ((k - 1) / 2) + 1 ∨ k = 2 * ((k - 1) / 2) + 2) with q | q
      · have := hp.1 (by omega)
        rw [← q] at this
        exact W.ntr this hi'
      · have := hp.2 (by omega)
        rw [← q] at this
        exact W.ntr this hi'
/-- The heap is [f, f + i), behind it the greatest stand in order. -/
def HeapI (lt : α → α → Prop) (f i n : Nat) (l : List α) : Prop := Heap lt f 0 i l ∧ ∀ p q, p < q → i ≤ q → q < n → ¬ lt (l.getD (f + q) default) (l.getD (f + p) default)
/-! ### quicksort -/
/-- All pairs in [a, b) stand in order but those within [a', b'). -/
def DoneI (lt : α → α → Prop) (a b a' b' : Nat) (l : List α) : Prop := ∀ i j, a ≤ i → i < j → j < b → (i < a' ∨ b' ≤ j) → ¬ lt (l.getD j default) (l.getD i default)
theorem DoneI.start {lt : α → α → Prop} {a b : Nat} {l : List α} : DoneI lt a b a b l := fun i j h1 h2 h3 h4 => by omega
theorem DoneI.sw {lt : α → α → Prop} {a b a' b' : Nat} {l l' : List α} (h : DoneI lt a b a' b' l) (s : Sw a' b' l l') (h1 : a ≤ a') (h2 : b' ≤ b) : DoneI lt a b a' b' l' := by
  intro i j q1 q2 q3 q4
  rcases q4 with q4 | q4
  · rw [s.out (k := i) (.inl q4)]
    rcases Nat.lt_or_ge j a' with q5 | q5
    · rw [s.out (.inl q5)]; exact h i j q1 q2 q3 (.inl q4)
    · rcases Nat.lt_or_ge j b' with q6 | q6
      · obtain ⟨m, m1, m2, m3⟩ := s.in_ q5 q6
        rw [m3]; exact h i m q1 (by omega) (by omega) (.inl q4)
      · rw [s.out (.inr q6)]; exact h i j q1 q2 q3 (.inl q4)
  · rw [s.out (k := j) (.inr q4)]
    rcases Nat.lt_or_ge i a' with q5 | q5
    · rw [s.out (.inl q5)]; exact h i j q1 q2 q3 (.inl q5)
    · rcases Nat.lt_or_ge i b' with q6 | q6
      · obtain ⟨m, m1, m2, m3⟩ := s.in_ q5 q6
        rw [m3]; exact h m j (by omega) (by omega) q3 (.inr q4)
      · rw [s.out (.inr q6)]; exact h i j q1 q2 q3 (.inr q4)
theorem DoneI.finish {lt : α → α → Prop} {a b a' b' : Nat} {l : List α} (h : DoneI lt a b a' b' l) (s : Srt lt a' b' l) : Srt lt a b l := by
  intro i j q1 q2 q3
  by_cases e : i < a' ∨ b' ≤ j
  · exact h i j q1 q2 q3 e
  · exact s i j (by omega) q2 (by omega)
/-- [a, b) is parted at m: less before it, not less behind it. -/
def Parted (lt : α → α → Prop) (a b m : Nat) (l : List α) : Prop := (∀ k, a ≤ k → k < m → lt (l.getD k default) (l.getD m default)) ∧ ∀ k, m < k → k < b → ¬ lt (l.getD k default) (l.getD m default)
theorem Parted.across {lt : α → α → Prop} (W : WOrd lt) {a b m : Nat} {l : List α} (h : Parted lt a b m l) {i j : Nat} (h1 : a ≤ i) (h2 : i ≤ m) (h3 : m ≤ j) (h4 : j < b) (h5 : i < j) : ¬ lt (l.getD j default) (l.getD i default) := by
  have e1 : ¬ lt (l.getD m default) (l.getD i default) := by
    rcases Nat.lt_or_ge i m with q | q
    · exact W.asym (h.1 i h1 q)
    · have : i = m := by omega
      subst this; exact W.irr _
  have e2 : ¬ lt (l.getD j default) (l.getD m default) := by
    rcases Nat.lt_or_ge m j with q | q
    · exact h.2 j q h4
    · have : j = m := by omega
      subst this; exact W.irr _
  exact W.ntr e1 e2
/-- The left part is put in order: what is left is the right one. -/
theorem DoneI.left {lt : α → α → Prop} (W : WOrd lt) {a b a' b' m : Nat} {l l' : List α} (h : DoneI lt a b a' b' l) (p : Parted lt a' b' m l) (hm : a' ≤ m ∧ m < b') (hab : a ≤ a' ∧ b' ≤ b) (s : Sw a' m l l') (hs : Srt lt a' m l') (hl : b' ≤ l.length) : DoneI lt a b (m + 1) b' l' := by
  have h' := h.sw (s.mono (Nat.le_refl _) (by omega) hl) hab.1 hab.2
  intro i j q1 q2 q3 q4
  by_cases e : i < a' ∨ b' ≤ j
  · exact h' i j q1 q2 q3 e
  · rcases q4 with q4 | q4
    · rcases Nat.lt_or_ge j m with q5 | q5
      · exact hs i j (by omega) q2 q5
      · rw [s.out (k := j) (.inr q5)]
        rcases Nat.lt_or_ge i m with q6 | q6
        · obtain ⟨k, k1, k2, k3⟩ := s.in_ (k := i) (by omega) q6
          rw [k3]; exact p.across W k1 (by omega) q5 (by omega) (by omega)
        · rw [s.out (.inr q6)]; exact p.across W (by omega) (by omega) q5 (by omega) q2
    · omega
theorem DoneI.right {lt : α → α → Prop} (W : WOrd lt) {a b a' b' m : Nat} {l l' : List α} (h : DoneI lt a b a' b' l) (p : Parted lt a' b' m l) (hm : a' ≤ m ∧ m < b') (hab : a ≤ a' ∧ b' ≤ b) (s : Sw (m + 1) b' l l') (hs : Srt lt (m + 1) b' l') (hl : b' ≤ l.length) : DoneI lt a b a' m l' := by
  have h' := h.sw (s.mono (by omega) (Nat.le_refl _) hl) hab.1 hab.2
  intro i j q1 q2 q3 q4
  by_cases e : i < a' ∨ b' ≤ j
  · exact h' i j q1 q2 q3 e
  · rcases q4 with q4 | q4
    · omega
    · rcases Nat.lt_or_ge m i with q5 | q5
      · exact hs i j (by omega) q2 (by omega)
      · rw [s.out (k := i) (.inl (by omega))]
        rcases Nat.lt_or_ge m j with q6 | q6
        · obtain ⟨k, k1, k2, k3⟩ := s.in_ (k := j) (by omega) (by omega)
          rw [k3]; exact p.across W (by omega) q5 (by omega) k2 (by omega)
        · rw [s.out (.inl (by omega))]; exact p.across W (by omega) q5 (by omega) (by omega) q2
theorem Sw.all {a b : Nat} {l l' : List α} (s : Sw a b l l') {p : α → Prop} (h : ∀ k, a ≤ k → k < b → p (l.getD k default)) : ∀ k, a ≤ k → k < b → p (l'.getD k default) := fun k h1 h2 => by
  obtain ⟨m, m1, m2, m3⟩ := s.in_ h1 h2
  rw [m3]; exact h m m1 m2
end
end Go.Proofs.Xx

/-
  Merging by symmetric comparisons: two runs become one, rotations.
-/
namespace Go.Proofs.Xx
set_option linter.unusedVariables false
set_option linter.unusedSectionVars false

section
variable {α : Type} [Inhabited α]
/-- n elements from a on and from b on change places. -/
def xch (a b n k : Nat) : Nat := if a ≤ k ∧ k < a + n then k + (b - a) else if b ≤ k ∧ k < b + n then k - (b - a) else k
def IsXch (a b n : Nat) (l l' : List α) : Prop := ∀ k, l'.getD k default = l.getD (xch a b n k) default
theorem IsXch.zero {a b : Nat} {l : List α} : IsXch a b 0 l l := fun k => by
  unfold xch
  rw [if_neg (by omega), if_neg (by omega)]
theorem IsXch.next {a b i : Nat} {l l' : List α} (h : IsXch a b i l l') (hab : a + i < b) (hl : b + i < l'.length) : IsXch a b (i + 1) l (swp l' (a + i) (b + i)) := fun k => by
  rw [swp_get (by omega) hl]
  rw [h, h, h]
  unfold xch
  repeat' split
  all_goals first | omega | rfl | (congr 1 <;> omega)
/-- Two neighbouring parts change places. -/
def rot (a m b k : Nat) : Nat := if k < a then k else if k < a + (b - m) then k + (m - a) else if k < b then k - (b - m) else k
def IsRot (a m b : Nat) (l l' : List α) : Prop := ∀ k, l'.getD k default = l.getD (rot a m b k) default
/-- l, rotated, is c, rotated between i before m and j behind it. -/
def RotI (a m b i j : Nat) (l c : List α) : Prop := ∀ k, l.getD (rot a m b k) default = c.getD (rot (m - i) m (m + j) k) default
theorem RotI.start {a m b : Nat} {l : List α} (h1 : a ≤ m) (h2 : m ≤ b) : RotI a m b (m - a) (b - m) l l := fun k => by
  rw [show m - (m - a) = a by omega, show m + (b - m) = b by omega]
theorem RotI.left {a m b i j : Nat} {l c c' : List α} (h : RotI a m b i j l c) (hi : i ≤ m) (hij : j < i) (x : IsXch (m - i) m j c c') : RotI a m b (i - j) j l c' := fun k => by
  rw [h k, x]
  congr 1
  unfold xch rot
  repeat' split
  all_goals omega
theorem RotI.right {a m b i j : Nat} {l c c' : List α} (h : RotI a m b i j l c) (hi : i ≤ m) (hij : i < j) (x : IsXch (m - i) (m + j - i) i c c') : RotI a m b i (j - i) l c' := fun k => by
  rw [h k, x]
  congr 1
  unfold xch rot
  repeat' split
  all_goals omega
theorem RotI.done {a m b i : Nat} {l c c' : List α} (h : RotI a m b i i l c) (hi : i ≤ m) (x : IsXch (m - i) m i c c') : IsRot a m b l c' := fun k => by
  rw [h k, x]
  congr 1
  unfold xch rot
  repeat' split
  all_goals omega

/-- An element goes up from a to k. -/
def IsUp (a k : Nat) (l l' : List α) : Prop := ∀ x, l'.getD x default = l.getD (if x < a then x else if x < k then x + 1 else if x = k then a else x) default
theorem IsUp.start {a : Nat} {l : List α} : IsUp a a l l := fun x => by
  congr 1
  repeat' split
  all_goals omega
theorem IsUp.next {a k : Nat} {l l' : List α} (h : IsUp a k l l') (hak : a ≤ k) (hl : k + 1 < l'.length) : IsUp a (k + 1) l (swp l' k (k + 1)) := fun x => by
  rw [swp_get (by omega) hl]
  rw [h, h, h]
  repeat' split
  all_goals first | omega | rfl | (congr 1 <;> omega)
/-- An element goes down from m to k. -/
def IsDown (m k : Nat) (l l' : List α) : Prop := ∀ x, l'.getD x default = l.getD (if x < k then x else if x = k then m else if x ≤ m then x - 1 else x) default
theorem IsDown.start {m : Nat} {l : List α} : IsDown m m l l := fun x => by
  congr 1
  repeat' split
  all_goals omega
theorem IsDown.next {m k : Nat} {l l' : List α} (h : IsDown m k l l') (hk : 0 < k ∧ k ≤ m) (hl : m < l'.length) : IsDown m (k - 1) l (swp l' k (k - 1)) := fun x => by
  rw [swp_get (by omega) (by omega)]
  rw [h, h, h]
  repeat' split
  all_goals first | omega | rfl | (congr 1 <;> omega)
end

/-- By a key, and by number where the keys are the same. -/
def lexi (key : Int → Int) (x y : Int) : Prop := key x < key y ∨ (key x = key y ∧ x < y)
theorem lexi_ord (key : Int → Int) : WOrd (lexi key) where
  irr x h := by unfold lexi at h; omega
  tr h1 h2 := by unfold lexi at *; omega
  ntr h1 h2 := by unfold lexi at *; omega
/-- Two runs; what is in the first has the lesser numbers. -/
structure Mrg (key : Int → Int) (a m b : Nat) (l : List Int) : Prop where
  sl : Srt (lexi key) a m l
  sr : Srt (lexi key) m b l
  cr : ∀ p q, a ≤ p → p < m → m ≤ q → q < b → l.getD p default < l.getD q default

theorem Mrg.up {key : Int → Int} {a b i : Nat} {l l' : List Int} (h : Mrg key a (a + 1) b l) (hi : a + 1 ≤ i ∧ i ≤ b) (h1 : ∀ k, a + 1 ≤ k → k < i → lexi key (l.getD k default) (l.getD a default)) (h2 : ∀ k, i ≤ k → k < b → ¬ lexi key (l.getD k default) (l.getD a default)) (u : IsUp a (i - 1) l l') : Srt (lexi key) a b l' := by
  have W := lexi_ord key
  have u1 : ∀ x, a ≤ x → x < i - 1 → l'.getD x default = l.getD (x + 1) default := fun x q1 q2 => by rw [u x, if_neg (by omega), if_pos q2]
  have u2 : l'.getD (i - 1) default = l.getD a default := by
    rw [u, if_neg (by omega), if_neg (by omega), if_pos rfl]
  have u3 : ∀ x, i - 1 < x → l'.getD x default = l.getD x default := fun x q1 => by rw [u x, if_neg (by omega), if_neg (by omega), if_neg (by omega)]
  intro p q q1 q2 q3
  rcases Nat.lt_trichotomy p (i - 1) with e1 | e1 | e1
  · rw [u1 p q1 e1]
    rcases Nat.lt_trichotomy q (i - 1) with e2 | e2 | e2
    · rw [u1 q (by omega) e2]; exact h.sr _ _ (by omega) (by omega) (by omega)
    · rw [e2, u2]; exact W.asym (h1 _ (by omega) (by omega))
    · rw [u3 q e2]; exact h.sr _ _ (by omega) (by omega) (by omega)
  · rw [e1, u2, u3 q (by omega)]; exact h2 _ (by omega) q3
  · rw [u3 p e1, u3 q (by omega)]; exact h.sr _ _ (by omega) (by omega) (by omega)
theorem Mrg.down {key : Int → Int} {a m i : Nat} {l l' : List Int} (h : Mrg key a m (m + 1) l) (hi : a ≤ i ∧ i ≤ m) (h1 : ∀ k, a ≤ k → k < i → ¬ lexi key (l.getD m default) (l.getD k default)) (h2 : ∀ k, i ≤ k → k < m → lexi key (l.getD m default) (l.getD k default)) (u : IsDown m i l l') : Srt (lexi key) a (m + 1) l' := by
  have W := lexi_ord key
  have u1 : ∀ x, x < i → l'.getD x default = l.getD x default := fun x q1 => by rw [u x, if_pos q1]
  have u2 : l'.getD i default = l.getD m default := by
    rw [u, if_neg (by omega), if_pos rfl]
  have u3 : ∀ x, i < x → x ≤ m → l'.getD x default = l.getD (x - 1) default := fun x q1 q2 => by rw [u x, if_neg (by omega), if_neg (by omega), if_pos q2]
  intro p q q1 q2 q3
  rcases Nat.lt_trichotomy p i with e1 | e1 | e1
  · rw [u1 p e1]
    rcases Nat.lt_trichotomy q i with e2 | e2 | e2
    · rw [u1 q e2]; exact h.sl _ _ (by omega) (by omega) (by omega)
    · rw [e2, u2]; exact h1 _ (by omega) (by omega)
    · rw [u3 q e2 (by omega)]; exact h.sl _ _ (by omega) (by omega) (by omega)
  · rw [e1, u2, u3 q (by omega) (by omega)]; exact W.asym (h2 _ (by omega) (by omega))
  · rw [u3 p e1 (by omega), u3 q (by omega) (by omega)]; exact h.sl _ _ (by omega) (by omega) (by omega)

/-- The search: at s the low end, at r the high one. -/
structure SrI (key : Int → Int) (a m b mid s r : Nat) (l : List Int) : Prop where
  lo : (if m > mid then mid + m - b else a) ≤ s
  sr : s ≤ r
  hi : r ≤ (if m > mid then mid else m)
  low : (if m > mid then mid + m - b else a) < s → ¬ lexi key (l.getD (mid + m - s) default) (l.getD (s - 1) default)
  high : r < (if m > mid then mid else m) → lexi key (l.getD (mid + m - 1 - r) default) (l.getD r default)
theorem Mrg.search {key : Int → Int} {a m b mid s : Nat} {l l2 : List Int} (h : Mrg key a m b l) (hm : mid = (a + b) / 2) (hab : a < m ∧ m < b) (I : SrI key a m b mid s s l)
    (hr : IsRot s m (mid + m - s) l l2) : (a ≤ s ∧ s ≤ mid ∧ s ≤ m ∧ m ≤ mid + m - s ∧ mid + m - s ≤ b) ∧ Mrg key a s mid l2 ∧ Mrg key mid (mid + m - s) b l2 ∧ ∀ x y, a ≤ x → x < mid → mid ≤ y → y < b → ¬ lexi key (l2.getD y default) (l2.getD x default) := by
  have W := lexi_ord key
  have lo := I.lo
  have hi := I.hi
  have low := I.low
  have high := I.high
  have hs : a ≤ s ∧ s ≤ mid ∧ s ≤ m ∧ m ≤ mid + m - s ∧ mid + m - s ≤ b := by
    split at lo <;> split at hi <;> omega
  have r1 : ∀ k, k < s → l2.getD k default = l.getD k default := fun k hk => by rw [hr k]; unfold rot; rw [if_pos hk]
  have r2 : ∀ k, s ≤ k → k < mid → l2.getD k default = l.getD (k + (m - s)) default := fun k h1 h2 => by rw [hr k]; unfold rot; rw [if_neg (by omega), if_pos (by omega)]
  have r3 : ∀ k, mid ≤ k → k < mid + m - s → l2.getD k default = l.getD (k - (mid - s)) default := fun k h1 h2 => by
    rw [hr k]; unfold rot; rw [if_neg (by omega), if_neg (by omega), if_pos (by omega)]; congr 1; omega
  have r4 : ∀ k, mid + m - s ≤ k → l2.getD k default = l.getD k default := fun k h1 => by rw [hr k]; unfold rot; rw [if_neg (by omega), if_neg (by omega), if_neg (by omega)]
  refine ⟨hs, ⟨fun i j q1 q2 q3 => ?_, fun i j q1 q2 q3 => ?_, fun p q q1 q2 q3 q4 => ?_⟩, ⟨fun i j q1 q2 q3 => ?_, fun i j q1 q2 q3 => ?_, fun p q q1 q2 q3 q4 => ?_⟩, fun x y q1 q2 q3 q4 => ?_⟩
  · rw [r1 i (by omega), r1 j q3]; exact h.sl i j q1 q2 (by omega)
  · rw [r2 i q1 (by omega), r2 j (by omega) q3]; exact h.sr _ _ (by omega) (by omega) (by omega)
  · rw [r1 p q2, r2 q q3 q4]; exact h.cr _ _ q1 (by omega) (by omega) (by omega)
  · rw [r3 i q1 (by omega), r3 j (by omega) q3]; exact h.sl _ _ (by omega) (by omega) (by omega)
  · rw [r4 i q1, r4 j (by omega)]; exact h.sr _ _ (by omega) q2 q3
  · rw [r3 p q1 q2, r4 q q3]; exact h.cr _ _ (by omega) (by omega) (by omega) q4
  · -- what is behind the middle of the first run, or of the second one
    have le_of : ∀ {i j : Nat}, a ≤ i → i ≤ j → j < m → ¬ lexi key (l.getD j default) (l.getD i default) := fun {i j} g1 g2 g3 => by
      rcases Nat.lt_or_ge i j with q | q
      · exact h.sl i j g1 q g3
      · have : i = j := by omega
        subst this; exact W.irr _
    have le_of2 : ∀ {i j : Nat}, m ≤ i → i ≤ j → j < b → ¬ lexi key (l.getD j default) (l.getD i default) := fun {i j} g1 g2 g3 => by
      rcases Nat.lt_or_ge i j with q | q
      · exact h.sr i j g1 q g3
      · have : i = j := by omega
        subst this; exact W.irr _
    rcases Nat.lt_or_ge x s with e1 | e1
    · rw [r1 x e1]
      rcases Nat.lt_or_ge y (mid + m - s) with e2 | e2
      · rw [r3 y q3 e2]; exact le_of q1 (by omega) (by omega)
      · rw [r4 y e2]
        have g : ¬ lexi key (l.getD (mid + m - s) default) (l.getD (s - 1) default) := low (by split <;> omega)
        have g1 : ¬ lexi key (l.getD (s - 1) default) (l.getD x default) := le_of q1 (by omega) (by omega)
        have g2 : ¬ lexi key (l.getD y default) (l.getD (mid + m - s) default) := le_of2 (by omega) e2 q4
        exact W.ntr (W.ntr g1 g) g2
    · rw [r2 x e1 q2]
      rcases Nat.lt_or_ge y (mid + m - s) with e2 | e2
      · rw [r3 y q3 e2]
        have g : lexi key (l.getD (mid + m - 1 - s) default) (l.getD s default) := high (by split <;> omega)
        have g1 : ¬ lexi key (l.getD (y - (mid - s)) default) (l.getD s default) := le_of (by omega) (by omega) (by omega)
        have g2 : ¬ lexi key (l.getD (mid + m - 1 - s) default) (l.getD (x + (m - s)) default) := le_of2 (by omega) (by omega) (by omega)
        exact W.ntr (W.ntr g2 (W.asym g)) g1
      · rw [r4 y e2]; exact le_of2 (by omega) (by omega) q4
end Go.Proofs.Xx

/-
  Sorting by a key, in place: insertion.
-/
namespace Go.Proofs.Xx
open Go Go.Proofs
set_option linter.unusedSimpArgs false
set_option linter.unusedVariables false
set_option maxRecDepth 100000

/-- The function g compares what p holds for by a key. -/
def KeyFn (h0 : AH) (g : Nat) (cap : List Value) (key : Int → Int) (p : Int → Prop) : Prop :=
  ∀ h x y, Ext h0 h → p x → p y → Fn Tryz.prog Xh g (.int .i64 x :: .int .i64 y :: cap) h (fun v h' => ∃ d, v = .int .i64 d ∧ (d < 0 ↔ key x < key y) ∧ Hs h h' [])
def Inc (a b : Nat) (l : List Int) : Prop := ∀ i j, a ≤ i → i < j → j < b → l.getD i default < l.getD j default
abbrev cvV (g : Nat) (cap : List Value) : Value := .func (.func g) #[] cap.toArray

end Go.Proofs.Xx

/-
  Words: the length of a number, random words.
-/
namespace Go.Proofs.Xx
open Go Go.Proofs
set_option linter.unusedSimpArgs false
set_option linter.unusedVariables false
set_option maxRecDepth 100000

def lenTab : List UInt8 := [0, 1] ++ List.replicate 2 2 ++ List.replicate 4 3 ++ List.replicate 8 4 ++ List.replicate 16 5 ++ List.replicate 32 6 ++ List.replicate 64 7 ++ List.replicate 128 8
end Go.Proofs.Xx

/-
  Parting a range by an element.
-/
namespace Go.Proofs.Xx
set_option linter.unusedVariables false
section
variable {α : Type} [Inhabited α] {lt : α → α → Prop}
theorem HeapI.done {f n b : Nat} {l : List α} (h : HeapI lt f 0 n l) (hb : b = f + n) : Srt lt f b l := fun i j h1 h2 h3 => by
  have := h.2 (i - f) (j - f) (by omega) (Nat.zero_le _) (by omega)
  rwa [show f + (j - f) = j by omega, show f + (i - f) = i by omega] at this

/-- [a, b), x at its front, is being parted: before i less than x, behind j not less. -/
structure PartI (lt : α → α → Prop) (a b : Nat) (x : α) (i j : Nat) (m : List α) : Prop where
  bi : a < i ∧ i ≤ j + 1 ∧ j < b
  lo : ∀ k, a < k → k < i → lt (m.getD k default) x
  hi : ∀ k, j < k → k < b → ¬ lt (m.getD k default) x
  x : m.getD a default = x
theorem PartI.done (W : WOrd lt) {a b : Nat} {x : α} {i j : Nat} {m : List α} (h : PartI lt a b x i j m) (hb : b ≤ m.length) (hij : j < i) : Parted lt a b j (swp m j a) := by
  have hbi := h.bi
  have g := swp_get (l := m) (i := j) (j := a) (by omega) (by omega)
  have gj : (swp m j a).getD j default = x := by
    rw [g]
    split
    · rename_i e; rw [e]; exact h.x
    · rw [if_pos rfl]; exact h.x
  refine ⟨fun k q1 q2 => ?_, fun k q1 q2 => ?_⟩
  · rw [gj, g]
    split
    · exact h.lo j (by omega) (by omega)
    · rw [if_neg (by omega)]; exact h.lo k (by omega) (by omega)
  · rw [gj, g, if_neg (by omega), if_neg (by omega)]; exact h.hi k q1 q2
/-- [a, b), x at its front, is being parted: before i not greater than x, behind j greater. -/
structure EqI (lt : α → α → Prop) (a b : Nat) (x : α) (i j : Nat) (m : List α) : Prop where
  bi : a < i ∧ i ≤ j + 1 ∧ j < b
  lo : ∀ k, a < k → k < i → ¬ lt x (m.getD k default)
  hi : ∀ k, j < k → k < b → lt x (m.getD k default)
  x : m.getD a default = x
/-- A step of quicksort's loop, all elements before a' and behind b' in order. -/
theorem DoneI.low {a b a' b' : Nat} {l : List α} (h : DoneI lt a b a' b' l) (h1 : a < a') (h2 : b' ≤ b) : ∀ k, a' ≤ k → k < b' → ¬ lt (l.getD k default) (l.getD (a' - 1) default) := fun k q1 q2 => h (a' - 1) k (by omega) (by omega) (by omega) (.inl (by omega))
end
end Go.Proofs.Xx

/-
  Sorting in place, by the order of ints.
-/
namespace Go.Proofs.Xx
open Go Go.Proofs
set_option linter.unusedSimpArgs false
set_option linter.unusedVariables false
set_option maxRecDepth 100000

abbrev ltI (x y : Int) : Prop := x < y
end Go.Proofs.Xx

/-
  Quicksort.
-/
namespace Go.Proofs.Xx
open Go Go.Proofs
set_option linter.unusedSimpArgs false
set_option linter.unusedVariables false
set_option maxRecDepth 100000

end Go.Proofs.Xx
