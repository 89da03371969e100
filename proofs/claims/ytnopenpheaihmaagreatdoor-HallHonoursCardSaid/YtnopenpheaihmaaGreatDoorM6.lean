/-
  Facts of this program's types; the reference's permutation check.
-/
import Derived.Test.YtnopenpheaihmaaGreatDoorM3
import Derived.Test.YtnopenpheaihmaaGreatDoorM5
import Derived.KernelRfl
import Derived.Test.YtnopenpheaihmaaGreatDoorM4

namespace Go.Proofs.Xx
open Go Go.Proofs
set_option linter.unusedSimpArgs false
set_option linter.unusedVariables false

theorem und23 : Tryz.prog.underlying 23 = some (.slice 3) := by kernel_rfl
theorem und56 : Tryz.prog.underlying 56 = some (.slice 4) := by kernel_rfl
theorem sz3 : sizeT Tryz.prog 3 = some 1 := by kernel_rfl
theorem agg3 : isAggT Tryz.prog 3 = some false := by kernel_rfl
theorem sz4 : sizeT Tryz.prog 4 = some 1 := by kernel_rfl
theorem agg4 : isAggT Tryz.prog 4 = some false := by kernel_rfl
theorem el23 : sliceElem Tryz.prog 23 = some 3 := by kernel_rfl
theorem el56 : sliceElem Tryz.prog 56 = some 4 := by kernel_rfl
theorem z3 : zeroCellsT Tryz.prog 3 = some [.int .i64 0] := by kernel_rfl
theorem z4 : zeroCellsT Tryz.prog 4 = some [.bool false] := by kernel_rfl
theorem by3 : bytesT Tryz.prog 3 = some 8 := by kernel_rfl
theorem by4 : bytesT Tryz.prog 4 = some 1 := by kernel_rfl
/-- v reads as the ints l. -/
abbrev RdI (h : AH) (v : Value) (l : List Int) : Prop := Rd h v 1 l.length (ints l)

def refPerm (l : List Int) : Bool := decide (∀ i : Nat, i < l.length → (i : Int) ∈ l)

theorem permutation_ref {h : AH} {v : Value} {l : List Int} (r : RdI h v l) (hl : l.length < 2^62) :
    Fn Tryz.prog Xh 80 [v] h (fun u h' => u = .bool (refPerm l) ∧ h' = h) := by
  refine Fn_K rfl Tryz.func80 rfl rfl ?_
  refine K_seq (K_region (KO_val rfl rfl rfl (KO_nil ?_)))
  refine K_seq (K_seq (K_region (KO_val rfl rfl rfl (KO_nil ?_))))
  refine K_block ?_
  refine K_loop (fun m L h' => h' = h ∧ ∃ i : Nat, m + i = l.length ∧ (∀ k : Nat, k < i → (k : Int) ∈ l) ∧ L = [(0, v), (3, .int .i64 i)]) ?_ l.length ⟨rfl, 0, rfl, by omega, rfl⟩ (Ks.le_cons rfl (Ks.le_cons rfl (Ks.le_nil _)))
  rintro m L h' ⟨rfl, i, him, hi, rfl⟩
  refine K_seq (K_seq (K_region (KO_val rfl rfl rfl (KO_val rfl rfl rfl (KO_len rfl rfl rfl (r.len und23) rfl (KO_val rfl rfl rfl (KO_nil ?_)))))))
  refine K_cond2 rfl (fun hv => ?_) (fun hv => ?_)
  · have hv := of_decide_eq_true hv
    refine K_skip ?_
    refine K_seq (K_block (K_seq (K_region (KO_val rfl rfl rfl (KO_nil ?_)))))
    refine K_seq (K_seq (K_region (KO_val rfl rfl rfl (KO_nil ?_))))
    refine K_block ?_
    refine K_loop (fun m L h'' => h'' = h' ∧ ∃ j : Nat, m + j = l.length ∧ L = [(0, v), (3, .int .i64 i), (4, .bool (decide ((i : Int) ∈ l.take j))), (5, .int .i64 j)]) ?_ l.length ⟨rfl, 0, rfl, rfl⟩ (Ks.le_cons rfl (Ks.le_cons rfl (Ks.le_cons rfl (Ks.le_cons rfl (Ks.le_nil _)))))
    · rintro m2 L h'' ⟨rfl, j, hj, rfl⟩
      refine K_seq (K_seq (K_region ?_))
      iterate 2 refine KO_val rfl rfl rfl ?_
      refine KO_len rfl rfl rfl (r.len und23) rfl ?_
      refine KO_val rfl rfl rfl (KO_nil ?_)
      refine K_cond2 rfl (fun hw => ?_) (fun hw => ?_)
      · have hw := of_decide_eq_true hw
        refine K_skip ?_
        have hjl : j < l.length := by omega
        obtain ⟨p, hp1, hp2⟩ := r.at1 und23 sz3 agg3 (ik := .i64) (ints_get (List.getElem?_eq_getElem hjl))
        refine K_seq (K_block (K_region ?_))
        by_cases hb : (i : Int) ∈ l.take j
        · rw [decide_eq_true hb]
          iterate 2 refine KO_val rfl rfl rfl ?_
          iterate 6 refine KO_off rfl rfl ?_
          iterate 2 refine KO_val rfl rfl rfl ?_
          refine KO_nil ?_
          refine K_region ?_
          refine KO_val rfl rfl rfl ?_
          refine KO_bin rfl rfl rfl rfl (add_i64 (c := ((j + 1 : Nat) : Int)) (by omega) (by omega) (by omega)) rfl ?_
          refine KO_val rfl rfl rfl (KO_nil ?_)
          refine ⟨m2 - 1, _, by omega, ⟨rfl, j + 1, by omega, rfl⟩, Ks.le_cons rfl (Ks.le_cons rfl (Ks.le_cons ?_ (Ks.le_cons rfl (Ks.le_nil _))))⟩
          rw [decide_eq_true (List.take_subset_take_left l (by omega) hb)]; rfl
        · rw [decide_eq_false hb]
          iterate 4 refine KO_val rfl rfl rfl ?_
          refine KO_index rfl rfl rfl rfl hp1 rfl ?_
          refine KO_load rfl rfl rfl hp2 rfl ?_
          iterate 4 refine KO_val rfl rfl rfl ?_
          refine KO_nil ?_
          refine K_region ?_
          refine KO_val rfl rfl rfl ?_
          refine KO_bin rfl rfl rfl rfl (add_i64 (c := ((j + 1 : Nat) : Int)) (by omega) (by omega) (by omega)) rfl ?_
          refine KO_val rfl rfl rfl (KO_nil ?_)
          refine ⟨m2 - 1, _, by omega, ⟨rfl, j + 1, by omega, rfl⟩, Ks.le_cons rfl (Ks.le_cons rfl (Ks.le_cons ?_ (Ks.le_cons rfl (Ks.le_nil _))))⟩
          have : decide ((i : Int) ∈ l.take (j + 1)) = (l[j] == (i : Int)) := by
            rw [List.take_succ_eq_append_getElem hjl, Bool.eq_iff_iff]
            simp only [decide_eq_true_iff, List.mem_append, hb, false_or, List.mem_singleton, beq_iff_eq]
            exact ⟨Eq.symm, Eq.symm⟩
          rw [this]; rfl
      · have hw := of_decide_eq_false hw
        have hjl : j = l.length := by omega
        subst hjl
        rw [List.take_length]
        refine K_exit ?_
        show K Tryz.prog Xh _ _ _ _ _ _
        refine K_seq (K_region ?_)
        iterate 2 refine KO_val rfl rfl rfl ?_
        refine KO_nil ?_
        refine K_cond2 rfl (fun hx => ?_) (fun hx => ?_)
        · refine K_seq (K_region (KO_val rfl rfl rfl (KO_nil ?_)))
          refine K_ret ?_
          refine ⟨_, rfl, ?_, rfl⟩
          have hx : (!decide ((i : Int) ∈ l)) = true := hx
          have : ¬ (i : Int) ∈ l := by simpa using hx
          have : refPerm l = false := by
            unfold refPerm
            rw [decide_eq_false_iff_not]
            intro hall
            exact this (hall i (by omega))
          rw [this]; rfl
        · refine K_skip ?_
          refine K_region ?_
          refine KO_val rfl rfl rfl ?_
          refine KO_bin rfl rfl rfl rfl (add_i64 (c := ((i + 1 : Nat) : Int)) (by omega) (by omega) (by omega)) rfl ?_
          refine KO_val rfl rfl rfl (KO_nil ?_)
          refine ⟨m - 1, _, by omega, ⟨rfl, i + 1, by omega, fun k hk => ?_, rfl⟩, Ks.le_cons rfl (Ks.le_cons rfl (Ks.le_nil _))⟩
          rcases Nat.lt_or_ge k i with q | q
          · exact hi k q
          · obtain rfl : k = i := by omega
            have hx : (!decide ((k : Int) ∈ l)) = false := hx
            simpa using hx
  · have hv := of_decide_eq_false hv
    refine K_exit ?_
    show K Tryz.prog Xh _ _ _ _ _ _
    refine K_seq (K_region (KO_val rfl rfl rfl (KO_nil ?_)))
    refine K_ret ?_
    refine ⟨_, rfl, ?_, rfl⟩
    have : refPerm l = true := by
      unfold refPerm
      rw [decide_eq_true_iff]
      exact fun k hk => hi k (by omega)
    rw [this]; rfl
end Go.Proofs.Xx

/-
  The hall's small functions.
-/
namespace Go.Proofs.Xx
open Go Go.Proofs
set_option linter.unusedSimpArgs false
set_option linter.unusedVariables false
set_option maxRecDepth 100000

def BoolIs (v : Value) (p : Prop) : Prop := (v = .bool true ∧ p) ∨ (v = .bool false ∧ ¬ p)

def roundSize (a b : Int) : Int := if 1 ≤ a ∧ a ≤ 24 ∧ b = 0 then a else 0
def longSize (a b : Int) : Int := if 1 ≤ a ∧ a ≤ 11 ∧ 0 ≤ b ∧ b ≤ 2 then 2 * a + b else 0
def shoeSize (a b : Int) : Int := if 1 ≤ a ∧ a ≤ 8 ∧ 1 ≤ b ∧ b ≤ 8 then a + 2 * b else 0
def rowSize (a b : Int) : Int := if 1 ≤ a ∧ a ≤ 24 ∧ 0 ≤ b ∧ b ≤ a then a else 0

theorem roundSeats_ok {h : AH} (a b : Int) : Fn Tryz.prog Xh 143 [.int .i64 a, .int .i64 b] h (fun v h' => v = .int .i64 (roundSize a b) ∧ h' = h) := by
  refine Fn_K rfl Tryz.func143 rfl rfl ?_
  all_goals (repeat' (first | refine K_seq ?_ | refine k_cond rfl ?_ | refine K_skip ?_ | refine K_exit ?_ | refine k_block ?_ | refine K_scope ?_ | (refine K_region (id := 0) ?_; refine mv ?_; refine KO_nil ?_) | (refine K_region (id := 1) ?_; refine mv ?_; (first | refine cT ?_ | refine cF ?_ | (refine cS ?_ ?_ <;> intro hc)) <;> (refine mv ?_; (first | refine off ?_ | refine mv ?_); (first | refine off ?_ | (first | refine cT ?_ | refine cF ?_ | (refine cS ?_ ?_ <;> intro hc))) <;> (refine vl ?_; refine mv ?_; (first | refine off ?_ | refine mv ?_); (first | refine off ?_ | (first | refine cT ?_ | refine cF ?_ | (refine cS ?_ ?_ <;> intro hc))) <;> (refine vl ?_; refine KO_nil ?_)))) | (refine K_region (id := 2) ?_; refine mv ?_; refine KO_nil ?_) | (refine K_region (id := 3) ?_; refine mv ?_; refine mv ?_; refine KO_nil ?_)))
  all_goals (refine K_ret ⟨_, rfl, ?_⟩)
  all_goals (refine ⟨?_, rfl⟩; unfold roundSize; first | (rw [if_pos (by omega)]; rfl) | (rw [if_neg (by omega)]; rfl))
theorem longSeats_ok {h : AH} (a b : Int) : Fn Tryz.prog Xh 148 [.int .i64 a, .int .i64 b] h (fun v h' => v = .int .i64 (longSize a b) ∧ h' = h) := by
  refine Fn_K rfl Tryz.func148 rfl rfl ?_
  all_goals (repeat' (first | refine K_seq ?_ | refine k_cond rfl ?_ | refine K_skip ?_ | refine K_exit ?_ | refine k_block ?_ | refine K_scope ?_ | (refine K_region (id := 0) ?_; refine mv ?_; refine KO_nil ?_) | (refine K_region (id := 1) ?_; refine mv ?_; (first | refine cT ?_ | refine cF ?_ | (refine cS ?_ ?_ <;> intro hc)) <;> (refine mv ?_; (first | refine off ?_ | refine mv ?_); (first | refine off ?_ | (first | refine cT ?_ | refine cF ?_ | (refine cS ?_ ?_ <;> intro hc))) <;> (refine vl ?_; refine mv ?_; (first | refine off ?_ | refine mv ?_); (first | refine off ?_ | (first | refine cT ?_ | refine cF ?_ | (refine cS ?_ ?_ <;> intro hc))) <;> (refine vl ?_; refine mv ?_; (first | refine off ?_ | refine mv ?_); (first | refine off ?_ | (first | refine cT ?_ | refine cF ?_ | (refine cS ?_ ?_ <;> intro hc))) <;> (refine vl ?_; refine KO_nil ?_))))) | (refine K_region (id := 2) ?_; refine mv ?_; refine KO_nil ?_) | (refine K_region (id := 3) ?_; refine mv ?_; (first | refine ml ?_ | refine vl ?_); refine mv ?_; (first | refine ad ?_ | refine vl ?_); refine mv ?_; refine KO_nil ?_)))
  all_goals (refine K_ret ⟨_, rfl, ?_⟩)
  all_goals (refine ⟨?_, rfl⟩; unfold longSize; first | (rw [if_pos (by omega)]; rfl) | (rw [if_neg (by omega)]; rfl))
theorem shoeSeats_ok {h : AH} (a b : Int) : Fn Tryz.prog Xh 153 [.int .i64 a, .int .i64 b] h (fun v h' => v = .int .i64 (shoeSize a b) ∧ h' = h) := by
  refine Fn_K rfl Tryz.func153 rfl rfl ?_
  all_goals (repeat' (first | refine K_seq ?_ | refine k_cond rfl ?_ | refine K_skip ?_ | refine K_exit ?_ | refine k_block ?_ | refine K_scope ?_ | (refine K_region (id := 0) ?_; refine mv ?_; refine KO_nil ?_) | (refine K_region (id := 1) ?_; refine mv ?_; (first | refine cT ?_ | refine cF ?_ | (refine cS ?_ ?_ <;> intro hc)) <;> (refine mv ?_; (first | refine off ?_ | refine mv ?_); (first | refine off ?_ | (first | refine cT ?_ | refine cF ?_ | (refine cS ?_ ?_ <;> intro hc))) <;> (refine vl ?_; refine mv ?_; (first | refine off ?_ | refine mv ?_); (first | refine off ?_ | (first | refine cT ?_ | refine cF ?_ | (refine cS ?_ ?_ <;> intro hc))) <;> (refine vl ?_; refine mv ?_; (first | refine off ?_ | refine mv ?_); (first | refine off ?_ | (first | refine cT ?_ | refine cF ?_ | (refine cS ?_ ?_ <;> intro hc))) <;> (refine vl ?_; refine KO_nil ?_))))) | (refine K_region (id := 2) ?_; refine mv ?_; refine KO_nil ?_) | (refine K_region (id := 3) ?_; refine mv ?_; refine mv ?_; (first | refine ml ?_ | refine vl ?_); (first | refine ad ?_ | refine vl ?_); refine mv ?_; refine KO_nil ?_)))
  all_goals (refine K_ret ⟨_, rfl, ?_⟩)
  all_goals (refine ⟨?_, rfl⟩; unfold shoeSize; first | (rw [if_pos (by omega)]; rfl) | (rw [if_neg (by omega)]; rfl))
theorem rowSeats_ok {h : AH} (a b : Int) : Fn Tryz.prog Xh 158 [.int .i64 a, .int .i64 b] h (fun v h' => v = .int .i64 (rowSize a b) ∧ h' = h) := by
  refine Fn_K rfl Tryz.func158 rfl rfl ?_
  all_goals (repeat' (first | refine K_seq ?_ | refine k_cond rfl ?_ | refine K_skip ?_ | refine K_exit ?_ | refine k_block ?_ | refine K_scope ?_ | (refine K_region (id := 0) ?_; refine mv ?_; refine KO_nil ?_) | (refine K_region (id := 1) ?_; refine mv ?_; (first | refine cT ?_ | refine cF ?_ | (refine cS ?_ ?_ <;> intro hc)) <;> (refine mv ?_; (first | refine off ?_ | refine mv ?_); (first | refine off ?_ | (first | refine cT ?_ | refine cF ?_ | (refine cS ?_ ?_ <;> intro hc))) <;> (refine vl ?_; refine mv ?_; (first | refine off ?_ | refine mv ?_); (first | refine off ?_ | (first | refine cT ?_ | refine cF ?_ | (refine cS ?_ ?_ <;> intro hc))) <;> (refine vl ?_; refine mv ?_; (first | refine off ?_ | refine mv ?_); (first | refine off ?_ | refine mv ?_); (first | refine off ?_ | (first | refine cT ?_ | refine cF ?_ | (refine cS ?_ ?_ <;> intro hc))) <;> (refine vl ?_; refine KO_nil ?_))))) | (refine K_region (id := 2) ?_; refine mv ?_; refine KO_nil ?_) | (refine K_region (id := 3) ?_; refine mv ?_; refine mv ?_; refine KO_nil ?_)))
  all_goals (refine K_ret ⟨_, rfl, ?_⟩)
  all_goals (refine ⟨?_, rfl⟩; unfold rowSize; first | (rw [if_pos (by omega)]; rfl) | (rw [if_neg (by omega)]; rfl))

theorem two_ok {h : AH} (a b : Int) (h1 : 0 ≤ a ∧ a ≤ 100 ∧ 0 ≤ b ∧ b ≤ 100) : Fn Tryz.prog Xh 192 [.int .i64 a, .int .i64 b] h (fun v h' => v = .int .i64 (a + min b 1) ∧ h' = h) := by
  refine Fn_K rfl Tryz.func192 rfl rfl ?_
  all_goals (repeat' (first | refine K_seq ?_ | refine k_cond rfl ?_ | refine K_skip ?_ | refine K_exit ?_ | refine k_block ?_ | refine K_scope ?_ | (refine K_region (id := 0) ?_; refine mv ?_; refine KO_nil ?_) | (refine K_region (id := 1) ?_; refine mv ?_; refine mv ?_; refine mn ?_; (first | refine ad ?_ | refine vl ?_); refine mv ?_; refine KO_nil ?_)))
  all_goals (refine K_ret ⟨_, rfl, ?_⟩)
  all_goals (refine ⟨rfl, rfl⟩)

/-! Which seats are beside, which across: x is before y. -/
def roundB (a b x y : Int) : Prop := y - x = 1 ∨ y - x = a - 1
def roundA (a b x y : Int) : Prop := a % 2 = 0 ∧ y - x = a / 2
def longB (a b x y : Int) : Prop :=
  if b = 2 ∧ y = 2 * a + 1 then x = 0 ∨ x = y - 1
  else if 0 < b ∧ (x = a ∨ y = a) then y - x = 1
  else y - x = 1 ∧ (y < a ∨ x ≥ a + min b 1)
def longA (a b x y : Int) : Prop := if b = 2 ∧ y = 2 * a + 1 then x = a else x < a ∧ x + y = a + min b 1 + a - 1
def shoeB (a b x y : Int) : Prop := y - x = 1
def shoeA (a b x y : Int) : Prop := x < b ∧ x + y = a + 2 * b - 1
def rowB (a b x y : Int) : Prop := y - x = 1 ∧ (b = 0 ∨ y % b ≠ 0)

/-- The sizes and the seats are within bounds. -/
def Bds (a b x y : Int) : Prop := 0 ≤ a ∧ a ≤ 100 ∧ 0 ≤ b ∧ b ≤ 100 ∧ 0 ≤ x ∧ x ≤ 1000 ∧ 0 ≤ y ∧ y ≤ 1000

theorem roundBeside_ok {h : AH} (a b x y : Int) (hb : Bds a b x y) : Fn Tryz.prog Xh 144 [.int .i64 a, .int .i64 b, .int .i64 x, .int .i64 y] h (fun v h' => BoolIs v (roundB a b x y) ∧ h' = h) := by
  unfold Bds at hb
  refine Fn_K rfl Tryz.func144 rfl rfl ?_
  all_goals (repeat' (first | refine K_seq ?_ | refine k_cond rfl ?_ | refine K_skip ?_ | refine K_exit ?_ | refine k_block ?_ | refine K_scope ?_ | (refine K_region (id := 0) ?_; refine mv ?_; refine KO_nil ?_) | (refine K_region (id := 1) ?_; refine mv ?_; refine mv ?_; (first | refine sb ?_ | refine vl ?_); (first | refine cT ?_ | refine cF ?_ | (refine cS ?_ ?_ <;> intro hc)) <;> (refine mv ?_; (first | refine off ?_ | refine mv ?_); (first | refine off ?_ | refine mv ?_); (first | refine off ?_ | (first | refine sb ?_ | refine vl ?_)); (first | refine off ?_ | refine mv ?_); (first | refine off ?_ | (first | refine sb ?_ | refine vl ?_)); (first | refine off ?_ | (first | refine cT ?_ | refine cF ?_ | (refine cS ?_ ?_ <;> intro hc))) <;> (refine vl ?_; refine mv ?_; refine KO_nil ?_)))))
  all_goals (refine K_ret ⟨_, rfl, ?_⟩)
  all_goals (refine ⟨?_, rfl⟩; unfold BoolIs roundB; first | exact .inl ⟨rfl, by omega⟩ | exact .inr ⟨rfl, by omega⟩)
theorem roundAcross_ok {h : AH} (a b x y : Int) (hb : Bds a b x y) : Fn Tryz.prog Xh 145 [.int .i64 a, .int .i64 b, .int .i64 x, .int .i64 y] h (fun v h' => BoolIs v (roundA a b x y) ∧ h' = h) := by
  unfold Bds at hb
  refine Fn_K rfl Tryz.func145 rfl rfl ?_
  all_goals (repeat' (first | refine K_seq ?_ | refine k_cond rfl ?_ | refine K_skip ?_ | refine K_exit ?_ | refine k_block ?_ | refine K_scope ?_ | (refine K_region (id := 0) ?_; refine mv ?_; refine KO_nil ?_) | (refine K_region (id := 1) ?_; refine mv ?_; (first | refine rm ?_ | refine vl ?_); (first | refine cT ?_ | refine cF ?_ | (refine cS ?_ ?_ <;> intro hc)) <;> (refine mv ?_; (first | refine off ?_ | refine mv ?_); (first | refine off ?_ | refine mv ?_); (first | refine off ?_ | (first | refine sb ?_ | refine vl ?_)); (first | refine off ?_ | refine mv ?_); (first | refine off ?_ | (first | refine qu ?_ | refine vl ?_)); (first | refine off ?_ | (first | refine cT ?_ | refine cF ?_ | (refine cS ?_ ?_ <;> intro hc))) <;> (refine vl ?_; refine mv ?_; refine KO_nil ?_)))))
  all_goals (refine K_ret ⟨_, rfl, ?_⟩)
  all_goals (refine ⟨?_, rfl⟩; unfold BoolIs roundA; first | exact .inl ⟨rfl, by omega⟩ | exact .inr ⟨rfl, by omega⟩)
theorem longBeside_ok {h : AH} (a b x y : Int) (hb : Bds a b x y) : Fn Tryz.prog Xh 149 [.int .i64 a, .int .i64 b, .int .i64 x, .int .i64 y] h (fun v h' => BoolIs v (longB a b x y) ∧ h' = h) := by
  unfold Bds at hb
  refine Fn_K rfl Tryz.func149 rfl rfl ?_
  all_goals (repeat' (first | refine K_seq ?_ | refine k_cond rfl ?_ | refine K_skip ?_ | refine K_exit ?_ | refine k_block ?_ | refine K_scope ?_ | (refine K_region (id := 0) ?_; refine mv ?_; refine KO_nil ?_) | (refine K_region (id := 1) ?_; refine mv ?_; refine mv ?_)))
  (refine KO_fn rfl rfl rfl rfl rfl ((two_ok _ _ (by omega)).mono ?_); rintro _ _ ⟨rfl, rfl⟩) <;> (refine mv ?_; refine KO_nil ?_)
  all_goals (repeat' (first | refine K_seq ?_ | refine k_cond rfl ?_ | refine K_skip ?_ | refine K_exit ?_ | refine k_block ?_ | refine K_scope ?_ | (refine K_region (id := 2) ?_; refine mv ?_; (first | refine cT ?_ | refine cF ?_ | (refine cS ?_ ?_ <;> intro hc)) <;> (refine mv ?_; (first | refine off ?_ | refine mv ?_); (first | refine off ?_ | refine mv ?_); (first | refine off ?_ | (first | refine ml ?_ | refine vl ?_)); (first | refine off ?_ | (first | refine ad ?_ | refine vl ?_)); (first | refine off ?_ | (first | refine cT ?_ | refine cF ?_ | (refine cS ?_ ?_ <;> intro hc))) <;> (refine vl ?_; refine mv ?_; refine KO_nil ?_))) | (refine K_region (id := 3) ?_; refine mv ?_; (first | refine cT ?_ | refine cF ?_ | (refine cS ?_ ?_ <;> intro hc)) <;> (refine mv ?_; (first | refine off ?_ | refine mv ?_); (first | refine off ?_ | refine mv ?_); (first | refine off ?_ | (first | refine sb ?_ | refine vl ?_)); (first | refine off ?_ | (first | refine cT ?_ | refine cF ?_ | (refine cS ?_ ?_ <;> intro hc))) <;> (refine vl ?_; refine mv ?_; refine KO_nil ?_))) | (refine K_region (id := 4) ?_; refine mv ?_; (first | refine cT ?_ | refine cF ?_ | (refine cS ?_ ?_ <;> intro hc)) <;> (refine mv ?_; (first | refine off ?_ | refine mv ?_); (first | refine off ?_ | refine mv ?_); (first | refine off ?_ | (first | refine cT ?_ | refine cF ?_ | (refine cS ?_ ?_ <;> intro hc))) <;> ((first | refine off ?_ | refine mv ?_); (first | refine off ?_ | refine mv ?_); (first | refine off ?_ | refine mv ?_); (first | refine off ?_ | (first | refine cT ?_ | refine cF ?_ | (refine cS ?_ ?_ <;> intro hc))) <;> ((first | refine off ?_ | refine vl ?_); refine vl ?_; refine mv ?_; refine KO_nil ?_)))) | (refine K_region (id := 5) ?_; refine mv ?_; refine mv ?_; (first | refine sb ?_ | refine vl ?_); (first | refine cT ?_ | refine cF ?_ | (refine cS ?_ ?_ <;> intro hc)) <;> (refine mv ?_; refine KO_nil ?_)) | (refine K_region (id := 6) ?_; refine mv ?_; refine mv ?_; (first | refine sb ?_ | refine vl ?_); (first | refine cT ?_ | refine cF ?_ | (refine cS ?_ ?_ <;> intro hc)) <;> (refine mv ?_; (first | refine off ?_ | refine mv ?_); (first | refine off ?_ | refine mv ?_); (first | refine off ?_ | (first | refine cT ?_ | refine cF ?_ | (refine cS ?_ ?_ <;> intro hc))) <;> ((first | refine off ?_ | refine mv ?_); (first | refine off ?_ | refine mv ?_); (first | refine off ?_ | refine mv ?_); (first | refine off ?_ | (first | refine cT ?_ | refine cF ?_ | (refine cS ?_ ?_ <;> intro hc))) <;> ((first | refine off ?_ | refine vl ?_); refine vl ?_; refine mv ?_; refine KO_nil ?_))))))
  all_goals (refine K_ret ⟨_, rfl, ?_⟩)
  all_goals (refine ⟨?_, rfl⟩; unfold BoolIs longB; (repeat' split) <;> first | exact .inl ⟨rfl, by omega⟩ | exact .inr ⟨rfl, by omega⟩)
theorem longAcross_ok {h : AH} (a b x y : Int) (hb : Bds a b x y) : Fn Tryz.prog Xh 150 [.int .i64 a, .int .i64 b, .int .i64 x, .int .i64 y] h (fun v h' => BoolIs v (longA a b x y) ∧ h' = h) := by
  unfold Bds at hb
  refine Fn_K rfl Tryz.func150 rfl rfl ?_
  all_goals (repeat' (first | refine K_seq ?_ | refine k_cond rfl ?_ | refine K_skip ?_ | refine K_exit ?_ | refine k_block ?_ | refine K_scope ?_ | (refine K_region (id := 0) ?_; refine mv ?_; refine KO_nil ?_) | (refine K_region (id := 1) ?_; refine mv ?_; (first | refine cT ?_ | refine cF ?_ | (refine cS ?_ ?_ <;> intro hc)) <;> (refine mv ?_; (first | refine off ?_ | refine mv ?_); (first | refine off ?_ | refine mv ?_); (first | refine off ?_ | (first | refine ml ?_ | refine vl ?_)); (first | refine off ?_ | (first | refine ad ?_ | refine vl ?_)); (first | refine off ?_ | (first | refine cT ?_ | refine cF ?_ | (refine cS ?_ ?_ <;> intro hc))) <;> (refine vl ?_; refine KO_nil ?_))) | (refine K_region (id := 2) ?_; refine mv ?_; refine mv ?_; (first | refine cT ?_ | refine cF ?_ | (refine cS ?_ ?_ <;> intro hc)) <;> (refine mv ?_; refine KO_nil ?_)) | (refine K_region (id := 3) ?_; refine mv ?_; refine mv ?_; (first | refine cT ?_ | refine cF ?_ | (refine cS ?_ ?_ <;> intro hc)) <;> (refine mv ?_; (first | refine off ?_ | refine mv ?_); (first | refine off ?_ | refine mv ?_); (first | refine off ?_ | (first | refine ad ?_ | refine vl ?_)); (first | refine off ?_ | refine mv ?_); (first | refine off ?_ | refine mv ?_); (first | (refine off ?_; (first | refine off ?_ | refine mv ?_); (first | refine off ?_ | (first | refine ad ?_ | refine vl ?_)); (first | refine off ?_ | (first | refine sb ?_ | refine vl ?_)); (first | refine off ?_ | (first | refine cT ?_ | refine cF ?_ | (refine cS ?_ ?_ <;> intro hc))) <;> (refine vl ?_; refine mv ?_; refine KO_nil ?_)) | skip)))))
  any_goals ((refine KO_fn rfl rfl rfl rfl rfl ((two_ok _ _ (by omega)).mono ?_); rintro _ _ ⟨rfl, rfl⟩) <;> ((first | refine off ?_ | refine mv ?_); (first | refine off ?_ | (first | refine ad ?_ | refine vl ?_)); (first | refine off ?_ | (first | refine sb ?_ | refine vl ?_)); (first | refine off ?_ | (first | refine cT ?_ | refine cF ?_ | (refine cS ?_ ?_ <;> intro hc))) <;> (refine vl ?_; refine mv ?_; refine KO_nil ?_)))
  all_goals (repeat' (first | refine K_seq ?_ | refine k_cond rfl ?_ | refine K_skip ?_ | refine K_exit ?_ | refine k_block ?_ | refine K_scope ?_))
  all_goals (refine K_ret ⟨_, rfl, ?_⟩)
  all_goals (refine ⟨?_, rfl⟩; unfold BoolIs longA; (repeat' split) <;> first | exact .inl ⟨rfl, by omega⟩ | exact .inr ⟨rfl, by omega⟩)
theorem shoeBeside_ok {h : AH} (a b x y : Int) (hb : Bds a b x y) : Fn Tryz.prog Xh 154 [.int .i64 a, .int .i64 b, .int .i64 x, .int .i64 y] h (fun v h' => BoolIs v (shoeB a b x y) ∧ h' = h) := by
  unfold Bds at hb
  refine Fn_K rfl Tryz.func154 rfl rfl ?_
  all_goals (repeat' (first | refine K_seq ?_ | refine k_cond rfl ?_ | refine K_skip ?_ | refine K_exit ?_ | refine k_block ?_ | refine K_scope ?_ | (refine K_region (id := 0) ?_; refine mv ?_; refine KO_nil ?_) | (refine K_region (id := 1) ?_; refine mv ?_; refine mv ?_; (first | refine sb ?_ | refine vl ?_); (first | refine cT ?_ | refine cF ?_ | (refine cS ?_ ?_ <;> intro hc)) <;> (refine mv ?_; refine KO_nil ?_))))
  all_goals (refine K_ret ⟨_, rfl, ?_⟩)
  all_goals (refine ⟨?_, rfl⟩; unfold BoolIs shoeB; first | exact .inl ⟨rfl, by omega⟩ | exact .inr ⟨rfl, by omega⟩)
theorem shoeAcross_ok {h : AH} (a b x y : Int) (hb : Bds a b x y) : Fn Tryz.prog Xh 155 [.int .i64 a, .int .i64 b, .int .i64 x, .int .i64 y] h (fun v h' => BoolIs v (shoeA a b x y) ∧ h' = h) := by
  unfold Bds at hb
  refine Fn_K rfl Tryz.func155 rfl rfl ?_
  all_goals (repeat' (first | refine K_seq ?_ | refine k_cond rfl ?_ | refine K_skip ?_ | refine K_exit ?_ | refine k_block ?_ | refine K_scope ?_ | (refine K_region (id := 0) ?_; refine mv ?_; refine KO_nil ?_) | (refine K_region (id := 1) ?_; refine mv ?_; refine mv ?_; (first | refine cT ?_ | refine cF ?_ | (refine cS ?_ ?_ <;> intro hc)) <;> (refine mv ?_; (first | refine off ?_ | refine mv ?_); (first | refine off ?_ | refine mv ?_); (first | refine off ?_ | (first | refine ad ?_ | refine vl ?_)); (first | refine off ?_ | refine mv ?_); (first | refine off ?_ | refine mv ?_); (first | refine off ?_ | (first | refine ml ?_ | refine vl ?_)); (first | refine off ?_ | (first | refine ad ?_ | refine vl ?_)); (first | refine off ?_ | (first | refine sb ?_ | refine vl ?_)); (first | refine off ?_ | (first | refine cT ?_ | refine cF ?_ | (refine cS ?_ ?_ <;> intro hc))) <;> (refine vl ?_; refine mv ?_; refine KO_nil ?_)))))
  all_goals (refine K_ret ⟨_, rfl, ?_⟩)
  all_goals (refine ⟨?_, rfl⟩; unfold BoolIs shoeA; first | exact .inl ⟨rfl, by omega⟩ | exact .inr ⟨rfl, by omega⟩)
theorem rowBeside_ok {h : AH} (a b x y : Int) (hb : Bds a b x y) : Fn Tryz.prog Xh 159 [.int .i64 a, .int .i64 b, .int .i64 x, .int .i64 y] h (fun v h' => BoolIs v (rowB a b x y) ∧ h' = h) := by
  unfold Bds at hb
  refine Fn_K rfl Tryz.func159 rfl rfl ?_
  all_goals (repeat' (first | refine K_seq ?_ | refine k_cond rfl ?_ | refine K_skip ?_ | refine K_exit ?_ | refine k_block ?_ | refine K_scope ?_ | (refine K_region (id := 0) ?_; refine mv ?_; refine KO_nil ?_) | (refine K_region (id := 1) ?_; refine mv ?_; refine mv ?_; (first | refine sb ?_ | refine vl ?_); (first | refine cT ?_ | refine cF ?_ | (refine cS ?_ ?_ <;> intro hc)) <;> (refine mv ?_; (first | refine off ?_ | refine mv ?_); (first | refine off ?_ | (first | refine cT ?_ | refine cF ?_ | (refine cS ?_ ?_ <;> intro hc))) <;> ((first | refine off ?_ | refine mv ?_); (first | refine off ?_ | refine mv ?_); (first | refine off ?_ | refine mv ?_); (first | refine off ?_ | (first | refine rm ?_ | refine vl ?_)); (first | refine off ?_ | (first | refine cT ?_ | refine cF ?_ | (refine cS ?_ ?_ <;> intro hc))) <;> ((first | refine off ?_ | refine vl ?_); refine vl ?_; refine mv ?_; refine KO_nil ?_))))))
  all_goals (refine K_ret ⟨_, rfl, ?_⟩)
  all_goals (refine ⟨?_, rfl⟩; unfold BoolIs rowB; first | exact .inl ⟨rfl, by omega⟩ | exact .inr ⟨rfl, by omega⟩)
end Go.Proofs.Xx

/-
  The hall's layouts; which seats are beside and across, by the table.
-/
namespace Go.Proofs.Xx
open Go Go.Proofs
set_option linter.unusedSimpArgs false
set_option linter.unusedVariables false
set_option maxRecDepth 100000

/-- A slice's value. -/
structure SlV where
  p : Option Addr
  n : Nat
  c : Nat
abbrev SlV.val (s : SlV) : Value := .slice s.p s.n s.c
theorem Rd.isSl {h : AH} {v : Value} {z n : Nat} {c : List Value} (r : Rd h v z n c) : ∃ s : SlV, v = s.val := by
  rcases r with ⟨rfl, -, -⟩ | ⟨b, o, cap, cc, e, s, q, rfl, -, -⟩
  · exact ⟨⟨none, 0, 0⟩, rfl⟩
  · exact ⟨⟨some ⟨b, o, none⟩, n, cap⟩, rfl⟩
structure Tab where
  name : List UInt8
  shape : Int
  A : Int
  B : Int
  os : SlV
  opn : List Int
  X : Int
  Y : Int
abbrev Tab.ov (t : Tab) : Value := t.os.val
instance : Inhabited Tab := ⟨⟨[], 0, 0, 0, ⟨none, 0, 0⟩, [], 0, 0⟩⟩
def eT (t : Tab) : List Value := [str t.name, .int .u8 t.shape, .int .i64 t.A, .int .i64 t.B, t.ov, .int .i64 t.X, .int .i64 t.Y]
abbrev tabV (t : Tab) : Value := .agg (eT t).toArray

def fnV (n : Nat) : Value := .func (.func n) #[] #[]
def wRound : List UInt8 := [114, 111, 117, 110, 100]
def wLong : List UInt8 := [108, 111, 110, 103]
def wShoe : List UInt8 := [104, 111, 114, 115, 101, 115, 104, 111, 101]
def wRow : List UInt8 := [114, 111, 119]
def lay1 : List Value := [str wRound, fnV 143, fnV 144, fnV 145, fnV 146, fnV 147]
def lay2 : List Value := [str wLong, fnV 148, fnV 149, fnV 150, fnV 151, fnV 152]
def lay3 : List Value := [str wShoe, fnV 153, fnV 154, fnV 155, fnV 156, fnV 157]
def lay4 : List Value := [str wRow, fnV 158, fnV 159, fnV 160, fnV 161, fnV 162]
def lay0 : List Value := [str [], .nilFunc, .nilFunc, .nilFunc, .nilFunc, .nilFunc]
def LayIs (s : Int) (v : Value) : Prop :=
  (v = .tuple #[.agg lay1.toArray, .bool true] ∧ s = 1) ∨ (v = .tuple #[.agg lay2.toArray, .bool true] ∧ s = 2) ∨ (v = .tuple #[.agg lay3.toArray, .bool true] ∧ s = 3) ∨
  (v = .tuple #[.agg lay4.toArray, .bool true] ∧ s = 4) ∨ (v = .tuple #[.agg lay0.toArray, .bool false] ∧ ¬ (1 ≤ s ∧ s ≤ 4))

theorem layoutOf_ok {h0 : AH} (w : WfH h0) (s : Int) : Fn Tryz.prog Xh 109 [.int .u8 s] h0 (fun v h' => LayIs s v ∧ Hs h0 h' []) := by
  have S := Hs.start w
  refine Fn_K rfl Tryz.func109 rfl rfl ?_
  all_goals (repeat' (first | refine K_seq ?_ | refine k_cond rfl ?_ | refine K_skip ?_ | refine K_exit ?_ | refine k_block ?_ | refine K_scope ?_ | (refine K_region (id := 0) ?_; (refine al S ?_; clear S; intro b h S); refine mv ?_; refine KO_nil ?_) | (refine K_region (id := 1) ?_; refine mv ?_; refine KO_nil ?_) | (refine K_region (id := 2) ?_; (first | refine cT ?_ | refine cF ?_ | (refine cS ?_ ?_ <;> intro hc)) <;> (refine mv ?_; refine KO_nil ?_)) | (refine K_region (id := 3) ?_; refine vl ?_; (first | (refine sB S rfl rfl ?_; clear S; intro h S) | (refine sE S rfl rfl ?_; clear S; intro h S)); refine mv ?_; refine KO_nil ?_) | (refine K_region (id := 4) ?_; (first | refine cT ?_ | refine cF ?_ | (refine cS ?_ ?_ <;> intro hc)) <;> (refine mv ?_; refine KO_nil ?_)) | (refine K_region (id := 5) ?_; refine vl ?_; (first | (refine sB S rfl rfl ?_; clear S; intro h S) | (refine sE S rfl rfl ?_; clear S; intro h S)); refine mv ?_; refine KO_nil ?_) | (refine K_region (id := 6) ?_; (first | refine cT ?_ | refine cF ?_ | (refine cS ?_ ?_ <;> intro hc)) <;> (refine mv ?_; refine KO_nil ?_)) | (refine K_region (id := 7) ?_; refine vl ?_; (first | (refine sB S rfl rfl ?_; clear S; intro h S) | (refine sE S rfl rfl ?_; clear S; intro h S)); refine mv ?_; refine KO_nil ?_) | (refine K_region (id := 8) ?_; (first | refine cT ?_ | refine cF ?_ | (refine cS ?_ ?_ <;> intro hc)) <;> (refine mv ?_; refine KO_nil ?_)) | (refine K_region (id := 9) ?_; refine vl ?_; (first | (refine sB S rfl rfl ?_; clear S; intro h S) | (refine sE S rfl rfl ?_; clear S; intro h S)); refine mv ?_; refine KO_nil ?_) | (refine K_region (id := 10) ?_; refine vl ?_; (first | (refine sB S rfl rfl ?_; clear S; intro h S) | (refine sE S rfl rfl ?_; clear S; intro h S)); refine mv ?_; refine KO_nil ?_)))
  all_goals (refine K_ret ⟨_, ret_cell S rfl (by first | exact .here | exact .there .here | exact .there (.there .here)) (by exact rfl) (by exact rfl), ?_⟩)
  all_goals (refine ⟨?_, S.drop⟩; unfold LayIs)
  · exact .inl ⟨rfl, by omega⟩
  · exact .inr (.inl ⟨rfl, by omega⟩)
  · exact .inr (.inr (.inl ⟨rfl, by omega⟩))
  · exact .inr (.inr (.inr (.inl ⟨rfl, by omega⟩)))
  · exact .inr (.inr (.inr (.inr ⟨rfl, by omega⟩)))

def sizeOf1 (s a b : Int) : Int := if s = 1 then roundSize a b else if s = 2 then longSize a b else if s = 3 then shoeSize a b else if s = 4 then rowSize a b else 0
def tsize (t : Tab) : Int := sizeOf1 t.shape t.A t.B

theorem size_ok {h0 : AH} (w : WfH h0) (t : Tab) : Fn Tryz.prog Xh 83 [tabV t] h0 (fun v h' => v = .int .i64 (tsize t) ∧ Hs h0 h' []) := by
  have S := Hs.start w
  refine Fn_K rfl Tryz.func83 rfl rfl ?_
  all_goals (repeat' (first | refine K_seq ?_ | refine k_cond rfl ?_ | refine K_skip ?_ | refine K_exit ?_ | refine k_block ?_ | refine K_scope ?_ | (refine K_region (id := 0) ?_; (refine bx S ?_; clear S; intro b h S); refine mv ?_; refine KO_nil ?_) | (refine K_region (id := 1) ?_; (first | refine vl ?_ | refine fB S ?_ | refine fS S rfl rfl ?_ | refine fA ?_); (first | refine lB S rfl rfl ?_ | refine lES S rfl rfl ?_ | refine lEB S ?_ | refine lH S ?_))))
  (refine KO_fn rfl rfl rfl rfl rfl ((layoutOf_ok S.wf _).mono ?_); rintro _ h ⟨⟨rfl, hs⟩ | ⟨rfl, hs⟩ | ⟨rfl, hs⟩ | ⟨rfl, hs⟩ | ⟨rfl, hs⟩, x⟩) <;> (have S := S.join0 x; refine mv ?_; refine vl ?_; refine vl ?_; (refine al S ?_; clear S; intro b h S); (first | (refine sB S rfl rfl ?_; clear S; intro h S) | (refine sE S rfl rfl ?_; clear S; intro h S)); refine mv ?_; refine KO_nil ?_)
  all_goals (repeat' (first | refine K_seq ?_ | refine k_cond rfl ?_ | refine K_skip ?_ | refine K_exit ?_ | refine k_block ?_ | refine K_scope ?_ | (refine K_region (id := 2) ?_; refine mv ?_; refine vl ?_; refine KO_nil ?_) | (refine K_region (id := 3) ?_; refine mv ?_; refine KO_nil ?_) | (refine K_region (id := 4) ?_; (first | refine vl ?_ | refine fB S ?_ | refine fS S rfl rfl ?_ | refine fA ?_); (first | refine lB S rfl rfl ?_ | refine lES S rfl rfl ?_ | refine lEB S ?_ | refine lH S ?_); (first | refine vl ?_ | refine fB S ?_ | refine fS S rfl rfl ?_ | refine fA ?_); (first | refine lB S rfl rfl ?_ | refine lES S rfl rfl ?_ | refine lEB S ?_ | refine lH S ?_); (first | refine vl ?_ | refine fB S ?_ | refine fS S rfl rfl ?_ | refine fA ?_); (first | refine lB S rfl rfl ?_ | refine lES S rfl rfl ?_ | refine lEB S ?_ | refine lH S ?_))))
  · (refine KO_call rfl rfl rfl rfl ((roundSeats_ok _ _).mono ?_); rintro _ _ ⟨rfl, rfl⟩) <;> (refine mv ?_; refine KO_nil ?_)
    all_goals (repeat' (first | refine K_seq ?_ | refine k_cond rfl ?_ | refine K_skip ?_ | refine K_exit ?_ | refine k_block ?_ | refine K_scope ?_))
    refine K_ret ⟨_, rfl, ?_⟩
    exact ⟨by simp [oneOrTuple, tsize, sizeOf1, hs], S.drop⟩
  · (refine KO_call rfl rfl rfl rfl ((longSeats_ok _ _).mono ?_); rintro _ _ ⟨rfl, rfl⟩) <;> (refine mv ?_; refine KO_nil ?_)
    all_goals (repeat' (first | refine K_seq ?_ | refine k_cond rfl ?_ | refine K_skip ?_ | refine K_exit ?_ | refine k_block ?_ | refine K_scope ?_))
    refine K_ret ⟨_, rfl, ?_⟩
    exact ⟨by simp [oneOrTuple, tsize, sizeOf1, hs], S.drop⟩
  · (refine KO_call rfl rfl rfl rfl ((shoeSeats_ok _ _).mono ?_); rintro _ _ ⟨rfl, rfl⟩) <;> (refine mv ?_; refine KO_nil ?_)
    all_goals (repeat' (first | refine K_seq ?_ | refine k_cond rfl ?_ | refine K_skip ?_ | refine K_exit ?_ | refine k_block ?_ | refine K_scope ?_))
    refine K_ret ⟨_, rfl, ?_⟩
    exact ⟨by simp [oneOrTuple, tsize, sizeOf1, hs], S.drop⟩
  · (refine KO_call rfl rfl rfl rfl ((rowSeats_ok _ _).mono ?_); rintro _ _ ⟨rfl, rfl⟩) <;> (refine mv ?_; refine KO_nil ?_)
    all_goals (repeat' (first | refine K_seq ?_ | refine k_cond rfl ?_ | refine K_skip ?_ | refine K_exit ?_ | refine k_block ?_ | refine K_scope ?_))
    refine K_ret ⟨_, rfl, ?_⟩
    exact ⟨by simp [oneOrTuple, tsize, sizeOf1, hs], S.drop⟩
  · refine K_ret ⟨_, rfl, ?_⟩
    refine ⟨?_, S.drop⟩
    simp only [oneOrTuple, tsize, sizeOf1]
    rw [if_neg (by omega), if_neg (by omega), if_neg (by omega), if_neg (by omega)]

def besideP (t : Tab) (x y : Int) : Prop := x ≠ y ∧ ((t.shape = 1 ∧ roundB t.A t.B (min x y) (max x y)) ∨ (t.shape = 2 ∧ longB t.A t.B (min x y) (max x y)) ∨ (t.shape = 3 ∧ shoeB t.A t.B (min x y) (max x y)) ∨ (t.shape = 4 ∧ rowB t.A t.B (min x y) (max x y)))
def acrossP (t : Tab) (x y : Int) : Prop := x ≠ y ∧ ((t.shape = 1 ∧ roundA t.A t.B (min x y) (max x y)) ∨ (t.shape = 2 ∧ longA t.A t.B (min x y) (max x y)) ∨ (t.shape = 3 ∧ shoeA t.A t.B (min x y) (max x y)))
def nearP (t : Tab) (x y : Int) : Prop := besideP t x y ∨ acrossP t x y
def TabB (t : Tab) : Prop := 1 ≤ t.shape ∧ t.shape ≤ 4 ∧ 0 ≤ t.A ∧ t.A ≤ 100 ∧ 0 ≤ t.B ∧ t.B ≤ 100

theorem layout3_ok {h : AH} (a b x y : Int) : Fn Tryz.prog Xh 160 [.int .i64 a, .int .i64 b, .int .i64 x, .int .i64 y] h (fun v h' => BoolIs v False ∧ h' = h) := by
  refine Fn_K rfl Tryz.func160 rfl rfl ?_
  all_goals (repeat' (first | refine K_seq ?_ | refine k_cond rfl ?_ | refine K_skip ?_ | refine K_exit ?_ | refine k_block ?_ | refine K_scope ?_ | (refine K_region (id := 0) ?_; refine mv ?_; refine KO_nil ?_) | (refine K_region (id := 1) ?_; refine mv ?_; refine KO_nil ?_)))
  all_goals (refine K_ret ⟨_, rfl, ?_⟩)
  exact ⟨.inr ⟨rfl, id⟩, rfl⟩

theorem beside_ok {h0 : AH} (w : WfH h0) (t : Tab) (x y : Int) (ht : TabB t) (hx : 0 ≤ x ∧ x ≤ 1000) (hy : 0 ≤ y ∧ y ≤ 1000) : Fn Tryz.prog Xh 102 [tabV t, .int .i64 x, .int .i64 y] h0 (fun v h' => BoolIs v (besideP t x y) ∧ Hs h0 h' []) := by
  have S := Hs.start w
  obtain ⟨t1, t2, t3, t4, t5, t6⟩ := ht
  refine Fn_K rfl Tryz.func102 rfl rfl ?_
  all_goals (repeat' (first | refine K_seq ?_ | refine k_cond rfl ?_ | refine K_skip ?_ | refine K_exit ?_ | refine k_block ?_ | refine K_scope ?_ | (refine K_region (id := 0) ?_; (refine bx S ?_; clear S; intro b h S); refine mv ?_; refine KO_nil ?_) | (refine K_region (id := 1) ?_; (first | refine vl ?_ | refine fB S ?_ | refine fS S rfl rfl ?_ | refine fA ?_); (first | refine lB S rfl rfl ?_ | refine lES S rfl rfl ?_ | refine lEB S ?_ | refine lH S ?_))))
  have hb : Bds t.A t.B (min x y) (max x y) := by unfold Bds; omega
  (refine KO_fn rfl rfl rfl rfl rfl ((layoutOf_ok S.wf _).mono ?_); rintro _ h ⟨⟨rfl, hs⟩ | ⟨rfl, hs⟩ | ⟨rfl, hs⟩ | ⟨rfl, hs⟩ | ⟨rfl, hs⟩, x⟩) <;> (have S := S.join0 x; refine mv ?_; refine vl ?_; refine vl ?_; (refine al S ?_; clear S; intro b h S); (first | (refine sB S rfl rfl ?_; clear S; intro h S) | (refine sE S rfl rfl ?_; clear S; intro h S)); refine mv ?_; refine KO_nil ?_)
  all_goals (repeat' (first | refine K_seq ?_ | refine k_cond rfl ?_ | refine K_skip ?_ | refine K_exit ?_ | refine k_block ?_ | refine K_scope ?_ | (refine K_region (id := 2) ?_; refine mv ?_; refine mv ?_; (first | refine cT ?_ | refine cF ?_ | (refine cS ?_ ?_ <;> intro hc)) <;> (refine mv ?_; (first | refine off ?_ | (first | refine vl ?_ | refine fB S ?_ | refine fS S rfl rfl ?_ | refine fA ?_)); (first | refine off ?_ | (first | refine lB S rfl rfl ?_ | refine lES S rfl rfl ?_ | refine lEB S ?_ | refine lH S ?_)); (first | refine off ?_ | (first | refine vl ?_ | refine fB S ?_ | refine fS S rfl rfl ?_ | refine fA ?_)); (first | refine off ?_ | (first | refine lB S rfl rfl ?_ | refine lES S rfl rfl ?_ | refine lEB S ?_ | refine lH S ?_)); (first | refine off ?_ | (first | refine vl ?_ | refine fB S ?_ | refine fS S rfl rfl ?_ | refine fA ?_)); (first | refine off ?_ | (first | refine lB S rfl rfl ?_ | refine lES S rfl rfl ?_ | refine lEB S ?_ | refine lH S ?_)); (first | refine off ?_ | refine mv ?_); (first | refine off ?_ | refine mv ?_); (first | refine off ?_ | refine mn ?_); (first | refine off ?_ | refine mv ?_); (first | refine off ?_ | refine mv ?_); (first | refine off ?_ | refine mx ?_); (first | (refine off ?_; refine vl ?_; refine mv ?_; refine KO_nil ?_) | skip)))))
  all_goals (try (exfalso; omega))
  any_goals (((first | refine KO_call rfl rfl rfl rfl ((roundBeside_ok _ _ _ _ hb).mono ?_) | refine KO_call rfl rfl rfl rfl ((longBeside_ok _ _ _ _ hb).mono ?_) | refine KO_call rfl rfl rfl rfl ((shoeBeside_ok _ _ _ _ hb).mono ?_) | refine KO_call rfl rfl rfl rfl ((rowBeside_ok _ _ _ _ hb).mono ?_)); rintro _ _ ⟨⟨rfl, hq⟩ | ⟨rfl, hq⟩, rfl⟩) <;> (refine vl ?_; refine mv ?_; refine KO_nil ?_))
  all_goals (repeat' (first | refine K_seq ?_ | refine k_cond rfl ?_ | refine K_skip ?_ | refine K_exit ?_ | refine k_block ?_ | refine K_scope ?_))
  all_goals (refine K_ret ⟨_, rfl, ?_⟩)
  all_goals (first | exact ⟨.inl ⟨rfl, hc, by (first | (simp [hs] at hq; done) | simpa [hs] using hq)⟩, S.drop⟩ | exact ⟨.inr ⟨rfl, fun q => hq (by simpa [hs] using q.2)⟩, S.drop⟩ | exact ⟨.inr ⟨rfl, fun q => q.1 (by omega)⟩, S.drop⟩)

theorem across_ok {h0 : AH} (w : WfH h0) (t : Tab) (x y : Int) (ht : TabB t) (hx : 0 ≤ x ∧ x ≤ 1000) (hy : 0 ≤ y ∧ y ≤ 1000) : Fn Tryz.prog Xh 103 [tabV t, .int .i64 x, .int .i64 y] h0 (fun v h' => BoolIs v (acrossP t x y) ∧ Hs h0 h' []) := by
  have S := Hs.start w
  obtain ⟨t1, t2, t3, t4, t5, t6⟩ := ht
  refine Fn_K rfl Tryz.func103 rfl rfl ?_
  all_goals (repeat' (first | refine K_seq ?_ | refine k_cond rfl ?_ | refine K_skip ?_ | refine K_exit ?_ | refine k_block ?_ | refine K_scope ?_ | (refine K_region (id := 0) ?_; (refine bx S ?_; clear S; intro b h S); refine mv ?_; refine KO_nil ?_) | (refine K_region (id := 1) ?_; (first | refine vl ?_ | refine fB S ?_ | refine fS S rfl rfl ?_ | refine fA ?_); (first | refine lB S rfl rfl ?_ | refine lES S rfl rfl ?_ | refine lEB S ?_ | refine lH S ?_))))
  have hb : Bds t.A t.B (min x y) (max x y) := by unfold Bds; omega
  (refine KO_fn rfl rfl rfl rfl rfl ((layoutOf_ok S.wf _).mono ?_); rintro _ h ⟨⟨rfl, hs⟩ | ⟨rfl, hs⟩ | ⟨rfl, hs⟩ | ⟨rfl, hs⟩ | ⟨rfl, hs⟩, x⟩) <;> (have S := S.join0 x; refine mv ?_; refine vl ?_; refine vl ?_; (refine al S ?_; clear S; intro b h S); (first | (refine sB S rfl rfl ?_; clear S; intro h S) | (refine sE S rfl rfl ?_; clear S; intro h S)); refine mv ?_; refine KO_nil ?_)
  all_goals (repeat' (first | refine K_seq ?_ | refine k_cond rfl ?_ | refine K_skip ?_ | refine K_exit ?_ | refine k_block ?_ | refine K_scope ?_ | (refine K_region (id := 2) ?_; refine mv ?_; refine mv ?_; (first | refine cT ?_ | refine cF ?_ | (refine cS ?_ ?_ <;> intro hc)) <;> (refine mv ?_; (first | refine off ?_ | (first | refine vl ?_ | refine fB S ?_ | refine fS S rfl rfl ?_ | refine fA ?_)); (first | refine off ?_ | (first | refine lB S rfl rfl ?_ | refine lES S rfl rfl ?_ | refine lEB S ?_ | refine lH S ?_)); (first | refine off ?_ | (first | refine vl ?_ | refine fB S ?_ | refine fS S rfl rfl ?_ | refine fA ?_)); (first | refine off ?_ | (first | refine lB S rfl rfl ?_ | refine lES S rfl rfl ?_ | refine lEB S ?_ | refine lH S ?_)); (first | refine off ?_ | (first | refine vl ?_ | refine fB S ?_ | refine fS S rfl rfl ?_ | refine fA ?_)); (first | refine off ?_ | (first | refine lB S rfl rfl ?_ | refine lES S rfl rfl ?_ | refine lEB S ?_ | refine lH S ?_)); (first | refine off ?_ | refine mv ?_); (first | refine off ?_ | refine mv ?_); (first | refine off ?_ | refine mn ?_); (first | refine off ?_ | refine mv ?_); (first | refine off ?_ | refine mv ?_); (first | refine off ?_ | refine mx ?_); (first | (refine off ?_; refine vl ?_; refine mv ?_; refine KO_nil ?_) | skip)))))
  all_goals (try (exfalso; omega))
  any_goals (((first | refine KO_call rfl rfl rfl rfl ((roundAcross_ok _ _ _ _ hb).mono ?_) | refine KO_call rfl rfl rfl rfl ((longAcross_ok _ _ _ _ hb).mono ?_) | refine KO_call rfl rfl rfl rfl ((shoeAcross_ok _ _ _ _ hb).mono ?_) | refine KO_call rfl rfl rfl rfl ((layout3_ok _ _ _ _).mono ?_)); rintro _ _ ⟨⟨rfl, hq⟩ | ⟨rfl, hq⟩, rfl⟩) <;> (refine vl ?_; refine mv ?_; refine KO_nil ?_))
  all_goals (repeat' (first | refine K_seq ?_ | refine k_cond rfl ?_ | refine K_skip ?_ | refine K_exit ?_ | refine k_block ?_ | refine K_scope ?_))
  all_goals (refine K_ret ⟨_, rfl, ?_⟩)
  all_goals (first | exact ⟨.inl ⟨rfl, hc, by (first | (simp [hs] at hq; done) | simpa [hs] using hq)⟩, S.drop⟩ | exact ⟨.inr ⟨rfl, fun q => hq (by simpa [hs] using q.2)⟩, S.drop⟩ | exact ⟨.inr ⟨rfl, fun q => q.1 (by omega)⟩, S.drop⟩)

theorem near_ok {h0 : AH} (w : WfH h0) (t : Tab) (x y : Int) (ht : TabB t) (hx : 0 ≤ x ∧ x ≤ 1000) (hy : 0 ≤ y ∧ y ≤ 1000) : Fn Tryz.prog Xh 91 [tabV t, .int .i64 x, .int .i64 y] h0 (fun v h' => BoolIs v (nearP t x y) ∧ Hs h0 h' []) := by
  have S := Hs.start w
  refine Fn_K rfl Tryz.func91 rfl rfl ?_
  all_goals (repeat' (first | refine K_seq ?_ | refine k_cond rfl ?_ | refine K_skip ?_ | refine K_exit ?_ | refine k_block ?_ | refine K_scope ?_ | (refine K_region (id := 0) ?_; (refine bx S ?_; clear S; intro b h S); refine mv ?_; refine KO_nil ?_) | (refine K_region (id := 1) ?_; (first | refine lB S rfl rfl ?_ | refine lES S rfl rfl ?_ | refine lEB S ?_ | refine lH S ?_); refine mv ?_; refine mv ?_)))
  (refine KO_fn rfl rfl rfl rfl rfl ((beside_ok S.wf t _ _ ht hx hy).mono ?_); rintro _ h ⟨⟨rfl, hq⟩ | ⟨rfl, hq⟩, x⟩) <;> (have S := S.join0 x; refine mv ?_; (first | refine off ?_ | (first | refine lB S rfl rfl ?_ | refine lES S rfl rfl ?_ | refine lEB S ?_ | refine lH S ?_)); (first | refine off ?_ | refine mv ?_); (first | refine off ?_ | refine mv ?_); (first | (refine off ?_; refine vl ?_; refine mv ?_; refine KO_nil ?_) | skip))
  any_goals ((refine KO_fn rfl rfl rfl rfl rfl ((across_ok S.wf t _ _ ht hx hy).mono ?_); rintro _ h ⟨⟨rfl, hq2⟩ | ⟨rfl, hq2⟩, x⟩) <;> (have S := S.join0 x; refine vl ?_; refine mv ?_; refine KO_nil ?_))
  all_goals (repeat' (first | refine K_seq ?_ | refine k_cond rfl ?_ | refine K_skip ?_ | refine K_exit ?_ | refine k_block ?_ | refine K_scope ?_))
  all_goals (refine K_ret ⟨_, rfl, ?_⟩)
  all_goals (refine ⟨?_, S.drop⟩; unfold BoolIs nearP)
  · exact .inl ⟨rfl, .inl hq⟩
  · exact .inl ⟨rfl, .inr hq2⟩
  · exact .inr ⟨rfl, fun q => q.elim hq hq2⟩
end Go.Proofs.Xx

/-
  Distances in a graph, by breadth first search and by levels.
-/
namespace Go.Proofs.Xx
set_option linter.unusedVariables false

section
variable (N : Int → Int → Prop) (n s : Nat)
/-- There is a walk of d steps from s to y. -/
def Wk : Nat → Nat → Prop
  | 0, y => y = s
  | d + 1, y => ∃ x : Nat, x < n ∧ Wk d x ∧ N x y
def IsDist (d y : Nat) : Prop := Wk N n s d y ∧ ∀ e, e < d → ¬ Wk N n s e y
/-- The list tells all distances; -1 where there is no way. -/
def DistL (l : List Int) : Prop := l.length = n ∧ ∀ y, y < n → (l.getD y default = -1 ∧ ∀ d, ¬ Wk N n s d y) ∨ ∃ d : Nat, l.getD y default = (d : Int) ∧ IsDist N n s d y
end
section
variable {N : Int → Int → Prop} {n s : Nat}
theorem IsDist.unique {d e y : Nat} (h1 : IsDist N n s d y) (h2 : IsDist N n s e y) : d = e := by
  rcases Nat.lt_trichotomy d e with h | h | h
  · exact absurd h1.1 (h2.2 d h)
  · exact h
  · exact absurd h2.1 (h1.2 e h)
theorem Wk.least {d y : Nat} (h : Wk N n s d y) : ∃ e, e ≤ d ∧ IsDist N n s e y := by
  induction d using Nat.strongRecOn with
  | _ d ih =>
    by_cases hd : ∃ e, e < d ∧ Wk N n s e y
    · obtain ⟨e, h1, h2⟩ := hd
      obtain ⟨e', h3, h4⟩ := ih e h1 h2
      exact ⟨e', by omega, h4⟩
    · exact ⟨d, Nat.le_refl _, h, fun e he hw => hd ⟨e, he, hw⟩⟩
theorem DistL.unique {l m : List Int} (h1 : DistL N n s l) (h2 : DistL N n s m) : l = m := by
  refine List.ext_getElem (h1.1.trans h2.1.symm) fun i q1 q2 => ?_
  have hi : i < n := by have := h1.1; omega
  have e1 : l.getD i default = l[i] := by simp [List.getD_eq_getElem?_getD, List.getElem?_eq_getElem q1]
  have e2 : m.getD i default = m[i] := by simp [List.getD_eq_getElem?_getD, List.getElem?_eq_getElem q2]
  have a := h1.2 i hi
  have b := h2.2 i hi
  rw [e1] at a; rw [e2] at b
  rcases a with ⟨a1, a2⟩ | ⟨d, a1, a2⟩ <;> rcases b with ⟨b1, b2⟩ | ⟨e, b1, b2⟩
  · omega
  · exact absurd b2.1 (a2 e)
  · exact absurd a2.1 (b2 d)
  · have := a2.unique b2; omega

abbrev at_ (l : List Int) (x : Int) : Int := l.getD x.toNat default

abbrev rest_ (l : List Int) : Nat := l.countP (fun x => decide (x < 0))
theorem rest_set : ∀ (l : List Int) (m : Nat) (v : Int), m < l.length → l.getD m default < 0 → 0 ≤ v → rest_ (l.set m v) + 1 = rest_ l
  | [], m, v, h, _, _ => by simp at h
  | x :: l, 0, v, _, h1, h2 => by
    have h1' : x < 0 := by simpa using h1
    have h2' : ¬ v < 0 := by omega
    simp [rest_, h1', h2']
  | x :: l, m + 1, v, h, h1, h2 => by
    have ih := rest_set l m v (by simpa using h) (by simpa using h1) h2
    unfold rest_ at ih ⊢
    simp only [List.set_cons_succ, List.countP_cons]
    omega

/-- Breadth first search: out, the queue; k is being gone through, up to m. -/
structure BfsIn (N : Int → Int → Prop) (n s : Nat) (out q : List Int) (k : Int) (m : Nat) : Prop where
  len : out.length = n
  src : s < n ∧ 0 ≤ at_ out s
  vis : ∀ y : Nat, y < n → 0 ≤ at_ out y → IsDist N n s (at_ out y).toNat y
  neg : ∀ y : Nat, y < n → at_ out y < 0 → at_ out y = -1
  low : ∀ y : Nat, y < n → at_ out y + (rest_ out : Int) ≤ (n : Int) - 1
  kin : 0 ≤ k ∧ k < n ∧ 0 ≤ at_ out k
  qin : ∀ x ∈ q, 0 ≤ x ∧ x < n ∧ at_ out k ≤ at_ out x ∧ at_ out x ≤ at_ out k + 1
  sort : q.Pairwise fun x y => at_ out x ≤ at_ out y
  here : ∀ y : Nat, y < m → y < n → N k y → 0 ≤ at_ out y
  done : ∀ x : Nat, x < n → 0 ≤ at_ out x → (x : Int) ∉ q → (x : Int) ≠ k → ∀ y : Nat, y < n → N x y → 0 ≤ at_ out y
structure Bfs (N : Int → Int → Prop) (n s : Nat) (out q : List Int) : Prop where
  len : out.length = n
  src : s < n ∧ 0 ≤ at_ out s
  vis : ∀ y : Nat, y < n → 0 ≤ at_ out y → IsDist N n s (at_ out y).toNat y
  neg : ∀ y : Nat, y < n → at_ out y < 0 → at_ out y = -1
  low : ∀ y : Nat, y < n → at_ out y + (rest_ out : Int) ≤ (n : Int) - 1
  qin : ∀ x ∈ q, 0 ≤ x ∧ x < n ∧ 0 ≤ at_ out x
  sort : q.Pairwise fun x y => at_ out x ≤ at_ out y
  span : ∀ x ∈ q, ∀ y ∈ q, at_ out y ≤ at_ out x + 1
  done : ∀ x : Nat, x < n → 0 ≤ at_ out x → (x : Int) ∉ q → ∀ y : Nat, y < n → N x y → 0 ≤ at_ out y

theorem BfsIn.near {out q : List Int} {k : Int} {m : Nat} (b : BfsIn N n s out q k m) : ∀ (e y : Nat), y < n → IsDist N n s e y → (e : Int) < at_ out k → 0 ≤ at_ out y ∧ (y : Int) ∉ q ∧ (y : Int) ≠ k := by
  intro e
  induction e with
  | zero =>
    intro y hy hd he
    have : y = s := hd.1
    subst this
    have h0 := b.src.2
    have h1 := (b.vis y hy h0).unique hd
    refine ⟨h0, fun q1 => ?_, fun q1 => ?_⟩
    · have := (b.qin _ q1).2.2.1; omega
    · rw [← q1] at he; omega
  | succ e ih =>
    intro y hy hd he
    obtain ⟨x, hx, hw, hn⟩ := hd.1
    have hdx : IsDist N n s e x := ⟨hw, fun e' he' hw' => hd.2 (e' + 1) (by omega) ⟨x, hx, hw', hn⟩⟩
    obtain ⟨q1, q2, q3⟩ := ih x hx hdx (by omega)
    have hy0 := b.done x hx q1 q2 q3 y hy hn
    have h1 := (b.vis y hy hy0).unique hd
    refine ⟨hy0, fun q1 => ?_, fun q1 => ?_⟩
    · have := (b.qin _ q1).2.2.1; omega
    · rw [← q1] at he; omega

theorem at_set (l : List Int) (m : Nat) (v : Int) (x : Int) (hm : m < l.length) : at_ (l.set m v) x = if x.toNat = m then v else at_ l x := by
  unfold at_
  by_cases h : x.toNat = m
  · rw [if_pos h, h]; simp [List.getD_eq_getElem?_getD, hm]
  · rw [if_neg h]; simp [List.getD_eq_getElem?_getD, Ne.symm h]

/-- A new one is met. -/
theorem BfsIn.meet {out q : List Int} {k : Int} {m : Nat} (b : BfsIn N n s out q k m) (hm : m < n) (hn : N k m) (ho : at_ out m < 0) : BfsIn N n s (out.set m (at_ out k + 1)) (q ++ [(m : Int)]) k (m + 1) := by
  have hl : m < out.length := by have := b.len; omega
  have key : ∀ x : Int, at_ (out.set m (at_ out k + 1)) x = if x.toNat = m then at_ out k + 1 else at_ out x := fun x => at_set out m _ x hl
  obtain ⟨k1, k2, k3⟩ := b.kin
  have hkm : k.toNat ≠ m := fun e => by
    have : at_ out k = at_ out m := by unfold at_; rw [e]; rfl
    omega
  have hk' : at_ (out.set m (at_ out k + 1)) k = at_ out k := by rw [key, if_neg hkm]
  have ge : ∀ x : Int, 0 ≤ at_ out x → 0 ≤ at_ (out.set m (at_ out k + 1)) x := fun x hx => by rw [key]; split <;> omega
  have old : ∀ x : Int, 0 ≤ at_ out x → at_ (out.set m (at_ out k + 1)) x = at_ out x := fun x hx => by
    rw [key, if_neg]
    intro e
    have : at_ out x = at_ out m := by unfold at_; rw [e]; rfl
    omega
  have hdist : IsDist N n s ((at_ out k).toNat + 1) m := by
    have hdk := b.vis k.toNat (by omega) (by simpa [Int.toNat_of_nonneg k1] using k3)
    have hkk : at_ out (k.toNat : Int) = at_ out k := by rw [Int.toNat_of_nonneg k1]
    rw [hkk] at hdk
    refine ⟨⟨k.toNat, by omega, hdk.1, by rw [Int.toNat_of_nonneg k1]; exact hn⟩, fun e he hw => ?_⟩
    obtain ⟨e0, he0, hd0⟩ := hw.least
    cases e0 with
    | zero =>
      have : m = s := hd0.1
      subst this
      have := b.src.2
      omega
    | succ e1 =>
      obtain ⟨x, hx, hwx, hnx⟩ := hd0.1
      obtain ⟨e2, he2, hdx⟩ := hwx.least
      obtain ⟨q1, q2, q3⟩ := b.near e2 x hx hdx (by omega)
      have := b.done x hx q1 q2 q3 m hm hnx
      omega
  refine ⟨by simp [b.len], ⟨b.src.1, ge _ b.src.2⟩, fun y hy hy0 => ?_, fun y hy hy0 => ?_, fun y hy => ?_, ⟨k1, k2, by rw [hk']; exact k3⟩, fun x hx => ?_, ?_, fun y hy hyn hN => ?_, fun x hx hx0 hxq hxk y hy hN => ?_⟩
  · rw [key] at hy0 ⊢
    by_cases e : ((y : Int).toNat) = m
    · rw [if_pos e]
      have : y = m := by simpa using e
      subst this
      rw [show (at_ out k + 1).toNat = (at_ out k).toNat + 1 by omega]
      exact hdist
    · rw [if_neg e] at hy0 ⊢; exact b.vis y hy hy0
  · rw [key] at hy0 ⊢
    by_cases e : ((y : Int).toNat) = m
    · rw [if_pos e] at hy0; omega
    · rw [if_neg e] at hy0 ⊢; exact b.neg y hy hy0
  · have hr := rest_set out m (at_ out k + 1) hl (by simpa using ho) (by omega)
    rw [key]
    have h1 := b.low y hy
    have h2 := b.low k.toNat (by omega)
    rw [Int.toNat_of_nonneg k1] at h2
    split <;> omega
  · rw [hk']
    rcases List.mem_append.1 hx with hx | hx
    · obtain ⟨q1, q2, q3, q4⟩ := b.qin x hx
      rw [old x (by omega)]; exact ⟨q1, q2, q3, q4⟩
    · obtain rfl : x = (m : Int) := by simpa using hx
      rw [key, if_pos (by simp)]; omega
  · rw [List.pairwise_append]
    refine ⟨?_, by simp, fun x hx y hy => ?_⟩
    · refine b.sort.imp_of_mem fun hx hy hxy => ?_
      have h1 := (b.qin _ hx).2.2.1
      have h2 := (b.qin _ hy).2.2.1
      rw [old _ (by omega), old _ (by omega)]; exact hxy
    · obtain rfl : y = (m : Int) := by simpa using hy
      obtain ⟨q1, q2, q3, q4⟩ := b.qin x hx
      rw [old x (by omega), key (m : Int), if_pos (by simp)]; exact q4
  · by_cases e : y = m
    · subst e; rw [key, if_pos (by simp)]; omega
    · exact ge _ (b.here y (by omega) hyn hN)
  · have hxm : ¬ (x : Int).toNat = m := by
      intro e
      have e2 : x = m := by simpa using e
      subst e2
      exact hxq (by simp)
    rw [key, if_neg hxm] at hx0
    exact ge _ (b.done x hx hx0 (fun q => hxq (List.mem_append_left _ q)) hxk y hy hN)
theorem BfsIn.pass {out q : List Int} {k : Int} {m : Nat} (b : BfsIn N n s out q k m) (h : N k m → 0 ≤ at_ out m) : BfsIn N n s out q k (m + 1) :=
  ⟨b.len, b.src, b.vis, b.neg, b.low, b.kin, b.qin, b.sort, fun y hy hyn hN => by
    by_cases e : y = m
    · subst e; exact h hN
    · exact b.here y (by omega) hyn hN, b.done⟩
theorem Bfs.take {out q : List Int} {k : Int} (b : Bfs N n s out (k :: q)) : BfsIn N n s out q k 0 := by
  obtain ⟨k1, k2, k3⟩ := b.qin k (by simp)
  have hs := List.pairwise_cons.1 b.sort
  exact ⟨b.len, b.src, b.vis, b.neg, b.low, ⟨k1, k2, k3⟩, fun x hx => ⟨(b.qin x (by simp [hx])).1, (b.qin x (by simp [hx])).2.1, hs.1 x hx, b.span k (by simp) x (by simp [hx])⟩, hs.2, fun y hy => by omega, fun x hx h0 hq hk => b.done x hx h0 (by simp [hq, hk])⟩
theorem BfsIn.back {out q : List Int} {k : Int} {m : Nat} (b : BfsIn N n s out q k m) (hm : n ≤ m) : Bfs N n s out q :=
  ⟨b.len, b.src, b.vis, b.neg, b.low, fun x hx => ⟨(b.qin x hx).1, (b.qin x hx).2.1, by have := (b.qin x hx).2.2.1; have := b.kin.2.2; omega⟩, b.sort,
    fun x hx y hy => by have := (b.qin x hx).2.2.1; have := (b.qin y hy).2.2.2; omega, fun x hx h0 hq y hy hN => by
      by_cases e : (x : Int) = k
      · exact b.here y (by omega) hy (e ▸ hN)
      · exact b.done x hx h0 hq e y hy hN⟩
theorem Bfs.start {out : List Int} (hl : out.length = n) (hs : s < n) (h0 : at_ out s = 0) (h1 : ∀ y : Nat, y < n → y ≠ s → at_ out y = -1) : Bfs N n s out [(s : Int)] := by
  refine ⟨hl, ⟨hs, by omega⟩, fun y hy hy0 => ?_, fun y hy hy0 => ?_, fun y hy => ?_, fun x hx => ?_, by simp, fun x hx y hy => ?_, fun x hx hx0 hxq => ?_⟩
  · by_cases e : y = s
    · subst e; rw [h0]; exact ⟨rfl, fun e he => by simp at he⟩
    · rw [h1 y hy e] at hy0; omega
  · by_cases e : y = s
    · subst e; omega
    · exact h1 y hy e
  · have hr : rest_ out ≤ n - 1 := by
      have h2 := rest_set (out.set s (-1)) s 0 (by simp; omega) (by simp [List.getD_eq_getElem?_getD, show s < out.length by omega]) (by omega)
      have h3 : (out.set s (-1)).set s 0 = out := by
        rw [List.set_set]
        refine List.ext_getElem (by simp) fun i q1 q2 => ?_
        rw [List.getElem_set]
        split
        · rename_i e
          subst e
          have : at_ out (s : Int) = out[s] := by unfold at_; simp [List.getD_eq_getElem?_getD, List.getElem?_eq_getElem q2]
          omega
        · rfl
      rw [h3] at h2
      have h4 : rest_ (out.set s (-1)) ≤ (out.set s (-1)).length := List.countP_le_length
      rw [List.length_set] at h4
      omega
    by_cases e : y = s
    · subst e; omega
    · have := h1 y hy e; omega
  · obtain rfl : x = (s : Int) := by simpa using hx
    omega
  · obtain rfl : x = (s : Int) := by simpa using hx
    obtain rfl : y = (s : Int) := by simpa using hy
    omega
  · have : x ≠ s := fun e => by subst e; simp at hxq
    rw [h1 x hx this] at hx0; omega
theorem Bfs.finish {out : List Int} (b : Bfs N n s out []) : DistL N n s out := by
  have all : ∀ d y, y < n → Wk N n s d y → 0 ≤ at_ out y := by
    intro d
    induction d with
    | zero => intro y hy hw; have : y = s := hw; subst this; exact b.src.2
    | succ d ih =>
      intro y hy ⟨x, hx, hw, hN⟩
      exact b.done x hx (ih x hx hw) (by simp) y hy hN
  refine ⟨b.len, fun y hy => ?_⟩
  have e : at_ out (y : Int) = out.getD y default := by unfold at_; simp
  rw [← e]
  rcases Int.lt_or_le (at_ out y) 0 with h | h
  · exact .inl ⟨b.neg y hy h, fun d hw => by have := all d y hy hw; omega⟩
  · exact .inr ⟨(at_ out y).toNat, (Int.toNat_of_nonneg h).symm, b.vis y hy h⟩
end
end Go.Proofs.Xx

/-
  The distances from a seat.
-/
namespace Go.Proofs.Xx
open Go Go.Proofs
set_option linter.unusedSimpArgs false
set_option linter.unusedVariables false
set_option maxRecDepth 100000

theorem steps_ok {h0 : AH} (w : WfH h0) (t : Tab) (from_ n : Nat) (ht : TabB t) (hn : tsize t = n) (hn2 : n ≤ 1000) (hf : from_ < n) :
    Fn Tryz.prog Xh 93 [tabV t, .int .i64 from_] h0 (fun v h' => ∃ l, DistL (nearP t) n from_ l ∧ Hs h0 h' [.sl v 3 1 eI l]) := by
  have S := Hs.start w
  refine Fn_K rfl Tryz.func93 rfl rfl ?_
  all_goals (repeat' (first | refine K_seq ?_ | refine k_cond rfl ?_ | refine K_skip ?_ | refine K_exit ?_ | refine k_block ?_ | refine K_scope ?_ | (refine K_region (id := 0) ?_; (refine bx S ?_; clear S; intro b h S); refine mv ?_; refine KO_nil ?_) | (refine K_region (id := 1) ?_; (first | refine lB S rfl rfl ?_ | refine lES S rfl rfl ?_ | refine lEB S ?_ | refine lH S ?_))))
  (refine KO_fn rfl rfl rfl rfl rfl ((size_ok S.wf t).mono ?_); rintro _ h ⟨rfl, x⟩) <;> (replace S := S.join0 x; clear x; rw [hn])
  refine m_make (z := 1) (by_ := 8) (enc := eI) (y0 := 0) S rfl rfl rfl rfl rfl rfl rfl rfl rfl (by intro _; rfl) (by first | omega | grind) rfl rfl ?_; clear S; intro v h S; refine mv ?_; refine KO_nil ?_
  simp only [Int.toNat_natCast] at S
  all_goals (repeat' (first | refine K_seq ?_ | refine k_cond rfl ?_ | refine K_skip ?_ | refine K_exit ?_ | refine k_block ?_ | refine K_scope ?_ | (refine K_region (id := 2) ?_; refine mv ?_; (first | refine lnB S ?_ | refine lnS S rfl rfl ?_); refine mv ?_; refine KO_nil ?_)))
  refine k_loop (σ := Nat × List Int) (fun (i, l) h' => Hs h0 h' [.sl v 3 1 eI l, .blk b (eT t) 25] ∧ i ≤ n ∧ l.length = n ∧ ∀ y : Nat, y < i → at_ l y = -1) (fun (i, l) => n - i) (fun (i, l) => [(1, .int .i64 from_), (2, .pointer (some ⟨b, 0, none⟩)), (5, v), (14, v), (15, .int .i64 n), (16, .int .i64 i)]) (0, List.replicate n 0) (by repeat (first | exact Ks.le_nil _ | refine Ks.le_cons rfl ?_ | refine Ks.le_int ?_)) ?_ ?_
  · exact ⟨S, Nat.zero_le _, by simp, fun y hy => absurd hy (Nat.not_lt_zero _)⟩
  rintro ⟨i, l⟩ h ⟨S, h1, h2, h3⟩
  all_goals (repeat' (first | refine K_seq ?_ | refine k_cond rfl ?_ | refine K_skip ?_ | refine K_exit ?_ | refine k_block ?_ | refine K_scope ?_ | (refine K_region (id := 3) ?_; (first | refine cT ?_ | refine cF ?_ | (refine cS ?_ ?_ <;> intro hc)) <;> (refine KO_nil ?_)) | (refine K_region (id := 4) ?_; refine mv ?_; refine mv ?_; refine KO_nil ?_) | (refine K_region (id := 5) ?_; refine mv ?_; refine mv ?_; (first | refine ixB S ?_ | refine ixS S rfl rfl ?_); (first | (refine sB S rfl rfl ?_; clear S; intro h S) | (refine sE S rfl rfl ?_; clear S; intro h S)); refine KO_nil ?_) | (refine K_region (id := 6) ?_; (first | refine ad ?_ | refine vl ?_); refine mv ?_; refine KO_nil ?_) | (refine K_region (id := 7) ?_; refine mv ?_; refine mv ?_; (first | refine ixB S ?_ | refine ixS S rfl rfl ?_); (first | (refine sB S rfl rfl ?_; clear S; intro h S) | (refine sE S rfl rfl ?_; clear S; intro h S)); refine KO_nil ?_) | (refine K_region (id := 8) ?_; refine mv ?_; (refine one 1 S ?_; clear S; intro u h S); refine mv ?_; refine KO_nil ?_)))
  · refine ⟨(i + 1, l.set i (-1)), ?_, ?_, (by repeat (first | exact Ks.le_nil _ | refine Ks.le_cons rfl ?_ | refine Ks.le_int ?_))⟩
    · simp only; omega
    · refine ⟨S, by omega, by simpa using h2, fun y hy => ?_⟩
      rw [at_set l i _ _ (by omega)]
      split
      · rfl
      · rename_i hne; exact h3 y (by simp at hne; omega)
  have hin : i = n := by omega
  have B : Bfs (nearP t) n from_ (l.set from_ 0) [(from_ : Int)] := by
    refine Bfs.start (by simpa using h2) hf ?_ fun y hy hne => ?_
    · rw [at_set l from_ _ _ (by omega), if_pos (by simp)]
    · rw [at_set l from_ _ _ (by omega), if_neg (by simpa using hne)]; exact h3 y (by omega)
  replace S := S.one eI (from_ : Int) rfl
  clear h1 h2 h3 hc hin
  refine k_loop (σ := List Int × List Int × Value) (fun (out, q, vq) h' => Hs h0 h' [.sl vq 3 1 eI q, .sl v 3 1 eI out, .blk b (eT t) 25] ∧ Bfs (nearP t) n from_ out q ∧ rest_ out + q.length ≤ n) (fun (out, q, vq) => rest_ out + q.length) (fun (out, q, vq) => [(2, .pointer (some ⟨b, 0, none⟩)), (5, v), (7, vq)]) (l.set from_ 0, [(from_ : Int)], u) (by repeat (first | exact Ks.le_nil _ | refine Ks.le_cons rfl ?_ | refine Ks.le_int ?_)) ?_ ?_
  · have := B.low from_ hf
    have h0 := B.src.2
    exact ⟨S, B, by simp only [List.length_cons, List.length_nil]; omega⟩
  clear S B
  rintro ⟨out, q, vq⟩ h ⟨S, B, hrq⟩
  all_goals (repeat' (first | refine K_seq ?_ | refine k_cond rfl ?_ | refine K_skip ?_ | refine K_exit ?_ | refine k_block ?_ | refine K_scope ?_ | (refine K_region (id := 9) ?_; refine mv ?_; (first | refine lnB S ?_ | refine lnS S rfl rfl ?_); (first | refine cT ?_ | refine cF ?_ | (refine cS ?_ ?_ <;> intro hc)) <;> (refine KO_nil ?_)) | (refine K_region (id := 10) ?_; refine mv ?_; (first | refine ixB S ?_ | refine ixS S rfl rfl ?_); (first | refine lB S rfl rfl ?_ | refine lES S rfl rfl ?_ | refine lEB S ?_ | refine lH S ?_); refine mv ?_; refine KO_nil ?_) | (refine K_region (id := 11) ?_; refine mv ?_; (refine dr S rfl rfl ?_; clear S; intro vq S); refine mv ?_; refine KO_nil ?_) | (refine K_region (id := 12) ?_; refine mv ?_; (first | refine lnB S ?_ | refine lnS S rfl rfl ?_); refine mv ?_; refine KO_nil ?_) | (refine K_region (id := 19) ?_; refine mv ?_; refine mv ?_; refine KO_nil ?_)))
  · cases q with
    | nil => simp at hc
    | cons k q =>
      clear hc
      have BI := B.take
      obtain ⟨k1, k2, k3⟩ := BI.kin
      have hol := B.len
      rw [List.length_cons] at hrq
      refine k_loop (σ := Nat × List Int × List Int × Value) (fun (m, o2, q2, vq) h' => Hs h0 h' [.sl vq 3 1 eI q2, .sl v 3 1 eI o2, .blk b (eT t) 25] ∧ m ≤ n ∧ BfsIn (nearP t) n from_ o2 q2 k m ∧ rest_ o2 + q2.length ≤ rest_ out + q.length) (fun (m, o2, q2, vq) => n - m) (fun (m, o2, q2, vq) => [(2, .pointer (some ⟨b, 0, none⟩)), (5, v), (7, vq), (8, .int .i64 k), (36, v), (37, .int .i64 n), (38, .int .i64 m)]) (0, out, q, vq) (by repeat (first | exact Ks.le_nil _ | refine Ks.le_cons rfl ?_ | refine Ks.le_int ?_)) ?_ ?_
      · exact ⟨S, Nat.zero_le _, BI, Nat.le_refl _⟩
      clear S BI k3 hol
      rintro ⟨m, o2, q2, vq⟩ h ⟨S, h1, BI, hm⟩
      have hol := BI.len
      have hkk := BI.low k.toNat (by omega)
      rw [Int.toNat_of_nonneg k1] at hkk
      have k3 := BI.kin.2.2
      all_goals (repeat' (first | refine K_seq ?_ | refine k_cond rfl ?_ | refine K_skip ?_ | refine K_exit ?_ | refine k_block ?_ | refine K_scope ?_ | (refine K_region (id := 13) ?_; (first | refine cT ?_ | refine cF ?_ | (refine cS ?_ ?_ <;> intro hc)) <;> (refine KO_nil ?_)) | (refine K_region (id := 14) ?_; refine mv ?_; (first | refine ixB S ?_ | refine ixS S rfl rfl ?_); (first | refine lB S rfl rfl ?_ | refine lES S rfl rfl ?_ | refine lEB S ?_ | refine lH S ?_); refine mv ?_; refine mv ?_; refine KO_nil ?_) | (refine K_region (id := 15) ?_; refine mv ?_; (first | refine cT ?_ | refine cF ?_ | (refine cS ?_ ?_ <;> intro hc)) <;> (refine mv ?_; (first | refine off ?_ | (first | refine lB S rfl rfl ?_ | refine lES S rfl rfl ?_ | refine lEB S ?_ | refine lH S ?_)); (first | refine off ?_ | refine mv ?_); (first | refine off ?_ | refine mv ?_); (first | (refine off ?_; refine vl ?_; refine KO_nil ?_) | skip))) | (refine K_region (id := 16) ?_; refine mv ?_; refine mv ?_; refine mv ?_; refine mv ?_; (first | refine ixB S ?_ | refine ixS S rfl rfl ?_); (first | refine lB S rfl rfl ?_ | refine lES S rfl rfl ?_ | refine lEB S ?_ | refine lH S ?_); (first | refine ad ?_ | refine vl ?_); (first | refine ixB S ?_ | refine ixS S rfl rfl ?_); (first | (refine sB S rfl rfl ?_; clear S; intro h S) | (refine sE S rfl rfl ?_; clear S; intro h S)); refine KO_nil ?_) | (refine K_region (id := 17) ?_; refine mv ?_; refine mv ?_; (refine one 1 S ?_; clear S; intro u h S)) | (refine K_region (id := 18) ?_; (first | refine ad ?_ | refine vl ?_); refine mv ?_; refine KO_nil ?_)))
      · (refine KO_fn rfl rfl rfl rfl rfl ((near_ok S.wf t k m ht (by omega) (by omega)).mono ?_); rintro _ h ⟨⟨rfl, hq⟩ | ⟨rfl, hq⟩, x⟩) <;> (replace S := S.join0 x; clear x; refine vl ?_; refine KO_nil ?_)
        all_goals (repeat' (first | refine K_seq ?_ | refine k_cond rfl ?_ | refine K_skip ?_ | refine K_exit ?_ | refine k_block ?_ | refine K_scope ?_ | (refine K_region (id := 16) ?_; refine mv ?_; refine mv ?_; refine mv ?_; refine mv ?_; (first | refine ixB S ?_ | refine ixS S rfl rfl ?_); (first | refine lB S rfl rfl ?_ | refine lES S rfl rfl ?_ | refine lEB S ?_ | refine lH S ?_); (first | refine ad ?_ | refine vl ?_); (first | refine ixB S ?_ | refine ixS S rfl rfl ?_); (first | (refine sB S rfl rfl ?_; clear S; intro h S) | (refine sE S rfl rfl ?_; clear S; intro h S)); refine KO_nil ?_) | (refine K_region (id := 17) ?_; refine mv ?_; refine mv ?_; (refine one 1 S ?_; clear S; intro u h S)) | (refine K_region (id := 18) ?_; (first | refine ad ?_ | refine vl ?_); refine mv ?_; refine KO_nil ?_)))
        · refine app  S rfl rfl ?_; clear S; intro v h S; refine mv ?_; refine KO_nil ?_
          all_goals (repeat' (first | refine K_seq ?_ | refine k_cond rfl ?_ | refine K_skip ?_ | refine K_exit ?_ | refine k_block ?_ | refine K_scope ?_ | (refine K_region (id := 18) ?_; (first | refine ad ?_ | refine vl ?_); refine mv ?_; refine KO_nil ?_)))
          have hmn : m < n := by omega
          have hneg : at_ o2 m < 0 := hc
          have hr := rest_set o2 m (at_ o2 k + 1) (by omega) (by simpa using hneg) (by omega)
          refine ⟨(m + 1, o2.set m (at_ o2 k + 1), q2 ++ [(m : Int)], v), ?_, ?_, (by repeat (first | exact Ks.le_nil _ | refine Ks.le_cons rfl ?_ | refine Ks.le_int ?_))⟩
          · simp only; omega
          · exact ⟨S, by omega, BI.meet (by omega) hq hneg, by rw [List.length_append, List.length_cons, List.length_nil]; omega⟩
        · refine ⟨(m + 1, o2, q2, vq), ?_, ?_, (by repeat (first | exact Ks.le_nil _ | refine Ks.le_cons rfl ?_ | refine Ks.le_int ?_))⟩
          · simp only; omega
          · exact ⟨S, by omega, BI.pass (fun q => absurd q hq), hm⟩
      · refine ⟨(m + 1, o2, q2, vq), ?_, ?_, (by repeat (first | exact Ks.le_nil _ | refine Ks.le_cons rfl ?_ | refine Ks.le_int ?_))⟩
        · simp only; omega
        · exact ⟨S, by omega, BI.pass (fun _ => Int.not_lt.1 hc), hm⟩
      · refine ⟨(o2, q2, vq), ?_, ?_, (by repeat (first | exact Ks.le_nil _ | refine Ks.le_cons rfl ?_ | refine Ks.le_int ?_))⟩
        · simp only [List.length_cons]; omega
        · exact ⟨S, BI.back (by omega), by omega⟩
  · refine K_ret ⟨_, rfl, ?_⟩
    have : q = [] := by
      cases q with
      | nil => rfl
      | cons k q => simp at hc
    subst this
    exact ⟨out, B.finish, S.only (.there .here)⟩
end Go.Proofs.Xx

/-
  A region whose order is open and where some reads have no fixed place: the blocks that they read keep their value.
-/
namespace Go.Proofs.Xx
open Go
set_option linter.unusedSimpArgs false
set_option linter.unusedVariables false

/-- The block that a pointer or a slice points into. -/
def blkOf : Value → Nat
  | .pointer (some ⟨b, _, _⟩) => b
  | .slice (some ⟨b, _, _⟩) _ _ => b
  | _ => 0
/-- The block that an operation looks at. -/
def rdBlk (t : Tr Value) (op : Op) : Option Nat :=
  match op with
  | .load _ a => match evA t a with | some v => some (blkOf v) | none => none
  | .slice _ x _ _ _ => match evA t x with | some v => some (blkOf v) | none => none
  | _ => none
theorem cellsAt_same {h k : AH} {v : Value} (e : k.get (blkOf v) = h.get (blkOf v)) : cellsAt k v = cellsAt h v := by
  unfold cellsAt
  split
  · simp only [blkOf] at e
    rw [e]
  · rfl
theorem aLoad_same {P : Program} {ty : TypeId} {h k : AH} {v : Value} (e : k.get (blkOf v) = h.get (blkOf v)) : aLoad P ty v k = aLoad P ty v h := by
  unfold aLoad; rw [cellsAt_same e]
theorem aSlice_same {P : Program} {ty : TypeId} {h k : AH} {v : Value} {a b c : Option Value} (e : k.get (blkOf v) = h.get (blkOf v)) : aSlice P ty v a b c k = aSlice P ty v a b c h := by
  unfold aSlice
  split
  · rfl
  · rfl
  · simp only [blkOf] at e; rw [e]
  · simp only [blkOf] at e; rw [e]
  · rfl
theorem aOp_same {P : Program} {t : Tr Value} {op : Op} {h k : AH} {b : Nat} {v : Value} {u : AH} (hb : rdBlk t op = some b) (e : k.get b = h.get b) (ha : aOp P t h op = some (.val v u)) : ∃ u', aOp P t k op = some (.val v u') := by
  cases op <;> simp only [rdBlk] at hb <;> try (cases hb)
  · rename_i ty a
    split at hb
    · rename_i x hx
      cases hb
      simp only [aOp, hx, aLoad_same e] at ha ⊢
      cases hl : aLoad P ty x h with
      | none => rw [hl] at ha; cases ha
      | some y => rw [hl] at ha; cases ha; exact ⟨_, rfl⟩
    · cases hb
  · rename_i ty a lo hi mx
    split at hb
    · rename_i x hx
      cases hb
      simp only [aOp, hx] at ha ⊢
      cases h1 : evOpt t lo with
      | none => rw [h1] at ha; cases ha
      | some l =>
        cases h2 : evOpt t hi with
        | none => rw [h1, h2] at ha; cases ha
        | some r =>
          cases h3 : evOpt t mx with
          | none => rw [h1, h2, h3] at ha; cases ha
          | some m =>
            rw [h1, h2, h3] at ha
            simp only at ha
            simp only [aSlice_same e]
            cases hl : aSlice P ty x l r m h with
            | none => rw [hl] at ha; cases ha
            | some y => rw [hl] at ha; cases ha; exact ⟨_, rfl⟩
    · cases hb

/-- How many operations of the chain stand before the i-th. -/
def cntX (ops : Array Oper) (fl : List Nat) (i : Nat) : Nat := ((List.range i).filter (chainAt ops fl)).length
def winOf : List (Nat × Nat × Nat) → Nat → Option (Nat × Nat)
  | [], _ => none
  | (j, lo, hi) :: r, i => match Nat.beq j i with | true => some (lo, hi) | false => winOf r i
/-- A conversion of an integer looks at no block. -/
def cvInt (t : Tr Value) (op : Op) : Bool :=
  match op with
  | .convert _ _ x => match evA t x with | some (.int _ _) => true | _ => false
  | _ => false
def blkFor : List (Nat × Nat × Nat) → List (Option Nat) → Nat → Option (Option Nat)
  | (j, _, _) :: r, b :: s, i => match Nat.beq j i with | true => some b | false => blkFor r s i
  | _, _, _ => none
/-- The watched blocks are as they were, over the step m of the chain. -/
def keepsX : List (Nat × Nat × Nat) → List (Option Nat) → Nat → AH → AH → Prop
  | (_, lo, hi) :: r, some b :: s, m, h, h' => ((Nat.ble lo m && Nat.blt m hi) = true → h'.get b = h.get b) ∧ keepsX r s m h h'
  | _ :: r, none :: s, m, h, h' => keepsX r s m h h'
  | _, _, _, _, _ => True
theorem keepsX.get {h h' : AH} {m i lo hi b : Nat} : ∀ {rd : List (Nat × Nat × Nat)} {bl : List (Option Nat)}, keepsX rd bl m h h' → winOf rd i = some (lo, hi) → blkFor rd bl i = some (some b) → lo ≤ m → m < hi → h'.get b = h.get b
  | [], _, _, hw, _, _, _ => by cases hw
  | _ :: _, [], _, _, hb, _, _ => by cases hb
  | (j, l, r) :: rd, some c :: s, k, hw, hb, h1, h2 => by
    simp only [winOf] at hw
    simp only [blkFor] at hb
    split at hw
    · rename_i e
      rw [e] at hb
      cases hw; cases hb
      exact k.1 (by rw [Bool.and_eq_true]; exact ⟨Nat.ble_eq_true_of_le h1, Nat.ble_eq_true_of_le h2⟩)
    · rename_i e
      rw [e] at hb
      exact keepsX.get k.2 hw hb h1 h2
  | (j, l, r) :: rd, none :: s, k, hw, hb, h1, h2 => by
    simp only [winOf] at hw
    simp only [blkFor] at hb
    split at hw
    · rename_i e
      rw [e] at hb
      cases hb
    · rename_i e
      rw [e] at hb
      exact keepsX.get (rd := rd) (bl := s) k hw hb h1 h2

section
variable (P : Program) (ops : Array Oper) (fl : List Nat) (ids : List (Nat × Nat)) (rd : List (Nat × Nat × Nat)) (bl : List (Option Nat))
/-- An operation looks at the block b. -/
abbrev looksX (i : Nat) (o : Oper) (t : Tr Value) (h : AH) (b : Nat) : Prop :=
  match idOf ids i with
  | none => rdBlk t o.op = some b
  | some b' => b' = b ∧ ∃ x c e, aFloat P t o.op = some (x, c, e) ∧ h.get b = some (.cells c e none false)
/-- What a step has to keep. -/
abbrev StepX (i : Nat) (o : Oper) (t : Tr Value) (h h' : AH) : Prop :=
  (match blkFor rd bl i with | some (some b) => guardA ops t o.guard = some false ∨ looksX P ids i o t h b | some none => (guardA ops t o.guard = some false ∨ cvInt t o.op = true) ∧ idOf ids i = none | none => True) ∧ (match chainAt ops fl i with | true => keepsX rd bl (cntX ops fl i) h h' | false => h' = h)
def drawX : Bool :=
  planOk ops (masks ops.toList []) fl && (floatsOf ops (masks ops.toList []) == fl) &&
    (List.range ops.size).all fun i => chainAt ops fl i || match winOf rd i with
      | some (lo, hi) => (Nat.ble lo (cntX ops fl i) && Nat.ble (cntX ops fl i) hi) && (List.range (((List.range ops.size).filter (chainAt ops fl)).length + 1)).all fun m => farOff (masks ops.toList []) ((List.range ops.size).filter (chainAt ops fl)) m i || (Nat.ble lo m && Nat.ble m hi)
      | none => match ops[i]? with | some o => !hasN fl i && calmAt [] (masks ops.toList []) ((List.range ops.size).filter (chainAt ops fl)) i o.op | none => false
end
def WOX (P : Program) (X : Extern) (sz : Nat) (ops : Array Oper) (fl : List Nat) (ids : List (Nat × Nat)) (rd : List (Nat × Nat × Nat)) (bl : List (Option Nat)) (i : Nat) (os : List Oper) (t : Tr Value) (h : AH) (R : Tr Value → AH → Prop) : Prop :=
  ∃ n l t' h', runD P X (exec P X n) sz ops ids false i os t h = some (l, t', h') ∧ (∀ k o, os[k]? = some o → ∃ s, l[k]? = some s ∧ (s.go = true → guardA ops s.t o.guard = some true) ∧ StepX P ops fl ids rd bl (i + k) o s.t s.h (hpAt l h' (k + 1))) ∧ hpAt l h' 0 = h ∧ R t' h'
theorem aFloat_le {P : Program} {u t : Tr Value} (hl : TLe u t) {op : Op} {x : Option Nat × List Value × TypeId} (h : aFloat P u op = some x) : aFloat P t op = some x := by
  cases op <;> simp only [aFloat] at h ⊢ <;> try exact h
  · split at h
    · rename_i hx; rw [evA_le hl hx]; exact h
    · cases h
  · split at h
    · rename_i e1 e2; rw [evParts_le hl e1, e2]; exact h
    · cases h
theorem looksX.le {P : Program} {ids : List (Nat × Nat)} {i : Nat} {o : Oper} {u t : Tr Value} (hl : TLe u t) {h : AH} {b : Nat} (k : looksX P ids i o u h b) (hrd : ∀ {op : Op} {b : Nat}, rdBlk u op = some b → rdBlk t op = some b) : looksX P ids i o t h b := by
  unfold looksX at k ⊢
  split
  · rename_i e; rw [e] at k; exact hrd k
  · rename_i b' e
    rw [e] at k
    obtain ⟨k1, x, c, ee, k2, k3⟩ := k
    exact ⟨k1, x, c, ee, aFloat_le hl k2, k3⟩
theorem rdBlk_le {u t : Tr Value} (hl : TLe u t) {op : Op} {b : Nat} (h : rdBlk u op = some b) : rdBlk t op = some b := by
  cases op <;> simp only [rdBlk] at h ⊢ <;> try exact h
  · split at h
    · rename_i hx; rw [evA_le hl hx]; exact h
    · cases h
  · split at h
    · rename_i hx; rw [evA_le hl hx]; exact h
    · cases h
theorem cvInt_le {u t : Tr Value} (hl : TLe u t) {op : Op} (h : cvInt u op = true) : cvInt t op = true := by
  cases op <;> simp only [cvInt] at h ⊢ <;> try exact h
  split at h
  · rename_i hx; rw [evA_le hl hx]
  · cases h
theorem opA_cv {P : Program} {X : Extern} {run : Runner} {t : Tr Value} {h h1 k : AH} {op : Op} {v : Value} (hr : cvInt t op = true) (hv : opA P X run t h op = some (v, h1)) : ∃ u, aOp P t k op = some (.val v u) := by
  cases op <;> simp only [cvInt] at hr <;> try (cases hr)
  rename_i s d x
  split at hr
  · rename_i kk n hx
    have e1 : ∀ g : AH, aToString P s d (.int kk n) g = none := by intro g; unfold aToString; split <;> first | rfl | (rename_i q; cases q)
    have e2 : ∀ g : AH, aUnsafePtr P s d (.int kk n) g = none := by intro g; unfold aUnsafePtr; split <;> first | rfl | (rename_i q; cases q)
    have e : ∀ g : AH, aOp P t g (.convert s d x) = (match aConvert P s d (.int kk n) with | some v => some (.val v g) | none => none) := by
      intro g
      simp only [aOp, hx, e1, e2, nextOf]
      cases aConvert P s d (.int kk n) <;> rfl
    unfold opA at hv
    rw [e h] at hv
    rw [e k]
    cases hw : aConvert P s d (.int kk n) with
    | none => rw [hw] at hv; cases hv
    | some w => rw [hw] at hv; cases hv; exact ⟨_, rfl⟩
  · cases hr

section
variable {P : Program} {X : Extern} {inR : Bool} {sz : Nat} {L : Ks} {h : AH} {Q : KQ} {ops : Array Oper} {fl : List Nat} {ids : List (Nat × Nat)} {rd : List (Nat × Nat × Nat)} {bl : List (Option Nat)} {i : Nat} {o : Oper} {os : List Oper}
theorem StepX.le {u t : Tr Value} (hl : TLe u t) {h h' : AH} (k : StepX P ops fl ids rd bl i o u h h') : StepX P ops fl ids rd bl i o t h h' := by
  refine ⟨?_, k.2⟩
  have := k.1
  split at this
  · rename_i b hb
    exact this.imp (guardA_le hl) (fun k => looksX.le hl k (rdBlk_le hl))
  · exact ⟨this.1.imp (guardA_le hl) (cvInt_le hl), this.2⟩
  · trivial

/-- From the step i (m steps of the chain are done) on, a block not yet looked at may be told anew. -/
def agreeBl (i m : Nat) : List (Nat × Nat × Nat) → List (Option Nat) → List (Option Nat) → Prop
  | [], [], [] => True
  | (j, lo, _) :: rd, a :: s, b :: u => (match Nat.blt j i || Nat.blt lo m with | true => a = b | false => True) ∧ agreeBl i m rd s u
  | _, _, _ => False
theorem agreeBl.refl (i m : Nat) : ∀ {rd : List (Nat × Nat × Nat)} {bl : List (Option Nat)}, rd.length = bl.length → agreeBl i m rd bl bl
  | [], [], _ => trivial
  | (j, lo, hi) :: rd, a :: s, h => ⟨by split <;> trivial, agreeBl.refl i m (by simpa using h)⟩
  | [], _ :: _, h => by cases h
  | _ :: _, [], h => by cases h
theorem agreeBl.len {i m : Nat} : ∀ {rd : List (Nat × Nat × Nat)} {a b : List (Option Nat)}, agreeBl i m rd a b → rd.length = a.length ∧ rd.length = b.length
  | [], [], [], _ => ⟨rfl, rfl⟩
  | (j, lo, hi) :: rd, a :: s, b :: u, h => by have := h.2.len; exact ⟨by rw [List.length_cons, List.length_cons, this.1], by rw [List.length_cons, List.length_cons, this.2]⟩
  | [], _ :: _, _, h => by cases h
  | [], [], _ :: _, h => by cases h
  | _ :: _, [], _, h => by cases h
  | _ :: _, _ :: _, [], h => by cases h
theorem agreeBl.trans {i m i' m' : Nat} (hi : i ≤ i') (hm : m ≤ m') : ∀ {rd : List (Nat × Nat × Nat)} {a b c : List (Option Nat)}, agreeBl i m rd a b → agreeBl i' m' rd b c → agreeBl i m rd a c
  | [], [], [], [], _, _ => trivial
  | (j, lo, hi') :: rd, a :: s, b :: u, c :: v, h, g => by
    refine ⟨?_, h.2.trans hi hm g.2⟩
    have h1 := h.1
    have g1 := g.1
    split
    · rename_i q
      rw [q] at h1
      have q' : (Nat.blt j i' || Nat.blt lo m') = true := by
        rw [Bool.or_eq_true, Nat.blt_eq, Nat.blt_eq] at q ⊢
        omega
      rw [q'] at g1
      exact h1.trans g1
    · trivial
  | [], _ :: _, _, _, h, _ => by cases h
  | [], [], _ :: _, _, h, _ => by cases h
  | _ :: _, [], _, _, h, _ => by cases h
  | _ :: _, _ :: _, [], _, h, _ => by cases h
  | [], [], [], _ :: _, _, g => by cases g
  | _ :: _, _ :: _, _ :: _, [], _, g => by cases g
theorem agreeBl.at_ {i m k : Nat} (hk : k < i) : ∀ {rd : List (Nat × Nat × Nat)} {a b : List (Option Nat)}, agreeBl i m rd a b → blkFor rd a k = blkFor rd b k
  | [], [], [], _ => rfl
  | (j, lo, hi) :: rd, a :: s, b :: u, h => by
    simp only [blkFor]
    split
    · rename_i q
      have := Nat.eq_of_beq_eq_true q
      subst this
      have h1 := h.1
      rw [show (Nat.blt j i || Nat.blt lo m) = true by rw [Bool.or_eq_true, Nat.blt_eq]; exact .inl hk] at h1
      rw [h1]
    · exact h.2.at_ hk
  | [], _ :: _, _, h => by cases h
  | [], [], _ :: _, h => by cases h
  | _ :: _, [], _, h => by cases h
  | _ :: _, _ :: _, [], h => by cases h
theorem agreeBl.keeps {i m k : Nat} (hk : k < m) {h h' : AH} : ∀ {rd : List (Nat × Nat × Nat)} {a b : List (Option Nat)}, agreeBl i m rd a b → keepsX rd a k h h' → keepsX rd b k h h'
  | [], [], [], _, _ => trivial
  | (j, lo, hi) :: rd, a :: s, b :: u, g, q => by
    have g1 := g.1
    by_cases c : lo < m
    · rw [show (Nat.blt j i || Nat.blt lo m) = true by rw [Bool.or_eq_true, Nat.blt_eq, Nat.blt_eq]; exact .inr c] at g1
      simp only at g1
      subst g1
      cases a with
      | none => exact g.2.keeps hk q
      | some x => exact ⟨q.1, g.2.keeps hk q.2⟩
    · have hq : keepsX rd s k h h' := by cases a with
        | none => exact q
        | some x => exact q.2
      cases b with
      | none => exact g.2.keeps hk hq
      | some x => exact ⟨fun e => absurd (Nat.le_of_ble_eq_true ((Bool.and_eq_true _ _).mp e).1) (by omega), g.2.keeps hk hq⟩
  | [], _ :: _, _, h, _ => by cases h
  | [], [], _ :: _, h, _ => by cases h
  | _ :: _, [], _, h, _ => by cases h
  | _ :: _, _ :: _, [], h, _ => by cases h
def KOX (P : Program) (X : Extern) (sz : Nat) (ops : Array Oper) (fl : List Nat) (ids : List (Nat × Nat)) (rd : List (Nat × Nat × Nat)) (bl : List (Option Nat)) (i : Nat) (os : List Oper) (L : Ks) (h : AH) (R : Ks → AH → Prop) : Prop :=
  rd.length = bl.length → ∀ t, Kn t L → ∃ bl', agreeBl i (cntX ops fl i) rd bl bl' ∧ WOX P X sz ops fl ids rd bl' i os t h (fun t' h' => ∃ L', Kn t' L' ∧ R L' h')

theorem KX_nil {R : Ks → AH → Prop} (hq : R L h) : KOX P X sz ops fl ids rd bl i [] L h R := fun hn t hk => ⟨bl, agreeBl.refl _ _ hn, 0, [], t, h, rfl, fun k o ho => by simp at ho, rfl, L, hk, hq⟩
theorem KX_set {R : Ks → AH → Prop} (bl2 : List (Option Nat)) (ha : agreeBl i (cntX ops fl i) rd bl bl2) (w : KOX P X sz ops fl ids rd bl2 i os L h R) : KOX P X sz ops fl ids rd bl i os L h R := fun hn t hk => by
  obtain ⟨bl', a, q⟩ := w ha.len.2 t hk
  exact ⟨bl', ha.trans (Nat.le_refl _) (Nat.le_refl _) a, q⟩
theorem cntX_step (k : Nat) : cntX ops fl k ≤ cntX ops fl (k + 1) ∧ (chainAt ops fl k = true → cntX ops fl k < cntX ops fl (k + 1)) := by
  unfold cntX
  rw [List.range_succ, List.filter_append, List.length_append]
  cases hk : chainAt ops fl k <;> simp [List.filter_cons, hk]
/-- What the step i keeps, it keeps for the blocks told later. -/
theorem StepX.agree {bl' : List (Option Nat)} (a : agreeBl (i + 1) (cntX ops fl (i + 1)) rd bl bl') {t : Tr Value} {h h' : AH} (k : StepX P ops fl ids rd bl i o t h h') : StepX P ops fl ids rd bl' i o t h h' := by
  refine ⟨?_, ?_⟩
  · rw [← a.at_ (Nat.lt_succ_self i)]; exact k.1
  · have k2 := k.2
    cases hc : chainAt ops fl i with
    | true =>
      rw [hc] at k2
      exact a.keeps ((cntX_step (ops := ops) (fl := fl) i).2 hc) k2
    | false => rw [hc] at k2; exact k2

theorem KX_cons {R : Ks → AH → Prop} (w : KO P X sz ops [o] L h (fun L' h' => StepX P ops fl ids rd bl i o L.tree h h' ∧ KOX P X sz ops fl ids rd bl (i + 1) os L' h' R)) (hid : idOf ids i = none := by exact rfl) : KOX P X sz ops fl ids rd bl i (o :: os) L h R := fun hn t hk => by
  obtain ⟨n, t1, h1, e1, L', k1, sx, w2⟩ := w t hk
  obtain ⟨bl', ag, n2, l, t2, h2, e2, g2, z2, L2, k2, q2⟩ := w2 hn t1 k1
  have hx := (sx.le hk.tle).agree ag
  refine ⟨bl', (agreeBl.refl _ _ hn).trans (Nat.le_succ _) (cntX_step (ops := ops) (fl := fl) i).1 ag, ?_⟩
  have M := runD_mono (P := P) (X := X) (exec_le (P := P) (X := X) (Nat.le_max_right n n2)) (sz := sz) (ops := ops) (ids := ids) (pl := false) os (i + 1) t1 h1 _ e2
  have e3 := opsA_mono (P := P) (X := X) (exec_le (P := P) (X := X) (Nat.le_max_left n n2)) (sz := sz) (ops := ops) [o] t h _ e1
  have key : ∀ (go : Bool) (v : Value), (go = true → guardA ops t o.guard = some true) → ∀ k o', (o :: os)[k]? = some o' → ∃ s, ((⟨t, h, go, v⟩ : DStep) :: l)[k]? = some s ∧ (s.go = true → guardA ops s.t o'.guard = some true) ∧ StepX P ops fl ids rd bl' (i + k) o' s.t s.h (hpAt ((⟨t, h, go, v⟩ : DStep) :: l) h2 (k + 1)) := by
    intro go v hgo k o' ho
    cases k with
    | zero =>
      simp only [List.getElem?_cons_zero, Option.some.injEq] at ho
      subst ho
      refine ⟨_, rfl, hgo, ?_⟩
      have : hpAt ((⟨t, h, go, v⟩ : DStep) :: l) h2 (0 + 1) = h1 := by rw [← z2]; simp [hpAt]
      rw [this]
      exact hx
    | succ k =>
      simp only [List.getElem?_cons_succ] at ho
      obtain ⟨s, s1, s2, s3⟩ := g2 k o' ho
      refine ⟨s, by simpa using s1, s2, ?_⟩
      have : hpAt ((⟨t, h, go, v⟩ : DStep) :: l) h2 (k + 1 + 1) = hpAt l h2 (k + 1) := by simp [hpAt]
      rw [this, show i + (k + 1) = i + 1 + k by omega]
      exact s3
  simp only [opsA] at e3
  split at e3
  · rename_i hg
    split at e3
    · rename_i v h3 ho
      split at e3
      · rename_i t3 hp
        cases e3
        exact ⟨max n n2, ⟨t, h, true, v⟩ :: l, t2, h2, by simp only [runD, hg, stepD, hid, ho, hp, M, consD], key true v (fun _ => hg), rfl, L2, k2, q2⟩
      · cases e3
    · cases e3
  · rename_i hg
    split at e3
    · rename_i t3 hp
      cases e3
      exact ⟨max n n2, ⟨t, h, false, .tuple #[]⟩ :: l, t2, h2, by simp only [runD, hg, hp, M, consD], key false _ (fun q => by cases q), rfl, L2, k2, q2⟩
    · cases e3
  · cases e3

theorem KX_fl {R : Ks → AH → Prop} {b : Nat} {L' : Ks} {x : Option Nat} {c : List Value} {e : TypeId} (hi : idOf ids i = some b) (hf : aFloat P L.tree o.op = some (x, c, e)) (hb : h.get b = some (.cells c e none false)) (hbl : blkFor rd bl i = some (some b)) (hc : chainAt ops fl i = false)
    (hg : guardA ops L.tree o.guard = some true) (hp : putK sz L o.dst (mkFloat x b) = some L') (w : KOX P X sz ops fl ids rd bl (i + 1) os L' h R) : KOX P X sz ops fl ids rd bl i (o :: os) L h R := fun hn t hk => by
  obtain ⟨t1, e1, k1⟩ := putK_ok hk hp
  obtain ⟨bl', ag, n2, l, t2, h2, e2, g2, z2, q2⟩ := w hn t1 k1
  rw [ag.at_ (Nat.lt_succ_self i)] at hbl
  refine ⟨bl', (agreeBl.refl _ _ hn).trans (Nat.le_succ _) (cntX_step (ops := ops) (fl := fl) i).1 ag, ?_⟩
  have hf' := aFloat_le hk.tle hf
  have hg' := guardA_le hk.tle hg
  refine ⟨n2, ⟨t, h, true, mkFloat x b⟩ :: l, t2, h2, by simp only [runD, hg', stepD, hi, hf', e1, e2, consD], ?_, rfl, q2⟩
  intro k o' ho
  cases k with
  | zero =>
    simp only [List.getElem?_cons_zero, Option.some.injEq] at ho
    subst ho
    refine ⟨_, rfl, fun _ => hg', ?_⟩
    have : hpAt ((⟨t, h, true, mkFloat x b⟩ : DStep) :: l) h2 (0 + 1) = h := by rw [← z2]; simp [hpAt]
    rw [this, Nat.add_zero]
    refine ⟨?_, ?_⟩
    · rw [hbl]
      refine .inr ?_
      unfold looksX
      rw [hi]
      exact ⟨rfl, x, c, e, hf', hb⟩
    · rw [hc]
  | succ k =>
    simp only [List.getElem?_cons_succ] at ho
    obtain ⟨s, s1, s2, s3⟩ := g2 k o' ho
    refine ⟨s, by simpa using s1, s2, ?_⟩
    have : hpAt ((⟨t, h, true, mkFloat x b⟩ : DStep) :: l) h2 (k + 1 + 1) = hpAt l h2 (k + 1) := by simp [hpAt]
    rw [this, show i + (k + 1) = i + 1 + k by omega]
    exact s3

theorem opA_read {run : Runner} {t : Tr Value} {h h1 : AH} {op : Op} {b : Nat} {v : Value} (hr : rdBlk t op = some b) (hv : opA P X run t h op = some (v, h1)) : ∃ u, aOp P t h op = some (.val v u) := by
  unfold opA at hv
  have key : ∀ o' : Option Value, aOp P t h op = nextOf o' h → ∃ u, aOp P t h op = some (.val v u) := by
    intro o' ho
    rw [ho] at hv ⊢
    cases o' with
    | none => cases hv
    | some y => cases hv; exact ⟨_, rfl⟩
  cases op <;> simp only [rdBlk] at hr <;> try (cases hr)
  · rename_i ty a
    split at hr
    · rename_i x hx
      exact key (aLoad P ty x h) (by simp only [aOp, hx])
    · cases hr
  · rename_i ty a lo hi mx
    split at hr
    · rename_i x hx
      cases h1 : evOpt t lo with
      | none => simp only [aOp, hx, h1] at hv; cases hv
      | some l =>
        cases h2 : evOpt t hi with
        | none => simp only [aOp, hx, h1, h2] at hv; cases hv
        | some r =>
          cases h3 : evOpt t mx with
          | none => simp only [aOp, hx, h1, h2, h3] at hv; cases hv
          | some m => exact key (aSlice P ty x l r m h) (by simp only [aOp, hx, h1, h2, h3])
    · cases hr

theorem range_filter_at {p : Nat → Bool} : ∀ (n m i : Nat), ((List.range n).filter p)[m]? = some i → ((List.range i).filter p).length = m ∧ p i = true ∧ i < n
  | 0, m, i, h => by simp at h
  | n + 1, m, i, h => by
    rw [List.range_succ, List.filter_append] at h
    rw [List.getElem?_append] at h
    split at h
    · obtain ⟨a, b, c⟩ := range_filter_at n m i h
      exact ⟨a, b, by omega⟩
    · rename_i hm
      cases hp : p n with
      | false => simp [hp] at h
      | true =>
        simp only [List.filter_cons, hp, if_true, List.filter_nil] at h
        cases hd : m - ((List.range n).filter p).length with
        | zero =>
          rw [hd] at h
          simp only [List.getElem?_cons_zero, Option.some.injEq] at h
          subst h
          exact ⟨by omega, hp, by omega⟩
        | succ k => rw [hd] at h; simp at h
theorem cntX_succ (k : Nat) : cntX ops fl (k + 1) = cntX ops fl k + (if chainAt ops fl k then 1 else 0) := by
  unfold cntX
  rw [List.range_succ, List.filter_append, List.length_append]
  cases hk : chainAt ops fl k <;> simp [List.filter_cons, hk]

theorem opsD2_drawX {t : Tr Value} {Q : Tr Value → AH → Prop} (hd : drawX ops fl rd = true) (hid : ∀ i b, idOf ids i = some b → hasN fl i = true) (hlen : rd.length = bl.length) (w : WOX P X sz ops fl ids rd bl 0 ops.toList t h Q) :
    ∃ n t' h', opsD2 P X (exec P X n) sz ops (masks ops.toList []) fl ids t h = some (t', h') ∧ Q t' h' := by
  obtain ⟨n, l, t', h', hl, hg, hz, hq⟩ := w
  refine ⟨n, _, _, ?_, hq⟩
  unfold drawX at hd
  rw [Bool.and_eq_true, Bool.and_eq_true, List.all_eq_true] at hd
  obtain ⟨⟨hp, hf⟩, hs⟩ := hd
  obtain ⟨q1, q2, q3, q4⟩ := runD_spec ops.toList 0 t h l t' h' hl
  have hbl : ∀ (rd : List (Nat × Nat × Nat)) (bl : List (Option Nat)) (i lo hi : Nat), rd.length = bl.length → winOf rd i = some (lo, hi) → ∃ b, blkFor rd bl i = some b := by
    intro rd
    induction rd with
    | nil => intro bl i lo hi _ hw; cases hw
    | cons a rd ih =>
      intro bl i lo hi hn hw
      obtain ⟨j, a1, a2⟩ := a
      cases bl with
      | nil => simp at hn
      | cons b bl =>
        simp only [winOf] at hw
        simp only [blkFor]
        split
        · exact ⟨b, rfl⟩
        · rename_i e
          rw [e] at hw
          exact ih bl i lo hi (by simpa using hn) hw
  have hopd : opsD2 P X (exec P X n) sz ops (masks ops.toList []) fl ids t h = some (t', h') := by
    unfold opsD2
    rw [hl]
    simp only
    split
    · rfl
    · rw [if_pos]
      intro i hi hc o s ho hs' hgo hcalm m k hm hfar
      have h1 := hs i (List.mem_range.2 hi)
      rw [hc, Bool.false_or] at h1
      cases hw : winOf rd i with
      | none =>
        rw [hw] at h1
        simp only [ho, Bool.and_eq_true, Bool.not_eq_true'] at h1
        have hn : idOf ids i = none := by
          cases hq : idOf ids i with
          | none => rfl
          | some b => rw [hid i b hq] at h1; cases h1.1
        have h2 := h1.2
        unfold calmAt at hcalm h2
        simp only [hn, idOf] at hcalm h2
        rw [h2] at hcalm; cases hcalm
      | some lh =>
        obtain ⟨lo, hi'⟩ := lh
        rw [hw] at h1
        simp only [Bool.and_eq_true, List.all_eq_true, Bool.or_eq_true] at h1
        obtain ⟨⟨a1, a2⟩, a3⟩ := h1
        have a1 := Nat.le_of_ble_eq_true a1
        have a2 := Nat.le_of_ble_eq_true a2
        obtain ⟨ob, hb⟩ := hbl rd bl i lo hi' hlen hw
        obtain ⟨s2, e2, hgs, sx⟩ := hg i o (by rw [Array.getElem?_toList]; exact ho)
        rw [hs'] at e2
        cases e2
        obtain ⟨s3, e3, sf⟩ := q4 i o (by rw [Array.getElem?_toList]; exact ho)
        rw [hs'] at e3
        cases e3
        have hv := sf.2.2.1 hgo
        cases ob with
        | none =>
          have := sx.1
          rw [Nat.zero_add, hb] at this
          obtain ⟨this, hn⟩ := this
          simp only [stepD, Nat.zero_add, hn] at hv
          unfold OkAtP
          rw [hn]
          rcases this with q | q
          · rw [hgs hgo] at q; cases q
          · exact opA_cv q hv
        | some b =>
        -- the heaps of the window agree on b
        have agree : ∀ q p, p ≤ q → q ≤ ops.size → lo ≤ cntX ops fl p → cntX ops fl q ≤ hi' → (hpAt l h' q).get b = (hpAt l h' p).get b := by
          intro q
          induction q with
          | zero => intro p hp _ _ _; rw [Nat.le_zero.1 hp]
          | succ q ih =>
            intro p hp hqs hlo hhi
            rcases Nat.eq_or_lt_of_le hp with e | e
            · rw [e]
            · have hc1 := cntX_succ (ops := ops) (fl := fl) q
              have hmono : ∀ a c, a ≤ c → cntX ops fl a ≤ cntX ops fl c := by
                intro a c hac
                induction hac with
                | refl => exact Nat.le_refl _
                | step _ ih2 => rw [cntX_succ]; omega
              have hpq := hmono p q (by omega)
              rw [← ih p (by omega) (by omega) hlo (by omega)]
              obtain ⟨s2, e2, _, sx⟩ := hg q ops[q] (by rw [Array.getElem?_toList]; exact Array.getElem?_eq_getElem (by omega))
              have hsh : hpAt l h' q = s2.h := by unfold hpAt; rw [e2]
              rw [hsh]
              have sx2 := sx.2
              rw [Nat.zero_add] at sx2
              split at sx2
              · rename_i hch
                rw [hch, if_pos rfl] at hc1
                exact sx2.get hw hb (by omega) (by omega)
              · rw [sx2]
        have hpos : ∃ p, p ≤ ops.size ∧ cntX ops fl p = m ∧ k = hpAt l h' p := by
          cases m with
          | zero =>
            simp only [List.getElem?_cons_zero, Option.some.injEq] at hm
            exact ⟨0, by omega, by simp [cntX], by rw [← hm, q2]⟩
          | succ m =>
            simp only [List.getElem?_cons_succ, List.getElem?_map] at hm
            cases hj : ((List.range ops.size).filter (chainAt ops fl))[m]? with
            | none => rw [hj] at hm; cases hm
            | some j =>
              rw [hj] at hm
              simp only [Option.map_some, Option.some.injEq] at hm
              obtain ⟨c1, c2, c3⟩ := range_filter_at _ _ _ hj
              refine ⟨j + 1, by omega, ?_, hm.symm⟩
              rw [cntX_succ, c2, if_pos rfl]
              unfold cntX; omega
        obtain ⟨p, p1, p2, rfl⟩ := hpos
        have hin : lo ≤ m ∧ m ≤ hi' := by
          have hml : m < ((List.range ops.size).filter (chainAt ops fl)).length + 1 := by
            have := (List.getElem?_eq_some_iff.1 hm).1
            simpa using this
          have := a3 m (List.mem_range.2 hml)
          rw [hfar] at this
          rcases this with q | q
          · cases q
          · exact ⟨Nat.le_of_ble_eq_true q.1, Nat.le_of_ble_eq_true q.2⟩
        have hr : looksX P ids i o s.t s.h b := by
          have := sx.1
          rw [Nat.zero_add, hb] at this
          rcases this with q | q
          · rw [hgs hgo] at q; cases q
          · exact q
        have hsh : hpAt l h' i = s.h := by unfold hpAt; rw [hs']
        have same : (hpAt l h' p).get b = s.h.get b := by
          rw [← hsh]
          rcases Nat.le_total p i with e | e
          · exact (agree i p e (by omega) (by omega) (by omega)).symm
          · exact agree p i e p1 (by omega) (by omega)
        unfold looksX at hr
        unfold OkAtP
        split at hr
        · rename_i hn
          rw [hn]
          simp only [stepD, Nat.zero_add, hn] at hv
          show ∃ u, aOp P s.t (hpAt l h' p) o.op = some (.val s.v u)
          obtain ⟨u, hu⟩ := opA_read hr hv
          exact aOp_same hr same hu
        · rename_i b' hn
          rw [hn]
          obtain ⟨rfl, x, c, e, r1, r2⟩ := hr
          exact ⟨x, c, e, r1, by rw [same, r2]⟩
  exact hopd
theorem K_drawX {id : Nat} (rd : List (Nat × Nat × Nat)) (bl : List (Option Nat)) (w : KOX P X sz ops [] [] rd bl 0 ops.toList L h (Q .norm)) (hn : rd.length = bl.length := by exact rfl) (hd : drawX ops [] rd = true := by decide +kernel) : K P X inR sz (.region id ops true) L h Q := fun t hk => by
  obtain ⟨bl', ag, w'⟩ := w hn t hk
  obtain ⟨n, t', h', e, L', k, q⟩ := opsD2_drawX hd (fun i b q => by cases q) ag.len.2 w'
  unfold drawX at hd
  rw [Bool.and_eq_true, Bool.and_eq_true] at hd
  obtain ⟨⟨hp, hf⟩, hs⟩ := hd
  have hf : floatsOf ops (masks ops.toList []) = [] := by simpa using hf
  refine ⟨n + 1, _, _, _, ?_, L', k, q⟩
  rw [exec_S]
  simp only [execStep]
  have : opsD P X (exec P X n) sz ops t h = some (t', h') := by
    unfold opsD
    simp only [hf, hp]
    exact e
  rw [this]
/-- What the float j makes is known before the region. -/
def HintOk (P : Program) (ops : Array Oper) (sz : Nat) (L : Ks) (h : AH) (j : Nat) (c : List Value) (e : TypeId) : Prop := ∀ t, Kn t L → hintObj P ops sz h t j = .cells c e none false
theorem HintOk.direct {j : Nat} {o : Oper} {x : Option Nat} {c : List Value} {e : TypeId} (ho : ops[j]? = some o := by exact rfl) (hf : aFloat P L.tree o.op = some (x, c, e) := by exact rfl) (hp : predsOf ops (masks ops.toList []) j = [] := by decide +kernel) : HintOk P ops sz L h j c e := fun t hk => by
  unfold hintObj
  rw [ho, hp]
  simp only [List.foldl_nil, aFloat_le hk.tle hf]
theorem HintOk.one {j k : Nat} {o ok : Oper} {x : Option Nat} {c : List Value} {e : TypeId} {v : Value} {h' : AH} {L' : Ks} (hp : predsOf ops (masks ops.toList []) j = [k]) (ho : ops[j]? = some o) (hok : ops[k]? = some ok) (hg : guardA ops L.tree ok.guard = some true) (ha : aOp P L.tree h ok.op = some (.val v h')) (hd : putK sz L ok.dst v = some L')
    (hf : aFloat P L'.tree o.op = some (x, c, e)) : HintOk P ops sz L h j c e := fun t hk => by
  obtain ⟨t1, e1, k1⟩ := putK_ok hk hd
  unfold hintObj
  rw [ho, hp]
  have : stepH P ops sz h t k = t1 := by
    unfold stepH
    simp only [hok, guardA_le hk.tle hg, aOp_le hk.tle ha, e1]
  simp only [List.foldl_cons, List.foldl_nil, this, aFloat_le k1.tle hf]
/-- What the floats make is known before the region. -/
def hintsK (P : Program) (ops : Array Oper) (sz : Nat) (L : Ks) (h : AH) : List Nat → List AObj → Prop
  | [], [] => True
  | j :: r, ob :: s => (∃ c e, HintOk P ops sz L h j c e ∧ ob = .cells c e none false) ∧ hintsK P ops sz L h r s
  | _, _ => False
theorem hintsK.eq {t : Tr Value} (hk : Kn t L) : ∀ {fl : List Nat} {objs : List AObj}, hintsK P ops sz L h fl objs → fl.map (hintObj P ops sz h t) = objs
  | [], [], _ => rfl
  | j :: r, ob :: s, ⟨⟨c, e, h1, h2⟩, h4⟩ => by rw [List.map_cons, hintsK.eq hk h4, h2, h1 t hk]
  | [], _ :: _, h => by cases h
  | _ :: _, [], h => by cases h
theorem numbered_in : ∀ (l : List Nat) (n i b : Nat), idOf (numbered n l) i = some b → hasN l i = true
  | [], n, i, b, h => by cases h
  | j :: r, n, i, b, h => by
    simp only [numbered, idOf] at h
    unfold hasN
    rw [List.any_cons, Bool.or_eq_true]
    split at h
    · rename_i hj
      have := Nat.eq_of_beq_eq_true hj
      subst this
      exact .inl (by simp)
    · exact .inr (numbered_in r (n + 1) i b h)
theorem K_drawF {id j : Nat} {r : List Nat} (objs : List AObj) (rd : List (Nat × Nat × Nat)) (bl : List (Option Nat)) (ho : hintsK P ops sz L h (j :: r) objs) (w : KOX P X sz ops (j :: r) (numbered h.next (j :: r)) rd bl 0 ops.toList L (objs.foldl AH.add h) (Q .norm)) (hn : rd.length = bl.length := by exact rfl)
    (hd : drawX ops (j :: r) rd = true := by decide +kernel) : K P X inR sz (.region id ops true) L h Q := fun t hk => by
  obtain ⟨bl', ag, w'⟩ := w hn t hk
  obtain ⟨n, t', h', e, L', k, q⟩ := opsD2_drawX hd (fun i b q => numbered_in _ _ _ _ q) ag.len.2 w'
  unfold drawX at hd
  rw [Bool.and_eq_true, Bool.and_eq_true] at hd
  obtain ⟨⟨hp, hf⟩, hs⟩ := hd
  have hf : floatsOf ops (masks ops.toList []) = j :: r := by simpa using hf
  refine ⟨n + 1, _, _, _, ?_, L', k, q⟩
  rw [exec_S]
  simp only [execStep]
  have : opsD P X (exec P X n) sz ops t h = some (t', h') := by
    unfold opsD
    simp only [hf, hp, ho.eq hk]
    exact e
  rw [this]
end
end Go.Proofs.Xx

/-
  The watched blocks of an open region: short side conditions.
-/
namespace Go.Proofs.Xx
open Go
set_option linter.unusedSimpArgs false
set_option linter.unusedVariables false

def blkS : Value → Nat
  | .slice (some ⟨b, _, _⟩) _ _ => b
  | _ => 0
theorem blkOf_elA (v : Value) (z k off : Nat) : blkOf (elA v z k off) = blkS v := by
  unfold elA
  split
  · rfl
  · unfold blkS
    split
    · rename_i h; exact absurd rfl (h _ _ _ _ _)
    · rfl
section
variable {h0 h h' : AH} {rs rs1 : List Rs} {b : Nat} {c : List Value} {e : TypeId} {f : Rs → List Rs}
theorem Hs.gB (S : Hs h0 h rs) [i : HasB rs b c e f] : h.get b = some (.cells c e none false) := by
  obtain ⟨fp, h1, h2⟩ := i.at_.ok S.sep
  exact h1.1
theorem Hs.bB (S : Hs h0 h rs) [i : HasB rs b c e f] : b < h.next := by
  obtain ⟨fp, h1, h2⟩ := i.at_.ok S.sep
  exact (h2 b h1.2).2.1
theorem Rd.bS {v : Value} {z n : Nat} {c : List Value} (w : WfH h) (r : Rd h v z n c) (hn : 0 < n) : blkS v < h.next := by
  rcases r with ⟨rfl, rfl, rfl⟩ | ⟨b, o, cap, cc, e, s, q, rfl, h1, h2⟩
  · omega
  · exact w.lt h1
theorem Hs.bR {v : Value} {α : Type} {z : Nat} {enc : α → List Value} {l : List α} (S : Hs h0 h rs) [i : HasR rs v α z enc l] (hl : 0 < l.length) : blkS v < h.next := (i.rd S).bS S.wf hl
theorem Hs.bX {v : Value} {α : Type} {z : Nat} {enc : α → List Value} {l : List α} (S : Hs h0 h rs) (r : RdL h0 v z enc l) (w : WfH h0) (hl : 0 < l.length) : blkS v < h.next := Nat.lt_of_lt_of_le (r.bS w hl) S.ext.next
end
end Go.Proofs.Xx
