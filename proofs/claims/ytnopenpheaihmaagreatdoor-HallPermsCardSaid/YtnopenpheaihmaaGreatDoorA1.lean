/-
  A store of values keyed by numbers, as a binary tree; the abstract memory that the checked run of a program works on.
-/
import Derived.Calls
namespace Go.Proofs.Xx
open Go
set_option linter.unusedSimpArgs false
set_option linter.unusedVariables false

/-! ### A tree keyed by numbers -/
inductive Tr (α : Type) where
  | e
  | n (v : Option α) (l r : Tr α)

def Tr.getF {α : Type} : Nat → Tr α → Nat → Option α
  | _, .e, _ => none
  | 0, .n v _ _, _ => v
  | f + 1, .n v l r, k =>
    match Nat.beq k 0 with
    | true => v
    | false =>
      match Nat.beq (k % 2) 1 with
      | true => Tr.getF f l (k / 2)
      | false => Tr.getF f r (k / 2 - 1)

def Tr.setF {α : Type} : Nat → Tr α → Nat → α → Tr α
  | 0, .e, _, a => .n (some a) .e .e
  | 0, .n _ l r, _, a => .n (some a) l r
  | f + 1, .e, k, a =>
    match Nat.beq k 0 with
    | true => .n (some a) .e .e
    | false =>
      match Nat.beq (k % 2) 1 with
      | true => .n none (Tr.setF f .e (k / 2) a) .e
      | false => .n none .e (Tr.setF f .e (k / 2 - 1) a)
  | f + 1, .n v l r, k, a =>
    match Nat.beq k 0 with
    | true => .n (some a) l r
    | false =>
      match Nat.beq (k % 2) 1 with
      | true => .n v (Tr.setF f l (k / 2) a) r
      | false => .n v l (Tr.setF f r (k / 2 - 1) a)

def Tr.get {α : Type} (t : Tr α) (k : Nat) : Option α := Tr.getF k t k
def Tr.set {α : Type} (t : Tr α) (k : Nat) (a : α) : Tr α := Tr.setF k t k a

theorem Tr.getF_e {α : Type} (f k : Nat) : Tr.getF f (Tr.e : Tr α) k = none := by cases f <;> rfl

theorem Tr.getF_fuel {α : Type} (t : Tr α) : ∀ (f g k : Nat), k ≤ f → k ≤ g → Tr.getF f t k = Tr.getF g t k := by
  induction t with
  | e => intro f g k _ _; rw [Tr.getF_e, Tr.getF_e]
  | n v l r ihl ihr =>
    intro f g k hf hg
    cases k with
    | zero => cases f <;> cases g <;> rfl
    | succ k =>
      cases f with
      | zero => omega
      | succ f =>
        cases g with
        | zero => omega
        | succ g =>
          simp only [Tr.getF]
          rw [ihl f g _ (by omega) (by omega), ihr f g _ (by omega) (by omega)]

theorem Tr.getF_setF {α : Type} : ∀ (f : Nat) (t : Tr α) (k j : Nat) (a : α), k ≤ f → j ≤ f → Tr.getF f (Tr.setF f t k a) j = if j = k then some a else Tr.getF f t j := by
  intro f
  induction f with
  | zero =>
    intro t k j a hk hj
    obtain rfl : k = 0 := by omega
    obtain rfl : j = 0 := by omega
    cases t <;> rfl
  | succ f ih =>
    intro t k j a hk hj
    cases t with
    | e =>
      simp only [Tr.setF]
      by_cases k0 : k = 0
      · subst k0
        simp only [Nat.beq_eq_true_eq, Nat.beq]
        by_cases j0 : j = 0
        · subst j0; rfl
        · have hj0 : Nat.beq j 0 = false := by cases j with | zero => exact absurd rfl j0 | succ j => rfl
          simp only [Tr.getF, hj0, if_neg j0]
          split <;> simp [Tr.getF_e]
      · have hk0 : Nat.beq k 0 = false := by cases k with | zero => exact absurd rfl k0 | succ j => rfl
        simp only [hk0]
        by_cases j0 : j = 0
        · subst j0
          have hne : ¬ 0 = k := by omega
          rw [if_neg hne]
          split <;> rfl
        · have hj0 : Nat.beq j 0 = false := by cases j with | zero => exact absurd rfl j0 | succ j => rfl
          by_cases kp : k % 2 = 1 <;> by_cases jp : j % 2 = 1 <;>
            simp only [show Nat.beq (k % 2) 1 = decide (k % 2 = 1) from by rw [Bool.eq_iff_iff]; simp, show Nat.beq (j % 2) 1 = decide (j % 2 = 1) from by rw [Bool.eq_iff_iff]; simp, kp, jp, decide_true, decide_false, Tr.getF, hj0, Tr.getF_e]
          · rw [ih .e _ _ _ (by omega) (by omega), Tr.getF_e]
            congr 1; rw [eq_iff_iff]; omega
          · rw [if_neg (by omega)]
          · rw [if_neg (by omega)]
          · rw [ih .e _ _ _ (by omega) (by omega), Tr.getF_e]
            congr 1; rw [eq_iff_iff]; omega
    | n v l r =>
      simp only [Tr.setF]
      by_cases k0 : k = 0
      · subst k0
        simp only [Nat.beq]
        by_cases j0 : j = 0
        · subst j0; rfl
        · have hj0 : Nat.beq j 0 = false := by cases j with | zero => exact absurd rfl j0 | succ j => rfl
          simp only [Tr.getF, hj0, if_neg j0]
      · have hk0 : Nat.beq k 0 = false := by cases k with | zero => exact absurd rfl k0 | succ j => rfl
        simp only [hk0]
        by_cases j0 : j = 0
        · subst j0
          have hne : ¬ 0 = k := by omega
          rw [if_neg hne]
          split <;> rfl
        · have hj0 : Nat.beq j 0 = false := by cases j with | zero => exact absurd rfl j0 | succ j => rfl
          by_cases kp : k % 2 = 1 <;> by_cases jp : j % 2 = 1 <;>
            simp only [show Nat.beq (k % 2) 1 = decide (k % 2 = 1) from by rw [Bool.eq_iff_iff]; simp, show Nat.beq (j % 2) 1 = decide (j % 2 = 1) from by rw [Bool.eq_iff_iff]; simp, kp, jp, decide_true, decide_false, Tr.getF, hj0]
          · rw [ih l _ _ _ (by omega) (by omega)]
            congr 1; rw [eq_iff_iff]; omega
          · rw [if_neg (by omega)]
          · rw [if_neg (by omega)]
          · rw [ih r _ _ _ (by omega) (by omega)]
            congr 1; rw [eq_iff_iff]; omega

theorem Tr.setF_fuel {α : Type} : ∀ (f g : Nat) (t : Tr α) (k : Nat) (a : α), k ≤ f → k ≤ g → Tr.setF f t k a = Tr.setF g t k a := by
  intro f
  induction f with
  | zero =>
    intro g t k a hf hg
    obtain rfl : k = 0 := by omega
    cases g <;> cases t <;> rfl
  | succ f ih =>
    intro g t k a hf hg
    cases g with
    | zero => obtain rfl : k = 0 := by omega
              cases t <;> rfl
    | succ g =>
      by_cases k0 : k = 0
      · subst k0; cases t <;> rfl
      · cases t with
        | e => simp only [Tr.setF]; rw [ih g .e (k / 2) a (by omega) (by omega), ih g .e (k / 2 - 1) a (by omega) (by omega)]
        | n v l r => simp only [Tr.setF]; rw [ih g l (k / 2) a (by omega) (by omega), ih g r (k / 2 - 1) a (by omega) (by omega)]

theorem Tr.get_set {α : Type} (t : Tr α) (k j : Nat) (a : α) : (t.set k a).get j = if j = k then some a else t.get j := by
  unfold Tr.get Tr.set
  rw [Tr.getF_fuel _ j (max j k) j (Nat.le_refl _) (by omega), Tr.setF_fuel k (max j k) t k a (Nat.le_refl _) (by omega),
    Tr.getF_setF _ _ _ _ _ (by omega) (by omega), Tr.getF_fuel t j (max j k) j (Nat.le_refl _) (by omega)]
theorem Tr.get_set_same {α : Type} (t : Tr α) (k : Nat) (a : α) : (t.set k a).get k = some a := by rw [Tr.get_set, if_pos rfl]
theorem Tr.get_set_ne {α : Type} (t : Tr α) {k j : Nat} (a : α) (h : j ≠ k) : (t.set k a).get j = t.get j := by rw [Tr.get_set, if_neg h]
theorem Tr.get_e {α : Type} (k : Nat) : (Tr.e : Tr α).get k = none := Tr.getF_e _ _
end Go.Proofs.Xx
