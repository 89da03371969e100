/-
  The rules once more, over what is known of the slots.
-/
import Derived.Test.YtnopenpheaihmaaGreatDoorB2
namespace Go.Proofs.Xx
open Go
set_option linter.unusedSimpArgs false
set_option linter.unusedVariables false

/-- What is known of the slots: a list of their numbers and values. -/
abbrev Ks := List (Nat × Value)
def Ks.get : Ks → Nat → Option Value
  | [], _ => none
  | (j, v) :: r, k => match Nat.beq j k with | true => some v | false => Ks.get r k
def Ks.put (L : Ks) (k : Nat) (v : Value) : Ks := (k, v) :: L
def Kn (t : Tr Value) (L : Ks) : Prop := ∀ k v, L.get k = some v → t.get k = some v
theorem Kn.put {t : Tr Value} {L : Ks} (h : Kn t L) (k : Nat) (v : Value) : Kn (t.set k v) (L.put k v) := by
  intro j u hj
  rw [Tr.get_set]
  simp only [Ks.put, Ks.get] at hj
  split at hj
  · rename_i e
    cases hj
    rw [if_pos (Nat.eq_of_beq_eq_true e).symm]
  · rename_i e
    rw [if_neg]
    · exact h j u hj
    · intro q; subst q; simp at e
/-- What L' knows, L knows. -/
def Ks.le (L' L : Ks) : Prop := ∀ k v, L'.get k = some v → L.get k = some v
theorem Kn.le {t : Tr Value} {L L' : Ks} (h : Kn t L) (hl : Ks.le L' L) : Kn t L' := fun k v hk => h k v (hl k v hk)
theorem Ks.le_nil (L : Ks) : Ks.le [] L := fun k v h => by cases h
theorem Ks.le_cons {L L' : Ks} {k : Nat} {v : Value} (h : L.get k = some v) (hl : Ks.le L' L) : Ks.le ((k, v) :: L') L := by
  intro j u hj
  simp only [Ks.get] at hj
  split at hj
  · rename_i e
    cases hj
    rw [← Nat.eq_of_beq_eq_true e]; exact h
  · exact hl j u hj

def kA (L : Ks) : Operand → Option Value
  | .tmp k => L.get k
  | .const v => match plainV v with | true => some v | false => none
  | .global _ => none
  | .func f => some (.func (.func f) #[] #[])
theorem kA_ok {t : Tr Value} {L : Ks} (h : Kn t L) {o : Operand} {v : Value} (hk : kA L o = some v) : evA t o = some v := by
  cases o with
  | tmp k => exact h k v hk
  | _ => exact hk

/-- A tree that holds just what is known. -/
def Ks.tree : Ks → Tr Value
  | [] => .e
  | (k, v) :: r => (Ks.tree r).set k v
theorem Ks.tree_get : ∀ (L : Ks) (k : Nat), L.tree.get k = L.get k
  | [], k => Tr.get_e k
  | (j, v) :: r, k => by
    simp only [Ks.tree, Ks.get, Tr.get_set]
    by_cases hk : k = j
    · subst hk; simp
    · rw [if_neg hk, Ks.tree_get r k]
      have : Nat.beq j k = false := by
        cases hb : Nat.beq j k with
        | false => rfl
        | true => exact absurd (Nat.eq_of_beq_eq_true hb).symm hk
      rw [this]
theorem Kn.tree (L : Ks) : Kn L.tree L := fun k v h => by rw [Ks.tree_get]; exact h

/-! ### an operation at what is known -/
/-- t knows what u knows. -/
def TLe (u t : Tr Value) : Prop := ∀ k v, u.get k = some v → t.get k = some v
section
variable {u t : Tr Value} (hl : TLe u t)
include hl
theorem evA_le {o : Operand} {v : Value} (h : evA u o = some v) : evA t o = some v := by
  cases o with
  | tmp k => exact hl k v h
  | _ => exact h
theorem evAll_le : ∀ {os : List Operand} {vs : List Value}, evAll u os = some vs → evAll t os = some vs
  | [], vs, h => h
  | o :: r, vs, h => by
    simp only [evAll] at h ⊢
    split at h
    · rename_i e1 e2; rw [evA_le hl e1, evAll_le e2]; exact h
    · cases h
theorem evParts_le : ∀ {os : List (Nat × Operand)} {vs : List (Nat × Value)}, evParts u os = some vs → evParts t os = some vs
  | [], vs, h => h
  | (i, o) :: r, vs, h => by
    simp only [evParts] at h ⊢
    split at h
    · rename_i e1 e2; rw [evA_le hl e1, evParts_le e2]; exact h
    · cases h
theorem evOpt_le {o : Option Operand} {v : Option Value} (h : evOpt u o = some v) : evOpt t o = some v := by
  cases o with
  | none => exact h
  | some o =>
    simp only [evOpt] at h ⊢
    split at h
    · rename_i e1; rw [evA_le hl e1]; exact h
    · cases h
theorem aOp_le {P : Program} {h : AH} {op : Op} {n : ANext} (ha : aOp P u h op = some n) : aOp P t h op = some n := by
  cases op <;> simp only [aOp] at ha ⊢
  case move x => cases e : evA u x with
    | none => rw [e] at ha; cases ha
    | some v => rw [evA_le hl e]; rw [e] at ha; exact ha
  case assign x => cases e : evA u x with
    | none => rw [e] at ha; cases ha
    | some v => rw [evA_le hl e]; rw [e] at ha; exact ha
  case pick c a b =>
    cases e : evA u c with
    | none => rw [e] at ha; cases ha
    | some v =>
      rw [evA_le hl e]; rw [e] at ha
      cases v with
      | bool q =>
        cases q with
        | true => cases e2 : evA u a with
          | none => simp only [e2] at ha; cases ha
          | some v => simp only [evA_le hl e2]; simp only [e2] at ha; exact ha
        | false => cases e2 : evA u b with
          | none => simp only [e2] at ha; cases ha
          | some v => simp only [evA_le hl e2]; simp only [e2] at ha; exact ha
      | _ => cases ha
  case alloc e => exact ha
  case box a x => cases e : evA u x with
    | none => rw [e] at ha; cases ha
    | some v => rw [evA_le hl e]; rw [e] at ha; exact ha
  case build ty ps => cases e : evParts u ps.toList with
    | none => rw [e] at ha; cases ha
    | some v => rw [evParts_le hl e]; rw [e] at ha; exact ha
  case buildSlice ty m ps => cases e : evParts u ps.toList with
    | none => rw [e] at ha; cases ha
    | some v => rw [evParts_le hl e]; rw [e] at ha; exact ha
  case load a x => cases e : evA u x with
    | none => rw [e] at ha; cases ha
    | some v => rw [evA_le hl e]; rw [e] at ha; exact ha
  case nilCheck x => cases e : evA u x with
    | none => rw [e] at ha; cases ha
    | some v => rw [evA_le hl e]; rw [e] at ha; exact ha
  case unOp a b x => cases e : evA u x with
    | none => rw [e] at ha; cases ha
    | some v => rw [evA_le hl e]; rw [e] at ha; exact ha
  case convert a b x => cases e : evA u x with
    | none => rw [e] at ha; cases ha
    | some v => rw [evA_le hl e]; rw [e] at ha; exact ha
  case fieldAddr a x b => cases e : evA u x with
    | none => rw [e] at ha; cases ha
    | some v => rw [evA_le hl e]; rw [e] at ha; exact ha
  case field a x b => cases e : evA u x with
    | none => rw [e] at ha; cases ha
    | some v => rw [evA_le hl e]; rw [e] at ha; exact ha
  case extract x b => cases e : evA u x with
    | none => rw [e] at ha; cases ha
    | some v => rw [evA_le hl e]; rw [e] at ha; exact ha
  case store ty a x =>
    cases e : evA u a with
    | none => rw [e] at ha; cases ha
    | some v => cases e2 : evA u x with
      | none => rw [e, e2] at ha; cases ha
      | some v2 => rw [evA_le hl e, evA_le hl e2]; rw [e, e2] at ha; exact ha
  case binOp op ty a x b =>
    cases e : evA u a with
    | none => rw [e] at ha; cases ha
    | some v => cases e2 : evA u x with
      | none => rw [e, e2] at ha; cases ha
      | some v2 => rw [evA_le hl e, evA_le hl e2]; rw [e, e2] at ha; exact ha
  case indexAddr ty a x =>
    cases e : evA u a with
    | none => rw [e] at ha; cases ha
    | some v => cases e2 : evA u x with
      | none => rw [e, e2] at ha; cases ha
      | some v2 => rw [evA_le hl e, evA_le hl e2]; rw [e, e2] at ha; exact ha
  case index ty a x =>
    cases e : evA u a with
    | none => rw [e] at ha; cases ha
    | some v => cases e2 : evA u x with
      | none => rw [e, e2] at ha; cases ha
      | some v2 => rw [evA_le hl e, evA_le hl e2]; rw [e, e2] at ha; exact ha
  case makeSlice ty a x =>
    cases e : evA u a with
    | none => rw [e] at ha; cases ha
    | some v => cases e2 : evA u x with
      | none => rw [e, e2] at ha; cases ha
      | some v2 => rw [evA_le hl e, evA_le hl e2]; rw [e, e2] at ha; exact ha
  case makeFunc fn a b =>
    cases fn <;> simp only at ha ⊢
    case func f =>
      cases e : evAll u a.toList with
      | none => rw [e] at ha; cases ha
      | some v => cases e2 : evAll u b.toList with
        | none => rw [e, e2] at ha; cases ha
        | some v2 => rw [evAll_le hl e, evAll_le hl e2]; rw [e, e2] at ha; exact ha
    all_goals cases ha
  case slice ty x a b c =>
    cases e : evA u x with
    | none => rw [e] at ha; cases ha
    | some v => cases e1 : evOpt u a with
      | none => rw [e, e1] at ha; cases ha
      | some v1 => cases e2 : evOpt u b with
        | none => rw [e, e1, e2] at ha; cases ha
        | some v2 => cases e3 : evOpt u c with
          | none => rw [e, e1, e2, e3] at ha; cases ha
          | some v3 => rw [evA_le hl e, evOpt_le hl e1, evOpt_le hl e2, evOpt_le hl e3]; rw [e, e1, e2, e3] at ha; exact ha
  case call c =>
    obtain ⟨callee, args, argTypes⟩ := c
    simp only at ha ⊢
    cases e : evAll u args.toList with
    | none => rw [e] at ha; cases ha
    | some vs =>
      rw [evAll_le hl e]; rw [e] at ha
      cases callee with
      | builtin b => exact ha
      | value f =>
        simp only at ha ⊢
        cases e2 : evA u f with
        | none => rw [e2] at ha; cases ha
        | some v => rw [evA_le hl e2]; rw [e2] at ha; exact ha
      | invoke a b => exact ha
  all_goals cases ha
theorem guardA_le {ops : Array Oper} {g : Option (Nat × Bool)} {b : Bool} (h : guardA ops u g = some b) : guardA ops t g = some b := by
  unfold guardA at h ⊢
  split at h
  · exact h
  · rename_i j want
    (try simp only)
    split at h
    · rename_i o ho
      (try rw [ho])
      (try simp only)
      split at h
      · rename_i d hd
        (try rw [hd])
        (try simp only)
        cases hg : u.get d with
        | none => rw [hg] at h; cases h
        | some v => rw [hl d v hg]; rw [hg] at h; exact h
      · cases h
    · cases h
theorem resultsA_le {P : Program} {h : AH} : ∀ {rs : List ResultVar} {vs : List Value}, resultsA P u h rs = some vs → resultsA P t h rs = some vs
  | [], vs, hr => hr
  | r :: rs, vs, hr => by
    simp only [resultsA] at hr ⊢
    have key : ∀ v, resultA P u h r = some v → resultA P t h r = some v := by
      intro v hv
      cases r with
      | tmp k => exact hl k v hv
      | cell a ty =>
        simp only [resultA] at hv ⊢
        cases e : u.get a with
        | none => rw [e] at hv; cases hv
        | some p => rw [hl a p e]; rw [e] at hv; exact hv
    split at hr
    · rename_i e1 e2
      rw [key _ e1, resultsA_le e2]; exact hr
    · cases hr
end
theorem Kn.tle {t : Tr Value} {L : Ks} (h : Kn t L) : TLe L.tree t := fun k v hk => h k v (by rw [← Ks.tree_get]; exact hk)
end Go.Proofs.Xx
