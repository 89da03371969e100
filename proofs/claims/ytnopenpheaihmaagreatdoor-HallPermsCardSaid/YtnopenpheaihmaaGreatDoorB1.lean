/-
  More fuel changes no result of the checked run.
-/
import Derived.Test.YtnopenpheaihmaaGreatDoorA22
namespace Go.Proofs.Xx
open Go
set_option linter.unusedSimpArgs false
set_option linter.unusedVariables false

def RLe (r r' : Runner) : Prop := ∀ a b c d e x, r a b c d e = some x → r' a b c d e = some x

section
variable {P : Program} {X : Extern} {r r' : Runner}

theorem callA_mono (h : RLe r r') {f : FuncId} {args : List Value} {m : AH} {x : Value × AH} (hc : callA P X r f args m = some x) : callA P X r' f args m = some x := by
  unfold callA at hc ⊢
  cases hX : X f args m with
  | some y => rw [hX] at hc; exact hc
  | none =>
    rw [hX] at hc
    simp only at hc ⊢
    cases hfn : P.funcs[f]? with
    | none => rw [hfn] at hc; cases hc
    | some fn =>
      rw [hfn] at hc
      simp only at hc ⊢
      cases hb : fn.body with
      | none => rw [hb] at hc; cases hc
      | some body =>
        rw [hb] at hc
        simp only at hc ⊢
        cases hr : r false (args.length + (fn.ntmps - args.length)) body (enterArgs 0 args .e) m with
        | none => rw [hr] at hc; cases hc
        | some q => rw [h _ _ _ _ _ _ hr]; rw [hr] at hc; exact hc
theorem yieldA_mono (h : RLe r r') {l : Nat} {args : List Value} {m : AH} {x : Value × AH} (hc : yieldA r l args m = some x) : yieldA r' l args m = some x := by
  unfold yieldA at hc ⊢
  split at hc
  rotate_left
  · cases hc
  rename_i sz tm ps asg bo hg
  try rw [hg]
  try simp only
  split at hc
  rotate_left
  · cases hc
  rename_i t0 h1 h2
  try rw [h1, h2]
  try simp only
  split at hc
  rotate_left
  · cases hc
  rename_i t1 m1 hr
  rw [h _ _ _ _ _ _ hr]
  try simp only
  split at hc
  rotate_left
  · cases hc
  rename_i a b c d e hg1
  try rw [hg1]
  try simp only
  split at hc
  rotate_left
  · cases hc
  rename_i q t2 m2 hr2
  rw [h _ _ _ _ _ _ hr2]
  exact hc
theorem opA_mono (h : RLe r r') {t : Tr Value} {m : AH} {op : Op} {x : Value × AH} (hc : opA P X r t m op = some x) : opA P X r' t m op = some x := by
  unfold opA at hc ⊢
  split at hc
  · rename_i e; (try rw [e]); exact hc
  · rename_i e; (try rw [e]); exact hc
  · rename_i e; (try rw [e]); exact callA_mono h hc
  · rename_i e; (try rw [e]); exact yieldA_mono h hc
  · cases hc
theorem opsA_mono (h : RLe r r') {sz : Nat} {ops : Array Oper} : ∀ (os : List Oper) (t : Tr Value) (m : AH) (x : Tr Value × AH), opsA P X r sz ops os t m = some x → opsA P X r' sz ops os t m = some x
  | [], t, m, x, hc => hc
  | o :: os, t, m, x, hc => by
    simp only [opsA] at hc ⊢
    split at hc
    · rename_i e; (try rw [e])
      try simp only
      split at hc
      · rename_i v m' e2
        rw [opA_mono h e2]
        try simp only
        split at hc
        · rename_i t' e3
          try rw [e3]
          exact opsA_mono h os _ _ _ hc
        · cases hc
      · cases hc
    · rename_i e; (try rw [e])
      try simp only
      split at hc
      · rename_i t' e3
        try rw [e3]
        exact opsA_mono h os _ _ _ hc
      · cases hc
    · cases hc
theorem stepD_mono (h : RLe r r') {ids : List (Nat × Nat)} {pl : Bool} {i : Nat} {op : Op} {t : Tr Value} {m : AH} {x : Value × AH} (hc : stepD P X r ids pl i op t m = some x) : stepD P X r' ids pl i op t m = some x := by
  unfold stepD at hc ⊢
  split
  · rename_i b e; rw [e] at hc; exact hc
  · rename_i e; rw [e] at hc; exact opA_mono h hc
theorem runD_mono (h : RLe r r') {sz : Nat} {ops : Array Oper} {ids : List (Nat × Nat)} {pl : Bool} : ∀ (os : List Oper) (i : Nat) (t : Tr Value) (m : AH) (x : List DStep × Tr Value × AH), runD P X r sz ops ids pl i os t m = some x → runD P X r' sz ops ids pl i os t m = some x
  | [], i, t, m, x, hc => hc
  | o :: os, i, t, m, x, hc => by
    have key : ∀ (s : DStep) (t1 : Tr Value) (m1 : AH), consD s (runD P X r sz ops ids pl (i + 1) os t1 m1) = some x → consD s (runD P X r' sz ops ids pl (i + 1) os t1 m1) = some x := by
      intro s t1 m1 hk
      cases hd : runD P X r sz ops ids pl (i + 1) os t1 m1 with
      | none => rw [hd] at hk; cases hk
      | some q => rw [runD_mono h os _ _ _ _ hd]; rw [hd] at hk; exact hk
    simp only [runD] at hc ⊢
    split at hc
    · rename_i e; (try rw [e])
      try simp only
      split at hc
      · rename_i v m' e2
        rw [stepD_mono h e2]
        try simp only
        split at hc
        · rename_i t' e3
          try rw [e3]
          exact key _ _ _ hc
        · cases hc
      · cases hc
    · rename_i e; (try rw [e])
      try simp only
      split at hc
      · rename_i t' e3
        try rw [e3]
        exact key _ _ _ hc
      · cases hc
    · cases hc
theorem opsD2_mono (h : RLe r r') {sz : Nat} {ops : Array Oper} {ms fl : List Nat} {ids : List (Nat × Nat)} {t : Tr Value} {m : AH} {x : Tr Value × AH} (hc : opsD2 P X r sz ops ms fl ids t m = some x) : opsD2 P X r' sz ops ms fl ids t m = some x := by
  unfold opsD2 at hc ⊢
  split at hc
  · rename_i l t' h' e
    rw [runD_mono h _ _ _ _ _ e]
    exact hc
  · cases hc
theorem opsD_mono (h : RLe r r') {sz : Nat} {ops : Array Oper} {t : Tr Value} {m : AH} {x : Tr Value × AH} (hc : opsD P X r sz ops t m = some x) : opsD P X r' sz ops t m = some x := by
  unfold opsD at hc ⊢
  simp only at hc ⊢
  split at hc
  rotate_left
  · cases hc
  rename_i hp
  try rw [hp]
  try simp only
  split at hc
  · rename_i hf
    try rw [hf]
    exact opsD2_mono h hc
  · rename_i j rr hf
    try rw [hf]
    try simp only
    split at hc
    · rename_i l t1 h1 e
      rw [runD_mono h _ _ _ _ _ e]
      exact opsD2_mono h hc
    · cases hc

theorem execStep_mono (h : RLe r r') : RLe (execStep P X r) (execStep P X r') := by
  intro inR sz c t m x hc
  unfold execStep at hc ⊢
  cases c with
  | skip => exact hc
  | label l => exact hc
  | seq a b =>
    simp only at hc ⊢
    split at hc
    · rename_i t1 m1 e
      rw [h _ _ _ _ _ _ e]
      exact h _ _ _ _ _ _ hc
    · rename_i hne
      cases hr : r inR sz a t m with
      | none => rw [hr] at hc; cases hc
      | some q =>
        rw [h _ _ _ _ _ _ hr]
        rw [hr] at hc
        cases hc
        obtain ⟨ax, t1, m1⟩ := x
        cases ax with
        | norm => exact absurd hr (hne _ _)
        | exit id => rfl
        | ret => rfl
  | cond c a b =>
    simp only at hc ⊢
    split at hc
    · rename_i e; (try rw [e]); exact h _ _ _ _ _ _ hc
    · rename_i e; (try rw [e]); exact h _ _ _ _ _ _ hc
    · cases hc
  | block id body =>
    simp only at hc ⊢
    cases hr : r inR sz body t m with
    | none => rw [hr] at hc; cases hc
    | some q => rw [h _ _ _ _ _ _ hr]; rw [hr] at hc; exact hc
  | loop body =>
    simp only at hc ⊢
    cases hr : r inR sz body t m with
    | none => rw [hr] at hc; cases hc
    | some q =>
      rw [h _ _ _ _ _ _ hr]
      rw [hr] at hc
      obtain ⟨ax, t1, m1⟩ := q
      cases ax with
      | norm => exact h _ _ _ _ _ _ hc
      | exit id => exact hc
      | ret => exact hc
  | scope body => exact h _ _ _ _ _ _ hc
  | exit id => exact hc
  | ret => exact hc
  | region id ops dr =>
    cases dr with
    | false =>
      simp only at hc ⊢
      split at hc
      · rename_i t1 m1 e
        rw [opsA_mono h _ _ _ _ e]
        exact hc
      · cases hc
    | true =>
      simp only at hc ⊢
      split at hc
      · rename_i t1 m1 e
        rw [opsD_mono h e]
        exact hc
      · cases hc
  | rangeFunc f ps asg bo =>
    simp only at hc ⊢
    split at hc
    · rename_i g first captured e
      try rw [e]
      try simp only
      split at hc
      · rename_i v m1 e2
        rw [callA_mono h e2]
        exact hc
      · cases hc
    · cases hc
  | _ => cases hc

theorem exec_succ (n : Nat) : RLe (exec P X n) (exec P X (n + 1)) := by
  induction n with
  | zero => intro _ _ _ _ _ _ h; cases h
  | succ n ih => exact execStep_mono ih
theorem exec_le {n m : Nat} (hnm : n ≤ m) : RLe (exec P X n) (exec P X m) := by
  induction hnm with
  | refl => exact fun _ _ _ _ _ _ h => h
  | step _ ih => exact fun _ _ _ _ _ _ h => exec_succ _ _ _ _ _ _ _ (ih _ _ _ _ _ _ h)
end
end Go.Proofs.Xx
