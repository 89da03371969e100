/-
  Rules for the checked run of code whose values are not known: what holds when it ends.
-/
import Derived.Test.YticddjokabmfmaaGreatDoorM3
import Derived.IntWalk

namespace Go.Proofs.Xx
set_option linter.unusedSectionVars false
open Go
set_option linter.unusedSimpArgs false
set_option linter.unusedVariables false

section
variable (P : Program) (X : Extern)
def W (inR : Bool) (sz : Nat) (c : Code) (t : Tr Value) (h : AH) (Q : AX → Tr Value → AH → Prop) : Prop := ∃ n x t' h', exec P X n inR sz c t h = some (x, t', h') ∧ Q x t' h'
def WO (sz : Nat) (ops : Array Oper) (os : List Oper) (t : Tr Value) (h : AH) (Q : Tr Value → AH → Prop) : Prop := ∃ n t' h', opsA P X (exec P X n) sz ops os t h = some (t', h') ∧ Q t' h'
def Fn (f : FuncId) (args : List Value) (h : AH) (Q : Value → AH → Prop) : Prop := ∃ n v h', callA P X (exec P X n) f args h = some (v, h') ∧ Q v h'
end

section
variable {P : Program} {X : Extern} {inR : Bool} {sz : Nat} {t : Tr Value} {h : AH} {Q : AX → Tr Value → AH → Prop}

theorem exec_S (n : Nat) (c : Code) : exec P X (n + 1) inR sz c t h = execStep P X (exec P X n) inR sz c t h := rfl

theorem W.mono {c : Code} {Q' : AX → Tr Value → AH → Prop} (w : W P X inR sz c t h Q) (hq : ∀ x t' h', Q x t' h' → Q' x t' h') : W P X inR sz c t h Q' := by
  obtain ⟨n, x, t', h', h1, h2⟩ := w
  exact ⟨n, x, t', h', h1, hq _ _ _ h2⟩
theorem W_skip (hq : Q .norm t h) : W P X inR sz .skip t h Q := ⟨1, _, _, _, rfl, hq⟩
theorem W_exit {id : Nat} (hq : Q (.exit id) t h) : W P X inR sz (.exit id) t h Q := ⟨1, _, _, _, rfl, hq⟩
theorem W_ret (hq : Q .ret t h) : W P X inR sz .ret t h Q := ⟨1, _, _, _, rfl, hq⟩
theorem W_label {l : Nat} (hq : Q .norm t h) : W P X inR sz (.label l) t h Q := ⟨1, _, _, _, rfl, hq⟩

/-- What follows a piece of code: the rest, where the piece ends at its end. -/
def thenW (P : Program) (X : Extern) (inR : Bool) (sz : Nat) (b : Code) (Q : AX → Tr Value → AH → Prop) : AX → Tr Value → AH → Prop
  | .norm, t, h => W P X inR sz b t h Q
  | x, t, h => Q x t h
theorem W_seq {a b : Code} (w : W P X inR sz a t h (thenW P X inR sz b Q)) : W P X inR sz (.seq a b) t h Q := by
  obtain ⟨n, x, t', h', h1, h2⟩ := w
  cases x with
  | norm =>
    obtain ⟨m, x2, t2, h3, h4, h5⟩ := h2
    refine ⟨max n m + 1, x2, t2, h3, ?_, h5⟩
    rw [exec_S]
    simp only [execStep]
    rw [exec_le (Nat.le_max_left n m) _ _ _ _ _ _ h1]
    exact exec_le (Nat.le_max_right n m) _ _ _ _ _ _ h4
  | exit id =>
    refine ⟨n + 1, _, _, _, ?_, h2⟩
    rw [exec_S]; simp only [execStep]; rw [h1]
  | ret =>
    refine ⟨n + 1, _, _, _, ?_, h2⟩
    rw [exec_S]; simp only [execStep]; rw [h1]
theorem W_cond {c : Operand} {a b : Code} {v : Bool} (hc : evA t c = some (.bool v)) (w : W P X inR sz (if v then a else b) t h Q) : W P X inR sz (.cond c a b) t h Q := by
  obtain ⟨n, x, t', h', h1, h2⟩ := w
  refine ⟨n + 1, x, t', h', ?_, h2⟩
  rw [exec_S]; simp only [execStep, hc]
  cases v <;> exact h1
def blockQ (id : Nat) (Q : AX → Tr Value → AH → Prop) : AX → Tr Value → AH → Prop
  | .exit id', t, h => if id' = id then Q .norm t h else Q (.exit id') t h
  | x, t, h => Q x t h
theorem W_block {id : Nat} {body : Code} (w : W P X inR sz body t h (blockQ id Q)) : W P X inR sz (.block id body) t h Q := by
  obtain ⟨n, x, t', h', h1, h2⟩ := w
  cases x with
  | norm => exact ⟨n + 1, _, _, _, by rw [exec_S]; simp only [execStep]; rw [h1], h2⟩
  | ret => exact ⟨n + 1, _, _, _, by rw [exec_S]; simp only [execStep]; rw [h1], h2⟩
  | exit id' =>
    simp only [blockQ] at h2
    by_cases hid : id' = id
    · subst hid
      rw [if_pos rfl] at h2
      refine ⟨n + 1, _, _, _, ?_, h2⟩
      rw [exec_S]; simp only [execStep]; rw [h1]; simp
    · rw [if_neg hid] at h2
      refine ⟨n + 1, _, _, _, ?_, h2⟩
      have : Nat.beq id' id = false := by
        cases hb : Nat.beq id' id with
        | false => rfl
        | true => exact absurd (Nat.eq_of_beq_eq_true hb) hid
      rw [exec_S]; simp only [execStep]; rw [h1]; simp only [this]
theorem W_scope {body : Code} (w : W P X inR sz body t h Q) : W P X inR sz (.scope body) t h Q := by
  obtain ⟨n, x, t', h', h1, h2⟩ := w
  exact ⟨n + 1, _, _, _, by rw [exec_S]; simp only [execStep]; exact h1, h2⟩
def loopQ (I : Nat → Tr Value → AH → Prop) (m : Nat) (Q : AX → Tr Value → AH → Prop) : AX → Tr Value → AH → Prop
  | .norm, t, h => ∃ k, k < m ∧ I k t h
  | x, t, h => Q x t h
theorem W_loop {body : Code} (I : Nat → Tr Value → AH → Prop) (hb : ∀ m t h, I m t h → W P X inR sz body t h (loopQ I m Q)) : ∀ (m : Nat) (t : Tr Value) (h : AH), I m t h → W P X inR sz (.loop body) t h Q := by
  intro m
  induction m using Nat.strongRecOn with
  | _ m ih =>
    intro t h hi
    obtain ⟨n, x, t', h', h1, h2⟩ := hb m t h hi
    cases x with
    | norm =>
      obtain ⟨k, hk, hi'⟩ := h2
      obtain ⟨n2, x2, t2, h3, h4, h5⟩ := ih k hk t' h' hi'
      refine ⟨max n n2 + 1, x2, t2, h3, ?_, h5⟩
      rw [exec_S]
      simp only [execStep]
      rw [exec_le (Nat.le_max_left n n2) _ _ _ _ _ _ h1]
      exact exec_le (Nat.le_max_right n n2) _ _ _ _ _ _ h4
    | exit id => exact ⟨n + 1, _, _, _, by rw [exec_S]; simp only [execStep]; rw [h1], h2⟩
    | ret => exact ⟨n + 1, _, _, _, by rw [exec_S]; simp only [execStep]; rw [h1], h2⟩
theorem W_region {id : Nat} {ops : Array Oper} (w : WO P X sz ops ops.toList t h (Q .norm)) : W P X inR sz (.region id ops false) t h Q := by
  obtain ⟨n, t', h', h1, h2⟩ := w
  exact ⟨n + 1, _, _, _, by rw [exec_S]; simp only [execStep]; rw [h1], h2⟩

variable {ops : Array Oper} {os : List Oper} {o : Oper} {R : Tr Value → AH → Prop}
theorem WO_nil (hq : R t h) : WO P X sz ops [] t h R := ⟨0, _, _, rfl, hq⟩
theorem WO_val {t' : Tr Value} {h' : AH} {v : Value} (hg : guardA ops t o.guard = some true) (ha : aOp P t h o.op = some (.val v h')) (hp : putD sz t o.dst v = some t') (w : WO P X sz ops os t' h' R) : WO P X sz ops (o :: os) t h R := by
  obtain ⟨n, t2, h2, h1, h3⟩ := w
  refine ⟨n, t2, h2, ?_, h3⟩
  simp only [opsA, hg, opA, ha, hp]; exact h1
theorem WO_skip {t' : Tr Value} {h' : AH} (hg : guardA ops t o.guard = some true) (ha : aOp P t h o.op = some (.skip h')) (hp : putD sz t o.dst (.tuple #[]) = some t') (w : WO P X sz ops os t' h' R) : WO P X sz ops (o :: os) t h R := by
  obtain ⟨n, t2, h2, h1, h3⟩ := w
  refine ⟨n, t2, h2, ?_, h3⟩
  simp only [opsA, hg, opA, ha, hp]; exact h1
theorem WO_off {t' : Tr Value} (hg : guardA ops t o.guard = some false) (hp : putD sz t o.dst (.tuple #[]) = some t') (w : WO P X sz ops os t' h R) : WO P X sz ops (o :: os) t h R := by
  obtain ⟨n, t2, h2, h1, h3⟩ := w
  refine ⟨n, t2, h2, ?_, h3⟩
  simp only [opsA, hg, hp]; exact h1
theorem WO_call {f : FuncId} {args : List Value} {d : Tmp} (hg : guardA ops t o.guard = some true) (ha : aOp P t h o.op = some (.call f args)) (hd : o.dst = some d) (hs : Nat.blt d sz = true)
    (w : Fn P X f args h (fun v h' => WO P X sz ops os (t.set d v) h' R)) : WO P X sz ops (o :: os) t h R := by
  obtain ⟨n, v, h1, hc, n2, t2, h2, h3, h4⟩ := w
  refine ⟨max n n2, t2, h2, ?_, h4⟩
  simp only [opsA, hg, opA, ha, hd, putD, hs, callA_mono (exec_le (Nat.le_max_left n n2)) hc]
  exact opsA_mono (exec_le (Nat.le_max_right n n2)) _ _ _ _ h3

theorem Fn.mono {f : FuncId} {args : List Value} {R R' : Value → AH → Prop} (w : Fn P X f args h R) (hr : ∀ v h', R v h' → R' v h') : Fn P X f args h R' := by
  obtain ⟨n, v, h', h1, h2⟩ := w
  exact ⟨n, v, h', h1, hr _ _ h2⟩
def retQ (P : Program) (rs : List ResultVar) (R : Value → AH → Prop) : AX → Tr Value → AH → Prop
  | .exit _, _, _ => False
  | _, t, h => ∃ vs, resultsA P t h rs = some vs ∧ R (oneOrTuple vs) h
theorem Fn_body {f : FuncId} {fn : Func} {body : Code} {args : List Value} {R : Value → AH → Prop} (hX : X f args h = none) (hf : P.funcs[f]? = some fn) (hb : fn.body = some body)
    (w : W P X false (args.length + (fn.ntmps - args.length)) body (enterArgs 0 args .e) h (retQ P fn.results.toList R)) : Fn P X f args h R := by
  obtain ⟨n, x, t', h', h1, h2⟩ := w
  cases x with
  | exit id => exact h2.elim
  | norm =>
    obtain ⟨vs, h3, h4⟩ := h2
    refine ⟨n, _, _, ?_, h4⟩
    unfold callA
    rw [hX, hf]; simp only [hb]; rw [h1]; simp only [h3]
  | ret =>
    obtain ⟨vs, h3, h4⟩ := h2
    refine ⟨n, _, _, ?_, h4⟩
    unfold callA
    rw [hX, hf]; simp only [hb]; rw [h1]; simp only [h3]

theorem Fn_known {f : FuncId} {args : List Value} {R : Value → AH → Prop} {v : Value} {h' : AH} (hX : X f args h = some (v, h')) (hq : R v h') : Fn P X f args h R := ⟨0, v, h', by unfold callA; rw [hX], hq⟩

/-- A region whose order is open, where each value is the same in every order by its place alone. -/
def drawOk (ops : Array Oper) : Bool :=
  planOk ops (masks ops.toList []) [] && (floatsOf ops (masks ops.toList [])).isEmpty &&
    (List.range ops.size).all fun i => chainAt ops [] i || match ops[i]? with | some o => calmAt [] (masks ops.toList []) ((List.range ops.size).filter (chainAt ops [])) i o.op | none => false
theorem opsA_runD {run : Runner} : ∀ (os : List Oper) (i : Nat) (t : Tr Value) (h : AH) (t' : Tr Value) (h' : AH), opsA P X run sz ops os t h = some (t', h') → ∃ l, runD P X run sz ops [] false i os t h = some (l, t', h')
  | [], i, t, h, t', h', hr => by cases hr; exact ⟨[], rfl⟩
  | o :: r, i, t, h, t', h', hr => by
    simp only [opsA] at hr
    split at hr
    · rename_i hg
      split at hr
      · rename_i v h1 ho
        split at hr
        · rename_i t1 hp
          obtain ⟨l, hl⟩ := opsA_runD r (i + 1) t1 h1 t' h' hr
          exact ⟨⟨t, h, true, v⟩ :: l, by simp only [runD, hg, stepD, idOf, ho, hp, hl, consD]⟩
        · cases hr
      · cases hr
    · rename_i hg
      split at hr
      · rename_i t1 hp
        obtain ⟨l, hl⟩ := opsA_runD r (i + 1) t1 h t' h' hr
        exact ⟨⟨t, h, false, .tuple #[]⟩ :: l, by simp only [runD, hg, hp, hl, consD]⟩
      · cases hr
    · cases hr
theorem W_draw {id : Nat} (hd : drawOk ops = true) (w : WO P X sz ops ops.toList t h (Q .norm)) : W P X inR sz (.region id ops true) t h Q := by
  obtain ⟨n, t', h', h1, h2⟩ := w
  refine ⟨n + 1, _, _, _, ?_, h2⟩
  unfold drawOk at hd
  rw [Bool.and_eq_true, Bool.and_eq_true, List.isEmpty_iff, List.all_eq_true] at hd
  obtain ⟨⟨hp, hf⟩, hs⟩ := hd
  rw [exec_S]
  simp only [execStep]
  obtain ⟨l, hl⟩ := opsA_runD ops.toList 0 t h t' h' h1
  obtain ⟨q1, q2, q3, q4⟩ := runD_spec ops.toList 0 t h l t' h' hl
  have : opsD P X (exec P X n) sz ops t h = some (t', h') := by
    unfold opsD
    simp only [hf, hp]
    unfold opsD2
    rw [hl]
    simp only
    have : (List.range ops.size).all (stepOk P ops [] (masks ops.toList []) [] ((List.range ops.size).filter (chainAt ops [])) (h :: ((List.range ops.size).filter (chainAt ops [])).map fun i => hpAt l h' (i + 1)) l) = true := by
      rw [List.all_eq_true]
      intro i hi
      have hi' := List.mem_range.1 hi
      have h3 := hs i hi
      unfold stepOk
      have ho : ops[i]? = some ops[i] := Array.getElem?_eq_getElem hi'
      obtain ⟨s, s1, -⟩ := q4 i _ (by rw [Array.getElem?_toList]; exact ho)
      rw [ho] at h3 ⊢
      rw [s1]
      rw [Bool.or_eq_true] at h3 ⊢
      rcases h3 with h3 | h3
      · exact .inl h3
      · refine .inr ?_
        simp only at h3 ⊢
        rw [h3]; simp
    rw [this]
  rw [this]
end
end Go.Proofs.Xx

/-
  The rules once more, over what is known of the slots.
-/
namespace Go.Proofs.Xx
set_option linter.unusedSectionVars false
open Go
set_option linter.unusedSimpArgs false
set_option linter.unusedVariables false

/-- What is known of the slots: a list of their numbers and values. -/
abbrev Ks := List (Nat × Value)
def Ks.get : Ks → Nat → Option Value
  | [], _ => none
  | (j, v) :: r, k => match Nat.beq j k with | true => some v | false => Ks.get r k
def Ks.put (L : Ks) (k : Nat) (v : Value) : Ks := (k, v) :: L
def Kn (t : Tr Value) (L : Ks) : Prop := ∀ k v, L.get k = some v → t.get k = some v
theorem Kn.put {t : Tr Value} {L : Ks} (h : Kn t L) (k : Nat) (v : Value) : Kn (t.set k v) (L.put k v) := by
  intro j u hj
  rw [Tr.get_set]
  simp only [Ks.put, Ks.get] at hj
  split at hj
  · rename_i e
    cases hj
    rw [if_pos (Nat.eq_of_beq_eq_true e).symm]
  · rename_i e
    rw [if_neg]
    · exact h j u hj
    · intro q; subst q; simp at e
/-- What L' knows, L knows. -/
def Ks.le (L' L : Ks) : Prop := ∀ k v, L'.get k = some v → L.get k = some v
theorem Kn.le {t : Tr Value} {L L' : Ks} (h : Kn t L) (hl : Ks.le L' L) : Kn t L' := fun k v hk => h k v (hl k v hk)
theorem Ks.le_nil (L : Ks) : Ks.le [] L := fun k v h => by cases h
theorem Ks.le_cons {L L' : Ks} {k : Nat} {v : Value} (h : L.get k = some v) (hl : Ks.le L' L) : Ks.le ((k, v) :: L') L := by
  intro j u hj
  simp only [Ks.get] at hj
  split at hj
  · rename_i e
    cases hj
    rw [← Nat.eq_of_beq_eq_true e]; exact h
  · exact hl j u hj

def kA (L : Ks) : Operand → Option Value
  | .tmp k => L.get k
  | .const v => match plainV v with | true => some v | false => none
  | .global _ => none
  | .func f => some (.func (.func f) #[] #[])
theorem kA_ok {t : Tr Value} {L : Ks} (h : Kn t L) {o : Operand} {v : Value} (hk : kA L o = some v) : evA t o = some v := by
  cases o with
  | tmp k => exact h k v hk
  | _ => exact hk

/-- A tree that holds just what is known. -/
def Ks.tree : Ks → Tr Value
  | [] => .e
  | (k, v) :: r => (Ks.tree r).set k v
theorem Ks.tree_get : ∀ (L : Ks) (k : Nat), L.tree.get k = L.get k
  | [], k => Tr.get_e k
  | (j, v) :: r, k => by
    simp only [Ks.tree, Ks.get, Tr.get_set]
    by_cases hk : k = j
    · subst hk; simp
    · rw [if_neg hk, Ks.tree_get r k]
      have : Nat.beq j k = false := by
        cases hb : Nat.beq j k with
        | false => rfl
        | true => exact absurd (Nat.eq_of_beq_eq_true hb).symm hk
      rw [this]
theorem Kn.tree (L : Ks) : Kn L.tree L := fun k v h => by rw [Ks.tree_get]; exact h

/-! ### an operation at what is known -/
/-- t knows what u knows. -/
def TLe (u t : Tr Value) : Prop := ∀ k v, u.get k = some v → t.get k = some v
section
variable {u t : Tr Value} (hl : TLe u t)
include hl
theorem evA_le {o : Operand} {v : Value} (h : evA u o = some v) : evA t o = some v := by
  cases o with
  | tmp k => exact hl k v h
  | _ => exact h
theorem evAll_le : ∀ {os : List Operand} {vs : List Value}, evAll u os = some vs → evAll t os = some vs
  | [], vs, h => h
  | o :: r, vs, h => by
    simp only [evAll] at h ⊢
    split at h
    · rename_i e1 e2; rw [evA_le hl e1, evAll_le e2]; exact h
    · cases h
theorem evParts_le : ∀ {os : List (Nat × Operand)} {vs : List (Nat × Value)}, evParts u os = some vs → evParts t os = some vs
  | [], vs, h => h
  | (i, o) :: r, vs, h => by
    simp only [evParts] at h ⊢
    split at h
    · rename_i e1 e2; rw [evA_le hl e1, evParts_le e2]; exact h
    · cases h
theorem evOpt_le {o : Option Operand} {v : Option Value} (h : evOpt u o = some v) : evOpt t o = some v := by
  cases o with
  | none => exact h
  | some o =>
    simp only [evOpt] at h ⊢
    split at h
    · rename_i e1; rw [evA_le hl e1]; exact h
    · cases h
theorem aOp_le {P : Program} {h : AH} {op : Op} {n : ANext} (ha : aOp P u h op = some n) : aOp P t h op = some n := by
  cases op <;> simp only [aOp] at ha ⊢
  case move x => cases e : evA u x with
    | none => rw [e] at ha; cases ha
    | some v => rw [evA_le hl e]; rw [e] at ha; exact ha
  case assign x => cases e : evA u x with
    | none => rw [e] at ha; cases ha
    | some v => rw [evA_le hl e]; rw [e] at ha; exact ha
  case pick c a b =>
    cases e : evA u c with
    | none => rw [e] at ha; cases ha
    | some v =>
      rw [evA_le hl e]; rw [e] at ha
      cases v with
      | bool q =>
        cases q with
        | true => cases e2 : evA u a with
          | none => simp only [e2] at ha; cases ha
          | some v => simp only [evA_le hl e2]; simp only [e2] at ha; exact ha
        | false => cases e2 : evA u b with
          | none => simp only [e2] at ha; cases ha
          | some v => simp only [evA_le hl e2]; simp only [e2] at ha; exact ha
      | _ => cases ha
  case alloc e => exact ha
  case box a x => cases e : evA u x with
    | none => rw [e] at ha; cases ha
    | some v => rw [evA_le hl e]; rw [e] at ha; exact ha
  case build ty ps => cases e : evParts u ps.toList with
    | none => rw [e] at ha; cases ha
    | some v => rw [evParts_le hl e]; rw [e] at ha; exact ha
  case buildSlice ty m ps => cases e : evParts u ps.toList with
    | none => rw [e] at ha; cases ha
    | some v => rw [evParts_le hl e]; rw [e] at ha; exact ha
  case load a x => cases e : evA u x with
    | none => rw [e] at ha; cases ha
    | some v => rw [evA_le hl e]; rw [e] at ha; exact ha
  case nilCheck x => cases e : evA u x with
    | none => rw [e] at ha; cases ha
    | some v => rw [evA_le hl e]; rw [e] at ha; exact ha
  case unOp a b x => cases e : evA u x with
    | none => rw [e] at ha; cases ha
    | some v => rw [evA_le hl e]; rw [e] at ha; exact ha
  case convert a b x => cases e : evA u x with
    | none => rw [e] at ha; cases ha
    | some v => rw [evA_le hl e]; rw [e] at ha; exact ha
  case fieldAddr a x b => cases e : evA u x with
    | none => rw [e] at ha; cases ha
    | some v => rw [evA_le hl e]; rw [e] at ha; exact ha
  case field a x b => cases e : evA u x with
    | none => rw [e] at ha; cases ha
    | some v => rw [evA_le hl e]; rw [e] at ha; exact ha
  case extract x b => cases e : evA u x with
    | none => rw [e] at ha; cases ha
    | some v => rw [evA_le hl e]; rw [e] at ha; exact ha
  case store ty a x =>
    cases e : evA u a with
    | none => rw [e] at ha; cases ha
    | some v => cases e2 : evA u x with
      | none => rw [e, e2] at ha; cases ha
      | some v2 => rw [evA_le hl e, evA_le hl e2]; rw [e, e2] at ha; exact ha
  case binOp op ty a x b =>
    cases e : evA u a with
    | none => rw [e] at ha; cases ha
    | some v => cases e2 : evA u x with
      | none => rw [e, e2] at ha; cases ha
      | some v2 => rw [evA_le hl e, evA_le hl e2]; rw [e, e2] at ha; exact ha
  case indexAddr ty a x =>
    cases e : evA u a with
    | none => rw [e] at ha; cases ha
    | some v => cases e2 : evA u x with
      | none => rw [e, e2] at ha; cases ha
      | some v2 => rw [evA_le hl e, evA_le hl e2]; rw [e, e2] at ha; exact ha
  case index ty a x =>
    cases e : evA u a with
    | none => rw [e] at ha; cases ha
    | some v => cases e2 : evA u x with
      | none => rw [e, e2] at ha; cases ha
      | some v2 => rw [evA_le hl e, evA_le hl e2]; rw [e, e2] at ha; exact ha
  case makeSlice ty a x =>
    cases e : evA u a with
    | none => rw [e] at ha; cases ha
    | some v => cases e2 : evA u x with
      | none => rw [e, e2] at ha; cases ha
      | some v2 => rw [evA_le hl e, evA_le hl e2]; rw [e, e2] at ha; exact ha
  case lookup ty m k ok =>
    cases e : evA u m with
    | none => rw [e] at ha; cases ha
    | some v => cases e2 : evA u k with
      | none => rw [e, e2] at ha; cases ha
      | some v2 => rw [evA_le hl e, evA_le hl e2]; rw [e, e2] at ha; exact ha
  case mapEntry ty m k =>
    cases e : evA u m with
    | none => rw [e] at ha; cases ha
    | some v => cases e2 : evA u k with
      | none => rw [e, e2] at ha; cases ha
      | some v2 => rw [evA_le hl e, evA_le hl e2]; rw [e, e2] at ha; exact ha
  case mapUpdate ty m k x =>
    cases e : evA u m with
    | none => rw [e] at ha; cases ha
    | some v => cases e2 : evA u k with
      | none => rw [e, e2] at ha; cases ha
      | some v2 => cases e3 : evA u x with
        | none => rw [e, e2, e3] at ha; cases ha
        | some v3 => rw [evA_le hl e, evA_le hl e2, evA_le hl e3]; rw [e, e2, e3] at ha; exact ha
  case insert ty m k x =>
    cases e : evA u m with
    | none => rw [e] at ha; cases ha
    | some v => cases e2 : evA u k with
      | none => rw [e, e2] at ha; cases ha
      | some v2 => cases e3 : evA u x with
        | none => rw [e, e2, e3] at ha; cases ha
        | some v3 => rw [evA_le hl e, evA_le hl e2, evA_le hl e3]; rw [e, e2, e3] at ha; exact ha
  case entryStore ty m k x =>
    cases e : evA u m with
    | none => rw [e] at ha; cases ha
    | some v => cases e2 : evA u k with
      | none => rw [e, e2] at ha; cases ha
      | some v2 => cases e3 : evA u x with
        | none => rw [e, e2, e3] at ha; cases ha
        | some v3 => rw [evA_le hl e, evA_le hl e2, evA_le hl e3]; rw [e, e2, e3] at ha; exact ha
  case makeMap ty rs => exact ha
  case makeFunc fn a b =>
    cases fn <;> simp only at ha ⊢
    case func f =>
      cases e : evAll u a.toList with
      | none => rw [e] at ha; cases ha
      | some v => cases e2 : evAll u b.toList with
        | none => rw [e, e2] at ha; cases ha
        | some v2 => rw [evAll_le hl e, evAll_le hl e2]; rw [e, e2] at ha; exact ha
    all_goals cases ha
  case slice ty x a b c =>
    cases e : evA u x with
    | none => rw [e] at ha; cases ha
    | some v => cases e1 : evOpt u a with
      | none => rw [e, e1] at ha; cases ha
      | some v1 => cases e2 : evOpt u b with
        | none => rw [e, e1, e2] at ha; cases ha
        | some v2 => cases e3 : evOpt u c with
          | none => rw [e, e1, e2, e3] at ha; cases ha
          | some v3 => rw [evA_le hl e, evOpt_le hl e1, evOpt_le hl e2, evOpt_le hl e3]; rw [e, e1, e2, e3] at ha; exact ha
  case call c =>
    obtain ⟨callee, args, argTypes⟩ := c
    simp only at ha ⊢
    cases e : evAll u args.toList with
    | none => rw [e] at ha; cases ha
    | some vs =>
      rw [evAll_le hl e]; rw [e] at ha
      cases callee with
      | builtin b => exact ha
      | value f =>
        simp only at ha ⊢
        cases e2 : evA u f with
        | none => rw [e2] at ha; cases ha
        | some v => rw [evA_le hl e2]; rw [e2] at ha; exact ha
      | invoke a b => exact ha
  all_goals cases ha
theorem guardA_le {ops : Array Oper} {g : Option (Nat × Bool)} {b : Bool} (h : guardA ops u g = some b) : guardA ops t g = some b := by
  unfold guardA at h ⊢
  split at h
  · exact h
  · rename_i j want
    (try simp only)
    split at h
    · rename_i o ho
      (try rw [ho])
      (try simp only)
      split at h
      · rename_i d hd
        (try rw [hd])
        (try simp only)
        cases hg : u.get d with
        | none => rw [hg] at h; cases h
        | some v => rw [hl d v hg]; rw [hg] at h; exact h
      · cases h
    · cases h
theorem resultsA_le {P : Program} {h : AH} : ∀ {rs : List ResultVar} {vs : List Value}, resultsA P u h rs = some vs → resultsA P t h rs = some vs
  | [], vs, hr => hr
  | r :: rs, vs, hr => by
    simp only [resultsA] at hr ⊢
    have key : ∀ v, resultA P u h r = some v → resultA P t h r = some v := by
      intro v hv
      cases r with
      | tmp k => exact hl k v hv
      | cell a ty =>
        simp only [resultA] at hv ⊢
        cases e : u.get a with
        | none => rw [e] at hv; cases hv
        | some p => rw [hl a p e]; rw [e] at hv; exact hv
    split at hr
    · rename_i e1 e2
      rw [key _ e1, resultsA_le e2]; exact hr
    · cases hr
end
theorem Kn.tle {t : Tr Value} {L : Ks} (h : Kn t L) : TLe L.tree t := fun k v hk => h k v (by rw [← Ks.tree_get]; exact hk)
end Go.Proofs.Xx

/-
  The rules over what is known of the slots.
-/
namespace Go.Proofs.Xx
set_option linter.unusedSectionVars false
open Go
set_option linter.unusedSimpArgs false
set_option linter.unusedVariables false

abbrev KQ := AX → Ks → AH → Prop
section
variable (P : Program) (X : Extern)
def K (inR : Bool) (sz : Nat) (c : Code) (L : Ks) (h : AH) (Q : KQ) : Prop := ∀ t, Kn t L → W P X inR sz c t h (fun x t' h' => ∃ L', Kn t' L' ∧ Q x L' h')
def KO (sz : Nat) (ops : Array Oper) (os : List Oper) (L : Ks) (h : AH) (R : Ks → AH → Prop) : Prop := ∀ t, Kn t L → WO P X sz ops os t h (fun t' h' => ∃ L', Kn t' L' ∧ R L' h')
end

section
variable {P : Program} {X : Extern} {inR : Bool} {sz : Nat} {L : Ks} {h : AH} {Q : KQ}

theorem K.mono {c : Code} {Q' : KQ} (w : K P X inR sz c L h Q) (hq : ∀ x L' h', Q x L' h' → Q' x L' h') : K P X inR sz c L h Q' :=
  fun t hk => (w t hk).mono fun x t' h' ⟨L', h1, h2⟩ => ⟨L', h1, hq _ _ _ h2⟩
/-- Forget slots. -/
theorem K.le {c : Code} {L' : Ks} (hl : Ks.le L' L) (w : K P X inR sz c L' h Q) : K P X inR sz c L h Q := fun t hk => w t (hk.le hl)
theorem K_skip (hq : Q .norm L h) : K P X inR sz .skip L h Q := fun t hk => W_skip ⟨L, hk, hq⟩
theorem K_exit {id : Nat} (hq : Q (.exit id) L h) : K P X inR sz (.exit id) L h Q := fun t hk => W_exit ⟨L, hk, hq⟩
theorem K_ret (hq : Q .ret L h) : K P X inR sz .ret L h Q := fun t hk => W_ret ⟨L, hk, hq⟩
theorem K_label {l : Nat} (hq : Q .norm L h) : K P X inR sz (.label l) L h Q := fun t hk => W_label ⟨L, hk, hq⟩
def thenK (P : Program) (X : Extern) (inR : Bool) (sz : Nat) (b : Code) (Q : KQ) : KQ
  | .norm, L, h => K P X inR sz b L h Q
  | x, L, h => Q x L h
theorem K_seq {a b : Code} (w : K P X inR sz a L h (thenK P X inR sz b Q)) : K P X inR sz (.seq a b) L h Q := fun t hk =>
  W_seq ((w t hk).mono fun x t' h' ⟨L', h1, h2⟩ => by
    cases x with
    | norm => exact h2 t' h1
    | exit id => exact ⟨L', h1, h2⟩
    | ret => exact ⟨L', h1, h2⟩)
theorem K_cond {c : Operand} {a b : Code} {v : Bool} (hc : kA L c = some (.bool v)) (w : K P X inR sz (if v then a else b) L h Q) : K P X inR sz (.cond c a b) L h Q := fun t hk =>
  W_cond (kA_ok hk hc) (w t hk)
def blockK (id : Nat) (Q : KQ) : KQ
  | .exit id', L, h => if id' = id then Q .norm L h else Q (.exit id') L h
  | x, L, h => Q x L h
theorem K_block {id : Nat} {body : Code} (w : K P X inR sz body L h (blockK id Q)) : K P X inR sz (.block id body) L h Q := fun t hk =>
  W_block ((w t hk).mono fun x t' h' ⟨L', h1, h2⟩ => by
    cases x with
    | norm => exact ⟨L', h1, h2⟩
    | exit id' =>
      simp only [blockK] at h2
      simp only [blockQ]
      split
      · rename_i e; rw [if_pos e] at h2; exact ⟨L', h1, h2⟩
      · rename_i e; rw [if_neg e] at h2; exact ⟨L', h1, h2⟩
    | ret => exact ⟨L', h1, h2⟩)
theorem K_scope {body : Code} (w : K P X inR sz body L h Q) : K P X inR sz (.scope body) L h Q := fun t hk => W_scope (w t hk)
def loopK (I : Nat → Ks → AH → Prop) (m : Nat) (Q : KQ) : KQ
  | .norm, L, h => ∃ k L', k < m ∧ I k L' h ∧ Ks.le L' L
  | x, L, h => Q x L h
/-- The rule of a loop: m is a measure that goes down; I tells the slots that are known at its head. -/
theorem K_loop {body : Code} (I : Nat → Ks → AH → Prop) (hb : ∀ m L h, I m L h → K P X inR sz body L h (loopK I m Q)) (m : Nat) {L0 : Ks} (hi : I m L0 h) (hl : Ks.le L0 L) : K P X inR sz (.loop body) L h Q := fun t hk =>
  W_loop (Q := fun x t' h' => ∃ L', Kn t' L' ∧ Q x L' h') (fun m t h => ∃ L, Kn t L ∧ I m L h) (fun m t h ⟨L, k1, k2⟩ => (hb m L h k2 t k1).mono fun x t' h' ⟨L', h1, h2⟩ => by
    cases x with
    | norm => obtain ⟨k, L2, h3, h4, h5⟩ := h2; exact ⟨k, h3, L2, h1.le h5, h4⟩
    | exit id => exact ⟨L', h1, h2⟩
    | ret => exact ⟨L', h1, h2⟩) m t h ⟨L0, hk.le hl, hi⟩
theorem K_region {id : Nat} {ops : Array Oper} (w : KO P X sz ops ops.toList L h (Q .norm)) : K P X inR sz (.region id ops false) L h Q := fun t hk => W_region (w t hk)

variable {ops : Array Oper} {os : List Oper} {o : Oper} {R : Ks → AH → Prop}
theorem KO_nil (hq : R L h) : KO P X sz ops [] L h R := fun t hk => WO_nil ⟨L, hk, hq⟩
theorem KO.mono {R' : Ks → AH → Prop} (w : KO P X sz ops os L h R') (hq : ∀ L' h', R' L' h' → R L' h') : KO P X sz ops os L h R := fun t hk => by
  obtain ⟨n, t', h', h1, L', h2, h3⟩ := w t hk
  exact ⟨n, t', h', h1, L', h2, hq _ _ h3⟩
/-- The slots behind an operation. -/
def putK (sz : Nat) (L : Ks) (d : Option Tmp) (v : Value) : Option Ks :=
  match d with
  | none => some L
  | some k => match Nat.blt k sz with
    | true => some (L.put k v)
    | false => none
theorem putK_ok {t : Tr Value} {L L' : Ks} {d : Option Tmp} {v : Value} (hk : Kn t L) (hp : putK sz L d v = some L') : ∃ t', putD sz t d v = some t' ∧ Kn t' L' := by
  unfold putK at hp
  unfold putD
  split at hp
  · cases hp; exact ⟨t, rfl, hk⟩
  · split at hp
    · rename_i e; cases hp; exact ⟨_, by simp only [e], hk.put _ _⟩
    · cases hp
theorem KO_val {L' : Ks} {h' : AH} {v : Value} (hg : guardA ops L.tree o.guard = some true) (ha : aOp P L.tree h o.op = some (.val v h')) (hp : putK sz L o.dst v = some L') (w : KO P X sz ops os L' h' R) : KO P X sz ops (o :: os) L h R := fun t hk => by
  obtain ⟨t', h1, h2⟩ := putK_ok hk hp
  exact WO_val (guardA_le hk.tle hg) (aOp_le hk.tle ha) h1 (w t' h2)
theorem KO_skip {L' : Ks} {h' : AH} (hg : guardA ops L.tree o.guard = some true) (ha : aOp P L.tree h o.op = some (.skip h')) (hp : putK sz L o.dst (.tuple #[]) = some L') (w : KO P X sz ops os L' h' R) : KO P X sz ops (o :: os) L h R := fun t hk => by
  obtain ⟨t', h1, h2⟩ := putK_ok hk hp
  exact WO_skip (guardA_le hk.tle hg) (aOp_le hk.tle ha) h1 (w t' h2)
theorem KO_off {L' : Ks} (hg : guardA ops L.tree o.guard = some false) (hp : putK sz L o.dst (.tuple #[]) = some L') (w : KO P X sz ops os L' h R) : KO P X sz ops (o :: os) L h R := fun t hk => by
  obtain ⟨t', h1, h2⟩ := putK_ok hk hp
  exact WO_off (guardA_le hk.tle hg) h1 (w t' h2)
theorem KO_call {f : FuncId} {args : List Value} {d : Tmp} (hg : guardA ops L.tree o.guard = some true) (ha : aOp P L.tree h o.op = some (.call f args)) (hd : o.dst = some d) (hs : Nat.blt d sz = true)
    (w : Fn P X f args h (fun v h' => KO P X sz ops os (L.put d v) h' R)) : KO P X sz ops (o :: os) L h R := fun t hk =>
  WO_call (guardA_le hk.tle hg) (aOp_le hk.tle ha) hd hs (w.mono fun v h' q => q _ (hk.put d v))

/-! ### operation by operation -/
theorem tree_le {L : Ks} {o : Operand} {v : Value} (hk : kA L o = some v) : evA L.tree o = some v := kA_ok (Kn.tree L) hk
theorem KO_len {L' : Ks} {x : Operand} {ty : TypeId} {a v : Value} (ho : o.op = .call { callee := .builtin .len, args := #[x], argTypes := #[ty] }) (hg : guardA ops L.tree o.guard = some true) (hx : kA L x = some a)
    (hv : aLen P ty a = some v) (hp : putK sz L o.dst v = some L') (w : KO P X sz ops os L' h R) : KO P X sz ops (o :: os) L h R :=
  KO_val hg (by rw [ho]; simp only [aOp, evAll, tree_le hx, aBuiltin, hv, nextOf]) hp w
theorem KO_index {L' : Ks} {x i : Operand} {ty : TypeId} {a b v : Value} (ho : o.op = .indexAddr ty x i) (hg : guardA ops L.tree o.guard = some true) (hx : kA L x = some a) (hi : kA L i = some b)
    (hv : aIndexAddr P ty a b = some v) (hp : putK sz L o.dst v = some L') (w : KO P X sz ops os L' h R) : KO P X sz ops (o :: os) L h R :=
  KO_val hg (by rw [ho]; simp only [aOp, tree_le hx, tree_le hi, hv, nextOf]) hp w
theorem KO_load {L' : Ks} {x : Operand} {ty : TypeId} {a v : Value} (ho : o.op = .load ty x) (hg : guardA ops L.tree o.guard = some true) (hx : kA L x = some a)
    (hv : aLoad P ty a h = some v) (hp : putK sz L o.dst v = some L') (w : KO P X sz ops os L' h R) : KO P X sz ops (o :: os) L h R :=
  KO_val hg (by rw [ho]; simp only [aOp, tree_le hx, hv, nextOf]) hp w
theorem KO_bin {L' : Ks} {op : BinOp} {x y : Operand} {ty ty2 : TypeId} {a b v : Value} (ho : o.op = .binOp op ty x y ty2) (hg : guardA ops L.tree o.guard = some true) (hx : kA L x = some a) (hy : kA L y = some b)
    (hv : aBin P op ty a b = some v) (hp : putK sz L o.dst v = some L') (w : KO P X sz ops os L' h R) : KO P X sz ops (o :: os) L h R :=
  KO_val hg (by rw [ho]; simp only [aOp, tree_le hx, tree_le hy, hv, nextOf]) hp w
theorem KO_store {h' : AH} {L' : Ks} {x y : Operand} {ty : TypeId} {a b : Value} (ho : o.op = .store ty x y) (hg : guardA ops L.tree o.guard = some true) (hx : kA L x = some a) (hy : kA L y = some b)
    (hv : aStore P ty a b h = some h') (hp : putK sz L o.dst (.tuple #[]) = some L') (w : KO P X sz ops os L' h' R) : KO P X sz ops (o :: os) L h R :=
  KO_skip hg (by rw [ho]; simp only [aOp, tree_le hx, tree_le hy, hv]) hp w
theorem KO_make {h' : AH} {L' : Ks} {x y : Operand} {ty : TypeId} {a b v : Value} (ho : o.op = .makeSlice ty x y) (hg : guardA ops L.tree o.guard = some true) (hx : kA L x = some a) (hy : kA L y = some b)
    (hv : aMakeSlice P ty a b h = some (v, h')) (hp : putK sz L o.dst v = some L') (w : KO P X sz ops os L' h' R) : KO P X sz ops (o :: os) L h R :=
  KO_val hg (by rw [ho]; simp only [aOp, tree_le hx, tree_le hy, hv, nextOf2]) hp w
theorem KO_append {h' : AH} {L' : Ks} {x y : Operand} {tys : Array TypeId} {a b v : Value} (ho : o.op = .call { callee := .builtin .append, args := #[x, y], argTypes := tys }) (hg : guardA ops L.tree o.guard = some true) (hx : kA L x = some a) (hy : kA L y = some b)
    (hv : aAppend P tys.toList a b h = some (v, h')) (hp : putK sz L o.dst v = some L') (w : KO P X sz ops os L' h' R) : KO P X sz ops (o :: os) L h R :=
  KO_val hg (by rw [ho]; simp only [aOp, evAll, tree_le hx, tree_le hy, aBuiltin, hv, nextOf2]) hp w
def kAll (L : Ks) : List Operand → Option (List Value)
  | [] => some []
  | o :: r => match kA L o, kAll L r with
    | some v, some vs => some (v :: vs)
    | _, _ => none
theorem kAll_ok {L : Ks} : ∀ {os : List Operand} {vs : List Value}, kAll L os = some vs → evAll L.tree os = some vs
  | [], vs, h => h
  | o :: r, vs, h => by
    simp only [kAll] at h
    simp only [evAll]
    split at h
    · rename_i e1 e2; rw [tree_le e1, kAll_ok e2]; exact h
    · cases h
theorem KO_fn {f : FuncId} {args : Array Operand} {tys : Array TypeId} {vs : List Value} {d : Tmp} (ho : o.op = .call { callee := .value (.func f), args := args, argTypes := tys }) (hg : guardA ops L.tree o.guard = some true) (ha : kAll L args.toList = some vs)
    (hd : o.dst = some d) (hs : Nat.blt d sz = true) (w : Fn P X f vs h (fun v h' => KO P X sz ops os (L.put d v) h' R)) : KO P X sz ops (o :: os) L h R :=
  KO_call hg (by rw [ho]; simp [aOp, kAll_ok ha, evA]) hd hs w

def retK (P : Program) (rs : List ResultVar) (R : Value → AH → Prop) : KQ
  | .exit _, _, _ => False
  | _, L, h => ∃ vs, resultsA P L.tree h rs = some vs ∧ R (oneOrTuple vs) h
def numK : Nat → List Value → Ks
  | _, [] => []
  | k, v :: r => (k, v) :: numK (k + 1) r
theorem numK_get : ∀ (vs : List Value) (k j : Nat) (v : Value), (numK k vs).get j = some v → k ≤ j ∧ vs[j - k]? = some v
  | [], k, j, v, h => by cases h
  | u :: r, k, j, v, h => by
    simp only [numK, Ks.get] at h
    split at h
    · rename_i e
      cases h
      have := Nat.eq_of_beq_eq_true e
      subst this
      exact ⟨Nat.le_refl _, by simp⟩
    · obtain ⟨h1, h2⟩ := numK_get r (k + 1) j v h
      refine ⟨by omega, ?_⟩
      rw [show j - k = (j - (k + 1)) + 1 by omega, List.getElem?_cons_succ]; exact h2
theorem enterArgs_get : ∀ (vs : List Value) (k : Nat) (t : Tr Value) (j : Nat), (enterArgs k vs t).get j = if k ≤ j ∧ j < k + vs.length then vs[j - k]? else t.get j
  | [], k, t, j => by simp [enterArgs]; intro h1 h2; omega
  | v :: r, k, t, j => by
    simp only [enterArgs]
    rw [enterArgs_get r (k + 1) _ j, Tr.get_set]
    by_cases hj : j = k
    · subst hj; rw [if_neg (by omega), if_pos rfl, if_pos ⟨Nat.le_refl _, by simp⟩]; simp
    · by_cases h1 : k + 1 ≤ j ∧ j < k + 1 + r.length
      · rw [if_pos h1, if_pos (by simp; omega), show j - k = (j - (k + 1)) + 1 by omega, List.getElem?_cons_succ]
      · rw [if_neg h1, if_neg hj, if_neg (by simp; omega)]
theorem Kn.enter (vs : List Value) : Kn (enterArgs 0 vs .e) (numK 0 vs) := by
  intro j v hj
  obtain ⟨h1, h2⟩ := numK_get vs 0 j v hj
  rw [enterArgs_get, if_pos ⟨Nat.zero_le _, by have := (List.getElem?_eq_some_iff.1 h2).1; omega⟩]
  exact h2
theorem Fn_K {f : FuncId} {fn : Func} {body : Code} {args : List Value} {R : Value → AH → Prop} (hX : X f args h = none) (hf : P.funcs[f]? = some fn) (hb : fn.body = some body) {n : Nat} (hn : args.length + (fn.ntmps - args.length) = n)
    (w : K P X false n body (numK 0 args) h (retK P fn.results.toList R)) : Fn P X f args h R := by
  subst hn
  refine Fn_body hX hf hb ((w _ (Kn.enter args)).mono fun x t' h' ⟨L', h1, h2⟩ => ?_)
  cases x with
  | exit id => exact h2.elim
  | norm => obtain ⟨vs, h3, h4⟩ := h2; exact ⟨vs, resultsA_le h1.tle h3, h4⟩
  | ret => obtain ⟨vs, h3, h4⟩ := h2; exact ⟨vs, resultsA_le h1.tle h3, h4⟩
end
end Go.Proofs.Xx

/-
  The abstract memory in proofs: what is kept, slices that read as lists, blocks of one's own.
-/
namespace Go.Proofs.Xx
set_option linter.unusedSectionVars false
open Go
set_option linter.unusedSimpArgs false
set_option linter.unusedVariables false

/-! ### what is kept -/
def WfH (h : AH) : Prop := ∀ b, h.next ≤ b → h.get b = none
theorem WfH.lt {h : AH} (w : WfH h) {b : Nat} {o : AObj} (hg : h.get b = some o) : b < h.next := by
  rcases Nat.lt_or_ge b h.next with q | q
  · exact q
  · rw [w b q] at hg; cases hg
theorem WfH.add {h : AH} (w : WfH h) (o : AObj) : WfH (h.add o) := fun b hb => by
  have hb' : h.next + 1 ≤ b := hb
  rw [AH.get_add, if_neg (by omega)]; exact w b (by omega)
theorem WfH.put {h : AH} (w : WfH h) {b : Nat} (hb : b < h.next) (o : AObj) : WfH (h.put b o) := fun k hk => by
  have hk' : h.next ≤ k := hk
  rw [AH.get_put, if_neg (by omega)]; exact w k hk'
/-- Of what was there in h nothing has turned. -/
structure Ext (h h' : AH) : Prop where
  next : h.next ≤ h'.next
  old : ∀ b, b < h.next → h'.get b = h.get b
  wf : WfH h'
theorem Ext.refl {h : AH} (w : WfH h) : Ext h h := ⟨Nat.le_refl _, fun _ _ => rfl, w⟩
theorem Ext.trans {a b c : AH} (x : Ext a b) (y : Ext b c) : Ext a c := ⟨Nat.le_trans x.next y.next, fun k hk => (y.old k (Nat.lt_of_lt_of_le hk x.next)).trans (x.old k hk), y.wf⟩
theorem Ext.add {h0 h : AH} (x : Ext h0 h) (o : AObj) : Ext h0 (h.add o) :=
  ⟨Nat.le_trans x.next (Nat.le_succ _), fun b hb => by rw [AH.get_add, if_neg (by have := x.next; omega)]; exact x.old b hb, x.wf.add o⟩
theorem Ext.put {h0 h : AH} (x : Ext h0 h) {b : Nat} (h1 : h0.next ≤ b) (h2 : b < h.next) (o : AObj) : Ext h0 (h.put b o) :=
  ⟨x.next, fun k hk => by rw [AH.get_put, if_neg (by omega)]; exact x.old k hk, x.wf.put h2 o⟩
theorem Ext.get {h0 h : AH} (x : Ext h0 h) (w : WfH h0) {b : Nat} {o : AObj} (hg : h0.get b = some o) : h.get b = some o := (x.old b (w.lt hg)).trans hg

/-! ### slices that read as lists -/
theorem takeAt_get {c xs : List Value} {o n k : Nat} (h : takeAt c o n = some xs) (hk : k < n) : c[o + k]? = xs[k]? := by
  unfold takeAt at h
  simp only at h
  split at h
  · cases h
    rw [List.getElem?_take, if_pos hk, List.getElem?_drop]
  · cases h
theorem takeAt_len {c xs : List Value} {o n : Nat} (h : takeAt c o n = some xs) : xs.length = n := by
  unfold takeAt at h
  simp only at h
  split at h
  · rename_i e; cases h; exact Nat.eq_of_beq_eq_true e
  · cases h
theorem takeAt_mk {c : List Value} {o n : Nat} (h : o + n ≤ c.length) : takeAt c o n = some ((c.drop o).take n) := by
  unfold takeAt
  simp only
  have : ((c.drop o).take n).length = n := by rw [List.length_take, List.length_drop]; omega
  rw [this]; simp
theorem takeAt_all (c : List Value) : takeAt c 0 c.length = some c := by rw [takeAt_mk (by omega)]; simp
theorem takeAt_eqs {c xs : List Value} {o n : Nat} (h : takeAt c o n = some xs) : xs = (c.drop o).take n ∧ o + n ≤ c.length ∨ n = 0 ∧ xs = [] := by
  have hl := takeAt_len h
  unfold takeAt at h
  simp only at h
  split at h
  · rename_i e
    cases h
    rw [List.length_take, List.length_drop] at hl
    rcases Nat.eq_zero_or_pos n with q | q
    · right; subst q; simp
    · left; exact ⟨rfl, by omega⟩
  · cases h
theorem takeAt_sub {c xs : List Value} {o n i m : Nat} (h : takeAt c o n = some xs) (him : i + m ≤ n) : takeAt c (o + i) m = some ((xs.drop i).take m) := by
  rcases takeAt_eqs h with ⟨rfl, hle⟩ | ⟨rfl, rfl⟩
  · rw [takeAt_mk (by omega), List.drop_take, List.take_take, List.drop_drop]
    congr 2; omega
  · have : m = 0 := by omega
    subst this
    simp [takeAt]

/-- The slice value v has n elements of z cells each, which read as c. -/
def Rd (h : AH) (v : Value) (z n : Nat) (c : List Value) : Prop :=
  (v = .slice none 0 0 ∧ n = 0 ∧ c = []) ∨ ∃ b o cap cc e s r, v = .slice (some ⟨b, o, none⟩) n cap ∧ h.get b = some (.cells cc e s r) ∧ takeAt cc o (n * z) = some c
theorem Rd.none_ (h : AH) (z : Nat) : Rd h (.slice none 0 0) z 0 [] := .inl ⟨rfl, rfl, rfl⟩
theorem Rd.length {h : AH} {v : Value} {z n : Nat} {c : List Value} (r : Rd h v z n c) : c.length = n * z := by
  rcases r with ⟨rfl, rfl, rfl⟩ | ⟨b, o, cap, cc, e, s, q, rfl, h1, h2⟩
  · simp
  · exact takeAt_len h2
theorem Rd.ext {h h' : AH} {v : Value} {z n : Nat} {c : List Value} (r : Rd h v z n c) (w : WfH h) (x : Ext h h') : Rd h' v z n c := by
  rcases r with ⟨rfl, rfl, rfl⟩ | ⟨b, o, cap, cc, e, s, q, rfl, h1, h2⟩
  · exact Rd.none_ h' z
  · exact .inr ⟨b, o, cap, cc, e, s, q, rfl, x.get w h1, h2⟩
section
variable {P : Program} {ty e : TypeId} (hu : P.underlying ty = some (.slice e))
include hu
theorem Rd.len {h : AH} {v : Value} {z n : Nat} {c : List Value} (r : Rd h v z n c) : aLen P ty v = some (.int .i64 n) := by
  rcases r with ⟨rfl, rfl, rfl⟩ | ⟨b, o, cap, cc, e', s, q, rfl, h1, h2⟩ <;> simp [aLen, hu]
end

/-! ### blocks of one's own -/
/-- v is the whole of block b, which holds the cells c, n elements. -/
structure Own (h : AH) (v : Value) (b : Nat) (e : TypeId) (z n : Nat) (c : List Value) : Prop where
  val : v = .slice (some ⟨b, 0, none⟩) n n
  obj : h.get b = some (.cells c e none false)
  len : c.length = n * z
theorem Own.rd {h : AH} {v : Value} {b : Nat} {e : TypeId} {z n : Nat} {c : List Value} (o : Own h v b e z n c) : Rd h v z n c :=
  .inr ⟨b, 0, n, c, e, none, false, o.val, o.obj, by rw [← o.len]; exact takeAt_all c⟩
theorem make_own {P : Program} {ty e : TypeId} {z : List Value} {by_ : Nat} {h : AH} (w : WfH h) (hu : sliceElem P ty = some e) (hz : zeroCellsT P e = some z) (hb : bytesT P e = some by_) {n : Nat} (hn : n * (by_ + 1) ≤ 140737488355328) :
    ∃ v h', aMakeSlice P ty (.int .i64 n) (.int .i64 n) h = some (v, h') ∧ Own h' v h.next e z.length n (zeroRow z n) ∧ Ext h h' := by
  refine ⟨.slice (some ⟨h.next, 0, none⟩) n n, h.add (.cells (zeroRow z n) e none false), ?_, ⟨rfl, by rw [AH.get_add, if_pos rfl], zeroRow_length z n⟩, (Ext.refl w).add _⟩
  show aMakeSlice P ty (.int .i64 (Int.ofNat n)) (.int .i64 (Int.ofNat n)) h = _
  have h1 : Nat.ble n n = true := Nat.ble_eq_true_of_le (Nat.le_refl _)
  have h2 : Nat.ble (n * (by_ + 1)) 140737488355328 = true := Nat.ble_eq_true_of_le hn
  simp only [aMakeSlice, hu, hz, hb, h1, h2, Bool.and_self]
/-- A store into an element of one cell of one's own block. -/
theorem Own.set {P : Program} {ty e : TypeId} (hu : P.underlying ty = some (.slice e)) (hz : sizeT P e = some 1) {h : AH} {v : Value} {b n : Nat} {c : List Value} (o : Own h v b e 1 n c) {ik : IntKind} {k : Nat} (hk : k < n) {x : Value} (hx : one? x = true) (hc : x.cells = #[x]) :
    ∃ p, aIndexAddr P ty v (.int ik k) = some p ∧ aStore P e p x h = some (h.put b (.cells (c.set k x) e none false)) ∧ Own (h.put b (.cells (c.set k x) e none false)) v b e 1 n (c.set k x) := by
  have hkc : k < c.length := by have := o.len; omega
  refine ⟨.pointer (some ⟨b, 0 + k * 1, none⟩), ?_, ?_, ⟨o.val, by rw [AH.get_put, if_pos rfl], by rw [List.length_set]; exact o.len⟩⟩
  · have : Nat.blt k n = true := by rw [Nat.blt_eq]; exact hk
    rw [o.val]
    show aIndexAddr P ty _ (.int ik (Int.ofNat k)) = _
    simp only [aIndexAddr, hu, hz, this]
  · simp only [aStore, cellsAt, o.obj, hz, hc]
    have h1 : Nat.ble (0 + k * 1 + 1) c.length = true := Nat.ble_eq_true_of_le (by omega)
    have h2 : splice c (0 + k * 1) [x] = c.set k x := by
      simp only [splice, Nat.zero_add, Nat.mul_one, List.length_cons, List.length_nil, List.cons_append, List.nil_append]
      rw [List.set_eq_take_append_cons_drop, if_pos hkc]
    have h3 : putCells h b (0 + k * 1) c e none [x] = some (h.put b (.cells (c.set k x) e none false)) := by
      unfold putCells
      rw [h2]
      have : ([x].all one? && Nat.ble (0 + k * 1 + [x].length) c.length) = true := by
        rw [show [x].all one? = true by simp [hx], show [x].length = 1 from rfl, h1]; rfl
      rw [this]
    exact h3

theorem wrap_i64 {n : Int} (h1 : -9223372036854775808 ≤ n) (h2 : n ≤ 9223372036854775807) : IntKind.i64.wrap n = n := IntWalk.i64_in _ (by omega)
theorem add_i64 {P : Program} {ty : TypeId} {a b c : Int} (hc : a + b = c) (h1 : -9223372036854775808 ≤ c) (h2 : c ≤ 9223372036854775807) : aBin P .add ty (.int .i64 a) (.int .i64 b) = some (.int .i64 c) := by
  show some (Value.int .i64 (IntKind.i64.wrap (a + b))) = _
  rw [hc, wrap_i64 h1 h2]
theorem sub_i64 {P : Program} {ty : TypeId} {a b c : Int} (hc : a - b = c) (h1 : -9223372036854775808 ≤ c) (h2 : c ≤ 9223372036854775807) : aBin P .sub ty (.int .i64 a) (.int .i64 b) = some (.int .i64 c) := by
  show some (Value.int .i64 (IntKind.i64.wrap (a - b))) = _
  rw [hc, wrap_i64 h1 h2]
theorem mul_i64 {P : Program} {ty : TypeId} {a b c : Int} (hc : a * b = c) (h1 : -9223372036854775808 ≤ c) (h2 : c ≤ 9223372036854775807) : aBin P .mul ty (.int .i64 a) (.int .i64 b) = some (.int .i64 c) := by
  show some (Value.int .i64 (IntKind.i64.wrap (a * b))) = _
  rw [hc, wrap_i64 h1 h2]

def ints (l : List Int) : List Value := l.map (Value.int .i64)
end Go.Proofs.Xx

/-
  A region whose order is open and that turns no memory, over what is known of the slots.
-/
namespace Go.Proofs.Xx
set_option linter.unusedSectionVars false
open Go
set_option linter.unusedSimpArgs false
set_option linter.unusedVariables false

theorem sameV_slice (b o n c : Nat) : sameV (.slice (some ⟨b, o, none⟩) n c) (.slice (some ⟨b, o, none⟩) n c) = true := by simp [sameV, same1, same0]
theorem Rd.same {h : AH} {v : Value} {z n : Nat} {c : List Value} (r : Rd h v z n c) : sameV v v = true := by
  rcases r with ⟨rfl, rfl, rfl⟩ | ⟨b, o, cap, cc, e, s, q, rfl, h1, h2⟩
  · rfl
  · exact sameV_slice _ _ _ _

section
variable {P : Program} {X : Extern} {inR : Bool} {sz : Nat} {L : Ks} {h : AH} {Q : KQ} {ops : Array Oper}
theorem K_draw {id : Nat} (w : KO P X sz ops ops.toList L h (Q .norm)) (hd : drawOk ops = true := by decide +kernel) : K P X inR sz (.region id ops true) L h Q := fun t hk => W_draw hd (w t hk)
end
end Go.Proofs.Xx

/-
  append and slices that are built, in proofs.
-/
namespace Go.Proofs.Xx
set_option linter.unusedSectionVars false
open Go
set_option linter.unusedSimpArgs false
set_option linter.unusedVariables false

/-- A slice of one's own that append has made (or nil): all of its block, made after h0. -/
def Gr (h0 h : AH) (v : Value) (e : TypeId) (z n : Nat) (c : List Value) : Prop :=
  (v = .slice none 0 0 ∧ n = 0 ∧ c = []) ∨ ∃ b slk, v = .slice (some ⟨b, 0, none⟩) n n ∧ h.get b = some (.cells c e slk false) ∧ c.length = n * z ∧ h0.next ≤ b ∧ (slk = none ∨ slk = some z)
theorem Gr.rd {h0 h : AH} {v : Value} {e : TypeId} {z n : Nat} {c : List Value} (g : Gr h0 h v e z n c) : Rd h v z n c := by
  rcases g with ⟨rfl, rfl, rfl⟩ | ⟨b, slk, rfl, h1, h2, h3, h4⟩
  · exact Rd.none_ h z
  · exact .inr ⟨b, 0, n, c, e, slk, false, rfl, h1, by rw [← h2]; exact takeAt_all c⟩
theorem Gr.nil (h0 h : AH) (e : TypeId) (z : Nat) : Gr h0 h (.slice none 0 0) e z 0 [] := .inl ⟨rfl, rfl, rfl⟩
theorem Gr.ext {h0 h h' : AH} {v : Value} {e : TypeId} {z n : Nat} {c : List Value} (g : Gr h0 h v e z n c) (w : WfH h) (x : Ext h h') : Gr h0 h' v e z n c := by
  rcases g with ⟨rfl, rfl, rfl⟩ | ⟨b, slk, rfl, h1, h2⟩
  · exact Gr.nil h0 h' e z
  · exact .inr ⟨b, slk, rfl, x.get w h1, h2⟩
theorem Rd.source {h : AH} {v : Value} {z n : Nat} {c : List Value} (r : Rd h v z n c) : aSource z v h = some (n, c) := by
  rcases r with ⟨rfl, rfl, rfl⟩ | ⟨b, o, cap, cc, e, s, q, rfl, h1, h2⟩
  · rfl
  · simp only [aSource, h1, h2]

theorem build1 {P : Program} {ty e : TypeId} {zc : List Value} (hs : sliceElem P ty = some e) (hz : zeroCellsT P e = some zc) {x : Value} (hx : x.cells.toList.length = zc.length) (hzl : zc.length ≤ 1000) (h : AH) :
    aBuildSlice P ty 1 [(0, x)] h = some (.slice (some ⟨h.next, 0, none⟩) 1 1, h.add (.cells x.cells.toList e none false)) := by
  have k1 : Nat.ble (1 * zc.length) 16777216 = true := Nat.ble_eq_true_of_le (by omega)
  have k3 : zeroRow zc 1 = zc := by simp [zeroRow]
  have k2 : (Nat.beq x.cells.toList.length zc.length && Nat.ble (0 * zc.length + zc.length) zc.length) = true := by
    rw [hx]; simp
  have k4 : splice zc (0 * zc.length) x.cells.toList = x.cells.toList := by
    simp only [splice, Nat.zero_mul, List.take_zero, List.nil_append, Nat.zero_add]
    rw [hx, List.drop_length, List.append_nil]
  simp only [aBuildSlice, hs, hz, k1, k3, fillL, k2, k4]
theorem build0 {P : Program} {ty e : TypeId} {zc : List Value} (hs : sliceElem P ty = some e) (hz : zeroCellsT P e = some zc) (h : AH) :
    aBuildSlice P ty 0 [] h = some (.slice (some ⟨h.next, 0, none⟩) 0 0, h.add (.cells [] e none false)) := by
  have k1 : Nat.ble (0 * zc.length) 16777216 = true := Nat.ble_eq_true_of_le (by omega)
  simp only [aBuildSlice, hs, hz, k1, fillL, zeroRow]

section
variable {P : Program} {X : Extern} {inR : Bool} {sz : Nat} {L : Ks} {h : AH} {ops : Array Oper} {os : List Oper} {o : Oper} {R : Ks → AH → Prop}
def kParts (L : Ks) : List (Nat × Operand) → Option (List (Nat × Value))
  | [] => some []
  | (i, o) :: r => match kA L o, kParts L r with
    | some v, some vs => some ((i, v) :: vs)
    | _, _ => none
theorem kParts_ok {L : Ks} : ∀ {os : List (Nat × Operand)} {vs : List (Nat × Value)}, kParts L os = some vs → evParts L.tree os = some vs
  | [], vs, h => h
  | (i, o) :: r, vs, h => by
    simp only [kParts] at h
    simp only [evParts]
    split at h
    · rename_i e1 e2; rw [tree_le e1, kParts_ok e2]; exact h
    · cases h
theorem KO_bslice {h' : AH} {L' : Ks} {ty : TypeId} {n : Nat} {ps : Array (Nat × Operand)} {vs : List (Nat × Value)} {v : Value} (ho : o.op = .buildSlice ty n ps) (hg : guardA ops L.tree o.guard = some true) (hx : kParts L ps.toList = some vs)
    (hv : aBuildSlice P ty n vs h = some (v, h')) (hp : putK sz L o.dst v = some L') (w : KO P X sz ops os L' h' R) : KO P X sz ops (o :: os) L h R :=
  KO_val hg (by rw [ho]; simp only [aOp, kParts_ok hx, hv, nextOf2]) hp w
end
/-- A slice's capacity holds its elements. -/
def CapOk : Value → Prop
  | .slice _ n cap => n ≤ cap
  | _ => True
end Go.Proofs.Xx

/-
  Resources: what a function's run has of its own in the abstract memory, as a list; the rest stays as it was.
-/
namespace Go.Proofs.Xx
set_option linter.unusedSectionVars false
open Go
set_option linter.unusedSimpArgs false
set_option linter.unusedVariables false

abbrev Fp := Nat → Prop
inductive Rs : Type 1 where
  | blk (b : Nat) (c : List Value) (e : TypeId)
  | sl {α : Type} (v : Value) (e : TypeId) (z : Nat) (enc : α → List Value) (l : List α)
  | rd {α : Type} (v : Value) (z : Nat) (enc : α → List Value) (l : List α)
  | mp {α : Type} (b : Nat) (enc : α → Value) (l : List (List UInt8 × α))
  | any (p : AH → Fp → Prop)

/-- The slice v reads as the list l. -/
abbrev RdL {α : Type} (h : AH) (v : Value) (z : Nat) (enc : α → List Value) (l : List α) : Prop := Rd h v z l.length (l.flatMap enc)

def Rs.ok : Rs → AH → Fp → Prop
  | .blk b c e, h, fp => h.get b = some (.cells c e none false) ∧ fp b
  | .sl v e z enc l, h, fp => (v = .slice none 0 0 ∧ l = []) ∨ ∃ b o cc slk cap, v = .slice (some ⟨b, o, none⟩) l.length cap ∧ h.get b = some (.cells cc e slk false) ∧ fp b ∧
      takeAt cc o (l.length * z) = some (l.flatMap enc) ∧ (l.length ≤ cap ∧ o + cap * z ≤ cc.length) ∧ (slk = none ∨ slk = some z)
  | .rd v z enc l, h, fp => (v = .slice none 0 0 ∧ l = []) ∨ ∃ b o cap cc e s r, v = .slice (some ⟨b, o, none⟩) l.length cap ∧ h.get b = some (.cells cc e s r) ∧ fp b ∧ takeAt cc o (l.length * z) = some (l.flatMap enc)
  | .mp b enc l, h, fp => ∃ es clock, h.get b = some (.map es clock) ∧ fp b ∧ es.map (fun e => (e.1, e.2.1)) = l.map (fun p => (Value.string ⟨p.1.toArray⟩, enc p.2)) ∧ (∀ e ∈ es, e.2.2 < clock) ∧ (es.map (·.2.2)).Nodup
  | .any p, h, fp => ∀ h', (∀ b, fp b → h'.get b = h.get b) → p h' fp

theorem Rs.ok.local {r : Rs} {h h' : AH} {fp : Fp} (k : r.ok h fp) (hs : ∀ b, fp b → h'.get b = h.get b) : r.ok h' fp := by
  cases r with
  | blk b c e => exact ⟨by rw [hs b k.2]; exact k.1, k.2⟩
  | sl v e z enc l =>
    rcases k with k | ⟨b, o, cc, slk, cap, h1, h2, h3, h4⟩
    · exact .inl k
    · exact .inr ⟨b, o, cc, slk, cap, h1, by rw [hs b h3]; exact h2, h3, h4⟩
  | rd v z enc l =>
    rcases k with k | ⟨b, o, cap, cc, e, s, r, h1, h2, h3, h4⟩
    · exact .inl k
    · exact .inr ⟨b, o, cap, cc, e, s, r, h1, by rw [hs b h3]; exact h2, h3, h4⟩
  | mp b enc l =>
    obtain ⟨es, clock, h1, h2, h3⟩ := k
    exact ⟨es, clock, by rw [hs b h2]; exact h1, h2, h3⟩
  | any p => exact fun h2 q => k h2 fun b hb => (q b hb).trans (hs b hb)

/-- The resources rs lie apart in h, on blocks of U from lo on. -/
def Sep (lo : Nat) (h : AH) : List Rs → Fp → Prop
  | [], _ => True
  | r :: rs, U => ∃ fp : Fp, r.ok h fp ∧ (∀ b, fp b → lo ≤ b ∧ b < h.next ∧ U b) ∧ Sep lo h rs (fun b => U b ∧ ¬ fp b)
theorem Sep.mono {lo : Nat} {h : AH} : ∀ {rs : List Rs} {U U' : Fp}, (∀ b, U b → U' b) → Sep lo h rs U → Sep lo h rs U'
  | [], _, _, _, _ => trivial
  | r :: rs, U, U', hu, ⟨fp, h1, h2, h3⟩ => ⟨fp, h1, fun b hb => ⟨(h2 b hb).1, (h2 b hb).2.1, hu b (h2 b hb).2.2⟩, h3.mono fun b hb => ⟨hu b hb.1, hb.2⟩⟩
theorem Sep.frame {lo : Nat} {h h' : AH} : ∀ {rs : List Rs} {U : Fp}, Sep lo h rs U → h.next ≤ h'.next → (∀ b, lo ≤ b → b < h.next → U b → h'.get b = h.get b) → Sep lo h' rs U
  | [], _, _, _, _ => trivial
  | r :: rs, U, ⟨fp, h1, h2, h3⟩, hn, hs =>
    ⟨fp, h1.local fun b hb => hs b (h2 b hb).1 (h2 b hb).2.1 (h2 b hb).2.2, fun b hb => ⟨(h2 b hb).1, Nat.lt_of_lt_of_le (h2 b hb).2.1 hn, (h2 b hb).2.2⟩, h3.frame hn fun b q1 q2 q3 => hs b q1 q2 q3.1⟩

/-- r stands in rs. -/
inductive At : List Rs → Rs → Prop where
  | here {r : Rs} {rs : List Rs} : At (r :: rs) r
  | there {r s : Rs} {rs : List Rs} (h : At rs r) : At (s :: rs) r
/-- r stands in rs; with r' in its place it is rs'. -/
inductive Ut : List Rs → Rs → Rs → List Rs → Prop where
  | here {r r' : Rs} {rs : List Rs} : Ut (r :: rs) r r' (r' :: rs)
  | there {r r' s : Rs} {rs rs' : List Rs} (h : Ut rs r r' rs') : Ut (s :: rs) r r' (s :: rs')
/-- rs without r is rs'. -/
inductive Dt : List Rs → Rs → List Rs → Prop where
  | here {r : Rs} {rs : List Rs} : Dt (r :: rs) r rs
  | there {r s : Rs} {rs rs' : List Rs} (h : Dt rs r rs') : Dt (s :: rs) r (s :: rs')

theorem At.ok {lo : Nat} {h : AH} {r : Rs} {rs : List Rs} (a : At rs r) : ∀ {U : Fp}, Sep lo h rs U → ∃ fp : Fp, r.ok h fp ∧ ∀ b, fp b → lo ≤ b ∧ b < h.next ∧ U b := by
  induction a with
  | here => intro U ⟨fp, h1, h2, _⟩; exact ⟨fp, h1, h2⟩
  | there a ih =>
    intro U ⟨fq, _, _, h3⟩
    obtain ⟨fp, q1, q2⟩ := ih h3
    exact ⟨fp, q1, fun b hb => ⟨(q2 b hb).1, (q2 b hb).2.1, (q2 b hb).2.2.1⟩⟩
/-- One resource is turned, with new blocks at most. -/
theorem Ut.ok {lo : Nat} {h h' : AH} {r r' : Rs} {rs rs' : List Rs} (hlo : lo ≤ h.next) (hn : h.next ≤ h'.next) (u : Ut rs r r' rs') : ∀ {U : Fp}, Sep lo h rs U →
    ∃ fp : Fp, r.ok h fp ∧ (∀ b, fp b → lo ≤ b ∧ b < h.next ∧ U b) ∧ ((∀ b, b < h.next → ¬ fp b → h'.get b = h.get b) → (∃ fp' : Fp, r'.ok h' fp' ∧ ∀ b, fp' b → b < h'.next ∧ (fp b ∨ h.next ≤ b)) → Sep lo h' rs' (fun b => U b ∨ h.next ≤ b)) := by
  induction u with
  | here =>
    intro U ⟨fp, h1, h2, h3⟩
    refine ⟨fp, h1, h2, fun hs ⟨fp', k1, k2⟩ => ⟨fp', k1, fun b hb => ?_, ?_⟩⟩
    · rcases (k2 b hb).2 with q | q
      · exact ⟨(h2 b q).1, (k2 b hb).1, .inl (h2 b q).2.2⟩
      · exact ⟨by omega, (k2 b hb).1, .inr q⟩
    · have aux : ∀ {rs : List Rs} {V : Fp}, Sep lo h rs V → (∀ b, V b → ¬ fp b) → Sep lo h' rs (fun b => V b ∧ b < h.next) := by
        intro rs
        induction rs with
        | nil => intro V _ _; trivial
        | cons s rs ih =>
          intro V ⟨fq, q1, q2, q3⟩ hv
          refine ⟨fq, q1.local fun b hb => hs b (q2 b hb).2.1 (hv b (q2 b hb).2.2), fun b hb => ⟨(q2 b hb).1, Nat.lt_of_lt_of_le (q2 b hb).2.1 hn, (q2 b hb).2.2, (q2 b hb).2.1⟩, ?_⟩
          exact (ih q3 fun b hb => hv b hb.1).mono fun b hb => ⟨⟨hb.1.1, hb.2⟩, hb.1.2⟩
      refine (aux h3 fun b hb => hb.2).mono fun b hb => ⟨.inl hb.1.1, fun q => ?_⟩
      rcases (k2 b q).2 with q1 | q1
      · exact hb.1.2 q1
      · omega
  | there a ih =>
    intro U ⟨fq, h1, h2, h3⟩
    obtain ⟨fp, k1, k2, k3⟩ := ih h3
    refine ⟨fp, k1, fun b hb => ⟨(k2 b hb).1, (k2 b hb).2.1, (k2 b hb).2.2.1⟩, fun hs he => ⟨fq, ?_, fun b hb => ⟨(h2 b hb).1, Nat.lt_of_lt_of_le (h2 b hb).2.1 hn, .inl (h2 b hb).2.2⟩, ?_⟩⟩
    · exact h1.local fun b hb => hs b (h2 b hb).2.1 fun q => (k2 b q).2.2.2 hb
    · exact (k3 hs he).mono fun b hb => by
        rcases hb with hb | hb
        · exact ⟨.inl hb.1, hb.2⟩
        · exact ⟨.inr hb, fun q => by have := (h2 b q).2.1; omega⟩
theorem Dt.sep {lo : Nat} {h : AH} {r : Rs} {rs rs' : List Rs} (d : Dt rs r rs') : ∀ {U : Fp}, Sep lo h rs U → ∃ fp : Fp, r.ok h fp ∧ (∀ b, fp b → lo ≤ b ∧ b < h.next ∧ U b) ∧ Sep lo h rs' (fun b => U b ∧ ¬ fp b) := by
  induction d with
  | here => intro U ⟨fp, h1, h2, h3⟩; exact ⟨fp, h1, h2, h3⟩
  | there a ih =>
    intro U ⟨fq, h1, h2, h3⟩
    obtain ⟨fp, k1, k2, k3⟩ := ih h3
    exact ⟨fp, k1, fun b hb => ⟨(k2 b hb).1, (k2 b hb).2.1, (k2 b hb).2.2.1⟩, fq, h1, fun b hb => ⟨(h2 b hb).1, (h2 b hb).2.1, (h2 b hb).2.2, fun q => (k2 b q).2.2.2 hb⟩, k3.mono fun b hb => ⟨⟨hb.1.1, hb.2⟩, hb.1.2⟩⟩

/-- Over h0, h has the resources rs of its own; all that was there in h0 is as it was. -/
structure Hs (h0 h : AH) (rs : List Rs) : Prop where
  ext : Ext h0 h
  sep : Sep h0.next h rs (fun _ => True)
theorem Hs.wf {h0 h : AH} {rs : List Rs} (S : Hs h0 h rs) : WfH h := S.ext.wf
theorem Hs.start {h : AH} (w : WfH h) : Hs h h [] := ⟨Ext.refl w, trivial⟩
theorem Hs.join0 {h0 h h' : AH} {rs : List Rs} (S : Hs h0 h rs) (x : Hs h h' []) : Hs h0 h' rs := ⟨S.ext.trans x.ext, S.sep.frame x.ext.next fun b _ q _ => x.ext.old b q⟩
theorem Sep.join {h0 h h' : AH} {rs : List Rs} (S : Hs h0 h rs) (x : Ext h h') : ∀ {rs1 : List Rs} {U : Fp}, Sep h.next h' rs1 U → Sep h0.next h' rs (fun b => b < h.next) → (∀ b, b < h.next → U b) → Sep h0.next h' (rs1 ++ rs) U
  | [], U, _, k, hu => k.mono fun b hb => hu b hb
  | r :: rs1, U, ⟨fp, h1, h2, h3⟩, k, hu =>
    ⟨fp, h1, fun b hb => ⟨Nat.le_trans S.ext.next (h2 b hb).1, (h2 b hb).2⟩, Sep.join S x h3 k fun b hb => ⟨hu b hb, fun q => by have := (h2 b q).1; omega⟩⟩
theorem Hs.join {h0 h h' : AH} {rs rs1 : List Rs} (S : Hs h0 h rs) (x : Hs h h' rs1) : Hs h0 h' (rs1 ++ rs) := by
  refine ⟨S.ext.trans x.ext, Sep.join S x.ext x.sep ?_ fun _ _ => trivial⟩
  have aux : ∀ {rs : List Rs} {V : Fp}, Sep h0.next h rs V → Sep h0.next h' rs (fun b => V b ∧ b < h.next) := by
    intro rs
    induction rs with
    | nil => intro V _; trivial
    | cons s rs ih =>
      intro V ⟨fq, q1, q2, q3⟩
      exact ⟨fq, q1.local fun b hb => x.ext.old b (q2 b hb).2.1, fun b hb => ⟨(q2 b hb).1, Nat.lt_of_lt_of_le (q2 b hb).2.1 x.ext.next, (q2 b hb).2.2, (q2 b hb).2.1⟩, (ih q3).mono fun b hb => ⟨⟨hb.1.1, hb.2⟩, hb.1.2⟩⟩
  exact (aux S.sep).mono fun b hb => hb.2
theorem Hs.join1 {h0 h h' : AH} {rs : List Rs} {r : Rs} (S : Hs h0 h rs) (x : Hs h h' [r]) : Hs h0 h' (r :: rs) := S.join x
theorem Hs.join2 {h0 h h' : AH} {rs : List Rs} {r r' : Rs} (S : Hs h0 h rs) (x : Hs h h' [r, r']) : Hs h0 h' (r :: r' :: rs) := S.join x
theorem Hs.del {h0 h : AH} {rs rs' : List Rs} {r : Rs} (S : Hs h0 h rs) (d : Dt rs r rs') : Hs h0 h rs' := by
  obtain ⟨fp, _, _, k⟩ := d.sep S.sep
  exact ⟨S.ext, k.mono fun _ _ => trivial⟩
theorem Hs.front {h0 h : AH} {rs rs' : List Rs} {r : Rs} (S : Hs h0 h rs) (d : Dt rs r rs') : Hs h0 h (r :: rs') := by
  obtain ⟨fp, k1, k2, k3⟩ := d.sep S.sep
  exact ⟨S.ext, fp, k1, k2, k3⟩
theorem Hs.drop {h0 h : AH} {rs : List Rs} (S : Hs h0 h rs) : Hs h0 h [] := ⟨S.ext, trivial⟩
theorem Hs.only {h0 h : AH} {rs rs' : List Rs} {r : Rs} (S : Hs h0 h rs) (d : Dt rs r rs') : Hs h0 h [r] := by
  obtain ⟨fp, k1, k2, k3⟩ := d.sep S.sep
  exact ⟨S.ext, fp, k1, k2, trivial⟩
theorem Hs.tail {h0 h : AH} {rs : List Rs} {r : Rs} (S : Hs h0 h (r :: rs)) : Hs h0 h rs := S.del .here
/-- A new resource on new blocks. -/
theorem Hs.grow {h0 h h' : AH} {rs : List Rs} {r : Rs} (S : Hs h0 h rs) (x : Ext h h') {fp : Fp} (k : r.ok h' fp) (kf : ∀ b, fp b → h.next ≤ b ∧ b < h'.next) : Hs h0 h' (r :: rs) :=
  S.join1 ⟨x, fp, k, fun b hb => ⟨(kf b hb).1, (kf b hb).2, trivial⟩, trivial⟩
/-- One resource is turned. -/
theorem Hs.turn {h0 h h' : AH} {rs rs' : List Rs} {r r' : Rs} (S : Hs h0 h rs) (u : Ut rs r r' rs') (hn : h.next ≤ h'.next) (w' : WfH h')
    (hk : ∀ fp : Fp, r.ok h fp → (∀ b, fp b → h0.next ≤ b ∧ b < h.next) → (∀ b, b < h.next → ¬ fp b → h'.get b = h.get b) ∧ ∃ fp' : Fp, r'.ok h' fp' ∧ ∀ b, fp' b → b < h'.next ∧ (fp b ∨ h.next ≤ b)) : Hs h0 h' rs' := by
  obtain ⟨fp, k1, k2, k3⟩ := u.ok (h' := h') S.ext.next hn S.sep
  obtain ⟨q1, q2⟩ := hk fp k1 fun b hb => ⟨(k2 b hb).1, (k2 b hb).2.1⟩
  refine ⟨⟨Nat.le_trans S.ext.next hn, fun b hb => ?_, w'⟩, (k3 q1 q2).mono fun _ _ => trivial⟩
  rw [q1 b (Nat.lt_of_lt_of_le hb S.ext.next) fun q => by have := (k2 b q).1; omega]
  exact S.ext.old b hb

/-! ### reading -/
theorem Rd.of_sl {h0 h : AH} {rs : List Rs} {α : Type} {v : Value} {e : TypeId} {z : Nat} {enc : α → List Value} {l : List α} (S : Hs h0 h rs) (a : At rs (.sl v e z enc l)) : RdL h v z enc l := by
  obtain ⟨fp, k, _⟩ := a.ok S.sep
  rcases k with ⟨rfl, rfl⟩ | ⟨b, o, cc, slk, cap, h1, h2, h3, h4, h5⟩
  · exact Rd.none_ h z
  · exact .inr ⟨b, o, _, cc, e, slk, false, h1, h2, h4⟩
theorem Rd.of_rd {h0 h : AH} {rs : List Rs} {α : Type} {v : Value} {z : Nat} {enc : α → List Value} {l : List α} (S : Hs h0 h rs) (a : At rs (.rd v z enc l)) : RdL h v z enc l := by
  obtain ⟨fp, k, _⟩ := a.ok S.sep
  rcases k with ⟨rfl, rfl⟩ | ⟨b, o, cap, cc, e, s, r, h1, h2, h3, h4⟩
  · exact Rd.none_ h z
  · exact .inr ⟨b, o, cap, cc, e, s, r, h1, h2, h4⟩
theorem Rd.of_base {h0 h : AH} {rs : List Rs} {v : Value} {z n : Nat} {c : List Value} (S : Hs h0 h rs) (r : Rd h0 v z n c) (w : WfH h0) : Rd h v z n c := r.ext w S.ext
theorem blk_get {h0 h : AH} {rs : List Rs} {b : Nat} {c : List Value} {e : TypeId} (S : Hs h0 h rs) (a : At rs (.blk b c e)) : h.get b = some (.cells c e none false) := by
  obtain ⟨fp, k, _⟩ := a.ok S.sep
  exact k.1

/-! ### making and turning -/
theorem Hs.add {h0 h : AH} {rs : List Rs} (S : Hs h0 h rs) (c : List Value) (e : TypeId) : Hs h0 (h.add (.cells c e none false)) (.blk h.next c e :: rs) :=
  S.grow (fp := fun b => b = h.next) ((Ext.refl S.wf).add _) ⟨by rw [AH.get_add, if_pos rfl], rfl⟩ fun b hb => by subst hb; exact ⟨Nat.le_refl _, Nat.lt_succ_self _⟩
theorem Hs.put {h0 h : AH} {rs rs' : List Rs} {b : Nat} {c c' : List Value} {e : TypeId} (S : Hs h0 h rs) (u : Ut rs (.blk b c e) (.blk b c' e) rs') : Hs h0 (h.put b (.cells c' e none false)) rs' := by
  obtain ⟨fp, k, k2, -⟩ := u.ok (h' := h) S.ext.next (Nat.le_refl _) S.sep
  refine S.turn u (Nat.le_refl _) (S.wf.put (k2 b k.2).2.1 _) fun fq q1 q2 => ⟨fun j _ hj => ?_, fun j => j = b, ⟨by rw [AH.get_put, if_pos rfl], rfl⟩, fun j hj => ?_⟩
  · rw [AH.get_put, if_neg]; intro q; subst q; exact hj q1.2
  · subst hj; exact ⟨(q2 _ q1.2).2, .inl q1.2⟩

/-- An element's address. -/
def elA (v : Value) (z k off : Nat) : Value :=
  match v with
  | .slice (some ⟨b, o, _⟩) _ _ => .pointer (some ⟨b, o + k * z + off, none⟩)
  | _ => .nilFunc

/-- The elements of a list of pieces of the same length. -/
theorem flatMap_length {α : Type} {enc : α → List Value} {z : Nat} (hz : ∀ x, (enc x).length = z) : ∀ l : List α, (l.flatMap enc).length = l.length * z
  | [] => by simp
  | x :: l => by rw [List.flatMap_cons, List.length_append, hz, flatMap_length hz l, List.length_cons, Nat.add_mul, Nat.one_mul, Nat.add_comm]
theorem take_piece {a m : List Value} {z : Nat} (h : a.length = z) (k : Nat) : (a ++ m).take ((k + 1) * z) = a ++ m.take (k * z) := by
  have e : (k + 1) * z = z + k * z := by rw [Nat.add_mul, Nat.one_mul, Nat.add_comm]
  rw [e, List.take_append, List.take_of_length_le (by omega), h, Nat.add_sub_cancel_left]
theorem drop_piece {a m : List Value} {z : Nat} (h : a.length = z) (k : Nat) : (a ++ m).drop ((k + 1) * z) = m.drop (k * z) := by
  have e : (k + 1) * z = z + k * z := by rw [Nat.add_mul, Nat.one_mul, Nat.add_comm]
  rw [e, List.drop_append, List.drop_of_length_le (by omega), h, Nat.add_sub_cancel_left, List.nil_append]
theorem flatMap_take {α : Type} {enc : α → List Value} {z : Nat} (hz : ∀ x, (enc x).length = z) : ∀ (l : List α) (k : Nat), (l.take k).flatMap enc = (l.flatMap enc).take (k * z)
  | [], k => by simp
  | x :: l, 0 => by simp
  | x :: l, k + 1 => by rw [List.take_succ_cons, List.flatMap_cons, List.flatMap_cons, flatMap_take hz l k, take_piece (hz x)]
theorem flatMap_drop {α : Type} {enc : α → List Value} {z : Nat} (hz : ∀ x, (enc x).length = z) : ∀ (l : List α) (k : Nat), (l.drop k).flatMap enc = (l.flatMap enc).drop (k * z)
  | [], k => by simp
  | x :: l, 0 => by simp
  | x :: l, k + 1 => by rw [List.drop_succ_cons, List.flatMap_cons, flatMap_drop hz l k, drop_piece (hz x)]
theorem flatMap_piece {α : Type} [Inhabited α] {enc : α → List Value} {z : Nat} (hz : ∀ x, (enc x).length = z) (l : List α) {k : Nat} (hk : k < l.length) : ((l.flatMap enc).drop (k * z)).take z = enc (l.getD k default) := by
  rw [← flatMap_drop hz, List.drop_eq_getElem_cons hk, List.flatMap_cons, List.take_append_of_le_length (by rw [hz]; omega), List.take_of_length_le (by rw [hz]; omega)]
  rw [List.getD_eq_getElem?_getD, List.getElem?_eq_getElem hk]; rfl
theorem flatMap_set {α : Type} {enc : α → List Value} {z : Nat} (hz : ∀ x, (enc x).length = z) : ∀ (l : List α) (k : Nat) (x : α), k < l.length → (l.set k x).flatMap enc = splice (l.flatMap enc) (k * z) (enc x)
  | [], k, x, h => by simp at h
  | y :: l, 0, x, h => by
    simp only [List.set_cons_zero, List.flatMap_cons, splice, Nat.zero_mul, List.take_zero, List.nil_append, Nat.zero_add]
    rw [hz, List.drop_append, hz, Nat.sub_self, List.drop_zero, List.drop_of_length_le (by rw [hz]; omega), List.nil_append]
  | y :: l, k + 1, x, h => by
    have ih := flatMap_set hz l k x (by simpa using h)
    simp only [List.set_cons_succ, List.flatMap_cons]
    rw [ih]
    simp only [splice]
    have e : (k + 1) * z + z = (k + 1 + 1) * z := by rw [Nat.add_mul (k + 1) 1 z, Nat.one_mul]
    have e2 : k * z + z = (k + 1) * z := by rw [Nat.add_mul, Nat.one_mul]
    rw [hz, take_piece (hz y), e, drop_piece (hz y), e2, List.append_assoc]
end Go.Proofs.Xx

/-
  The rules of the operations, over resources.
-/
namespace Go.Proofs.Xx
set_option linter.unusedSectionVars false
open Go
set_option linter.unusedSimpArgs false
set_option linter.unusedVariables false

/-! ### encodings -/
def eI (x : Int) : List Value := [.int .i64 x]
def eB (x : Bool) : List Value := [.bool x]
def str (s : List UInt8) : Value := .string ⟨s.toArray⟩
def eS (s : List UInt8) : List Value := [str s]
def eV (v : Value) : List Value := [v]
def eU (x : Nat) : List Value := [.int .u8 x]
def eRaw (c : List Value) : List Value := c
def cmpP (op : BinOp) (a b : Int) : Option Prop :=
  match op with
  | .eql => some (a = b)
  | .neq => some (a ≠ b)
  | .lss => some (a < b)
  | .leq => some (a ≤ b)
  | .gtr => some (a > b)
  | .geq => some (a ≥ b)
  | _ => none
theorem cmpP_bin {P : Program} {op : BinOp} {ty : TypeId} {k : IntKind} {a b : Int} {p : Prop} (h : cmpP op a b = some p) : ∀ v : Bool, (p ↔ v = true) → aBin P op ty (.int k a) (.int k b) = some (.bool v) := by
  intro v hv
  have key : ∀ q : Prop, ∀ d : Bool, (q ↔ d = true) → (q ↔ v = true) → d = v := fun q d h1 h2 => by
    cases d <;> cases v <;> simp_all
  cases op <;> simp only [cmpP, Option.some.injEq] at h <;> try (cases h; done)
  all_goals (subst h)
  all_goals (simp only [aBin, decide_true, cmpInt, Option.some.injEq, Value.bool.injEq])
  · exact key _ _ (by simp) hv
  · exact key _ _ (by simp) hv
  · exact key _ _ (by simp) hv
  · exact key _ _ (by simp) hv
  · exact key _ _ (by simp) hv
  · exact key _ _ (by simp) hv

section
variable {P : Program} {X : Extern} {inR : Bool} {sz : Nat} {L : Ks} {h h0 : AH} {rs : List Rs} {ops : Array Oper} {os : List Oper} {o : Oper} {R : Ks → AH → Prop} {Q : KQ}

theorem k_cond {c : Operand} {a b : Code} {v : Bool} (hc : kA L c = some (.bool v)) (w : K P X inR sz (match v with | true => a | false => b) L h Q) : K P X inR sz (.cond c a b) L h Q := by
  refine K_cond hc ?_
  cases v <;> exact w
/-- What follows a block, by the number of the exit. -/
def blockB (id : Nat) (Q : KQ) : KQ
  | .exit id', L, h => match Nat.beq id' id with | true => Q .norm L h | false => Q (.exit id') L h
  | x, L, h => Q x L h
theorem k_block {id : Nat} {body : Code} (w : K P X inR sz body L h (blockB id Q)) : K P X inR sz (.block id body) L h Q := by
  refine K_block (w.mono fun x L' h' q => ?_)
  cases x with
  | norm => exact q
  | ret => exact q
  | exit id' =>
    simp only [blockB] at q
    simp only [blockK]
    by_cases e : id' = id
    · subst e
      rw [if_pos rfl]
      rw [show Nat.beq id' id' = true by simp] at q
      exact q
    · rw [if_neg e]
      rw [show Nat.beq id' id = false by rw [Bool.eq_false_iff]; intro q; exact e (Nat.eq_of_beq_eq_true q)] at q
      exact q

/-- A loop: s is its state, m a measure that goes down, sl the slots that are known at its head. -/
def loopS {σ : Type} (I : σ → AH → Prop) (m : σ → Nat) (sl : σ → Ks) (s : σ) (Q : KQ) : KQ
  | .norm, L, h => ∃ s', m s' < m s ∧ I s' h ∧ Ks.le (sl s') L
  | x, L, h => Q x L h
theorem k_loop {σ : Type} {body : Code} (I : σ → AH → Prop) (m : σ → Nat) (sl : σ → Ks) (s0 : σ) (hl : Ks.le (sl s0) L) (hi : I s0 h) (hb : ∀ s h, I s h → K P X inR sz body (sl s) h (loopS I m sl s Q)) : K P X inR sz (.loop body) L h Q := by
  refine K_loop (fun k L h => ∃ s, m s = k ∧ L = sl s ∧ I s h) ?_ (m s0) ⟨s0, rfl, rfl, hi⟩ hl
  rintro k L h ⟨s, rfl, rfl, hs⟩
  refine (hb s h hs).mono fun x L' h' q => ?_
  cases x with
  | norm => obtain ⟨s', q1, q2, q3⟩ := q; exact ⟨m s', sl s', q1, ⟨s', rfl, rfl, q2⟩, q3⟩
  | exit id => exact q
  | ret => exact q
/-! ### integers -/
theorem a_add {L' : Ks} {x y : Operand} {ty ty2 : TypeId} {a b : Int} (ho : o.op = .binOp .add ty x y ty2) (hg : guardA ops L.tree o.guard = some true) (hx : kA L x = some (.int .i64 a)) (hy : kA L y = some (.int .i64 b))
    (hb : -9223372036854775808 ≤ a + b ∧ a + b ≤ 9223372036854775807) (hp : putK sz L o.dst (.int .i64 (a + b)) = some L') (w : KO P X sz ops os L' h R) : KO P X sz ops (o :: os) L h R :=
  KO_bin ho hg hx hy (add_i64 rfl hb.1 hb.2) hp w
theorem a_sub {L' : Ks} {x y : Operand} {ty ty2 : TypeId} {a b : Int} (ho : o.op = .binOp .sub ty x y ty2) (hg : guardA ops L.tree o.guard = some true) (hx : kA L x = some (.int .i64 a)) (hy : kA L y = some (.int .i64 b))
    (hb : -9223372036854775808 ≤ a - b ∧ a - b ≤ 9223372036854775807) (hp : putK sz L o.dst (.int .i64 (a - b)) = some L') (w : KO P X sz ops os L' h R) : KO P X sz ops (o :: os) L h R :=
  KO_bin ho hg hx hy (sub_i64 rfl hb.1 hb.2) hp w
theorem a_mul {L' : Ks} {x y : Operand} {ty ty2 : TypeId} {a b : Int} (ho : o.op = .binOp .mul ty x y ty2) (hg : guardA ops L.tree o.guard = some true) (hx : kA L x = some (.int .i64 a)) (hy : kA L y = some (.int .i64 b))
    (hb : -9223372036854775808 ≤ a * b ∧ a * b ≤ 9223372036854775807) (hp : putK sz L o.dst (.int .i64 (a * b)) = some L') (w : KO P X sz ops os L' h R) : KO P X sz ops (o :: os) L h R :=
  KO_bin ho hg hx hy (mul_i64 rfl hb.1 hb.2) hp w
theorem a_quo {L' : Ks} {x y : Operand} {ty ty2 : TypeId} {a b : Int} (ho : o.op = .binOp .quo ty x y ty2) (hg : guardA ops L.tree o.guard = some true) (hx : kA L x = some (.int .i64 a)) (hy : kA L y = some (.int .i64 b))
    (hb : 0 ≤ a ∧ a ≤ 9223372036854775807 ∧ 0 < b) (hp : putK sz L o.dst (.int .i64 (a / b)) = some L') (w : KO P X sz ops os L' h R) : KO P X sz ops (o :: os) L h R :=
  KO_bin ho hg hx hy (by
    have h1 : ¬ b = 0 := by omega
    have h2 : a.tdiv b = a / b := by rw [Int.tdiv_eq_ediv_of_nonneg hb.1]
    have h3 : a / b ≤ a := Int.ediv_le_self b hb.1
    have h4 : 0 ≤ a / b := Int.ediv_nonneg hb.1 (by omega)
    simp only [aBin, decide_true, decide_eq_false h1, h2]
    rw [wrap_i64 (by omega) (by omega)]) hp w
theorem a_rem {L' : Ks} {x y : Operand} {ty ty2 : TypeId} {a b : Int} (ho : o.op = .binOp .rem ty x y ty2) (hg : guardA ops L.tree o.guard = some true) (hx : kA L x = some (.int .i64 a)) (hy : kA L y = some (.int .i64 b))
    (hb : 0 ≤ a ∧ 0 < b) (hp : putK sz L o.dst (.int .i64 (a % b)) = some L') (w : KO P X sz ops os L' h R) : KO P X sz ops (o :: os) L h R :=
  KO_bin ho hg hx hy (by
    have h1 : ¬ b = 0 := by omega
    have h2 : a.tmod b = a % b := Int.tmod_eq_emod_of_nonneg hb.1
    simp only [aBin, decide_true, decide_eq_false h1, h2]) hp w
theorem a_min {L' : Ks} {x y : Operand} {tys : Array TypeId} {k k' : IntKind} {a b : Int} (ho : o.op = .call { callee := .builtin .min, args := #[x, y], argTypes := tys }) (hg : guardA ops L.tree o.guard = some true) (hx : kA L x = some (.int k a)) (hy : kA L y = some (.int k' b))
    (hp : putK sz L o.dst (.int k (min a b)) = some L') (w : KO P X sz ops os L' h R) : KO P X sz ops (o :: os) L h R :=
  KO_val hg (by
    rw [ho]; simp only [aOp, evAll, tree_le hx, tree_le hy, aBuiltin, foldV, lesser, nextOf]
    have : (if b < a then b else a) = min a b := by rw [Int.min_def]; split <;> split <;> omega
    rw [this]) hp w
theorem a_max {L' : Ks} {x y : Operand} {tys : Array TypeId} {k k' : IntKind} {a b : Int} (ho : o.op = .call { callee := .builtin .max, args := #[x, y], argTypes := tys }) (hg : guardA ops L.tree o.guard = some true) (hx : kA L x = some (.int k a)) (hy : kA L y = some (.int k' b))
    (hp : putK sz L o.dst (.int k (max a b)) = some L') (w : KO P X sz ops os L' h R) : KO P X sz ops (o :: os) L h R :=
  KO_val hg (by
    rw [ho]; simp only [aOp, evAll, tree_le hx, tree_le hy, aBuiltin, foldV, greater, nextOf]
    have : (if b > a then b else a) = max a b := by rw [Int.max_def]; split <;> split <;> omega
    rw [this]) hp w
theorem a_cT {L' : Ks} {op : BinOp} {x y : Operand} {ty ty2 : TypeId} {k : IntKind} {a b : Int} {p : Prop} (ho : o.op = .binOp op ty x y ty2) (hg : guardA ops L.tree o.guard = some true) (hx : kA L x = some (.int k a)) (hy : kA L y = some (.int k b))
    (hc : cmpP op a b = some p) (hq : p) (hp : putK sz L o.dst (.bool true) = some L') (w : KO P X sz ops os L' h R) : KO P X sz ops (o :: os) L h R :=
  KO_bin ho hg hx hy (cmpP_bin hc true (by simp [hq])) hp w
theorem a_cF {L' : Ks} {op : BinOp} {x y : Operand} {ty ty2 : TypeId} {k : IntKind} {a b : Int} {p : Prop} (ho : o.op = .binOp op ty x y ty2) (hg : guardA ops L.tree o.guard = some true) (hx : kA L x = some (.int k a)) (hy : kA L y = some (.int k b))
    (hc : cmpP op a b = some p) (hq : ¬ p) (hp : putK sz L o.dst (.bool false) = some L') (w : KO P X sz ops os L' h R) : KO P X sz ops (o :: os) L h R :=
  KO_bin ho hg hx hy (cmpP_bin hc false (by simp [hq])) hp w
theorem a_cS {L1 L2 : Ks} {op : BinOp} {x y : Operand} {ty ty2 : TypeId} {k : IntKind} {a b : Int} {p : Prop} (ho : o.op = .binOp op ty x y ty2) (hg : guardA ops L.tree o.guard = some true) (hx : kA L x = some (.int k a)) (hy : kA L y = some (.int k b))
    (hc : cmpP op a b = some p) (hp1 : putK sz L o.dst (.bool true) = some L1) (hp2 : putK sz L o.dst (.bool false) = some L2) (w1 : p → KO P X sz ops os L1 h R) (w2 : ¬ p → KO P X sz ops os L2 h R) : KO P X sz ops (o :: os) L h R := by
  by_cases hq : p
  · exact a_cT ho hg hx hy hc hq hp1 (w1 hq)
  · exact a_cF ho hg hx hy hc hq hp2 (w2 hq)
theorem conv_in {k : IntKind} {n : Int} (h : k.min ≤ n ∧ n ≤ k.max) : k.wrap n = n := by
  cases k <;> simp only [IntKind.min, IntKind.max, IntKind.wrap, IntKind.signed, IntKind.bits] at * <;> first | (simp at h ⊢; omega) | skip
end
end Go.Proofs.Xx

/-
  The rules of the operations on memory and strings, over resources.
-/
namespace Go.Proofs.Xx
set_option linter.unusedSectionVars false
open Go
set_option linter.unusedSimpArgs false
set_option linter.unusedVariables false

def loadC (P : Program) (ty : TypeId) (c : List Value) (k : Nat) : Option Value :=
  match isAggT P ty with
  | some true => match sizeT P ty with
    | some n => match takeAt c k n with
      | some xs => some (.agg xs.toArray)
      | none => none
    | none => none
  | some false => c[k]?
  | none => none
def storeC (P : Program) (ty : TypeId) (c : List Value) (k : Nat) (v : Value) : Option (List Value) :=
  match sizeT P ty with
  | some n => match Nat.beq v.cells.toList.length n && (v.cells.toList.all one? && Nat.ble (k + v.cells.toList.length) c.length) with
    | true => some (splice c k v.cells.toList)
    | false => none
  | none => none
def elemZ (P : Program) (ty : TypeId) : Option Nat := match P.underlying ty with | some (.slice e) => sizeT P e | _ => none

theorem loadC_at {P : Program} {ty : TypeId} {cc c : List Value} {a n k : Nat} {v : Value} (ht : takeAt cc a n = some c) (h : loadC P ty c k = some v) : loadC P ty cc (a + k) = some v := by
  unfold loadC at h ⊢
  have hl := takeAt_len ht
  split at h
  · rename_i h1
    (try rw [h1])
    (try simp only)
    split at h
    · rename_i m h2
      (try rw [h2])
      (try simp only)
      split at h
      · rename_i xs h3
        have h4 := takeAt_eqs h3
        have h5 : takeAt cc (a + k) m = some xs := by
          rcases h4 with ⟨h4, h6⟩ | ⟨rfl, rfl⟩
          · rw [takeAt_sub ht (by omega), h4]
          · simp [takeAt]
        rw [h5]; exact h
      · cases h
    · cases h
  · rename_i h1
    (try rw [h1])
    (try simp only)
    have hk : k < n := by have := (List.getElem?_eq_some_iff.1 h).1; omega
    rw [takeAt_get ht hk]; exact h
  · cases h
theorem aLoad_loadC {P : Program} {ty : TypeId} {h : AH} {b k : Nat} {c : List Value} {e : TypeId} {s : Option Nat} {r : Bool} (hg : h.get b = some (.cells c e s r)) : aLoad P ty (.pointer (some ⟨b, k, none⟩)) h = loadC P ty c k := by
  simp only [aLoad, cellsAt, hg, loadC]; rfl
theorem spl_get {c xs : List Value} {o : Nat} (h : o + xs.length ≤ c.length) (j : Nat) : (splice c o xs)[j]? = if j < o then c[j]? else if j < o + xs.length then xs[j - o]? else c[j]? := by
  simp only [splice]
  rw [List.getElem?_append, List.length_take, Nat.min_eq_left (by omega)]
  by_cases h1 : j < o
  · rw [if_pos h1, if_pos h1, List.getElem?_take, if_pos h1]
  · rw [if_neg h1, if_neg h1, List.getElem?_append]
    by_cases h2 : j < o + xs.length
    · rw [if_pos h2, if_pos (by omega)]
    · rw [if_neg h2, if_neg (by omega), List.getElem?_drop]
      congr 1; omega
theorem spl_len {c xs : List Value} {o : Nat} (h : o + xs.length ≤ c.length) : (splice c o xs).length = c.length := by
  simp only [splice, List.length_append, List.length_take, List.length_drop]; omega
theorem splice_in {cc uc : List Value} {o n a z off : Nat} (h1 : o + n ≤ cc.length) (h2 : a + z ≤ n) (h3 : off + uc.length ≤ z) :
    takeAt (splice cc (o + a + off) uc) o n = some (splice ((cc.drop o).take n) a (splice ((((cc.drop o).take n).drop a).take z) off uc)) := by
  have e1 : o + a + off + uc.length ≤ cc.length := by omega
  have l1 : ((cc.drop o).take n).length = n := by rw [List.length_take, List.length_drop]; omega
  have l2 : ((((cc.drop o).take n).drop a).take z).length = z := by rw [List.length_take, List.length_drop, l1]; omega
  have e2 : off + uc.length ≤ ((((cc.drop o).take n).drop a).take z).length := by omega
  have e3 : a + (splice ((((cc.drop o).take n).drop a).take z) off uc).length ≤ ((cc.drop o).take n).length := by rw [spl_len e2]; omega
  rw [takeAt_mk (by rw [spl_len e1]; exact h1)]
  congr 1
  refine List.ext_getElem? fun j => ?_
  rw [spl_get e3, spl_len e2, l2, List.getElem?_take, List.getElem?_drop, spl_get e1]
  by_cases hj : j < n
  · rw [if_pos hj]
    have base : ((cc.drop o).take n)[j]? = cc[o + j]? := by rw [List.getElem?_take, if_pos hj, List.getElem?_drop]
    by_cases q1 : j < a
    · rw [if_pos q1, if_pos (by omega), base]
    · rw [if_neg q1]
      by_cases q2 : j < a + z
      · rw [if_pos q2, spl_get e2]
        have piece : ((((cc.drop o).take n).drop a).take z)[j - a]? = cc[o + j]? := by
          rw [List.getElem?_take, if_pos (by omega), List.getElem?_drop, show a + (j - a) = j by omega, base]
        by_cases q3 : j - a < off
        · rw [if_pos q3, if_pos (by omega), piece]
        · rw [if_neg q3, if_neg (by omega)]
          by_cases q4 : j - a < off + uc.length
          · rw [if_pos q4, if_pos (by omega)]; congr 1; omega
          · rw [if_neg q4, if_neg (by omega), piece]
      · rw [if_neg q2, if_neg (by omega), if_neg (by omega), base]
  · rw [if_neg hj, if_neg (by omega), if_neg (by omega), List.getElem?_eq_none (by omega)]
theorem aStore_storeC {P : Program} {ty : TypeId} {h : AH} {b k : Nat} {c c' : List Value} {e : TypeId} {s : Option Nat} {v : Value} (hg : h.get b = some (.cells c e s false)) (hs : storeC P ty c k v = some c') :
    aStore P ty (.pointer (some ⟨b, k, none⟩)) v h = some (h.put b (.cells c' e s false)) := by
  unfold storeC at hs
  split at hs
  · rename_i n hn
    split at hs
    · rename_i hc
      cases hs
      rw [Bool.and_eq_true] at hc
      simp only [aStore, cellsAt, hg, hn, hc.1, putCells, hc.2]
    · cases hs
  · cases hs

section
variable {P : Program} {X : Extern} {inR : Bool} {sz : Nat} {L : Ks} {h h0 : AH} {rs : List Rs} {ops : Array Oper} {os : List Oper} {o : Oper} {R : Ks → AH → Prop} {Q : KQ}

/-! ### variables in blocks -/
theorem m_box {x : Operand} {e : TypeId} {v : Value} {c : List Value} {d : Tmp} (S : Hs h0 h rs) (ho : o.op = .box e x) (hg : guardA ops L.tree o.guard = some true) (hx : kA L x = some v) (hc : v.cells.toList = c) (hd : o.dst = some d) (hs : Nat.blt d sz = true)
    (w : ∀ b h', Hs h0 h' (.blk b c e :: rs) → KO P X sz ops os (L.put d (.pointer (some ⟨b, 0, none⟩))) h' R) : KO P X sz ops (o :: os) L h R := by
  subst hc
  refine KO_val (v := .pointer (some ⟨h.next, 0, none⟩)) (h' := h.add (.cells v.cells.toList e none false)) hg ?_ ?_ (w _ _ (S.add _ _))
  · rw [ho]; simp only [aOp, tree_le hx, aNew]
  · simp only [putK, hd, hs]
theorem m_alloc {e : TypeId} {v : Value} {c : List Value} {d : Tmp} (S : Hs h0 h rs) (ho : o.op = .alloc e) (hg : guardA ops L.tree o.guard = some true) (hz : zeroT P e = some v) (hpl : plainV v = true) (hc : v.cells.toList = c) (hd : o.dst = some d) (hs : Nat.blt d sz = true)
    (w : ∀ b h', Hs h0 h' (.blk b c e :: rs) → KO P X sz ops os (L.put d (.pointer (some ⟨b, 0, none⟩))) h' R) : KO P X sz ops (o :: os) L h R := by
  subst hc
  refine KO_val (v := .pointer (some ⟨h.next, 0, none⟩)) (h' := h.add (.cells v.cells.toList e none false)) hg ?_ ?_ (w _ _ (S.add _ _))
  · rw [ho]; simp only [aOp, hz, hpl, aNew]
  · simp only [putK, hd, hs]
theorem m_ldB {L' : Ks} {x : Operand} {ty e : TypeId} {b k : Nat} {c : List Value} {v : Value} (S : Hs h0 h rs) (ho : o.op = .load ty x) (hg : guardA ops L.tree o.guard = some true) (hx : kA L x = some (.pointer (some ⟨b, k, none⟩))) (hi : At rs (.blk b c e))
    (hv : loadC P ty c k = some v) (hp : putK sz L o.dst v = some L') (w : KO P X sz ops os L' h R) : KO P X sz ops (o :: os) L h R :=
  KO_load ho hg hx (by rw [aLoad_loadC (blk_get S hi)]; exact hv) hp w
theorem m_stB {L' : Ks} {rs' : List Rs} {x y : Operand} {ty e : TypeId} {b k : Nat} {c c' : List Value} {v : Value} (S : Hs h0 h rs) (ho : o.op = .store ty x y) (hg : guardA ops L.tree o.guard = some true) (hx : kA L x = some (.pointer (some ⟨b, k, none⟩))) (hy : kA L y = some v)
    (hi : Ut rs (.blk b c e) (.blk b c' e) rs') (hv : storeC P ty c k v = some c') (hp : putK sz L o.dst (.tuple #[]) = some L') (w : ∀ h', Hs h0 h' rs' → KO P X sz ops os L' h' R) : KO P X sz ops (o :: os) L h R := by
  have hg2 : h.get b = some (.cells c e none false) := by
    obtain ⟨fp, k1, -⟩ := hi.ok (h' := h) S.ext.next (Nat.le_refl _) S.sep
    exact k1.1
  exact KO_store ho hg hx hy (aStore_storeC hg2 hv) hp (w _ (S.put hi))

/-! ### elements of slices -/
theorem m_len {L' : Ks} {x : Operand} {ty : TypeId} {v : Value} {z n : Nat} {c : List Value} (ho : o.op = .call { callee := .builtin .len, args := #[x], argTypes := #[ty] }) (hg : guardA ops L.tree o.guard = some true) (hx : kA L x = some v) (hu : (sliceElem P ty).isSome = true)
    (hr : Rd h v z n c) (hp : putK sz L o.dst (.int .i64 n) = some L') (w : KO P X sz ops os L' h R) : KO P X sz ops (o :: os) L h R := by
  obtain ⟨e, he⟩ := Option.isSome_iff_exists.1 hu
  have he' : P.underlying ty = some (.slice e) := by
    unfold sliceElem at he
    split at he
    · cases he; assumption
    · cases he
  exact KO_len ho hg hx (hr.len he') hp w
theorem rd_elA {h : AH} {ty : TypeId} {v : Value} {z n : Nat} {c : List Value} {ik : IntKind} {a : Int} (hu : elemZ P ty = some z) (hr : Rd h v z n c) (ha : 0 ≤ a ∧ a < n) : aIndexAddr P ty v (.int ik a) = some (elA v z a.toNat 0) := by
  unfold elemZ at hu
  split at hu
  · rename_i e he
    obtain ⟨k, rfl⟩ := Int.eq_ofNat_of_zero_le ha.1
    have hk : k < n := by omega
    rcases hr with ⟨rfl, rfl, rfl⟩ | ⟨b, o, cap, cc, e', s, q, rfl, h1, h2⟩
    · omega
    · have : Nat.blt k n = true := by rw [Nat.blt_eq]; exact hk
      show aIndexAddr P ty _ (.int ik (Int.ofNat k)) = _
      simp only [aIndexAddr, he, hu, this, elA, Int.toNat_natCast, Nat.add_zero]
  · cases hu
theorem m_idx {L' : Ks} {x i : Operand} {ty : TypeId} {v : Value} {ik : IntKind} {a : Int} {z n : Nat} {c : List Value} (ho : o.op = .indexAddr ty x i) (hg : guardA ops L.tree o.guard = some true) (hx : kA L x = some v) (hi : kA L i = some (.int ik a)) (hu : elemZ P ty = some z)
    (hr : Rd h v z n c) (ha : 0 ≤ a ∧ a < n) (hp : putK sz L o.dst (elA v z a.toNat 0) = some L') (w : KO P X sz ops os L' h R) : KO P X sz ops (o :: os) L h R :=
  KO_index ho hg hx hi (rd_elA hu hr ha) hp w
theorem m_fld {L' : Ks} {x : Operand} {ty : TypeId} {fs : Array Field} {fd : Field} {v : Value} {z k off f m n : Nat} {c : List Value} (ho : o.op = .fieldAddr ty x f) (hg : guardA ops L.tree o.guard = some true) (hx : kA L x = some (elA v z k off)) (hu : P.underlying ty = some (.struct fs)) (hf : fs[f]? = some fd) (hm : sizeT P fd.type = some (m + 1))
    (hr : Rd h v z n c) (hk : k < n) (hp : putK sz L o.dst (elA v z k (off + fd.offset)) = some L') (w : KO P X sz ops os L' h R) : KO P X sz ops (o :: os) L h R := by
  refine KO_val hg ?_ hp w
  rw [ho]
  rcases hr with ⟨rfl, rfl, rfl⟩ | ⟨b, o', cap, cc, e', s, q, rfl, h1, h2⟩
  · omega
  · simp only [aOp, tree_le hx, elA, aFieldAddr, hu, hf, hm, nextOf, Nat.add_assoc]
theorem rd_ldE {α : Type} [Inhabited α] {h : AH} {ty : TypeId} {v u : Value} {z k off : Nat} {enc : α → List Value} {l : List α} (hr : RdL h v z enc l) (hz : ∀ x, (enc x).length = z) (hk : k < l.length) (hv : loadC P ty (enc (l.getD k default)) off = some u) : aLoad P ty (elA v z k off) h = some u := by
  rcases hr with ⟨rfl, h1, h2⟩ | ⟨b, o', cap, cc, e', s, q, rfl, h1, h2⟩
  · rw [h1] at hk; omega
  · simp only [elA]
    rw [aLoad_loadC h1]
    have hkz : k * z + z ≤ l.length * z := by
      have : (k + 1) * z ≤ l.length * z := Nat.mul_le_mul_right z hk
      rw [Nat.add_mul, Nat.one_mul] at this; exact this
    have h3 := takeAt_sub h2 (i := k * z) (m := z) hkz
    rw [flatMap_piece hz l hk] at h3
    exact loadC_at h3 hv
theorem m_ldE {α : Type} [Inhabited α] {L' : Ks} {x : Operand} {ty : TypeId} {v u : Value} {z k off : Nat} {enc : α → List Value} {l : List α} (ho : o.op = .load ty x) (hg : guardA ops L.tree o.guard = some true) (hx : kA L x = some (elA v z k off))
    (hr : RdL h v z enc l) (hz : ∀ x, (enc x).length = z) (hk : k < l.length) (hv : loadC P ty (enc (l.getD k default)) off = some u) (hp : putK sz L o.dst u = some L') (w : KO P X sz ops os L' h R) : KO P X sz ops (o :: os) L h R :=
  KO_load ho hg hx (rd_ldE hr hz hk hv) hp w
/-- A store into an element of a slice of one's own. -/
theorem sl_store {α : Type} [Inhabited α] {rs' : List Rs} {ty e : TypeId} {v u : Value} {z k off : Nat} {enc : α → List Value} {l : List α} {y : α} (S : Hs h0 h rs) (hi : Ut rs (.sl v e z enc l) (.sl v e z enc (l.set k y)) rs') (hz : ∀ x, (enc x).length = z) (hk : k < l.length)
    (hv : storeC P ty (enc (l.getD k default)) off u = some (enc y)) : ∃ h', aStore P ty (elA v z k off) u h = some h' ∧ Hs h0 h' rs' := by
  obtain ⟨fp, k1, k2, -⟩ := hi.ok (h' := h) S.ext.next (Nat.le_refl _) S.sep
  rcases k1 with ⟨rfl, rfl⟩ | ⟨b, o', cc, slk, cap, h1, h2, h3, h4, h5, h6⟩
  · simp at hk
  subst h1
  have hkz : k * z + z ≤ l.length * z := by
    have : (k + 1) * z ≤ l.length * z := Nat.mul_le_mul_right z hk
    rw [Nat.add_mul, Nat.one_mul] at this; exact this
  obtain ⟨he, hlen⟩ : l.flatMap enc = (cc.drop o').take (l.length * z) ∧ o' + l.length * z ≤ cc.length := by
    rcases takeAt_eqs h4 with q | ⟨q1, q2⟩
    · exact q
    · have hm := Nat.mul_le_mul_right z h5.1
      exact ⟨by rw [q2, q1]; simp, by omega⟩
  have hpc := flatMap_piece hz l hk
  -- the whole block's cells behind the store
  unfold storeC at hv
  split at hv
  rotate_left
  · cases hv
  rename_i n hn
  split at hv
  rotate_left
  · cases hv
  rename_i hc
  simp only [Option.some.injEq] at hv
  rw [Bool.and_eq_true, Bool.and_eq_true] at hc
  have hfit := Nat.le_of_ble_eq_true hc.2.2
  rw [hz] at hfit
  have hst : storeC P ty cc (o' + k * z + off) u = some (splice cc (o' + k * z + off) u.cells.toList) := by
    unfold storeC
    rw [hn]
    simp only [hc.1, hc.2.1, Bool.true_and]
    rw [Nat.ble_eq_true_of_le (by omega)]
  refine ⟨_, aStore_storeC h2 hst, ?_⟩
  refine S.turn hi (Nat.le_refl _) (S.wf.put (k2 b h3).2.1 _) fun fq q1 q2 => ?_
  have hb : fq b := by
    rcases q1 with ⟨q, -⟩ | ⟨b', o2, cc2, sl2, cap2, q3, q4, q5, -⟩
    · cases q
    · cases q3; exact q5
  refine ⟨fun j _ hj => by rw [AH.get_put, if_neg]; intro q; subst q; exact hj hb, fun j => j = b, .inr ⟨b, o', _, slk, cap, by rw [List.length_set], by rw [AH.get_put, if_pos rfl], rfl, ?_, ?_, h6⟩, fun j hj => by subst hj; exact ⟨(k2 _ h3).2.1, .inl hb⟩⟩
  · rw [List.length_set, flatMap_set hz l k y hk, ← hv, ← hpc, he]
    exact splice_in hlen hkz hfit
  · rw [List.length_set, spl_len (by omega)]; exact h5
theorem m_stE {α : Type} [Inhabited α] {L' : Ks} {rs' : List Rs} {x yo : Operand} {ty e : TypeId} {v u : Value} {z k off : Nat} {enc : α → List Value} {l : List α} {y : α} (S : Hs h0 h rs) (ho : o.op = .store ty x yo) (hg : guardA ops L.tree o.guard = some true) (hx : kA L x = some (elA v z k off)) (hy : kA L yo = some u)
    (hi : Ut rs (.sl v e z enc l) (.sl v e z enc (l.set k y)) rs') (hz : ∀ x, (enc x).length = z) (hk : k < l.length) (hv : storeC P ty (enc (l.getD k default)) off u = some (enc y)) (hp : putK sz L o.dst (.tuple #[]) = some L')
    (w : ∀ h', Hs h0 h' rs' → KO P X sz ops os L' h' R) : KO P X sz ops (o :: os) L h R := by
  obtain ⟨h', q1, q2⟩ := sl_store S hi hz hk hv
  exact KO_store ho hg hx hy q1 hp (w h' q2)
end
end Go.Proofs.Xx
