/-
  Rules for the checked run of code whose values are not known: what holds when it ends.
-/
import Derived.Test.YtnopenpheaihmaaGreatDoorB1
namespace Go.Proofs.Xx
open Go
set_option linter.unusedSimpArgs false
set_option linter.unusedVariables false

section
variable (P : Program) (X : Extern)
def W (inR : Bool) (sz : Nat) (c : Code) (t : Tr Value) (h : AH) (Q : AX → Tr Value → AH → Prop) : Prop := ∃ n x t' h', exec P X n inR sz c t h = some (x, t', h') ∧ Q x t' h'
def WO (sz : Nat) (ops : Array Oper) (os : List Oper) (t : Tr Value) (h : AH) (Q : Tr Value → AH → Prop) : Prop := ∃ n t' h', opsA P X (exec P X n) sz ops os t h = some (t', h') ∧ Q t' h'
def Fn (f : FuncId) (args : List Value) (h : AH) (Q : Value → AH → Prop) : Prop := ∃ n v h', callA P X (exec P X n) f args h = some (v, h') ∧ Q v h'
end

section
variable {P : Program} {X : Extern} {inR : Bool} {sz : Nat} {t : Tr Value} {h : AH} {Q : AX → Tr Value → AH → Prop}

theorem exec_S (n : Nat) (c : Code) : exec P X (n + 1) inR sz c t h = execStep P X (exec P X n) inR sz c t h := rfl

theorem W.mono {c : Code} {Q' : AX → Tr Value → AH → Prop} (w : W P X inR sz c t h Q) (hq : ∀ x t' h', Q x t' h' → Q' x t' h') : W P X inR sz c t h Q' := by
  obtain ⟨n, x, t', h', h1, h2⟩ := w
  exact ⟨n, x, t', h', h1, hq _ _ _ h2⟩
theorem W_skip (hq : Q .norm t h) : W P X inR sz .skip t h Q := ⟨1, _, _, _, rfl, hq⟩
theorem W_exit {id : Nat} (hq : Q (.exit id) t h) : W P X inR sz (.exit id) t h Q := ⟨1, _, _, _, rfl, hq⟩
theorem W_ret (hq : Q .ret t h) : W P X inR sz .ret t h Q := ⟨1, _, _, _, rfl, hq⟩
theorem W_label {l : Nat} (hq : Q .norm t h) : W P X inR sz (.label l) t h Q := ⟨1, _, _, _, rfl, hq⟩

/-- What follows a piece of code: the rest, where the piece ends at its end. -/
def thenW (P : Program) (X : Extern) (inR : Bool) (sz : Nat) (b : Code) (Q : AX → Tr Value → AH → Prop) : AX → Tr Value → AH → Prop
  | .norm, t, h => W P X inR sz b t h Q
  | x, t, h => Q x t h
theorem W_seq {a b : Code} (w : W P X inR sz a t h (thenW P X inR sz b Q)) : W P X inR sz (.seq a b) t h Q := by
  obtain ⟨n, x, t', h', h1, h2⟩ := w
  cases x with
  | norm =>
    obtain ⟨m, x2, t2, h3, h4, h5⟩ := h2
    refine ⟨max n m + 1, x2, t2, h3, ?_, h5⟩
    rw [exec_S]
    simp only [execStep]
    rw [exec_le (Nat.le_max_left n m) _ _ _ _ _ _ h1]
    exact exec_le (Nat.le_max_right n m) _ _ _ _ _ _ h4
  | exit id =>
    refine ⟨n + 1, _, _, _, ?_, h2⟩
    rw [exec_S]; simp only [execStep]; rw [h1]
  | ret =>
    refine ⟨n + 1, _, _, _, ?_, h2⟩
    rw [exec_S]; simp only [execStep]; rw [h1]
theorem W_cond {c : Operand} {a b : Code} {v : Bool} (hc : evA t c = some (.bool v)) (w : W P X inR sz (if v then a else b) t h Q) : W P X inR sz (.cond c a b) t h Q := by
  obtain ⟨n, x, t', h', h1, h2⟩ := w
  refine ⟨n + 1, x, t', h', ?_, h2⟩
  rw [exec_S]; simp only [execStep, hc]
  cases v <;> exact h1
def blockQ (id : Nat) (Q : AX → Tr Value → AH → Prop) : AX → Tr Value → AH → Prop
  | .exit id', t, h => if id' = id then Q .norm t h else Q (.exit id') t h
  | x, t, h => Q x t h
theorem W_block {id : Nat} {body : Code} (w : W P X inR sz body t h (blockQ id Q)) : W P X inR sz (.block id body) t h Q := by
  obtain ⟨n, x, t', h', h1, h2⟩ := w
  cases x with
  | norm => exact ⟨n + 1, _, _, _, by rw [exec_S]; simp only [execStep]; rw [h1], h2⟩
  | ret => exact ⟨n + 1, _, _, _, by rw [exec_S]; simp only [execStep]; rw [h1], h2⟩
  | exit id' =>
    simp only [blockQ] at h2
    by_cases hid : id' = id
    · subst hid
      rw [if_pos rfl] at h2
      refine ⟨n + 1, _, _, _, ?_, h2⟩
      rw [exec_S]; simp only [execStep]; rw [h1]; simp
    · rw [if_neg hid] at h2
      refine ⟨n + 1, _, _, _, ?_, h2⟩
      have : Nat.beq id' id = false := by
        cases hb : Nat.beq id' id with
        | false => rfl
        | true => exact absurd (Nat.eq_of_beq_eq_true hb) hid
      rw [exec_S]; simp only [execStep]; rw [h1]; simp only [this]
theorem W_scope {body : Code} (w : W P X inR sz body t h Q) : W P X inR sz (.scope body) t h Q := by
  obtain ⟨n, x, t', h', h1, h2⟩ := w
  exact ⟨n + 1, _, _, _, by rw [exec_S]; simp only [execStep]; exact h1, h2⟩
def loopQ (I : Nat → Tr Value → AH → Prop) (m : Nat) (Q : AX → Tr Value → AH → Prop) : AX → Tr Value → AH → Prop
  | .norm, t, h => ∃ k, k < m ∧ I k t h
  | x, t, h => Q x t h
theorem W_loop {body : Code} (I : Nat → Tr Value → AH → Prop) (hb : ∀ m t h, I m t h → W P X inR sz body t h (loopQ I m Q)) : ∀ (m : Nat) (t : Tr Value) (h : AH), I m t h → W P X inR sz (.loop body) t h Q := by
  intro m
  induction m using Nat.strongRecOn with
  | _ m ih =>
    intro t h hi
    obtain ⟨n, x, t', h', h1, h2⟩ := hb m t h hi
    cases x with
    | norm =>
      obtain ⟨k, hk, hi'⟩ := h2
      obtain ⟨n2, x2, t2, h3, h4, h5⟩ := ih k hk t' h' hi'
      refine ⟨max n n2 + 1, x2, t2, h3, ?_, h5⟩
      rw [exec_S]
      simp only [execStep]
      rw [exec_le (Nat.le_max_left n n2) _ _ _ _ _ _ h1]
      exact exec_le (Nat.le_max_right n n2) _ _ _ _ _ _ h4
    | exit id => exact ⟨n + 1, _, _, _, by rw [exec_S]; simp only [execStep]; rw [h1], h2⟩
    | ret => exact ⟨n + 1, _, _, _, by rw [exec_S]; simp only [execStep]; rw [h1], h2⟩
theorem W_region {id : Nat} {ops : Array Oper} (w : WO P X sz ops ops.toList t h (Q .norm)) : W P X inR sz (.region id ops false) t h Q := by
  obtain ⟨n, t', h', h1, h2⟩ := w
  exact ⟨n + 1, _, _, _, by rw [exec_S]; simp only [execStep]; rw [h1], h2⟩

variable {ops : Array Oper} {os : List Oper} {o : Oper} {R : Tr Value → AH → Prop}
theorem WO_nil (hq : R t h) : WO P X sz ops [] t h R := ⟨0, _, _, rfl, hq⟩
theorem WO_val {t' : Tr Value} {h' : AH} {v : Value} (hg : guardA ops t o.guard = some true) (ha : aOp P t h o.op = some (.val v h')) (hp : putD sz t o.dst v = some t') (w : WO P X sz ops os t' h' R) : WO P X sz ops (o :: os) t h R := by
  obtain ⟨n, t2, h2, h1, h3⟩ := w
  refine ⟨n, t2, h2, ?_, h3⟩
  simp only [opsA, hg, opA, ha, hp]; exact h1
theorem WO_skip {t' : Tr Value} {h' : AH} (hg : guardA ops t o.guard = some true) (ha : aOp P t h o.op = some (.skip h')) (hp : putD sz t o.dst (.tuple #[]) = some t') (w : WO P X sz ops os t' h' R) : WO P X sz ops (o :: os) t h R := by
  obtain ⟨n, t2, h2, h1, h3⟩ := w
  refine ⟨n, t2, h2, ?_, h3⟩
  simp only [opsA, hg, opA, ha, hp]; exact h1
theorem WO_off {t' : Tr Value} (hg : guardA ops t o.guard = some false) (hp : putD sz t o.dst (.tuple #[]) = some t') (w : WO P X sz ops os t' h R) : WO P X sz ops (o :: os) t h R := by
  obtain ⟨n, t2, h2, h1, h3⟩ := w
  refine ⟨n, t2, h2, ?_, h3⟩
  simp only [opsA, hg, hp]; exact h1
theorem WO_call {f : FuncId} {args : List Value} {d : Tmp} (hg : guardA ops t o.guard = some true) (ha : aOp P t h o.op = some (.call f args)) (hd : o.dst = some d) (hs : Nat.blt d sz = true)
    (w : Fn P X f args h (fun v h' => WO P X sz ops os (t.set d v) h' R)) : WO P X sz ops (o :: os) t h R := by
  obtain ⟨n, v, h1, hc, n2, t2, h2, h3, h4⟩ := w
  refine ⟨max n n2, t2, h2, ?_, h4⟩
  simp only [opsA, hg, opA, ha, hd, putD, hs, callA_mono (exec_le (Nat.le_max_left n n2)) hc]
  exact opsA_mono (exec_le (Nat.le_max_right n n2)) _ _ _ _ h3

theorem Fn.mono {f : FuncId} {args : List Value} {R R' : Value → AH → Prop} (w : Fn P X f args h R) (hr : ∀ v h', R v h' → R' v h') : Fn P X f args h R' := by
  obtain ⟨n, v, h', h1, h2⟩ := w
  exact ⟨n, v, h', h1, hr _ _ h2⟩
def retQ (P : Program) (rs : List ResultVar) (R : Value → AH → Prop) : AX → Tr Value → AH → Prop
  | .exit _, _, _ => False
  | _, t, h => ∃ vs, resultsA P t h rs = some vs ∧ R (oneOrTuple vs) h
theorem Fn_body {f : FuncId} {fn : Func} {body : Code} {args : List Value} {R : Value → AH → Prop} (hX : X f args h = none) (hf : P.funcs[f]? = some fn) (hb : fn.body = some body)
    (w : W P X false (args.length + (fn.ntmps - args.length)) body (enterArgs 0 args .e) h (retQ P fn.results.toList R)) : Fn P X f args h R := by
  obtain ⟨n, x, t', h', h1, h2⟩ := w
  cases x with
  | exit id => exact h2.elim
  | norm =>
    obtain ⟨vs, h3, h4⟩ := h2
    refine ⟨n, _, _, ?_, h4⟩
    unfold callA
    rw [hX, hf]; simp only [hb]; rw [h1]; simp only [h3]
  | ret =>
    obtain ⟨vs, h3, h4⟩ := h2
    refine ⟨n, _, _, ?_, h4⟩
    unfold callA
    rw [hX, hf]; simp only [hb]; rw [h1]; simp only [h3]

theorem Fn_known {f : FuncId} {args : List Value} {R : Value → AH → Prop} {v : Value} {h' : AH} (hX : X f args h = some (v, h')) (hq : R v h') : Fn P X f args h R := ⟨0, v, h', by unfold callA; rw [hX], hq⟩

/-- A region whose order is open, where each value is the same in every order by its place alone. -/
def drawOk (ops : Array Oper) : Bool :=
  planOk ops (masks ops.toList []) [] && (floatsOf ops (masks ops.toList [])).isEmpty &&
    (List.range ops.size).all fun i => chainAt ops [] i || match ops[i]? with | some o => calmAt [] (masks ops.toList []) ((List.range ops.size).filter (chainAt ops [])) i o.op | none => false
theorem opsA_runD {run : Runner} : ∀ (os : List Oper) (i : Nat) (t : Tr Value) (h : AH) (t' : Tr Value) (h' : AH), opsA P X run sz ops os t h = some (t', h') → ∃ l, runD P X run sz ops [] false i os t h = some (l, t', h')
  | [], i, t, h, t', h', hr => by cases hr; exact ⟨[], rfl⟩
  | o :: r, i, t, h, t', h', hr => by
    simp only [opsA] at hr
    split at hr
    · rename_i hg
      split at hr
      · rename_i v h1 ho
        split at hr
        · rename_i t1 hp
          obtain ⟨l, hl⟩ := opsA_runD r (i + 1) t1 h1 t' h' hr
          exact ⟨⟨t, h, true, v⟩ :: l, by simp only [runD, hg, stepD, idOf, ho, hp, hl, consD]⟩
        · cases hr
      · cases hr
    · rename_i hg
      split at hr
      · rename_i t1 hp
        obtain ⟨l, hl⟩ := opsA_runD r (i + 1) t1 h t' h' hr
        exact ⟨⟨t, h, false, .tuple #[]⟩ :: l, by simp only [runD, hg, hp, hl, consD]⟩
      · cases hr
    · cases hr
theorem W_draw {id : Nat} (hd : drawOk ops = true) (w : WO P X sz ops ops.toList t h (Q .norm)) : W P X inR sz (.region id ops true) t h Q := by
  obtain ⟨n, t', h', h1, h2⟩ := w
  refine ⟨n + 1, _, _, _, ?_, h2⟩
  unfold drawOk at hd
  rw [Bool.and_eq_true, Bool.and_eq_true, List.isEmpty_iff, List.all_eq_true] at hd
  obtain ⟨⟨hp, hf⟩, hs⟩ := hd
  rw [exec_S]
  simp only [execStep]
  obtain ⟨l, hl⟩ := opsA_runD ops.toList 0 t h t' h' h1
  obtain ⟨q1, q2, q3, q4⟩ := runD_spec ops.toList 0 t h l t' h' hl
  have : opsD P X (exec P X n) sz ops t h = some (t', h') := by
    unfold opsD
    simp only [hf, hp]
    unfold opsD2
    rw [hl]
    simp only
    have : (List.range ops.size).all (stepOk P ops [] (masks ops.toList []) [] ((List.range ops.size).filter (chainAt ops [])) (h :: ((List.range ops.size).filter (chainAt ops [])).map fun i => hpAt l h' (i + 1)) l) = true := by
      rw [List.all_eq_true]
      intro i hi
      have hi' := List.mem_range.1 hi
      have h3 := hs i hi
      unfold stepOk
      have ho : ops[i]? = some ops[i] := Array.getElem?_eq_getElem hi'
      obtain ⟨s, s1, -⟩ := q4 i _ (by rw [Array.getElem?_toList]; exact ho)
      rw [ho] at h3 ⊢
      rw [s1]
      rw [Bool.or_eq_true] at h3 ⊢
      rcases h3 with h3 | h3
      · exact .inl h3
      · refine .inr ?_
        simp only at h3 ⊢
        rw [h3]; simp
    rw [this]
  rw [this]
end
end Go.Proofs.Xx
