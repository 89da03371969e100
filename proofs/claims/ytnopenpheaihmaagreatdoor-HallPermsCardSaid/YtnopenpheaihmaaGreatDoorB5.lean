/-
  The rules over what is known of the slots.
-/
import Derived.Test.YtnopenpheaihmaaGreatDoorB4
namespace Go.Proofs.Xx
open Go
set_option linter.unusedSimpArgs false
set_option linter.unusedVariables false

abbrev KQ := AX → Ks → AH → Prop
section
variable (P : Program) (X : Extern)
def K (inR : Bool) (sz : Nat) (c : Code) (L : Ks) (h : AH) (Q : KQ) : Prop := ∀ t, Kn t L → W P X inR sz c t h (fun x t' h' => ∃ L', Kn t' L' ∧ Q x L' h')
def KO (sz : Nat) (ops : Array Oper) (os : List Oper) (L : Ks) (h : AH) (R : Ks → AH → Prop) : Prop := ∀ t, Kn t L → WO P X sz ops os t h (fun t' h' => ∃ L', Kn t' L' ∧ R L' h')
end

section
variable {P : Program} {X : Extern} {inR : Bool} {sz : Nat} {L : Ks} {h : AH} {Q : KQ}

theorem K.mono {c : Code} {Q' : KQ} (w : K P X inR sz c L h Q) (hq : ∀ x L' h', Q x L' h' → Q' x L' h') : K P X inR sz c L h Q' :=
  fun t hk => (w t hk).mono fun x t' h' ⟨L', h1, h2⟩ => ⟨L', h1, hq _ _ _ h2⟩
/-- Forget slots. -/
theorem K.le {c : Code} {L' : Ks} (hl : Ks.le L' L) (w : K P X inR sz c L' h Q) : K P X inR sz c L h Q := fun t hk => w t (hk.le hl)
theorem K_skip (hq : Q .norm L h) : K P X inR sz .skip L h Q := fun t hk => W_skip ⟨L, hk, hq⟩
theorem K_exit {id : Nat} (hq : Q (.exit id) L h) : K P X inR sz (.exit id) L h Q := fun t hk => W_exit ⟨L, hk, hq⟩
theorem K_ret (hq : Q .ret L h) : K P X inR sz .ret L h Q := fun t hk => W_ret ⟨L, hk, hq⟩
theorem K_label {l : Nat} (hq : Q .norm L h) : K P X inR sz (.label l) L h Q := fun t hk => W_label ⟨L, hk, hq⟩
def thenK (P : Program) (X : Extern) (inR : Bool) (sz : Nat) (b : Code) (Q : KQ) : KQ
  | .norm, L, h => K P X inR sz b L h Q
  | x, L, h => Q x L h
theorem K_seq {a b : Code} (w : K P X inR sz a L h (thenK P X inR sz b Q)) : K P X inR sz (.seq a b) L h Q := fun t hk =>
  W_seq ((w t hk).mono fun x t' h' ⟨L', h1, h2⟩ => by
    cases x with
    | norm => exact h2 t' h1
    | exit id => exact ⟨L', h1, h2⟩
    | ret => exact ⟨L', h1, h2⟩)
theorem K_cond {c : Operand} {a b : Code} {v : Bool} (hc : kA L c = some (.bool v)) (w : K P X inR sz (if v then a else b) L h Q) : K P X inR sz (.cond c a b) L h Q := fun t hk =>
  W_cond (kA_ok hk hc) (w t hk)
theorem K_cond2 {c : Operand} {a b : Code} {v : Bool} (hc : kA L c = some (.bool v)) (w1 : v = true → K P X inR sz a L h Q) (w2 : v = false → K P X inR sz b L h Q) : K P X inR sz (.cond c a b) L h Q := by
  refine K_cond hc ?_
  cases v with
  | true => exact w1 rfl
  | false => exact w2 rfl
def blockK (id : Nat) (Q : KQ) : KQ
  | .exit id', L, h => if id' = id then Q .norm L h else Q (.exit id') L h
  | x, L, h => Q x L h
theorem K_block {id : Nat} {body : Code} (w : K P X inR sz body L h (blockK id Q)) : K P X inR sz (.block id body) L h Q := fun t hk =>
  W_block ((w t hk).mono fun x t' h' ⟨L', h1, h2⟩ => by
    cases x with
    | norm => exact ⟨L', h1, h2⟩
    | exit id' =>
      simp only [blockK] at h2
      simp only [blockQ]
      split
      · rename_i e; rw [if_pos e] at h2; exact ⟨L', h1, h2⟩
      · rename_i e; rw [if_neg e] at h2; exact ⟨L', h1, h2⟩
    | ret => exact ⟨L', h1, h2⟩)
theorem K_scope {body : Code} (w : K P X inR sz body L h Q) : K P X inR sz (.scope body) L h Q := fun t hk => W_scope (w t hk)
def loopK (I : Nat → Ks → AH → Prop) (m : Nat) (Q : KQ) : KQ
  | .norm, L, h => ∃ k L', k < m ∧ I k L' h ∧ Ks.le L' L
  | x, L, h => Q x L h
/-- The rule of a loop: m is a measure that goes down; I tells the slots that are known at its head. -/
theorem K_loop {body : Code} (I : Nat → Ks → AH → Prop) (hb : ∀ m L h, I m L h → K P X inR sz body L h (loopK I m Q)) (m : Nat) {L0 : Ks} (hi : I m L0 h) (hl : Ks.le L0 L) : K P X inR sz (.loop body) L h Q := fun t hk =>
  W_loop (Q := fun x t' h' => ∃ L', Kn t' L' ∧ Q x L' h') (fun m t h => ∃ L, Kn t L ∧ I m L h) (fun m t h ⟨L, k1, k2⟩ => (hb m L h k2 t k1).mono fun x t' h' ⟨L', h1, h2⟩ => by
    cases x with
    | norm => obtain ⟨k, L2, h3, h4, h5⟩ := h2; exact ⟨k, h3, L2, h1.le h5, h4⟩
    | exit id => exact ⟨L', h1, h2⟩
    | ret => exact ⟨L', h1, h2⟩) m t h ⟨L0, hk.le hl, hi⟩
theorem K_region {id : Nat} {ops : Array Oper} (w : KO P X sz ops ops.toList L h (Q .norm)) : K P X inR sz (.region id ops false) L h Q := fun t hk => W_region (w t hk)

variable {ops : Array Oper} {os : List Oper} {o : Oper} {R : Ks → AH → Prop}
theorem KO_nil (hq : R L h) : KO P X sz ops [] L h R := fun t hk => WO_nil ⟨L, hk, hq⟩
theorem KO.mono {R' : Ks → AH → Prop} (w : KO P X sz ops os L h R') (hq : ∀ L' h', R' L' h' → R L' h') : KO P X sz ops os L h R := fun t hk => by
  obtain ⟨n, t', h', h1, L', h2, h3⟩ := w t hk
  exact ⟨n, t', h', h1, L', h2, hq _ _ h3⟩
/-- The slots behind an operation. -/
def putK (sz : Nat) (L : Ks) (d : Option Tmp) (v : Value) : Option Ks :=
  match d with
  | none => some L
  | some k => match Nat.blt k sz with
    | true => some (L.put k v)
    | false => none
theorem putK_ok {t : Tr Value} {L L' : Ks} {d : Option Tmp} {v : Value} (hk : Kn t L) (hp : putK sz L d v = some L') : ∃ t', putD sz t d v = some t' ∧ Kn t' L' := by
  unfold putK at hp
  unfold putD
  split at hp
  · cases hp; exact ⟨t, rfl, hk⟩
  · split at hp
    · rename_i e; cases hp; exact ⟨_, by simp only [e], hk.put _ _⟩
    · cases hp
theorem KO_val {L' : Ks} {h' : AH} {v : Value} (hg : guardA ops L.tree o.guard = some true) (ha : aOp P L.tree h o.op = some (.val v h')) (hp : putK sz L o.dst v = some L') (w : KO P X sz ops os L' h' R) : KO P X sz ops (o :: os) L h R := fun t hk => by
  obtain ⟨t', h1, h2⟩ := putK_ok hk hp
  exact WO_val (guardA_le hk.tle hg) (aOp_le hk.tle ha) h1 (w t' h2)
theorem nextOf_some {v : Value} {o' : Option Value} (hv : o' = some v) : nextOf o' h = some (.val v h) := by rw [hv]; rfl
/-- A primitive whose value is proved apart. -/
theorem KO_next {L' : Ks} {v : Value} {o' : Option Value} (hg : guardA ops L.tree o.guard = some true) (ha : aOp P L.tree h o.op = nextOf o' h) (hv : o' = some v) (hp : putK sz L o.dst v = some L') (w : KO P X sz ops os L' h R) : KO P X sz ops (o :: os) L h R :=
  KO_val hg (ha.trans (nextOf_some hv)) hp w
theorem KO_next2 {L' : Ks} {v : Value} {h' : AH} {o' : Option (Value × AH)} (hg : guardA ops L.tree o.guard = some true) (ha : aOp P L.tree h o.op = nextOf2 o') (hv : o' = some (v, h')) (hp : putK sz L o.dst v = some L') (w : KO P X sz ops os L' h' R) : KO P X sz ops (o :: os) L h R :=
  KO_val hg (by rw [ha, hv]; rfl) hp w
theorem KO_skip {L' : Ks} {h' : AH} (hg : guardA ops L.tree o.guard = some true) (ha : aOp P L.tree h o.op = some (.skip h')) (hp : putK sz L o.dst (.tuple #[]) = some L') (w : KO P X sz ops os L' h' R) : KO P X sz ops (o :: os) L h R := fun t hk => by
  obtain ⟨t', h1, h2⟩ := putK_ok hk hp
  exact WO_skip (guardA_le hk.tle hg) (aOp_le hk.tle ha) h1 (w t' h2)
theorem KO_off {L' : Ks} (hg : guardA ops L.tree o.guard = some false) (hp : putK sz L o.dst (.tuple #[]) = some L') (w : KO P X sz ops os L' h R) : KO P X sz ops (o :: os) L h R := fun t hk => by
  obtain ⟨t', h1, h2⟩ := putK_ok hk hp
  exact WO_off (guardA_le hk.tle hg) h1 (w t' h2)
theorem KO_call {f : FuncId} {args : List Value} {d : Tmp} (hg : guardA ops L.tree o.guard = some true) (ha : aOp P L.tree h o.op = some (.call f args)) (hd : o.dst = some d) (hs : Nat.blt d sz = true)
    (w : Fn P X f args h (fun v h' => KO P X sz ops os (L.put d v) h' R)) : KO P X sz ops (o :: os) L h R := fun t hk =>
  WO_call (guardA_le hk.tle hg) (aOp_le hk.tle ha) hd hs (w.mono fun v h' q => q _ (hk.put d v))

/-! ### operation by operation -/
theorem tree_le {L : Ks} {o : Operand} {v : Value} (hk : kA L o = some v) : evA L.tree o = some v := kA_ok (Kn.tree L) hk
theorem KO_len {L' : Ks} {x : Operand} {ty : TypeId} {a v : Value} (ho : o.op = .call { callee := .builtin .len, args := #[x], argTypes := #[ty] }) (hg : guardA ops L.tree o.guard = some true) (hx : kA L x = some a)
    (hv : aLen P ty a = some v) (hp : putK sz L o.dst v = some L') (w : KO P X sz ops os L' h R) : KO P X sz ops (o :: os) L h R :=
  KO_val hg (by rw [ho]; simp only [aOp, evAll, tree_le hx, aBuiltin, hv, nextOf]) hp w
theorem KO_index {L' : Ks} {x i : Operand} {ty : TypeId} {a b v : Value} (ho : o.op = .indexAddr ty x i) (hg : guardA ops L.tree o.guard = some true) (hx : kA L x = some a) (hi : kA L i = some b)
    (hv : aIndexAddr P ty a b = some v) (hp : putK sz L o.dst v = some L') (w : KO P X sz ops os L' h R) : KO P X sz ops (o :: os) L h R :=
  KO_val hg (by rw [ho]; simp only [aOp, tree_le hx, tree_le hi, hv, nextOf]) hp w
theorem KO_load {L' : Ks} {x : Operand} {ty : TypeId} {a v : Value} (ho : o.op = .load ty x) (hg : guardA ops L.tree o.guard = some true) (hx : kA L x = some a)
    (hv : aLoad P ty a h = some v) (hp : putK sz L o.dst v = some L') (w : KO P X sz ops os L' h R) : KO P X sz ops (o :: os) L h R :=
  KO_val hg (by rw [ho]; simp only [aOp, tree_le hx, hv, nextOf]) hp w
theorem KO_bin {L' : Ks} {op : BinOp} {x y : Operand} {ty ty2 : TypeId} {a b v : Value} (ho : o.op = .binOp op ty x y ty2) (hg : guardA ops L.tree o.guard = some true) (hx : kA L x = some a) (hy : kA L y = some b)
    (hv : aBin P op ty a b = some v) (hp : putK sz L o.dst v = some L') (w : KO P X sz ops os L' h R) : KO P X sz ops (o :: os) L h R :=
  KO_val hg (by rw [ho]; simp only [aOp, tree_le hx, tree_le hy, hv, nextOf]) hp w
theorem KO_store {h' : AH} {L' : Ks} {x y : Operand} {ty : TypeId} {a b : Value} (ho : o.op = .store ty x y) (hg : guardA ops L.tree o.guard = some true) (hx : kA L x = some a) (hy : kA L y = some b)
    (hv : aStore P ty a b h = some h') (hp : putK sz L o.dst (.tuple #[]) = some L') (w : KO P X sz ops os L' h' R) : KO P X sz ops (o :: os) L h R :=
  KO_skip hg (by rw [ho]; simp only [aOp, tree_le hx, tree_le hy, hv]) hp w
theorem KO_make {h' : AH} {L' : Ks} {x y : Operand} {ty : TypeId} {a b v : Value} (ho : o.op = .makeSlice ty x y) (hg : guardA ops L.tree o.guard = some true) (hx : kA L x = some a) (hy : kA L y = some b)
    (hv : aMakeSlice P ty a b h = some (v, h')) (hp : putK sz L o.dst v = some L') (w : KO P X sz ops os L' h' R) : KO P X sz ops (o :: os) L h R :=
  KO_val hg (by rw [ho]; simp only [aOp, tree_le hx, tree_le hy, hv, nextOf2]) hp w
theorem KO_append {h' : AH} {L' : Ks} {x y : Operand} {tys : Array TypeId} {a b v : Value} (ho : o.op = .call { callee := .builtin .append, args := #[x, y], argTypes := tys }) (hg : guardA ops L.tree o.guard = some true) (hx : kA L x = some a) (hy : kA L y = some b)
    (hv : aAppend P tys.toList a b h = some (v, h')) (hp : putK sz L o.dst v = some L') (w : KO P X sz ops os L' h' R) : KO P X sz ops (o :: os) L h R :=
  KO_val hg (by rw [ho]; simp only [aOp, evAll, tree_le hx, tree_le hy, aBuiltin, hv, nextOf2]) hp w
def kAll (L : Ks) : List Operand → Option (List Value)
  | [] => some []
  | o :: r => match kA L o, kAll L r with
    | some v, some vs => some (v :: vs)
    | _, _ => none
theorem kAll_ok {L : Ks} : ∀ {os : List Operand} {vs : List Value}, kAll L os = some vs → evAll L.tree os = some vs
  | [], vs, h => h
  | o :: r, vs, h => by
    simp only [kAll] at h
    simp only [evAll]
    split at h
    · rename_i e1 e2; rw [tree_le e1, kAll_ok e2]; exact h
    · cases h
theorem KO_fn {f : FuncId} {args : Array Operand} {tys : Array TypeId} {vs : List Value} {d : Tmp} (ho : o.op = .call { callee := .value (.func f), args := args, argTypes := tys }) (hg : guardA ops L.tree o.guard = some true) (ha : kAll L args.toList = some vs)
    (hd : o.dst = some d) (hs : Nat.blt d sz = true) (w : Fn P X f vs h (fun v h' => KO P X sz ops os (L.put d v) h' R)) : KO P X sz ops (o :: os) L h R :=
  KO_call hg (by rw [ho]; simp [aOp, kAll_ok ha, evA]) hd hs w

def retK (P : Program) (rs : List ResultVar) (R : Value → AH → Prop) : KQ
  | .exit _, _, _ => False
  | _, L, h => ∃ vs, resultsA P L.tree h rs = some vs ∧ R (oneOrTuple vs) h
def numK : Nat → List Value → Ks
  | _, [] => []
  | k, v :: r => (k, v) :: numK (k + 1) r
theorem numK_get : ∀ (vs : List Value) (k j : Nat) (v : Value), (numK k vs).get j = some v → k ≤ j ∧ vs[j - k]? = some v
  | [], k, j, v, h => by cases h
  | u :: r, k, j, v, h => by
    simp only [numK, Ks.get] at h
    split at h
    · rename_i e
      cases h
      have := Nat.eq_of_beq_eq_true e
      subst this
      exact ⟨Nat.le_refl _, by simp⟩
    · obtain ⟨h1, h2⟩ := numK_get r (k + 1) j v h
      refine ⟨by omega, ?_⟩
      rw [show j - k = (j - (k + 1)) + 1 by omega, List.getElem?_cons_succ]; exact h2
theorem enterArgs_get : ∀ (vs : List Value) (k : Nat) (t : Tr Value) (j : Nat), (enterArgs k vs t).get j = if k ≤ j ∧ j < k + vs.length then vs[j - k]? else t.get j
  | [], k, t, j => by simp [enterArgs]; intro h1 h2; omega
  | v :: r, k, t, j => by
    simp only [enterArgs]
    rw [enterArgs_get r (k + 1) _ j, Tr.get_set]
    by_cases hj : j = k
    · subst hj; rw [if_neg (by omega), if_pos rfl, if_pos ⟨Nat.le_refl _, by simp⟩]; simp
    · by_cases h1 : k + 1 ≤ j ∧ j < k + 1 + r.length
      · rw [if_pos h1, if_pos (by simp; omega), show j - k = (j - (k + 1)) + 1 by omega, List.getElem?_cons_succ]
      · rw [if_neg h1, if_neg hj, if_neg (by simp; omega)]
theorem Kn.enter (vs : List Value) : Kn (enterArgs 0 vs .e) (numK 0 vs) := by
  intro j v hj
  obtain ⟨h1, h2⟩ := numK_get vs 0 j v hj
  rw [enterArgs_get, if_pos ⟨Nat.zero_le _, by have := (List.getElem?_eq_some_iff.1 h2).1; omega⟩]
  exact h2
theorem Fn_K {f : FuncId} {fn : Func} {body : Code} {args : List Value} {R : Value → AH → Prop} (hX : X f args h = none) (hf : P.funcs[f]? = some fn) (hb : fn.body = some body) {n : Nat} (hn : args.length + (fn.ntmps - args.length) = n)
    (w : K P X false n body (numK 0 args) h (retK P fn.results.toList R)) : Fn P X f args h R := by
  subst hn
  refine Fn_body hX hf hb ((w _ (Kn.enter args)).mono fun x t' h' ⟨L', h1, h2⟩ => ?_)
  cases x with
  | exit id => exact h2.elim
  | norm => obtain ⟨vs, h3, h4⟩ := h2; exact ⟨vs, resultsA_le h1.tle h3, h4⟩
  | ret => obtain ⟨vs, h3, h4⟩ := h2; exact ⟨vs, resultsA_le h1.tle h3, h4⟩
end
end Go.Proofs.Xx
