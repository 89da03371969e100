/-
  From a law's contract over the checked run to the machine's call.
-/
import Derived.Test.YtnopenpheaihmaaGreatDoorD2
import Derived.Test.YtnopenpheaihmaaGreatDoorA22
import Derived.WideShapes
import Derived.ChangeShapes
namespace Go.Proofs.Xx
open Go Go.RowKit Go.WideShapes Go.ChangeShapes
set_option linter.unusedSimpArgs false
set_option linter.unusedVariables false

theorem VRs.one_inv {e : Emb} {r : List Value} {v : Value} (h : VRs e r [v]) : ∃ u, r = [u] ∧ VR e u v := by
  cases h with
  | cons u v' s s' h1 h2 => cases h2; exact ⟨u, rfl, h1⟩
section
variable {P : Program}
/-- A value of type t, by its cells. -/
def absV (P : Program) (t : TypeId) (r : List Value) : Value :=
  match P.underlying t with
  | some (.struct _) | some (.array _ _) => .agg r.toArray
  | _ => r.headD .nilFunc
theorem absV_ok {w : World} {rc : Reach} {b0 m : Nat} {t : TypeId} {v : Value} {e : Emb} {r : List Value} (hp : plainT P m t = true) (hval : Value.okWide P w rc b0 t v) (hv : VRs e r v.cells.toList) : VR e (absV P t r) v := by
  cases m with
  | zero => cases hp
  | succ m =>
    unfold plainT at hp
    unfold absV
    unfold Value.okWide at hval
    cases hu : P.underlying t with
    | none => rw [hu] at hp; cases hp
    | some u =>
      rw [hu] at hp hval
      cases u with
      | struct fs =>
        obtain ⟨cs, rfl, -⟩ := hval
        exact VR.agg (f := e) r cs.toList (by simpa [Value.cells] using hv)
      | array n el =>
        obtain ⟨cs, rfl, -⟩ := hval
        exact VR.agg (f := e) r cs.toList (by simpa [Value.cells] using hv)
      | bool =>
        have : ∃ b, v = .bool b := by cases v <;> simp_all [Cell.okWide, Cell.ok]
        obtain ⟨b, rfl⟩ := this
        obtain ⟨x, rfl, h1⟩ := VRs.one_inv (show VRs e r [.bool b] from hv)
        exact h1
      | int k =>
        have : ∃ k' b, v = .int k' b := by cases v <;> simp_all [Cell.okWide, Cell.ok]
        obtain ⟨k', b, rfl⟩ := this
        obtain ⟨x, rfl, h1⟩ := VRs.one_inv (show VRs e r [.int k' b] from hv)
        exact h1
      | string =>
        have : ∃ b, v = .string b := by cases v <;> simp_all [Cell.okWide, Cell.ok]
        obtain ⟨b, rfl⟩ := this
        obtain ⟨x, rfl, h1⟩ := VRs.one_inv (show VRs e r [.string b] from hv)
        exact h1
      | slice el =>
        have : ∃ a l c, v = .slice a l c := by cases v <;> simp_all [Cell.okWide, Cell.ok]
        obtain ⟨a, l, c, rfl⟩ := this
        obtain ⟨x, rfl, h1⟩ := VRs.one_inv (show VRs e r [.slice a l c] from hv)
        exact h1
      | _ => cases hp

/-- The values us, of types ts, read well in h. -/
def ArgsR (P : Program) (h : AH) : List TypeId → List Value → Prop
  | [], [] => True
  | t :: ts, u :: us => (∃ n r, AR P h n t r ∧ u = absV P t r) ∧ ArgsR P h ts us
  | _, _ => False
theorem ArgsR.ext {h h' : AH} (w : WfH h) (x : Ext h h') : ∀ (ts : List TypeId) (us : List Value), ArgsR P h ts us → ArgsR P h' ts us
  | [], [], q => q
  | t :: ts, u :: us, q => ⟨let ⟨n, r, h1, h2⟩ := q.1; ⟨n, r, h1.ext w x _ _ _, h2⟩, ArgsR.ext w x ts us q.2⟩
  | [], _ :: _, q => q.elim
  | _ :: _, [], q => q.elim

theorem ArgsR.cons_inv {h : AH} {t : TypeId} {ts : List TypeId} {us : List Value} (a : ArgsR P h (t :: ts) us) : ∃ n r us', us = absV P t r :: us' ∧ AR P h n t r ∧ ArgsR P h ts us' := by
  cases us with
  | nil => exact a.elim
  | cons u us =>
    obtain ⟨⟨n, r, h1, rfl⟩, h2⟩ := a
    exact ⟨n, r, us, rfl, h1, h2⟩
theorem ArgsR.nil_inv {h : AH} {us : List Value} (a : ArgsR P h [] us) : us = [] := by
  cases us with
  | nil => rfl
  | cons u us => exact a.elim

section
variable {H : Type} {enc : TypeId × Value → H}
theorem embedArgs [Glob] {w : World} {rc : Reach} {b0 base : Nat} {held : Bool} (hw : ∃ (k : Nat) (cc : Array Value) (el : TypeId) (fr : Nat × Nat), w.heap[k]? = some (.cells cc el fr)) : ∀ (ts : List TypeId) (vs : List Value) (ds : List (DataW H)) (ps : List MemPlace),
    ts.all (plainT P 20) = true → (∀ (j : Nat) t v, ts[j]? = some t → vs[j]? = some v → Value.okWide P w rc b0 t v) → DataW.TrodAll enc P w base (fun _ => true) held ts vs ds ps → ∀ e h, WRel w e h →
    ∃ e' h' us, WRel w e' h' ∧ e.le e' ∧ Ext h h' ∧ VRs e' us vs ∧ ArgsR P h' ts us
  | [], [], [], _, _, _, _, e, h, r => ⟨e, h, [], r, e.le_refl, Ext.refl r.wfH, .nil, trivial⟩
  | t :: ts, v :: vs, d :: ds, ps, hp, hval, hA, e, h, r => by
    simp only [List.all_cons, Bool.and_eq_true] at hp
    obtain ⟨p, q, ⟨fuel, h1⟩, h2, rfl⟩ := hA
    obtain ⟨e1, g1, r1, w1, l1, x1, v1, a1⟩ := embed (fun _ => rfl) hw fuel 20 t _ _ hp.1 h1 e h r
    obtain ⟨e2, g2, us, w2, l2, x2, v2, a2⟩ := embedArgs hw ts vs ds q hp.2 (fun j t v q1 q2 => hval (j + 1) t v (by simpa using q1) (by simpa using q2)) h2 e1 g1 w1
    exact ⟨e2, g2, absV P t r1 :: us, w2, Emb.le_trans l1 l2, x1.trans x2, .cons _ _ _ _ (absV_ok hp.1 (hval 0 t v rfl rfl) (v1.mono l2)) v2, ⟨fuel, r1, a1.ext w1.wfH x2 _ _ _, rfl⟩, a2⟩
  | [], [], _ :: _, _, _, _, h, _, _, _ => h.elim
  | [], _ :: _, _, _, _, _, h, _, _, _ => h.elim
  | _ :: _, [], _, _, _, _, h, _, _, _ => h.elim
  | _ :: _, _ :: _, [], _, _, _, h, _, _, _ => h.elim

/-- A LAW'S CALL: what its contract gives. -/
theorem law_calls [Glob] {X : Extern} (hm : P.follows .mixedOrders = true) (hX : XOk P X) (hN : ∀ (f : FuncId) (fn : Func), P.funcs[f]? = some fn → fn.body.isSome = true → (fn.name == "runtime.NumGoroutine") = false)
    {f : FuncId} {fn : Func} {body : Code} (hfn : P.funcs[f]? = some fn) (hb : fn.body = some body) (hXn : ∀ us h, X f us h = none) (hpl : fn.params.toList.all (plainT P 20) = true)
    (core : ∀ h us, WfH h → ArgsR P h fn.params.toList us → Fn P X f us h (fun x _ => x = .bool true))
    {w : World} {rc : Reach} {b0 : Nat} {args : Array Value} {ds : List (DataW H)} {ps : List MemPlace} (hg : Glob.ok w.heap) (hw : ∃ (k : Nat) (cc : Array Value) (el : TypeId) (fr : Nat × Nat), w.heap[k]? = some (.cells cc el fr))
    (hval : ∀ (j : Nat) t v, fn.params[j]? = some t → args[j]? = some v → Value.okWide P w rc b0 t v) (hA : DataW.TrodAll enc P w 0 (fun _ => true) true fn.params.toList args.toList ds ps) :
    Calls P f args w fun e w' => e = .returned (.bool true) ∧ Below w.heap.size w w' := by
  obtain ⟨e, h, us, r, -, -, v1, a1⟩ := embedArgs (P := P) hw fn.params.toList args.toList ds ps hpl (fun j t v q1 q2 => hval j t v (by simpa using q1) (by simpa using q2)) hA _ _ (WRel.empty hg)
  obtain ⟨n, v, h', hc, rfl⟩ := core h us r.wfH a1
  obtain ⟨e', v', w', r1, t1, hv, hcalls⟩ := callA_calls (exec_sound hm hX hN n) hc (hXn us h) hfn hb r.rel v1
  cases hv
  rw [Array.toArray_toList] at hcalls
  refine hcalls.mono fun en w'' ⟨q1, q2⟩ => ?_
  subst q2
  exact ⟨q1, t1.os, t1.tape, t1.output, t1.size, fun k hk => r1.keep k hk⟩
end
end
end Go.Proofs.Xx
