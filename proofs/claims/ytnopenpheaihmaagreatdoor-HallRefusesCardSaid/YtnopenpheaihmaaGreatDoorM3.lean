/-
  The checked run is sound.
-/
import Derived.Test.YtnopenpheaihmaaGreatDoorM2
import Derived.Calls
import Derived.Laws.Externs

namespace Go.Proofs.Xx
open Go
set_option linter.unusedSimpArgs false
set_option linter.unusedVariables false

theorem numbered_inv : ∀ (l : List Nat) (n i b : Nat), idOf (numbered n l) i = some b → n ≤ b ∧ b < n + l.length ∧ l[b - n]? = some i
  | [], n, i, b, h => by cases h
  | j :: r, n, i, b, h => by
    simp only [numbered, idOf] at h
    split at h
    · rename_i hj
      cases h
      have := Nat.eq_of_beq_eq_true hj
      subst this
      exact ⟨Nat.le_refl _, by simp, by simp⟩
    · obtain ⟨h1, h2, h3⟩ := numbered_inv r (n + 1) i b h
      refine ⟨by omega, by simp; omega, ?_⟩
      rw [show b - n = (b - (n + 1)) + 1 by omega, List.getElem?_cons_succ]
      exact h3
theorem numbered_has : ∀ (l : List Nat) (n i : Nat), hasN l i = true → ∃ b, idOf (numbered n l) i = some b
  | [], n, i, h => by cases h
  | j :: r, n, i, h => by
    simp only [numbered, idOf]
    cases hj : Nat.beq j i with
    | true => exact ⟨n, rfl⟩
    | false =>
      simp only
      refine numbered_has r (n + 1) i ?_
      rw [hasN_mem] at h ⊢
      rw [List.mem_cons] at h
      rcases h with h | h
      · subst h; simp at hj
      · exact h

section
variable {P : Program}

theorem Rel.addFree [Glob] {B : Bs} {e : Emb} {h : AH} {w : World} (r : Rel B e h w) (o : AObj) : Rel B e (h.add o) w ∧ Turn e h w e (h.add o) w := by
  have hne : ∀ b L, e b = some L → b ≠ h.next := fun b L q => by have := r.dom b L q; omega
  refine ⟨⟨fun b L q => Nat.lt_succ_of_lt (r.dom b L q), fun b hb => ?_, r.rng, fun b L p q1 q2 => ?_, fun k M p k' M' p' e1 e2 e3 e4 e5 e6 e7 => ?_, fun b L p q1 q2 q3 => ?_, r.base, r.keep, r.glob⟩,
    ⟨e.le_refl, Nat.le_succ _, Nat.le_refl _, fun _ _ q _ => q, fun b L q n => (by rw [n] at q; cases q), Nat.le_refl _, fun _ _ _ => rfl, fun b hb _ => ?_, rfl, rfl, rfl⟩⟩
  · have hb' : h.next + 1 ≤ b := hb
    rw [AH.get_add, if_neg (by omega)]; exact r.wf b (by omega)
  · rw [AH.get_add, if_neg (hne b L q1)] at q2; exact r.obj b L p q1 q2
  · rw [AH.get_add, if_neg (hne k M e1)] at e2
    rw [AH.get_add, if_neg (hne k' M' e3)] at e4
    exact r.inj k M p k' M' p' e1 e2 e3 e4 e5 e6 e7
  · rw [AH.get_add, if_neg (hne b L q1)] at q2; exact r.own b L p q1 q2 q3
  · rw [AH.get_add, if_neg (by omega)]
theorem Rel.addAll [Glob] {B : Bs} {e : Emb} {w : World} : ∀ (os : List AObj) (h : AH), Rel B e h w → Rel B e (os.foldl AH.add h) w ∧ Turn e h w e (os.foldl AH.add h) w ∧ (os.foldl AH.add h).next = h.next + os.length
  | [], h, r => ⟨r, Turn.refl _ _ _, rfl⟩
  | o :: os, h, r => by
    obtain ⟨r1, u1⟩ := r.addFree o
    obtain ⟨r2, u2, n2⟩ := Rel.addAll os (h.add o) r1
    refine ⟨r2, u1.trans u2 r.dom, ?_⟩
    rw [List.foldl_cons, n2]
    simp only [AH.add, List.length_cons]; omega

theorem opsD2_sound [Glob] {X : Extern} {run : Runner} (hm : P.follows .mixedOrders = true) (hC : CallOk P (callA P X run)) (hY : YieldOk P (yieldA run)) {sz : Nat} {ops : Array Oper} {fl : List Nat} {ids : List (Nat × Nat)}
    {t t' : Tr Value} {h h0 h' : AH} (hp : planOk ops (masks ops.toList []) fl = true) (ho : opsD2 P X run sz ops (masks ops.toList []) fl ids t h0 = some (t', h'))
    (ids1 : ∀ i, hasN fl i = true → ∃ b, idOf ids i = some b) (ids2 : ∀ i b, idOf ids i = some b → hasN fl i = true ∧ h.next ≤ b ∧ b < h0.next) (ids3 : ∀ i j b, idOf ids i = some b → idOf ids j = some b → i = j)
    {B : Bs} {e : Emb} {w : World} {tm : Array Value} (r : Rel B e h w) (r0 : Rel B e h0 w) (u0 : Turn e h w e h0 w) (T : TR e sz t tm) (tv : Nat) :
    ∃ e' w' tm', Rel B e' h' w' ∧ Turn e h w e' h' w' ∧ TR e' sz t' tm' ∧ ∀ (fn : FuncId) (ro : Option Nat) (k : List Item) (ds : List Deferred) (cs : List Frame),
      Steps P (lone (fr fn ro tm (.inRegion ops (Region.schedule (P.follows .mixedOrders) ops tv) :: k) ds) cs w) (lone (fr fn ro tm' (.inRegion ops [] :: k) ds) cs w') := by
  unfold opsD2 at ho
  split at ho
  rotate_left
  · cases ho
  rename_i l t1 h1 hr
  simp only at ho
  have hkey : t1 = t' ∧ h1 = h' ∧ StepP P ops ids (masks ops.toList []) fl ((List.range ops.size).filter (chainAt ops fl)) (h0 :: ((List.range ops.size).filter (chainAt ops fl)).map fun i => hpAt l h1 (i + 1)) l := by
    split at ho
    · rename_i hall
      cases ho
      refine ⟨rfl, rfl, fun i hi hc o s hoo hs hgo hcalm m k hm hf => ?_⟩
      rw [List.all_eq_true] at hall
      have h1 := hall i (List.mem_range.2 hi)
      unfold stepOk at h1
      rw [hc, hoo, hs] at h1
      simp only [Bool.false_or, hgo, Bool.not_true, hcalm, List.all_eq_true] at h1
      have h2 := h1 m (List.mem_range.2 (List.getElem?_eq_some_iff.1 hm).1)
      rw [hf, hm] at h2
      exact OkAtP.of (by simpa using h2)
    · split at ho
      · rename_i hst
        cases ho
        exact ⟨rfl, rfl, hst⟩
      · cases ho
  obtain ⟨rfl, rfl, hall⟩ := hkey
  obtain ⟨q1, q2, q3, q4⟩ := runD_spec ops.toList 0 t h0 l t1 h1 hr
  have c : Canon P X run sz ops ids fl l t t1 h h0 h1 := {
    plan := hp
    startT := q1
    startH := q2
    len := q3.trans Array.length_toList
    step := fun k o hk => by
      obtain ⟨s, s1, s2⟩ := q4 k o (by rw [Array.getElem?_toList]; exact hk)
      refine ⟨s, s1, ?_⟩
      rw [Nat.zero_add] at s2
      exact s2
    checked := hall
    ids1 := ids1
    ids2 := ids2
    ids3 := ids3 }
  have hk0 : kk l h0 h1 (([] : List Nat).filter (chainAt ops fl)) = h0 := rfl
  have S : St B ops ids fl l t h h0 h1 sz e w [] e w tm := {
    rel := r0
    tr := T
    turn := u0
    next := Nat.le_refl _
    free := fun j b hj _ => by
      cases he : e b with
      | none => rfl
      | some L =>
        have := r.dom b L he
        have := (ids2 j b hj).2.1
        omega }
  obtain ⟨e', w', tm', p1, p2, p3, p4⟩ := c.go hC hY r.dom ops.size tv (Array.replicate ops.size false) [] (by simp) (by simp) (fun i hi => by simp [Array.getElem?_replicate, hi]) (Valid.nil ops) e w tm S
  refine ⟨e', w', tm', p1, p2, p3, fun fn ro k ds cs => ?_⟩
  simp only [Region.schedule, hm, Bool.true_or, if_true]
  exact p4 fn ro k ds cs

theorem drawsOk [Glob] {X : Extern} {run : Runner} (hm : P.follows .mixedOrders = true) (hX : XOk P X) (hN : ∀ (f : FuncId) (fn : Func), P.funcs[f]? = some fn → fn.body.isSome = true → (fn.name == "runtime.NumGoroutine") = false)
    (hR : RunOk P run) : DrawsOk P X run := by
  have hC := callA_sound hX hN hR
  have hY := yieldA_sound hR
  intro sz ops t h t' h' ho B e w tm r T tv
  unfold opsD at ho
  simp only at ho
  split at ho
  rotate_left
  · cases ho
  rename_i hp
  split at ho
  · rename_i hfl
    rw [hfl] at hp
    refine opsD2_sound hm hC hY hp ho (fun i q => by cases q) (fun i b q => by cases q) (fun i j b q => by cases q) r r (Turn.refl _ _ _) T tv
  · rename_i j rest hfl
    rw [hfl] at hp
    obtain ⟨r0, u0, n0⟩ := Rel.addAll ((j :: rest).map (hintObj P ops sz h t)) h r
    refine opsD2_sound hm hC hY hp ho (fun i q => numbered_has _ _ _ q) (fun i b q => ?_) (fun i k b q1 q2 => ?_) r r0 u0 T tv
    · obtain ⟨a1, a2, a3⟩ := numbered_inv _ _ _ _ q
      refine ⟨hasN_mem.2 (List.mem_of_getElem? a3), a1, ?_⟩
      rw [n0, List.length_map]; exact a2
    · obtain ⟨a1, a2, a3⟩ := numbered_inv _ _ _ _ q1
      obtain ⟨b1, b2, b3⟩ := numbered_inv _ _ _ _ q2
      rw [a3] at b3
      exact Option.some.inj b3

theorem exec_sound [Glob] {X : Extern} (hm : P.follows .mixedOrders = true) (hX : XOk P X) (hN : ∀ (f : FuncId) (fn : Func), P.funcs[f]? = some fn → fn.body.isSome = true → (fn.name == "runtime.NumGoroutine") = false) (n : Nat) :
    RunOk P (exec P X n) := exec_ok hX hN (fun run hR => drawsOk hm hX hN hR) n
end
end Go.Proofs.Xx

/-
  A call whose checked run has come to an end: what the machine's call gives.
-/
namespace Go.Proofs.Xx
open Go Go.RowKit
set_option linter.unusedSimpArgs false
set_option linter.unusedVariables false

section
variable {P : Program}

theorem callA_calls [Glob] {X : Extern} {run : Runner} (hR : RunOk P run) {f : FuncId} {args : List Value} {h h' : AH} {v : Value} (hc : callA P X run f args h = some (v, h')) (hXn : X f args h = none)
    {fn : Func} {body : Code} (hfn : P.funcs[f]? = some fn) (hb : fn.body = some body) {B : Bs} {e : Emb} {w : World} {args' : List Value} (r : Rel B e h w) (hargs : VRs e args args') :
    ∃ e' v' w', Rel B e' h' w' ∧ Turn e h w e' h' w' ∧ VR e' v v' ∧ Calls P f args'.toArray w (fun en w'' => en = .returned v' ∧ w'' = w') := by
  unfold callA at hc
  rw [hXn, hfn] at hc
  simp only [hb] at hc
  have hlen := hargs.length
  have hent : Frame.enter P f args'.toArray .normal = fr f none (args'.toArray ++ Array.replicate (fn.ntmps - args'.length) undef) [.code body] [] := by
    simp [Frame.enter, fr, hfn, hb]
  have T : TR e (args.length + (fn.ntmps - args.length)) (enterArgs 0 args .e) (args'.toArray ++ Array.replicate (fn.ntmps - args'.length) undef) := by
    refine enterArgs_sound ⟨by simp [hlen], fun k u hk => by rw [Tr.get_e] at hk; cases hk⟩ hargs (by omega) fun j hj => ?_
    rw [Nat.zero_add, Array.getElem?_append_left (by simpa using hj)]
    simp
  split at hc
  · cases hc
  rotate_left
  · cases hc
  rename_i x t h1 hx hrun
  split at hc
  rotate_left
  · cases hc
  rename_i vs hvs
  cases hc
  obtain ⟨e1, w1, tm1, dn, r1, u1, T1, m1, -, a1⟩ := hR _ _ _ _ _ _ _ _ hrun B e w _ f none r T (fun _ => rfl)
  obtain ⟨rs, d1, d2, d3⟩ := m1.ex
  obtain ⟨w2, b2, st2⟩ := unwind_marks (P := P) (N := w.heap.size) (e := e1) (fn := f) (tm := tm1) rs w1 d2 d3
  have r2 := r1.beside b2 r.base
  obtain ⟨vs', p1, p2⟩ := resultsA_sound (P := P) r2 T1 hvs
  have main : ∀ cs, ∃ todo, Steps P (lone (fr f none (args'.toArray ++ Array.replicate (fn.ntmps - args'.length) undef) [.code body] []) cs w) (lone (gone f tm1 todo dn) cs w1) := by
    cases x with
    | norm =>
      refine fun cs => ⟨[], ?_⟩
      have := a1 [] [] cs
      rw [List.append_nil] at this
      exact Steps.trans this (.one st_end)
    | exit id => exact (hx id rfl).elim
    | ret =>
      refine fun cs => ?_
      obtain ⟨k', hk⟩ := a1 [] [] cs
      rw [List.append_nil] at hk
      exact ⟨_, Steps.trans hk (.one st_ret)⟩
  refine ⟨e1, _, w2, r2, u1.beside b2, oneOrTuple_sound p2, fun cs => ?_⟩
  obtain ⟨todo, hst⟩ := main cs
  refine ⟨_, w2, gone f tm1 todo [], ⟨rfl, rfl⟩, ?_, rfl, rfl, rfl, rfl, fn, hfn, ?_⟩
  · rw [hent]
    rw [d1] at hst
    exact Steps.trans hst (st2 todo cs)
  · rw [show (gone f tm1 todo []).tmps = tm1 from rfl, results_eq, Sem.run_bind, Array.mapM_eq_mapM_toList, Sem.run_map, p1]
    rfl

theorem Rel.empty [Glob] {B : Bs} {e : Emb} {h : AH} {w : World} (r : Rel B e h w) : Rel B (fun _ => none) ⟨.e, 0, 0⟩ w :=
  ⟨fun b L q => (by cases q), fun b _ => Tr.get_e b, fun b L q => (by cases q), fun b L o q => (by cases q), fun b L o b' L' o' q => (by cases q), fun b L o q => (by cases q), r.base, r.keep, r.glob⟩

/-- What X tells, and that function f, called without arguments, returns v. -/
def withKnown (X : Extern) (f : FuncId) (v : Bool) : Extern := fun g args h => match Nat.beq g f, args with
  | true, [] => some (.bool v, h)
  | _, _ => X g args h
/-- A function without arguments whose run from the empty memory ends leaves everything as it was, but for new blocks. -/
theorem withKnown_ok [Glob] {X X1 : Extern} {run : Runner} (hX : XOk P X) (hC : CallOk P (callA P X1 run)) {f : FuncId} {h' : AH} {v : Bool} (hc : callA P X1 run f [] ⟨.e, 0, 0⟩ = some (.bool v, h')) : XOk P (withKnown X f v) := by
  intro g args h u h1 hx B e w args' r hargs
  unfold withKnown at hx
  split at hx
  · rename_i hg
    cases hx
    have := Nat.eq_of_beq_eq_true hg
    subst this
    have := hargs.nil_inv
    subst this
    obtain ⟨e1, v1, w1, r1, u1, hv, hs⟩ := hC _ _ _ _ _ hc _ _ w [] r.empty .nil
    cases hv
    have hk : ∀ k, k < w.heap.size → w1.heap[k]? = w.heap[k]? := fun k hk => u1.keep k hk fun b L q => by cases q
    refine ⟨e, .bool v, w1, ?_, ?_, .bool v, hs⟩
    · exact ⟨r.dom, r.wf, fun b L q => Nat.lt_of_lt_of_le (r.rng b L q) u1.size, fun b L o q1 q2 => (r.obj b L o q1 q2).world (hk _ (r.rng b L q1)), r.inj, r.own, Nat.le_trans r.base u1.size, fun k q => (hk k (by have := r.base; omega)).trans (r.keep k q), r.glob⟩
    · exact ⟨e.le_refl, Nat.le_refl _, Nat.le_refl _, fun _ _ q _ => q, fun b L q n => (by rw [n] at q; cases q), u1.size, fun k q _ => hk k q, fun _ _ _ => rfl, u1.os, u1.tape, u1.output⟩
  · exact hX _ _ _ _ _ hx B e w args' r hargs

/-- internal/abi.NoEscape, as function number n. -/
def externNoEscape (n : Nat) : Extern := fun f args h => match Nat.beq f n, args with
  | true, [x] => some (x, h)
  | _, _ => none
theorem externNoEscape_ok [Glob] {n : Nat} {fn : Func} (hfn : P.funcs[n]? = some fn) (hname : (fn.name == "runtime.NumGoroutine") = false) (hb : fn.body.isNone = true) (hn : Extern.findNext fn = none)
    (he : Extern.find fn = some Extern.AbiNoEscape.same) : XOk P (externNoEscape n) := by
  intro f args h v h' hx B e w args' r hargs
  unfold externNoEscape at hx
  split at hx
  · rename_i x hf
    cases hx
    have := Nat.eq_of_beq_eq_true hf
    subst this
    obtain ⟨x', r', rfl, hx', hr'⟩ := hargs.cons_inv
    have := hr'.nil_inv; subst this
    refine ⟨e, x', w, r, Turn.refl _ _ _, hx', .inl ?_⟩
    rw [run_callFunc_extern hfn hname hb hn he]
    rfl
  · cases hx
end
end Go.Proofs.Xx
