/-
  Code: what the checked run does, the machine does.
-/
import Derived.Test.YtnopenpheaihmaaGreatDoorA15
namespace Go.Proofs.Xx
open Go
set_option linter.unusedSimpArgs false
set_option linter.unusedVariables false

section
variable {P : Program}

def DrawsOk [Glob] (P : Program) (X : Extern) (run : Runner) : Prop := ∀ sz ops t h t' h', opsD P X run sz ops t h = some (t', h') → ∀ B e w tm, Rel B e h w → TR e sz t tm → ∀ tv : Nat,
  ∃ e' w' tm', Rel B e' h' w' ∧ Turn e h w e' h' w' ∧ TR e' sz t' tm' ∧ ∀ (fn : FuncId) (ro : Option Nat) (k : List Item) (ds : List Deferred) (cs : List Frame),
    Steps P (lone (fr fn ro tm (.inRegion ops (Region.schedule (P.follows .mixedOrders) ops tv) :: k) ds) cs w) (lone (fr fn ro tm' (.inRegion ops [] :: k) ds) cs w')

theorem Rel.drawn [Glob] {B : Bs} {e : Emb} {h : AH} {w : World} (r : Rel B e h w) : Rel B e h { w with drawn := w.drawn + 1 } :=
  ⟨r.dom, r.wf, r.rng, fun b L o q1 q2 => (r.obj b L o q1 q2).world rfl, r.inj, r.own, r.base, r.keep, r.glob⟩
theorem Turn.drawn (e : Emb) (h : AH) (w : World) : Turn e h w e h { w with drawn := w.drawn + 1 } :=
  ⟨e.le_refl, Nat.le_refl _, Nat.le_refl _, fun _ _ q _ => q, fun b L q n => (by rw [n] at q; cases q), Nat.le_refl _, fun _ _ _ => rfl, fun _ _ _ => rfl, rfl, rfl, rfl⟩

/-- One block more that no abstract block stands for. -/
theorem Rel.pushed [Glob] {B : Bs} {e : Emb} {h : AH} {w w' : World} {o : Obj} (r : Rel B e h w) (p : Pushed w w' o) : Rel B e h w' :=
  ⟨r.dom, r.wf, fun b L q => by rw [p.size]; have := r.rng b L q; omega, fun b L ob q1 q2 => (r.obj b L ob q1 q2).world (p.old _ (r.rng b L q1)), r.inj, r.own, by rw [p.size]; have := r.base; omega, fun k hk => (p.old k (by have := r.base; omega)).trans (r.keep k hk), r.glob⟩
theorem Turn.pushed {w w' : World} {o : Obj} (e : Emb) (h : AH) (p : Pushed w w' o) : Turn e h w e h w' :=
  ⟨e.le_refl, Nat.le_refl _, Nat.le_refl _, fun _ _ q _ => q, fun b L q n => (by rw [n] at q; cases q), by rw [p.size]; omega, fun k hk _ => p.old k hk, fun _ _ _ => rfl, p.os, p.tape, p.output⟩

theorem steps_tail {m m1 m2 : Machine} (h : Steps P m m2) (h1 : step P m = .next m1) (hne : m ≠ m2) : Steps P m1 m2 := by
  obtain ⟨n, hn⟩ := h
  cases n with
  | zero => simp [runN] at hn; exact absurd hn hne
  | succ n => simp only [runN, h1] at hn; exact ⟨n, hn⟩
theorem lone_todo {f1 f2 : Frame} {cs : List Frame} {w1 w2 : World} (h : f1.todo ≠ f2.todo) : lone f1 cs w1 ≠ lone f2 cs w2 := by
  intro q
  have := congrArg (fun m : Machine => (m.gs[0]?).map fun g => g.frame.todo) q
  simp [lone] at this
  exact h this

theorem execStep_ok [Glob] {X : Extern} {run : Runner} (hX : XOk P X) (hN : ∀ (f : FuncId) (fn : Func), P.funcs[f]? = some fn → fn.body.isSome = true → (fn.name == "runtime.NumGoroutine") = false)
    (hD : DrawsOk P X run) (hR : RunOk P run) : RunOk P (execStep P X run) := by
  have hC := callA_sound hX hN hR
  have hY := yieldA_sound hR
  intro inR sz c t h x t' h' he B e w tm fn ro r T hro
  unfold execStep at he
  split at he
  · -- skip
    cases he
    exact ⟨e, w, tm, [], r, Turn.refl _ _ _, T, Marks.nil _ _ _, fun _ => rfl, fun ds k cs => .one st_skip⟩
  · cases he
    exact ⟨e, w, tm, [], r, Turn.refl _ _ _, T, Marks.nil _ _ _, fun _ => rfl, fun ds k cs => .one st_label⟩
  · -- seq
    rename_i a b
    split at he
    · rename_i t1 h1 h2
      obtain ⟨e1, w1, tm1, d1, r1, u1, T1, m1, z1, a1⟩ := hR _ _ _ _ _ _ _ _ h2 B e w tm fn ro r T hro
      obtain ⟨e2, w2, tm2, d2, r2, u2, T2, m2, z2, a2⟩ := hR _ _ _ _ _ _ _ _ he B e1 w1 tm1 fn ro r1 T1 hro
      refine ⟨e2, w2, tm2, d2 ++ d1, r2, u1.trans u2 r.dom, T2, m1.append u2 m2 u1.size, fun q => by rw [z1 q, z2 q]; rfl, fun ds k cs => ?_⟩
      have s1 : Steps P (lone (fr fn ro tm (.code (.seq a b) :: k) ds) cs w) (lone (fr fn ro tm1 (.code b :: k) (d1 ++ ds)) cs w1) := .head st_seq (a1 ds (.code b :: k) cs)
      have s2 := a2 (d1 ++ ds) k cs
      rw [List.append_assoc]
      cases x with
      | norm => exact Steps.trans s1 s2
      | exit id => obtain ⟨k', p1, p2⟩ := s2; exact ⟨k', p1, Steps.trans s1 p2⟩
      | ret => obtain ⟨k', p2⟩ := s2; exact ⟨k', Steps.trans s1 p2⟩
    · rename_i hne
      obtain ⟨e1, w1, tm1, d1, r1, u1, T1, m1, z1, a1⟩ := hR _ _ _ _ _ _ _ _ he B e w tm fn ro r T hro
      refine ⟨e1, w1, tm1, d1, r1, u1, T1, m1, z1, fun ds k cs => ?_⟩
      have s1 := a1 ds (.code b :: k) cs
      cases x with
      | norm => exact absurd he (by rw [he] at hne; exact fun _ => hne _ _ rfl)
      | exit id => obtain ⟨k', p1, p2⟩ := s1; exact ⟨k', by rw [p1]; rfl, .head st_seq p2⟩
      | ret => obtain ⟨k', p2⟩ := s1; exact ⟨k', .head st_seq p2⟩
  · -- cond
    rename_i c a b
    split at he
    · rename_i hc
      have hcv : evC tm c = .bool true := by have := evA_sound T hc; generalize evC tm c = q at this; cases this; rfl
      obtain ⟨e1, w1, tm1, d1, r1, u1, T1, m1, z1, a1⟩ := hR _ _ _ _ _ _ _ _ he B e w tm fn ro r T hro
      refine ⟨e1, w1, tm1, d1, r1, u1, T1, m1, z1, fun ds k cs => ?_⟩
      have s1 := a1 ds k cs
      have s0 := st_cond (P := P) (fn := fn) (ro := ro) (k := k) (ds := ds) (cs := cs) (w := w) (x := a) (y := b) hcv
      cases x with
      | norm => exact .head s0 s1
      | exit id => obtain ⟨k', p1, p2⟩ := s1; exact ⟨k', p1, .head s0 p2⟩
      | ret => obtain ⟨k', p2⟩ := s1; exact ⟨k', .head s0 p2⟩
    · rename_i hc
      have hcv : evC tm c = .bool false := by have := evA_sound T hc; generalize evC tm c = q at this; cases this; rfl
      obtain ⟨e1, w1, tm1, d1, r1, u1, T1, m1, z1, a1⟩ := hR _ _ _ _ _ _ _ _ he B e w tm fn ro r T hro
      refine ⟨e1, w1, tm1, d1, r1, u1, T1, m1, z1, fun ds k cs => ?_⟩
      have s1 := a1 ds k cs
      have s0 := st_cond (P := P) (fn := fn) (ro := ro) (k := k) (ds := ds) (cs := cs) (w := w) (x := a) (y := b) hcv
      cases x with
      | norm => exact .head s0 s1
      | exit id => obtain ⟨k', p1, p2⟩ := s1; exact ⟨k', p1, .head s0 p2⟩
      | ret => obtain ⟨k', p2⟩ := s1; exact ⟨k', .head s0 p2⟩
    · cases he
  · -- block
    rename_i id body
    split at he
    · rename_i id' t1 h1 h2
      obtain ⟨e1, w1, tm1, d1, r1, u1, T1, m1, z1, a1⟩ := hR _ _ _ _ _ _ _ _ h2 B e w tm fn ro r T hro
      split at he
      · rename_i hid
        have hid := Nat.eq_of_beq_eq_true hid
        subst hid
        cases he
        refine ⟨e1, w1, tm1, d1, r1, u1, T1, m1, z1, fun ds k cs => ?_⟩
        obtain ⟨k', p1, p2⟩ := a1 ds (.inBlock id' :: k) cs
        exact .head st_block (Steps.trans p2 (.one (st_exit (by rw [p1]; simp [exitTo]))))
      · rename_i hid
        cases he
        have hid : ¬ id = id' := fun q => by subst q; simp at hid
        refine ⟨e1, w1, tm1, d1, r1, u1, T1, m1, z1, fun ds k cs => ?_⟩
        obtain ⟨k', p1, p2⟩ := a1 ds (.inBlock id :: k) cs
        refine ⟨k', by rw [p1]; simp [exitTo, hid], .head st_block p2⟩
    · rename_i hne
      obtain ⟨e1, w1, tm1, d1, r1, u1, T1, m1, z1, a1⟩ := hR _ _ _ _ _ _ _ _ he B e w tm fn ro r T hro
      refine ⟨e1, w1, tm1, d1, r1, u1, T1, m1, z1, fun ds k cs => ?_⟩
      have s1 := a1 ds (.inBlock id :: k) cs
      cases x with
      | norm => exact .head st_block (Steps.trans s1 (.one st_inBlock))
      | exit id' => exact absurd he (by rw [he] at hne; exact fun _ => hne _ _ _ rfl)
      | ret => obtain ⟨k', p2⟩ := s1; exact ⟨k', .head st_block p2⟩
  · -- loop
    rename_i body
    split at he
    · rename_i t1 h1 h2
      obtain ⟨e1, w1, tm1, d1, r1, u1, T1, m1, z1, a1⟩ := hR _ _ _ _ _ _ _ _ h2 B e w tm fn ro r T hro
      obtain ⟨e2, w2, tm2, d2, r2, u2, T2, m2, z2, a2⟩ := hR _ _ _ _ _ _ _ _ he B e1 w1 tm1 fn ro r1 T1 hro
      refine ⟨e2, w2, tm2, d2 ++ d1, r2, u1.trans u2 r.dom, T2, m1.append u2 m2 u1.size, fun q => by rw [z1 q, z2 q]; rfl, fun ds k cs => ?_⟩
      have s1 : Steps P (lone (fr fn ro tm (.code (.loop body) :: k) ds) cs w) (lone (fr fn ro tm1 (.code body :: .inLoop body :: k) (d1 ++ ds)) cs w1) :=
        .head st_loop (Steps.trans (a1 ds (.inLoop body :: k) cs) (.one st_inLoop))
      have s2 := a2 (d1 ++ ds) k cs
      rw [List.append_assoc]
      cases x with
      | norm => exact Steps.trans s1 (steps_tail s2 st_loop (lone_todo (fun q => by have := congrArg List.length q; simp [fr] at this)))
      | exit id => obtain ⟨k', p1, p2⟩ := s2; exact ⟨k', p1, Steps.trans s1 (steps_tail p2 st_loop (lone_todo (fun q => by simp [fr] at q)))⟩
      | ret => obtain ⟨k', p2⟩ := s2; exact ⟨k', Steps.trans s1 (steps_tail p2 st_loop (lone_todo (fun q => by simp [fr] at q)))⟩
    · rename_i hne
      obtain ⟨e1, w1, tm1, d1, r1, u1, T1, m1, z1, a1⟩ := hR _ _ _ _ _ _ _ _ he B e w tm fn ro r T hro
      refine ⟨e1, w1, tm1, d1, r1, u1, T1, m1, z1, fun ds k cs => ?_⟩
      have s1 := a1 ds (.inLoop body :: k) cs
      cases x with
      | norm => exact absurd he (by rw [he] at hne; exact fun _ => hne _ _ rfl)
      | exit id => obtain ⟨k', p1, p2⟩ := s1; exact ⟨k', by rw [p1]; rfl, .head st_loop p2⟩
      | ret => obtain ⟨k', p2⟩ := s1; exact ⟨k', .head st_loop p2⟩
  · -- scope
    rename_i body
    obtain ⟨e1, w1, tm1, d1, r1, u1, T1, m1, z1, a1⟩ := hR _ _ _ _ _ _ _ _ he B e w tm fn ro r T hro
    refine ⟨e1, w1, tm1, d1, r1, u1, T1, m1, z1, fun ds k cs => ?_⟩
    have s1 := a1 ds (.inScope body :: k) cs
    cases x with
    | norm => exact .head st_scope (Steps.trans s1 (.one st_inScope))
    | exit id => obtain ⟨k', p1, p2⟩ := s1; exact ⟨k', by rw [p1]; rfl, .head st_scope p2⟩
    | ret => obtain ⟨k', p2⟩ := s1; exact ⟨k', .head st_scope p2⟩
  · -- exit
    cases he
    exact ⟨e, w, tm, [], r, Turn.refl _ _ _, T, Marks.nil _ _ _, fun _ => rfl, fun ds k cs => ⟨k, rfl, .refl _ _⟩⟩
  · -- ret
    cases he
    exact ⟨e, w, tm, [], r, Turn.refl _ _ _, T, Marks.nil _ _ _, fun _ => rfl, fun ds k cs => ⟨k, .refl _ _⟩⟩
  · -- region
    rename_i id ops
    split at he
    · rename_i t1 h1 h2
      cases he
      have h3 : opsA P X run sz ops (ops.toList.drop 0) t h = some (t', h') := h2
      obtain ⟨e1, w1, tm1, r1, u1, T1, a1⟩ := opsA_sound hC hY ops.size 0 t h _ _ e w tm (by omega) h3 r T
      refine ⟨e1, w1, tm1, [], r1, u1, T1, Marks.nil _ _ _, fun _ => rfl, fun ds k cs => ?_⟩
      have := a1 fn ro k ds cs
      rw [← List.range_eq_range'] at this
      exact .head st_region (Steps.trans this (.one st_region_end))
    · cases he
  · -- a region that draws
    rename_i id ops
    split at he
    · rename_i t1 h1 h2
      cases he
      obtain ⟨e1, w1, tm1, r1, u1, T1, a1⟩ := hD _ _ _ _ _ _ h2 B e _ tm r.drawn T (w.tape w.drawn (.order fn id))
      refine ⟨e1, w1, tm1, [], r1, (Turn.drawn e h w).trans u1 r.dom, T1, Marks.nil _ _ _, fun _ => rfl, fun ds k cs => ?_⟩
      exact .head st_region_draw (Steps.trans (a1 fn ro k ds cs) (.one st_region_end))
    · cases he
  · -- a range over a function
    rename_i f ps asg bo
    split at he
    rotate_left
    · cases he
    rename_i g first captured hf
    have hro := hro rfl
    subst hro
    obtain ⟨first', captured', hfv, hf1, hf2⟩ := (evA_sound T hf).func_inv
    split at he
    rotate_left
    · cases he
    rename_i v1 h1 hcall
    split at he
    rotate_left
    · cases he
    rename_i st pend sz1 t1 ps1 as1 bo1 hg1
    -- the two new blocks
    have pA := pushed_newObj w (.deferred (some []))
    have rA := r.pushed pA
    have uA := Turn.pushed e h pA
    have pB := pushed_newObj { w with heap := w.heap.push (.deferred (some [])) } (.loop { state := .ready, pending := none, fn := fn, tmps := tm, params := ps, assign := asg, body := bo, defers := w.heap.size })
    have hTm := T.mono (rA.le_put ⟨w.heap.size + 1, 0, 0⟩)
    have hsz : ({ w with heap := w.heap.push (.deferred (some [])) } : World).heap.size = w.heap.size + 1 := by simp
    obtain ⟨rB, uB⟩ := rA.add (s := 0) (o := .loop .ready none sz t ps.toList asg bo) pB (by
      rw [hsz]
      refine ⟨fn, tm, w.heap.size, ?_, hTm⟩
      have := pB.new
      rw [hsz] at this
      rw [this])
    rw [hsz] at rB uB
    have mB : Marks w.heap.size (e.put h.next ⟨w.heap.size + 1, 0, 0⟩) _ [mark w.heap.size] := ⟨[w.heap.size], rfl, by simp, fun q hq => by
      simp only [List.mem_singleton] at hq
      subst hq
      refine ⟨Nat.le_refl _, (pB.old _ (by rw [hsz]; omega)).trans pA.new, fun b L hb => ?_⟩
      by_cases hbn : b = h.next
      · subst hbn; rw [Emb.put_same] at hb; cases hb; simp
      · rw [Emb.put_ne _ _ hbn] at hb
        have := r.rng b L hb
        omega⟩
    have hargs : VRs (e.put h.next ⟨w.heap.size + 1, 0, 0⟩) (first.toList ++ (.func (.yield h.next) #[] #[] :: captured.toList)) (first'.toList ++ (.func (.yield (w.heap.size + 1)) #[] #[] :: captured'.toList)) :=
      (hf1.mono uB.le).append (.cons _ _ _ _ (.yield h.next ⟨w.heap.size + 1, 0, 0⟩ (Emb.put_same _ _ _)) (hf2.mono uB.le))
    obtain ⟨e2, v2, w2, r2, u2, -, c2⟩ := hC _ _ _ _ _ hcall B _ _ _ rB hargs
    have hL2 := u2.le h.next _ (Emb.put_same e h.next ⟨w.heap.size + 1, 0, 0⟩)
    obtain ⟨fn2, tm2, D2, hb2, T2⟩ := r2.obj h.next _ _ hL2 hg1
    obtain ⟨s3, wr3⟩ := wrote_setObj (P := P) (o := .loop { state := .exhausted, pending := pend, fn := fn2, tmps := tm2, params := ps1.toArray, assign := as1, body := bo1, defers := D2 }) hb2 (by intro _ _ _ q; cases q)
    obtain ⟨r3, u3⟩ := r2.put hL2 hg1 rfl wr3 (o' := .loop .exhausted pend sz1 t1 ps1 as1 bo1) ⟨fn2, tm2, D2, wr3.here, T2⟩ (fun _ => rfl)
    have m3 := (mB.turn u2).turn u3
    have uAll : Turn e h w e2 _ _ := ((uA.trans uB r.dom).trans u2 r.dom).trans u3 r.dom
    have hent : (Instr.enterLoop fn tm ps asg bo none).run P w = .ok (w.heap.size + 1, [mark w.heap.size]) { w with heap := (w.heap.push (.deferred (some []))).push (.loop { state := .ready, pending := none, fn := fn, tmps := tm, params := ps, assign := asg, body := bo, defers := w.heap.size }) } := by
      simp only [Instr.enterLoop, Sem.run_bind, run_newObj, Sem.run_pure, Result.andThen_ok, Array.size_push]
      rfl
    have hargs2 : (first'.toList ++ (Value.func (.yield (w.heap.size + 1)) #[] #[] :: captured'.toList)).toArray = first' ++ #[.func (.yield (w.heap.size + 1)) #[] #[]] ++ captured' := by apply Array.ext'; simp
    rw [hargs2] at c2
    have start : ∀ ds k cs, Steps P (lone (fr fn none tm (.code (.rangeFunc f ps asg bo) :: k) ds) cs w) (lone (fr fn none tm (.endRangeFunc (w.heap.size + 1) :: k) (mark w.heap.size :: ds)) cs w2) := by
      intro ds k cs
      rcases c2 with c2 | ⟨c2, c3⟩
      · exact .one (st_rangeFunc_value hent hfv c2)
      · exact .head (st_rangeFunc hent hfv c2) (c3 (fr fn none tm (.inRangeFunc (w.heap.size + 1) :: k) (mark w.heap.size :: ds)) cs)
    have hend : st ≠ .busy → (Instr.endLoop (w.heap.size + 1)).run P w2 = .ok pend { w2 with heap := w2.heap.setIfInBounds (w.heap.size + 1) (.loop { state := .exhausted, pending := pend, fn := fn2, tmps := tm2, params := ps1.toArray, assign := as1, body := bo1, defers := D2 }) } := by
      intro hst
      have hb : (st == LoopState.busy) = false := by cases st <;> first | rfl | exact absurd rfl hst
      simp only [Instr.endLoop, Sem.run_bind, run_getLoop hb2, Result.andThen_ok, hb, Bool.false_eq_true, if_false, s3, Sem.run_pure]
    split at he
    · cases he
    rename_i hst
    have hst : st ≠ .busy := fun q => hst q
    have T3 := T.mono uAll.le
    split at he
    · cases he
      refine ⟨e2, _, tm, [mark w.heap.size], r3, uAll, T3, m3, (fun q => by cases q), fun ds k cs => ?_⟩
      exact Steps.trans (start ds k cs) (.one (st_endRange (hend hst)))
    · rename_i id
      cases he
      refine ⟨e2, _, tm, [mark w.heap.size], r3, uAll, T3, m3, (fun q => by cases q), fun ds k cs => ⟨k, rfl, ?_⟩⟩
      exact Steps.trans (start ds k cs) (.one (st_endRange (hend hst)))
    · cases he
      refine ⟨e2, _, tm, [mark w.heap.size], r3, uAll, T3, m3, (fun q => by cases q), fun ds k cs => ⟨k, ?_⟩⟩
      exact Steps.trans (start ds k cs) (.one (st_endRange (hend hst)))
    · cases he
  · cases he

theorem exec_ok [Glob] {X : Extern} (hX : XOk P X) (hN : ∀ (f : FuncId) (fn : Func), P.funcs[f]? = some fn → fn.body.isSome = true → (fn.name == "runtime.NumGoroutine") = false)
    (hD : ∀ run, RunOk P run → DrawsOk P X run) : ∀ n, RunOk P (exec P X n)
  | 0 => fun _ _ _ _ _ _ _ _ he => by cases he
  | n + 1 => execStep_ok hX hN (hD _ (exec_ok hX hN hD n)) (exec_ok hX hN hD n)
end
end Go.Proofs.Xx
