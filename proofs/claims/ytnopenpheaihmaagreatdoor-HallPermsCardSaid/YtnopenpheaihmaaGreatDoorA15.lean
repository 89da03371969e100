/-
  Operations with their calls, calls and rounds: what the checked run does, the machine does.
-/
import Derived.Test.YtnopenpheaihmaaGreatDoorA14
namespace Go.Proofs.Xx
open Go
set_option linter.unusedSimpArgs false
set_option linter.unusedVariables false

section
variable {P : Program}

def CallOk [Glob] (P : Program) (callf : FuncId → List Value → AH → Option (Value × AH)) : Prop := ∀ f args h v h', callf f args h = some (v, h') → ∀ B e w args', Rel B e h w → VRs e args args' →
  ∃ e' v' w', Rel B e' h' w' ∧ Turn e h w e' h' w' ∧ VR e' v v' ∧
    ((callFunc f args'.toArray).run P w = .ok (.value v') w' ∨
      ((callFunc f args'.toArray).run P w = .ok (.enter f args'.toArray) w ∧ ∀ c cs, Steps P (lone (Frame.enter P f args'.toArray .normal) (c :: cs) w) (lone (c.finish v') cs w')))

def XOk [Glob] (P : Program) (X : Extern) : Prop := CallOk P X

def YieldOk [Glob] (P : Program) (yieldf : Nat → List Value → AH → Option (Value × AH)) : Prop := ∀ l args h v h', yieldf l args h = some (v, h') → ∀ B e w args' L, Rel B e h w → e l = some L → VRs e args args' →
  ∃ e' v' w', Rel B e' h' w' ∧ Turn e h w e' h' w' ∧ VR e' v v' ∧
    ∃ g t asg bo, (Instr.yield L.blk args'.toArray).run P w = .ok (.round L.blk g t asg bo) w ∧ ∀ c cs, Steps P (lone (fr g (some L.blk) t [.code asg, .beginRound, .code bo] []) (c :: cs) w) (lone (c.finish v') cs w')

/-- The blocks for deferred calls that the frame's ranges over functions have made. -/
def mark (r : Nat) : Deferred := { target := .collected r, args := #[] }
structure Marks (N : Nat) (e : Emb) (w : World) (ds : List Deferred) : Prop where
  ex : ∃ rs : List Nat, ds = rs.map mark ∧ rs.Nodup ∧ ∀ r ∈ rs, N ≤ r ∧ w.heap[r]? = some (.deferred (some [])) ∧ ∀ b L, e b = some L → L.blk ≠ r
theorem Marks.nil (N : Nat) (e : Emb) (w : World) : Marks N e w [] := ⟨[], rfl, .nil, fun _ h => by cases h⟩
theorem Marks.turn {N : Nat} {e e' : Emb} {h h' : AH} {w w' : World} {ds : List Deferred} (m : Marks N e w ds) (t : Turn e h w e' h' w') : Marks N e' w' ds := by
  obtain ⟨rs, h1, h2, h3⟩ := m.ex
  refine ⟨rs, h1, h2, fun r hr => ?_⟩
  obtain ⟨a1, a2, a3⟩ := h3 r hr
  have hlt : r < w.heap.size := (Array.getElem?_eq_some_iff.1 a2).1
  refine ⟨a1, (t.keep r hlt fun b L q1 q2 => absurd q2 (a3 b L q1)).trans a2, fun b L q1 q2 => ?_⟩
  cases h0 : e b with
  | some M => have := t.le b M h0; rw [q1] at this; cases this; exact a3 b L h0 q2
  | none =>
    rcases t.fresh b L q1 h0 with q | ⟨c, M, p1, p2, -⟩
    · omega
    · exact a3 c M p1 (p2.trans q2)

def After [Glob] (P : Program) (fn : FuncId) (ro : Option Nat) (tm tm' : Array Value) (ds ds' : List Deferred) (c : Code) (k : List Item) (cs : List Frame) (w w' : World) : AX → Prop
  | .norm => Steps P (lone (fr fn ro tm (.code c :: k) ds) cs w) (lone (fr fn ro tm' k ds') cs w')
  | .exit id => ∃ k', exitTo id k' = exitTo id k ∧ Steps P (lone (fr fn ro tm (.code c :: k) ds) cs w) (lone (fr fn ro tm' (.code (.exit id) :: k') ds') cs w')
  | .ret => ∃ k', Steps P (lone (fr fn ro tm (.code c :: k) ds) cs w) (lone (fr fn ro tm' (.code .ret :: k') ds') cs w')

def RunOk [Glob] (P : Program) (run : Runner) : Prop := ∀ inR sz c t h x t' h', run inR sz c t h = some (x, t', h') → ∀ B e w tm fn ro, Rel B e h w → TR e sz t tm → (inR = false → ro = none) →
  ∃ e' w' tm' dn, Rel B e' h' w' ∧ Turn e h w e' h' w' ∧ TR e' sz t' tm' ∧ Marks w.heap.size e' w' dn ∧ (inR = true → dn = []) ∧ ∀ ds k cs, After P fn ro tm tm' ds (dn ++ ds) c k cs w w' x

theorem Marks.append {N : Nat} {e e' : Emb} {h h' : AH} {w w' : World} {ds dn : List Deferred} (m : Marks N e w ds) (t : Turn e h w e' h' w') (m' : Marks w.heap.size e' w' dn) (hN : N ≤ w.heap.size) : Marks N e' w' (dn ++ ds) := by
  obtain ⟨rs, a1, a2, a3⟩ := (m.turn t).ex
  obtain ⟨rn, b1, b2, b3⟩ := m'.ex
  obtain ⟨rs', c1, c2, c3⟩ := m.ex
  have hrs : rs' = rs := by
    have : rs'.map mark = rs.map mark := c1.symm.trans a1
    exact (List.map_inj_right (f := mark) (fun x y q => by simpa [mark] using q)).1 this
  subst hrs
  refine ⟨rn ++ rs', by rw [List.map_append, b1, a1], ?_, fun r hr => ?_⟩
  · rw [List.nodup_append]
    refine ⟨b2, c2, fun x hx y hy q => ?_⟩
    subst q
    have := (b3 x hx).1
    have := (Array.getElem?_eq_some_iff.1 (c3 x hy).2.1).1
    omega
  · rcases List.mem_append.1 hr with hr | hr
    · obtain ⟨p1, p2⟩ := b3 r hr
      exact ⟨by omega, p2⟩
    · exact a3 r hr

theorem opA_sound [Glob] {X : Extern} {run : Runner} (hC : CallOk P (callA P X run)) (hY : YieldOk P (yieldA run)) {B : Bs} {e : Emb} {h h' : AH} {w : World} {sz : Nat} {t : Tr Value} {tm : Array Value} {v : Value}
    {ops : Array Oper} {i : Nat} {o : Oper} (ho : ops[i]? = some o) (hop : opA P X run t h o.op = some (v, h')) (r : Rel B e h w) (T : TR e sz t tm) (hw : Region.wanted o (yielded ops tm) = true) :
    ∃ e' v' w', Rel B e' h' w' ∧ Turn e h w e' h' w' ∧ VR e' v v' ∧ ∀ (fn : FuncId) (ro : Option Nat) (rest : List Nat) (k : List Item) (ds : List Deferred) (cs : List Frame),
      Steps P (lone (fr fn ro tm (.inRegion ops (i :: rest) :: k) ds) cs w) (lone (fr fn ro (putC tm o.dst v') (.inRegion ops rest :: k) ds) cs w') := by
  unfold opA at hop
  split at hop
  · rename_i v0 h0 hn
    cases hop
    have hd : isDefer o.op = false := by cases hq : o.op <;> first | rfl | (rw [hq] at hn; cases hn)
    obtain ⟨e', v', w', q1, q2, q3, q4⟩ := aOp_sound r T hn
    exact ⟨e', v', w', q2, q3, q4, fun fn ro rest k ds cs => .one (st_op_value ho hw hd q1)⟩
  · rename_i h0 hn
    cases hop
    have hd : isDefer o.op = false := by cases hq : o.op <;> first | rfl | (rw [hq] at hn; cases hn)
    obtain ⟨w', q1, q2, q3⟩ := aOp_sound r T hn
    exact ⟨e, undef, w', q2, q3, .tuple [] [] .nil, fun fn ro rest k ds cs => .one (st_op_unit ho hw hd q1)⟩
  · rename_i g args hn
    have hd : isDefer o.op = false := by cases hq : o.op <;> first | rfl | (rw [hq] at hn; cases hn)
    obtain ⟨args', q1, q2⟩ := aOp_sound r T hn
    obtain ⟨e', v', w', p1, p2, p3, p4⟩ := hC _ _ _ _ _ hop B e w args' r q2
    refine ⟨e', v', w', p1, p2, p3, fun fn ro rest k ds cs => ?_⟩
    rcases p4 with p4 | ⟨p4, p5⟩
    · exact .one (st_op_value ho hw hd (q1.trans p4))
    · refine .head (st_op_enter ho hw hd (q1.trans p4)) ?_
      have := p5 (fr fn ro tm (.inRegion ops (i :: rest) :: k) ds) cs
      rw [fr_finish, ho] at this
      exact this
  · rename_i l args hn
    have hd : isDefer o.op = false := by cases hq : o.op <;> first | rfl | (rw [hq] at hn; cases hn)
    obtain ⟨L, args', hL, q1, q2⟩ := aOp_sound r T hn
    obtain ⟨e', v', w', p1, p2, p3, g, tt, asg, bo, p4, p5⟩ := hY _ _ _ _ _ hop B e w args' L r hL q2
    refine ⟨e', v', w', p1, p2, p3, fun fn ro rest k ds cs => ?_⟩
    refine .head (st_op_round ho hw hd (q1.trans p4)) ?_
    have := p5 (fr fn ro tm (.inRegion ops (i :: rest) :: k) ds) cs
    rw [fr_finish, ho] at this
    exact this
  · cases hop

theorem putD_sound {e : Emb} {sz : Nat} {t t' : Tr Value} {tm : Array Value} {d : Option Tmp} {v v' : Value} (T : TR e sz t tm) (h : putD sz t d v = some t') (hv : VR e v v') : TR e sz t' (putC tm d v') := by
  unfold putD at h
  split at h
  · cases h; exact T
  · split at h
    · rename_i k hk
      cases h
      rw [Nat.blt_eq] at hk
      exact T.set hk hv
    · cases h

theorem guardA_sound {e : Emb} {sz : Nat} {t : Tr Value} {tm : Array Value} {ops : Array Oper} {o : Oper} {b : Bool} (T : TR e sz t tm) (h : guardA ops t o.guard = some b) : Region.wanted o (yielded ops tm) = b := by
  unfold guardA at h
  unfold Region.wanted
  split at h
  · rename_i hg; cases h; rw [hg]
  · rename_i j want hg
    rw [hg]
    split at h
    · rename_i o' ho'
      split at h
      · rename_i d hd
        split at h
        · rename_i c hc
          cases h
          obtain ⟨v', q1, q2⟩ := T.2 d _ hc
          cases q2
          simp only [yielded, ho', Option.bind_some, hd, q1]
          cases c <;> cases want <;> rfl
        · rename_i cs hc
          cases h
          obtain ⟨v', q1, q2⟩ := T.2 d _ hc
          obtain ⟨cs', rfl, -⟩ := q2.tuple_inv
          simp only [yielded, ho', Option.bind_some, hd, q1]
          rfl
        · cases h
      · cases h
    · cases h

theorem opsA_sound [Glob] {X : Extern} {run : Runner} (hC : CallOk P (callA P X run)) (hY : YieldOk P (yieldA run)) {B : Bs} {sz : Nat} {ops : Array Oper} :
    ∀ (n i : Nat) (t : Tr Value) (h : AH) (t' : Tr Value) (h' : AH) (e : Emb) (w : World) (tm : Array Value), i + n = ops.size → opsA P X run sz ops (ops.toList.drop i) t h = some (t', h') → Rel B e h w → TR e sz t tm →
    ∃ e' w' tm', Rel B e' h' w' ∧ Turn e h w e' h' w' ∧ TR e' sz t' tm' ∧ ∀ (fn : FuncId) (ro : Option Nat) (k : List Item) (ds : List Deferred) (cs : List Frame),
      Steps P (lone (fr fn ro tm (.inRegion ops (List.range' i n) :: k) ds) cs w) (lone (fr fn ro tm' (.inRegion ops [] :: k) ds) cs w') := by
  intro n
  induction n with
  | zero =>
    intro i t h t' h' e w tm hi ho r T
    have : ops.toList.drop i = [] := List.drop_eq_nil_of_le (by rw [Array.length_toList]; omega)
    rw [this] at ho
    cases ho
    exact ⟨e, w, tm, r, Turn.refl _ _ _, T, fun _ _ _ _ _ => .refl _ _⟩
  | succ n ih =>
    intro i t h t' h' e w tm hi ho r T
    have hlt : i < ops.size := by omega
    have hl2 : i < ops.toList.length := by rw [Array.length_toList]; exact hlt
    have hoi : ops[i]? = some ops[i] := Array.getElem?_eq_getElem hlt
    rw [List.drop_eq_getElem_cons hl2] at ho
    simp only [opsA, Array.getElem_toList] at ho
    rw [List.range'_succ]
    split at ho
    · rename_i hg
      have hw := guardA_sound T hg
      split at ho
      · rename_i v h1 hop
        split at ho
        · rename_i t1 hp
          obtain ⟨e1, v', w1, q1, q2, q3, q4⟩ := opA_sound hC hY hoi hop r T hw
          have T1 := putD_sound (T.mono q2.le) hp q3
          obtain ⟨e2, w2, tm2, p1, p2, p3, p4⟩ := ih (i + 1) _ _ _ _ e1 w1 _ (by omega) ho q1 T1
          exact ⟨e2, w2, tm2, p1, q2.trans p2 r.dom, p3, fun fn ro k ds cs => (q4 fn ro _ k ds cs).trans (p4 fn ro k ds cs)⟩
        · cases ho
      · cases ho
    · rename_i hg
      have hw := guardA_sound T hg
      split at ho
      · rename_i t1 hp
        have T1 := putD_sound T hp (VR.tuple [] [] .nil)
        obtain ⟨e2, w2, tm2, p1, p2, p3, p4⟩ := ih (i + 1) _ _ _ _ e w _ (by omega) ho r T1
        refine ⟨e2, w2, tm2, p1, p2, p3, fun fn ro k ds cs => .head (st_op_skip (by rw [hoi]; simp [hw])) ?_⟩
        rw [hoi]
        exact p4 fn ro k ds cs
      · cases ho
    · cases ho

theorem setParams_sound {e : Emb} {sz : Nat} : ∀ {ps : List Tmp} {vs vs' : List Value} {t t' : Tr Value} {tm : Array Value}, setParams ps vs t = some t' → ps.all (fun p => Nat.blt p sz) = true → TR e sz t tm → VRs e vs vs' →
    vs'.length = ps.length ∧ TR e sz t' ((ps.zip vs').foldl (fun tm (q : Tmp × Value) => tm.setIfInBounds q.1 q.2) tm)
  | [], [], _, t, t', tm, h, _, T, .nil => by cases h; exact ⟨rfl, T⟩
  | [], _ :: _, _, _, _, _, h, _, _, _ => by cases h
  | _ :: _, [], _, _, _, _, h, _, _, _ => by cases h
  | p :: ps, v :: vs, _, t, t', tm, h, ha, T, .cons _ v' _ r' hv hr => by
    simp only [List.all_cons, Bool.and_eq_true, Nat.blt_eq] at ha
    obtain ⟨h1, h2⟩ := setParams_sound (ps := ps) (vs := vs) (vs' := r') h ha.2 (T.set ha.1 hv) hr
    exact ⟨by simp [h1], by simpa using h2⟩

theorem wrote_setObj {w : World} {k : Nat} {o ob : Obj} (h : w.heap[k]? = some ob) (hc : ∀ c e f, ob ≠ .cells c e f) :
    (setObj k o).run P w = .ok () { w with heap := w.heap.setIfInBounds k o } ∧ Wrote w { w with heap := w.heap.setIfInBounds k o } k o := by
  have hlt : k < w.heap.size := (Array.getElem?_eq_some_iff.1 h).1
  refine ⟨?_, ?_, fun j hj => ?_, by simp, rfl, rfl, rfl⟩
  · simp only [setObj, Sem.run, h]
  · simp [hlt]
  · simp only [Array.getElem?_setIfInBounds_ne (Ne.symm hj)]
theorem run_getLoop {w : World} {k : Nat} {r : Loop} (h : w.heap[k]? = some (.loop r)) : (Instr.getLoop k).run P w = .ok r w := by
  simp only [Instr.getLoop, Sem.run_bind, getObj, Sem.run, h, Result.andThen_ok]
  rfl

theorem yieldA_sound [Glob] {run : Runner} (hR : RunOk P run) : YieldOk P (yieldA run) := by
  intro l args h v h' hy B e w args' L r hL hargs
  unfold yieldA at hy
  split at hy
  rotate_left
  · cases hy
  rename_i sz tmps params asg bo hg
  split at hy
  rotate_left
  · cases hy
  rename_i t0 hall hset
  split at hy
  rotate_left
  · cases hy
  rename_i t1 h1 hrun1
  split at hy
  rotate_left
  · cases hy
  rename_i sz' tmps' params' asg' bo' hg1
  split at hy
  rotate_left
  · cases hy
  rename_i x t2 h2 hrun2
  split at hy
  rotate_left
  · cases hy
  rename_i sz2 tmps2 params2 as2 bo2 hg2
  obtain ⟨fn, tm, D, hb, T⟩ := r.obj l L _ hL hg
  obtain ⟨hlen, T0⟩ := setParams_sound hset hall T hargs
  obtain ⟨e1, w1, tm1, ds1, r1, u1, T1, m1, hd1, a1⟩ := hR _ _ _ _ _ _ _ _ hrun1 B e w _ fn (some L.blk) r T0 (by simp)
  have hL1 := u1.le l L hL
  obtain ⟨fn1, tmx, D1, hb1, Tx⟩ := r1.obj l L _ hL1 hg1
  obtain ⟨s1, wr1⟩ := wrote_setObj (P := P) (o := .loop { state := .busy, pending := none, fn := fn1, tmps := tmx, params := params'.toArray, assign := asg', body := bo', defers := D1 }) hb1 (by intro _ _ _ q; cases q)
  obtain ⟨r2, u2⟩ := r1.put hL1 hg1 rfl wr1 (o' := .loop .busy none sz' tmps' params' asg' bo') ⟨fn1, tmx, D1, wr1.here, Tx⟩ (fun _ => rfl)
  obtain ⟨e3, w3, tm3, ds3, r3, u3, T3, m3, hd3, a3⟩ := hR _ _ _ _ _ _ _ _ hrun2 B e1 _ tm1 fn (some L.blk) r2 T1 (by simp)
  have hL3 := u3.le l L hL1
  obtain ⟨fn3, tmy, D3, hb3, Ty⟩ := r3.obj l L _ hL3 hg2
  have hbegin : (Instr.beginRound L.blk).run P w1 = .ok () { w1 with heap := w1.heap.setIfInBounds L.blk (.loop { state := .busy, pending := none, fn := fn1, tmps := tmx, params := params'.toArray, assign := asg', body := bo', defers := D1 }) } := by
    simp only [Instr.beginRound, Sem.run_bind, run_getLoop hb1, Result.andThen_ok, s1]
    rfl
  have hyield : (Instr.yield L.blk args'.toArray).run P w = .ok (.round L.blk fn ((params.zip args').foldl (fun tm (q : Tmp × Value) => tm.setIfInBounds q.1 q.2) tm) asg bo) w := by
    simp only [Instr.yield, Sem.run_bind, run_getLoop hb, Result.andThen_ok]
    rw [if_neg (by simp [hlen])]
    simp only [Sem.run_pure]
    congr 2
    rw [List.zip_toArray, List.foldl_toArray]
  -- the state behind the round, by how its body ended
  have fin : ∀ (j : Option Code) (st : LoopState), st = (if j.isNone then .ready else .done) → ∀ hh, hh = h2.put l (.loop st j sz2 tmps2 params2 as2 bo2) →
      ∃ w4, (Instr.endRound L.blk j).run P w3 = .ok (.bool j.isNone) w4 ∧ Rel B e3 hh w4 ∧ Turn e h w e3 hh w4 := by
    intro j st hst hh hhh
    subst hst; subst hhh
    obtain ⟨s4, wr4⟩ := wrote_setObj (P := P) (o := .loop { state := if j.isNone then .ready else .done, pending := j, fn := fn3, tmps := tmy, params := params2.toArray, assign := as2, body := bo2, defers := D3 }) hb3 (by intro _ _ _ q; cases q)
    obtain ⟨r4, u4⟩ := r3.put hL3 hg2 rfl wr4 (o' := .loop (if j.isNone then .ready else .done) j sz2 tmps2 params2 as2 bo2) ⟨fn3, tmy, D3, wr4.here, Ty⟩ (fun _ => rfl)
    refine ⟨_, ?_, r4, ((u1.trans u2 r.dom).trans u3 r.dom).trans u4 r.dom⟩
    simp only [Instr.endRound, Sem.run_bind, run_getLoop hb3, Result.andThen_ok, s4]
    rfl
  have e1 := hd1 rfl
  have e3 := hd3 rfl
  subst e1; subst e3
  have hsteps : ∀ c cs, Steps P (lone (fr fn (some L.blk) ((params.zip args').foldl (fun tm (q : Tmp × Value) => tm.setIfInBounds q.1 q.2) tm) [.code asg, .beginRound, .code bo] []) (c :: cs) w)
      (lone (fr fn (some L.blk) tm1 [.code bo] []) (c :: cs) { w1 with heap := w1.heap.setIfInBounds L.blk (.loop { state := .busy, pending := none, fn := fn1, tmps := tmx, params := params'.toArray, assign := asg', body := bo', defers := D1 }) }) := by
    intro c cs
    exact Steps.trans (a1 [] [.beginRound, .code bo] (c :: cs)) (.one (st_beginRound hbegin))
  cases x with
  | norm =>
    cases hy
    obtain ⟨w4, q1, q2, q3⟩ := fin none .ready rfl _ rfl
    exact ⟨_, .bool true, w4, q2, q3, .bool true, fn, _, asg, bo, hyield, fun c cs => (hsteps c cs).trans (Steps.trans (a3 [] [] (c :: cs)) (.one (st_leave_nil q1)))⟩
  | exit id =>
    cases hy
    obtain ⟨w4, q1, q2, q3⟩ := fin (some (.exit id)) .done rfl _ rfl
    refine ⟨_, .bool false, w4, q2, q3, .bool false, fn, _, asg, bo, hyield, fun c cs => ?_⟩
    obtain ⟨k', p1, p2⟩ := a3 [] [] (c :: cs)
    exact (hsteps c cs).trans (Steps.trans p2 (.one (st_leave_exit p1 q1)))
  | ret =>
    cases hy
    obtain ⟨w4, q1, q2, q3⟩ := fin (some .ret) .done rfl _ rfl
    refine ⟨_, .bool false, w4, q2, q3, .bool false, fn, _, asg, bo, hyield, fun c cs => ?_⟩
    obtain ⟨k', p2⟩ := a3 [] [] (c :: cs)
    exact (hsteps c cs).trans (Steps.trans p2 (.one (st_leave_ret q1)))

/-! ### calls -/
theorem enterArgs_sound {e : Emb} {sz : Nat} : ∀ {vs vs' : List Value} {i : Nat} {t : Tr Value} {tm : Array Value}, TR e sz t tm → VRs e vs vs' → i + vs.length ≤ sz →
    (∀ j, j < vs'.length → tm[i + j]? = vs'[j]?) → TR e sz (enterArgs i vs t) tm
  | [], _, i, t, tm, T, .nil, _, _ => T
  | v :: r, _, i, t, tm, T, .cons _ v' _ r' hv hr, hi, hq => by
    simp only [List.length_cons] at hi
    have T1 : TR e sz (t.set i v) tm := by
      refine ⟨T.1, fun k u hk => ?_⟩
      rw [Tr.get_set] at hk
      by_cases hki : k = i
      · rw [if_pos hki] at hk; cases hk
        subst hki
        exact ⟨v', by have := hq 0 (by simp); simpa using this, hv⟩
      · rw [if_neg hki] at hk; exact T.2 k u hk
    show TR e sz (enterArgs (i + 1) r (t.set i v)) tm
    refine enterArgs_sound T1 hr (by omega) fun j hj => ?_
    have := hq (j + 1) (by simp only [List.length_cons]; omega)
    rw [show i + 1 + j = i + (j + 1) by omega]
    simpa using this

def readR (tm : Array Value) : ResultVar → Sem Value
  | .tmp t => pure (tm.getD t undef)
  | .cell a t => do loadVar t (← asAddr (tm.getD a undef))
theorem results_eq (f : Func) (tm : Array Value) : results f tm = (do let vs ← f.results.mapM (readR tm); pure (if h : vs.size = 1 then vs[0] else .tuple vs)) := rfl

theorem resultA_sound [Glob] {B : Bs} {e : Emb} {h : AH} {w : World} (r : Rel B e h w) {sz : Nat} {t : Tr Value} {tm : Array Value} (T : TR e sz t tm) {rv : ResultVar} {v : Value} (hv : resultA P t h rv = some v) :
    ∃ v', (readR tm rv).run P w = .ok v' w ∧ VR e v v' := by
  cases rv with
  | tmp k =>
    obtain ⟨v', q1, q2⟩ := T.2 k v hv
    exact ⟨v', by simp [readR, q1], q2⟩
  | cell a ty =>
    simp only [resultA] at hv
    split at hv
    · rename_i p hp
      obtain ⟨p', q1, q2⟩ := T.2 a p hp
      obtain ⟨v', s1, s2⟩ := aLoad_sound (P := P) r hv q2
      refine ⟨v', ?_, s2⟩
      unfold aLoad at hv
      split at hv
      · rename_i b o c ee s ro hc
        obtain ⟨rfl, -⟩ := cellsAt_eq hc
        obtain ⟨L, hL, rfl⟩ := q2.pointer_inv
        simp only [Instr.loadAt, Instr.sureAddr, Sem.run_bind, Sem.run_pure, Result.andThen_ok] at s1
        simp only [readR, Array.getD_eq_getD_getElem?, q1, Option.getD_some, asAddr, Sem.run_bind, Sem.run_pure, Result.andThen_ok, s1]
      · cases hv
    · cases hv
theorem resultsA_sound [Glob] {B : Bs} {e : Emb} {h : AH} {w : World} (r : Rel B e h w) {sz : Nat} {t : Tr Value} {tm : Array Value} (T : TR e sz t tm) : ∀ {rs : List ResultVar} {vs : List Value}, resultsA P t h rs = some vs →
    ∃ vs', (rs.mapM (readR tm)).run P w = .ok vs' w ∧ VRs e vs vs'
  | [], vs, hv => by cases hv; exact ⟨[], by simp, .nil⟩
  | rv :: rs, vs, hv => by
    simp only [resultsA] at hv
    split at hv
    · rename_i v us h1 h2
      cases hv
      obtain ⟨v', q1, q2⟩ := resultA_sound r T h1
      obtain ⟨us', p1, p2⟩ := resultsA_sound r T h2
      refine ⟨v' :: us', ?_, .cons _ _ _ _ q2 p2⟩
      rw [List.mapM_cons]
      simp only [Sem.run_bind, q1, p1, Sem.run_pure, Result.andThen_ok]
    · cases hv

theorem oneOrTuple_sound {e : Emb} {vs vs' : List Value} (h : VRs e vs vs') : VR e (oneOrTuple vs) (if h : vs'.toArray.size = 1 then vs'.toArray[0] else .tuple vs'.toArray) := by
  cases h with
  | nil => exact .tuple [] [] .nil
  | cons v v' r r' hv hr =>
    cases hr with
    | nil => exact hv
    | cons u u' s s' hu hs => exact .tuple _ _ (.cons _ _ _ _ hv (.cons _ _ _ _ hu hs))

/-- The blocks for deferred calls are taken, one by one. -/
structure Beside (N : Nat) (e : Emb) (w w' : World) : Prop where
  size : w'.heap.size = w.heap.size
  low : ∀ k, k < N → w'.heap[k]? = w.heap[k]?
  img : ∀ b L, e b = some L → w'.heap[L.blk]? = w.heap[L.blk]?
  os : w'.os = w.os
  tape : w'.tape = w.tape
  output : w'.output = w.output
theorem Rel.beside [Glob] {B : Bs} {N : Nat} {e : Emb} {h : AH} {w w' : World} (r : Rel B e h w) (b : Beside N e w w') (hN : B.lo ≤ N) : Rel B e h w' :=
  ⟨r.dom, r.wf, fun k L q => by rw [b.size]; exact r.rng k L q, fun k L o q1 q2 => (r.obj k L o q1 q2).world (b.img k L q1), r.inj, r.own, by rw [b.size]; exact r.base, fun k hk => (b.low k (by omega)).trans (r.keep k hk), r.glob⟩
theorem Turn.beside {e e' : Emb} {h h' : AH} {w w' w2 : World} (t : Turn e h w e' h' w') (b : Beside w.heap.size e' w' w2) : Turn e h w e' h' w2 :=
  ⟨t.le, t.next, t.low, t.old, t.fresh, by rw [b.size]; exact t.size, fun k hk hq => (b.low k hk).trans (t.keep k hk hq), t.same, b.os.trans t.os, b.tape.trans t.tape, b.output.trans t.output⟩

theorem unwind_marks {N : Nat} {e : Emb} {fn : FuncId} {tm : Array Value} : ∀ (rs : List Nat) (w : World), rs.Nodup → (∀ r ∈ rs, N ≤ r ∧ w.heap[r]? = some (.deferred (some [])) ∧ ∀ b L, e b = some L → L.blk ≠ r) →
    ∃ w', Beside N e w w' ∧ ∀ k cs, Steps P (lone (gone fn tm k (rs.map mark)) cs w) (lone (gone fn tm k []) cs w')
  | [], w, _, _ => ⟨w, ⟨rfl, fun _ _ => rfl, fun _ _ _ => rfl, rfl, rfl, rfl⟩, fun _ _ => .refl _ _⟩
  | r :: rs, w, hn, h => by
    obtain ⟨a1, a2, a3⟩ := h r (by simp)
    have hlt : r < w.heap.size := (Array.getElem?_eq_some_iff.1 a2).1
    obtain ⟨s1, wr⟩ := wrote_setObj (P := P) (o := .deferred none) a2 (by intro _ _ _ q; cases q)
    have ht : (Instr.takeDeferred r).run P w = .ok [] { w with heap := w.heap.setIfInBounds r (.deferred none) } := by
      simp only [Instr.takeDeferred, Sem.run_bind, getObj, Sem.run, a2, Result.andThen_ok, s1, Sem.run_pure]
    rw [List.nodup_cons] at hn
    obtain ⟨w', b, st⟩ := unwind_marks (N := N) (e := e) (fn := fn) (tm := tm) rs { w with heap := w.heap.setIfInBounds r (.deferred none) } hn.2 (fun q hq => by
      obtain ⟨c1, c2, c3⟩ := h q (by simp [hq])
      exact ⟨c1, (wr.other q fun p => hn.1 (p ▸ hq)).trans c2, c3⟩)
    refine ⟨w', ⟨b.size.trans wr.size, fun j hj => (b.low j hj).trans (wr.other j (by omega)), fun p L q => (b.img p L q).trans (wr.other _ (a3 p L q)), b.os, b.tape, b.output⟩, fun k cs => ?_⟩
    exact .head (st_mark ht) (st k cs)

theorem callA_sound [Glob] {X : Extern} {run : Runner} (hX : XOk P X) (hN : ∀ (f : FuncId) (fn : Func), P.funcs[f]? = some fn → fn.body.isSome = true → (fn.name == "runtime.NumGoroutine") = false) (hR : RunOk P run) : CallOk P (callA P X run) := by
  intro f args h v h' hc B e w args' r hargs
  unfold callA at hc
  split at hc
  · rename_i hx
    cases hc
    exact hX _ _ _ _ _ hx B e w args' r hargs
  split at hc
  rotate_left
  · cases hc
  rename_i fn hfn
  split at hc
  rotate_left
  · cases hc
  rename_i body hb
  have hcall : (callFunc f args'.toArray).run P w = .ok (.enter f args'.toArray) w := by
    simp only [callFunc, Sem.run_bind, run_program, Result.andThen_ok, hfn, hN f fn hfn (by simp [hb]), Bool.false_eq_true, if_false, hb, Option.isNone_some, Sem.run_pure]
  have hlen := hargs.length
  have hent : Frame.enter P f args'.toArray .normal = fr f none (args'.toArray ++ Array.replicate (fn.ntmps - args'.length) undef) [.code body] [] := by
    simp [Frame.enter, fr, hfn, hb]
  have T : TR e (args.length + (fn.ntmps - args.length)) (enterArgs 0 args .e) (args'.toArray ++ Array.replicate (fn.ntmps - args'.length) undef) := by
    refine enterArgs_sound ⟨by simp [hlen], fun k u hk => by rw [Tr.get_e] at hk; cases hk⟩ hargs (by omega) fun j hj => ?_
    rw [Nat.zero_add, Array.getElem?_append_left (by simpa using hj)]
    simp
  split at hc
  · cases hc
  rotate_left
  · cases hc
  rename_i x t h1 hx hrun
  split at hc
  rotate_left
  · cases hc
  rename_i vs hvs
  cases hc
  obtain ⟨e1, w1, tm1, dn, r1, u1, T1, m1, -, a1⟩ := hR _ _ _ _ _ _ _ _ hrun B e w _ f none r T (fun _ => rfl)
  obtain ⟨rs, d1, d2, d3⟩ := m1.ex
  have main : (∀ cs, ∃ todo, Steps P (lone (fr f none (args'.toArray ++ Array.replicate (fn.ntmps - args'.length) undef) [.code body] []) cs w) (lone (gone f tm1 todo dn) cs w1)) →
      ∃ e' v' w', Rel B e' h' w' ∧ Turn e h w e' h' w' ∧ VR e' (oneOrTuple vs) v' ∧ ∀ c cs, Steps P (lone (Frame.enter P f args'.toArray .normal) (c :: cs) w) (lone (c.finish v') cs w') := by
    intro hst
    obtain ⟨w2, b2, st2⟩ := unwind_marks (P := P) (N := w.heap.size) (e := e1) (fn := f) (tm := tm1) rs w1 d2 d3
    have r2 := r1.beside b2 r.base
    obtain ⟨vs', p1, p2⟩ := resultsA_sound (P := P) r2 T1 hvs
    refine ⟨e1, _, w2, r2, u1.beside b2, oneOrTuple_sound p2, fun c cs => ?_⟩
    rw [hent]
    obtain ⟨todo, hst⟩ := hst (c :: cs)
    refine hst.trans ?_
    rw [d1]
    refine (st2 todo (c :: cs)).trans (.one (st_return hfn ?_))
    rw [results_eq, Sem.run_bind, Array.mapM_eq_mapM_toList, Sem.run_map, p1]
    rfl
  have fin : ∃ e' v' w', Rel B e' h' w' ∧ Turn e h w e' h' w' ∧ VR e' (oneOrTuple vs) v' ∧ ∀ c cs, Steps P (lone (Frame.enter P f args'.toArray .normal) (c :: cs) w) (lone (c.finish v') cs w') := by
    cases x with
    | norm =>
      refine main fun cs => ⟨[], ?_⟩
      have := a1 [] [] cs
      rw [List.append_nil] at this
      exact Steps.trans this (.one st_end)
    | exit id => exact (hx id rfl).elim
    | ret =>
      refine main fun cs => ?_
      obtain ⟨k', hk⟩ := a1 [] [] cs
      rw [List.append_nil] at hk
      exact ⟨_, Steps.trans hk (.one st_ret)⟩
  obtain ⟨e', v', w', q1, q2, q3, q4⟩ := fin
  exact ⟨e', v', w', q1, q2, q3, .inr ⟨hcall, q4⟩⟩
end
end Go.Proofs.Xx
