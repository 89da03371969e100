/-
  Every operation at once: what the checked run does, the machine does.
-/
import Derived.Test.YtnopenpheaihmaaGreatDoorA11
namespace Go.Proofs.Xx
open Go
set_option linter.unusedSimpArgs false
set_option linter.unusedVariables false

section
variable {P : Program}

/-- How the run of one operation answers. -/
def NextOk [Glob] (P : Program) (B : Bs) (f : Emb) (h : AH) (w : World) (s : Sem Next) : ANext → Prop
  | .val v h' => ∃ f' v' w', s.run P w = .ok (.value v') w' ∧ Rel B f' h' w' ∧ Turn f h w f' h' w' ∧ VR f' v v'
  | .skip h' => ∃ w', s.run P w = .ok .skip w' ∧ Rel B f h' w' ∧ Turn f h w f h' w'
  | .call g args => ∃ args' : List Value, s.run P w = (callFunc g args'.toArray).run P w ∧ VRs f args args'
  | .yield l args => ∃ (L : Loc) (args' : List Value), f l = some L ∧ s.run P w = (Instr.yield L.blk args'.toArray).run P w ∧ VRs f args args'

theorem nextOk_pure [Glob] {B : Bs} {f : Emb} {h : AH} {w : World} {s : Sem Value} {o : Option Value} {n : ANext} (r : Rel B f h w) (hn : nextOf o h = some n)
    (hs : ∀ v, o = some v → ∃ v', s.run P w = .ok v' w ∧ VR f v v') : NextOk P B f h w (do pure (.value (← s))) n := by
  unfold nextOf at hn
  split at hn
  · rename_i v
    cases hn
    obtain ⟨v', q1, q2⟩ := hs v rfl
    exact ⟨f, v', w, by simp only [Sem.run_bind, q1, Result.andThen_ok]; rfl, r, Turn.refl _ _ _, q2⟩
  · cases hn
theorem nextOk_mem [Glob] {B : Bs} {f : Emb} {h : AH} {w : World} {s : Sem Value} {o : Option (Value × AH)} {n : ANext} (hn : nextOf2 o = some n)
    (hs : ∀ v h', o = some (v, h') → ∃ f' v' w', s.run P w = .ok v' w' ∧ Rel B f' h' w' ∧ Turn f h w f' h' w' ∧ VR f' v v') : NextOk P B f h w (do pure (.value (← s))) n := by
  unfold nextOf2 at hn
  split at hn
  · rename_i v h'
    cases hn
    obtain ⟨f', v', w', q1, q2, q3, q4⟩ := hs v h' rfl
    exact ⟨f', v', w', by simp only [Sem.run_bind, q1, Result.andThen_ok]; rfl, q2, q3, q4⟩
  · cases hn

theorem VRs.cons_inv {f : Emb} {v : Value} {r c : List Value} (h : VRs f (v :: r) c) : ∃ v' r', c = v' :: r' ∧ VR f v v' ∧ VRs f r r' := by
  cases h with
  | cons _ v' _ r' hv hr => exact ⟨v', r', rfl, hv, hr⟩
theorem VRs.nil_inv {f : Emb} {c : List Value} (h : VRs f [] c) : c = [] := by cases h; rfl

theorem aBuiltin_sound [Glob] {B : Bs} {f : Emb} {h : AH} {w : World} (r : Rel B f h w) {b : Builtin} {types : List TypeId} {ty : TypeId} {consts : Array Bool} {args args' : List Value} {n : ANext} (hb : aBuiltin P b types args h = some n) (ha : VRs f args args') :
    NextOk P B f h w (builtin b types.toArray ty consts args'.toArray) n := by
  unfold aBuiltin at hb
  split at hb
  · rename_i t ts x rest
    obtain ⟨x', r', rfl, hx, hr⟩ := ha.cons_inv
    exact nextOk_pure r hb fun v hv => aLen_sound hv hx r'
  · rename_i s x
    obtain ⟨s', r', rfl, hs, hr⟩ := ha.cons_inv
    obtain ⟨x', r'', rfl, hx, hr'⟩ := hr.cons_inv
    have := hr'.nil_inv; subst this
    exact nextOk_mem hb fun v h' hv => aAppend_sound r hv hs hx
  · rename_i x rest
    obtain ⟨x', r', rfl, hx, hr⟩ := ha.cons_inv
    refine nextOk_pure r hb fun v hv => ?_
    obtain ⟨v', q1, q2⟩ := foldV_sound (P := P) (w := w) (fun a a' b b' u hu h1 h2 => lesser_sound hu h1 h2) hv hx hr
    exact ⟨v', by simpa [Builtin.min_] using q1, q2⟩
  · rename_i x rest
    obtain ⟨x', r', rfl, hx, hr⟩ := ha.cons_inv
    refine nextOk_pure r hb fun v hv => ?_
    obtain ⟨v', q1, q2⟩ := foldV_sound (P := P) (w := w) (fun a a' b b' u hu h1 h2 => greater_sound hu h1 h2) hv hx hr
    exact ⟨v', by simpa [Builtin.max_] using q1, q2⟩
  · rename_i t ts x rest
    obtain ⟨x', r', rfl, hx, hr⟩ := ha.cons_inv
    split at hb
    · rename_i h' hc
      cases hb
      obtain ⟨w', q1, q2, q3⟩ := aClear_sound (ts := ts) (ty := ty) (rs := r') r hc hx
      exact ⟨f, .tuple #[], w', by simp only [builtin, Sem.run_bind, q1, Result.andThen_ok]; rfl, q2, q3, VR.tuple [] [] .nil⟩
    · cases hb
  · rename_i x
    obtain ⟨x', r', rfl, hx, hr⟩ := ha.cons_inv
    have := hr.nil_inv; subst this
    exact nextOk_pure r hb fun v hv => aSliceData_sound hv hx
  · rename_i p m
    obtain ⟨p', r', rfl, hp, hr⟩ := ha.cons_inv
    obtain ⟨m', r'', rfl, hm, hr'⟩ := hr.cons_inv
    have := hr'.nil_inv; subst this
    refine nextOk_mem hb fun v h' hv => ?_
    obtain ⟨v', w', q⟩ := aUnsafeString_sound (ty := ty) r hv hp hm
    exact ⟨f, v', w', q⟩
  · cases hb

theorem run_eqGuard {f : Emb} {op : BinOp} {t : TypeId} {x y : Operand} {a a' b b' v : Value} {w : World} (h : aBin P op t a b = some v) (ha : VR f a a') (hb : VR f b b') : (eqGuard op t x y a' b').run P w = .ok () w := by
  unfold aBin at h
  split at h
  · cases ha; cases hb
    unfold eqGuard
    cases op <;> rfl
  · cases ha; cases hb
    unfold eqGuard
    cases op <;> rfl
  · cases ha; cases hb
    unfold eqGuard
    cases op <;> rfl
  · cases hb
    cases ha with
    | nilSlice => unfold eqGuard; cases op <;> rfl
    | slice => unfold eqGuard; cases op <;> rfl
  · cases hb
    cases ha with
    | nilPointer => unfold eqGuard; cases op <;> rfl
    | pointer => unfold eqGuard; cases op <;> rfl
  · cases ha; cases hb
    unfold eqGuard
    cases op <;> rfl
  · cases h

theorem aOp_sound [Glob] {B : Bs} {f : Emb} {h : AH} {w : World} (r : Rel B f h w) {sz : Nat} {t : Tr Value} {tm : Array Value} (T : TR f sz t tm) {o : Oper} {n : ANext} (hop : aOp P t h o.op = some n) :
    NextOk P B f h w (execOp (evC tm) o) n := by
  obtain ⟨dst, op, type, pos, after, guard⟩ := o
  simp only at hop
  unfold execOp
  simp only
  cases op <;> simp only [aOp] at hop <;> dsimp only
  case move x =>
    unfold nextOf at hop
    split at hop
    · rename_i v hv
      cases hop
      exact ⟨f, _, w, (by first | rfl | (rw [Sem.run_bind]; rfl)), r, Turn.refl _ _ _, evA_sound T hv⟩
    · cases hop
  case assign x =>
    unfold nextOf at hop
    split at hop
    · rename_i v hv
      cases hop
      exact ⟨f, _, w, (by first | rfl | (rw [Sem.run_bind]; rfl)), r, Turn.refl _ _ _, evA_sound T hv⟩
    · cases hop
  case pick c a b =>
    split at hop
    · rename_i hc
      have := evA_sound T hc
      generalize hq : evC tm c = c' at this
      cases this
      unfold nextOf at hop
      split at hop
      · rename_i v hv
        cases hop
        exact ⟨f, _, w, (by first | rfl | (rw [Sem.run_bind]; rfl)), r, Turn.refl _ _ _, evA_sound T hv⟩
      · cases hop
    · rename_i hc
      have := evA_sound T hc
      generalize hq : evC tm c = c' at this
      cases this
      unfold nextOf at hop
      split at hop
      · rename_i v hv
        cases hop
        exact ⟨f, _, w, (by first | rfl | (rw [Sem.run_bind]; rfl)), r, Turn.refl _ _ _, evA_sound T hv⟩
      · cases hop
    · cases hop
  case alloc e =>
    split at hop
    · rename_i z hz
      split at hop
      · rename_i hpl
        cases hop
        obtain ⟨f', w', q1, q2, q3, q4⟩ := newVar_sound (P := P) r e (VR.plain f z hpl)
        refine ⟨f', _, w', ?_, q2, q3, q4⟩
        simp only [Instr.alloc, Sem.run_bind, run_zeroT hz, Result.andThen_ok, q1, Sem.run_pure]
      · cases hop
    · cases hop
  case box e x =>
    split at hop
    · rename_i v hv
      cases hop
      obtain ⟨f', w', q1, q2, q3, q4⟩ := newVar_sound (P := P) r e (evA_sound T hv)
      refine ⟨f', _, w', ?_, q2, q3, q4⟩
      simp only [Instr.box, Sem.run_bind, Result.andThen_ok, q1, Sem.run_pure]
    · cases hop
  case build ty ps =>
    split at hop
    · rename_i vs hvs
      refine nextOk_pure r hop fun v hv => ?_
      obtain ⟨v', q1, q2⟩ := aBuild_sound (w := w) hv (evParts_sound T hvs)
      refine ⟨v', ?_, q2⟩
      rw [← q1]
      congr 2
      apply Array.ext'
      simp
    · cases hop
  case buildSlice ty m ps =>
    split at hop
    · rename_i vs hvs
      refine nextOk_mem hop fun v h' hv => ?_
      obtain ⟨f', v', w', q1, q2⟩ := aBuildSlice_sound r hv (evParts_sound T hvs)
      refine ⟨f', v', w', ?_, q2⟩
      rw [← q1]
      congr 2
      apply Array.ext'
      simp
    · cases hop
  case load ty a =>
    split at hop
    · rename_i v hv
      exact nextOk_pure r hop fun u hu => aLoad_sound r hu (evA_sound T hv)
    · cases hop
  case store ty a x =>
    split at hop
    · rename_i p v hp hv
      split at hop
      · rename_i h' hh
        cases hop
        obtain ⟨w', q1, q2⟩ := aStore_sound (P := P) r hh (evA_sound T hp) (evA_sound T hv)
        exact ⟨w', by simp only [Sem.run_bind, q1, Result.andThen_ok]; rfl, q2⟩
      · cases hop
    · cases hop
  case nilCheck x =>
    split at hop
    · rename_i a hv
      cases hop
      have := evA_sound T hv
      generalize hq : evC tm x = x' at this
      have h2 := this
      cases this with
      | pointer b o L hb => exact ⟨f, _, w, rfl, r, Turn.refl _ _ _, h2⟩
    · cases hop
  case binOp bop ty x y ty2 =>
    split at hop
    · rename_i a b ha hb
      refine nextOk_pure r hop fun u hu => ?_
      obtain ⟨v', q1, q2⟩ := aBin_sound (w := w) hu (evA_sound T ha) (evA_sound T hb)
      exact ⟨v', by simp only [Sem.run_bind, run_eqGuard hu (evA_sound T ha) (evA_sound T hb), Result.andThen_ok, q1], q2⟩
    · cases hop
  case unOp uop ty x =>
    split at hop
    · rename_i a ha
      exact nextOk_pure r hop fun u hu => aUn_sound hu (evA_sound T ha)
    · cases hop
  case convert s d x =>
    split at hop
    · rename_i a ha
      split at hop
      · rename_i v hv
        cases hop
        obtain ⟨v', q1, q2⟩ := aConvert_sound (w := w) hv (evA_sound T ha)
        exact ⟨f, v', w, by simp only [Sem.run_bind, q1, Result.andThen_ok]; rfl, r, Turn.refl _ _ _, q2⟩
      · split at hop
        · rename_i v hv
          cases hop
          obtain ⟨v', q1, q2⟩ := aToString_sound r hv (evA_sound T ha)
          exact ⟨f, v', w, by simp only [Sem.run_bind, q1, Result.andThen_ok]; rfl, r, Turn.refl _ _ _, q2⟩
        · exact nextOk_pure r hop fun u hu => aUnsafePtr_sound r hu (evA_sound T ha)
    · cases hop
  case makeFunc fn first captured =>
    cases fn <;> simp only at hop
    case func g =>
      split at hop
      · rename_i a b ha hb
        cases hop
        have h1 := evAll_sound T ha
        have h2 := evAll_sound T hb
        refine ⟨f, _, w, rfl, r, Turn.refl _ _ _, ?_⟩
        have e1 : first.map (evC tm) = ((first.toList).map (evC tm)).toArray := by apply Array.ext'; simp
        have e2 : captured.map (evC tm) = ((captured.toList).map (evC tm)).toArray := by apply Array.ext'; simp
        rw [e1, e2]
        exact .func g _ _ _ _ h1 h2
      · cases hop
    all_goals cases hop
  case makeSlice ty l c =>
    split at hop
    · rename_i a b ha hb
      exact nextOk_mem hop fun v h' hv => aMakeSlice_sound r hv (evA_sound T ha) (evA_sound T hb)
    · cases hop
  case slice ty x lo hi mx =>
    split at hop
    · rename_i a l rr m ha hl hr hm
      exact nextOk_pure r hop fun u hu => aSlice_sound r hu (evA_sound T ha) (evOpt_sound T hl) (evOpt_sound T hr) (evOpt_sound T hm)
    · cases hop
  case fieldAddr s x k =>
    split at hop
    · rename_i a ha
      exact nextOk_pure r hop fun u hu => aFieldAddr_sound hu (evA_sound T ha)
    · cases hop
  case field s x k =>
    split at hop
    · rename_i a ha
      exact nextOk_pure r hop fun u hu => aField_sound hu (evA_sound T ha)
    · cases hop
  case indexAddr ty x i =>
    split at hop
    · rename_i a k ha hk
      exact nextOk_pure r hop fun u hu => aIndexAddr_sound hu (evA_sound T ha) (evA_sound T hk)
    · cases hop
  case index ty x i =>
    split at hop
    · rename_i a k ha hk
      exact nextOk_pure r hop fun u hu => aIndex_sound hu (evA_sound T ha) (evA_sound T hk)
    · cases hop
  case extract x k =>
    split at hop
    · rename_i vs ha
      obtain ⟨vs', e, hvs⟩ := (evA_sound T ha).tuple_inv
      refine nextOk_pure r hop fun u hu => ?_
      obtain ⟨u', q1, q2⟩ := hvs.get _ _ hu
      refine ⟨u', ?_, q2⟩
      rw [Array.getElem?_toList] at q1
      simp only [e, Instr.extract, q1]
      rfl
    · cases hop
  case call c =>
    obtain ⟨callee, args, argTypes⟩ := c
    simp only at hop
    split at hop
    rotate_left
    · cases hop
    rename_i vs hvs
    have hargs := evAll_sound T hvs
    have e1 : args.map (evC tm) = ((args.toList).map (evC tm)).toArray := by apply Array.ext'; simp
    split at hop
    · rename_i b
      have := aBuiltin_sound (ty := type) (consts := args.map fun | .const _ => true | _ => false) r hop hargs
      rw [← e1, show argTypes.toList.toArray = argTypes by simp] at this
      exact this
    · rename_i g
      split at hop
      · rename_i fn first captured hf
        cases hop
        obtain ⟨a', c', e, h1, h2⟩ := (evA_sound T hf).func_inv
        refine ⟨a'.toList ++ ((args.toList).map (evC tm) ++ c'.toList), ?_, h1.append (hargs.append h2)⟩
        simp only [Sem.run_bind, resolve, e, Deferred.ofValue, Sem.run_pure, Result.andThen_ok, invoke]
        congr 2
        apply Array.ext'
        simp
      · rename_i l first captured hf
        split at hop
        rotate_left
        · cases hop
        rename_i z1 z2
        have y1 : first = #[] := Array.ext' z1
        have y2 : captured = #[] := Array.ext' z2
        subst y1; subst y2
        cases hop
        obtain ⟨L, hL, e⟩ := (evA_sound T hf).yield_inv
        refine ⟨L, _, hL, ?_, hargs⟩
        simp only [Sem.run_bind, resolve, e, Deferred.ofValue, Sem.run_pure, Result.andThen_ok, invoke]
        congr 2
        apply Array.ext'
        simp
      · cases hop
    · cases hop
  all_goals cases hop
end
end Go.Proofs.Xx
