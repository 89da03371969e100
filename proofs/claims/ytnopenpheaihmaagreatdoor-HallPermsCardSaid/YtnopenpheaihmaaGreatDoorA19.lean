/-
  Regions whose order is open: every order does what the run in the order of the text does.
-/
import Derived.Test.YtnopenpheaihmaaGreatDoorA18
namespace Go.Proofs.Xx
open Go
set_option linter.unusedSimpArgs false
set_option linter.unusedVariables false

def tAt (l : List DStep) (t' : Tr Value) (k : Nat) : Tr Value := match l[k]? with | some s => s.t | none => t'

section
variable {P : Program} {X : Extern} {run : Runner} {sz : Nat} {ops : Array Oper} {ids : List (Nat × Nat)}

def StepFact (P : Program) (X : Extern) (run : Runner) (sz : Nat) (ops : Array Oper) (ids : List (Nat × Nat)) (o : Oper) (i : Nat) (s : DStep) (t1 : Tr Value) (h1 : AH) : Prop :=
  guardA ops s.t o.guard = some s.go ∧ putD sz s.t o.dst s.v = some t1 ∧ (s.go = true → stepD P X run ids false i o.op s.t s.h = some (s.v, h1)) ∧ (s.go = false → s.v = .tuple #[] ∧ h1 = s.h)

theorem runD_spec : ∀ (os : List Oper) (i : Nat) (t : Tr Value) (h : AH) (l : List DStep) (t' : Tr Value) (h' : AH), runD P X run sz ops ids false i os t h = some (l, t', h') →
    tAt l t' 0 = t ∧ hpAt l h' 0 = h ∧ l.length = os.length ∧ ∀ k o, os[k]? = some o → ∃ s, l[k]? = some s ∧ StepFact P X run sz ops ids o (i + k) s (tAt l t' (k + 1)) (hpAt l h' (k + 1))
  | [], i, t, h, l, t', h', hr => by
    cases hr
    exact ⟨rfl, rfl, rfl, fun k o ho => by simp at ho⟩
  | o :: r, i, t, h, l, t', h', hr => by
    have key : ∀ (b : Bool) (v : Value) (t1 : Tr Value) (h1 : AH), consD ⟨t, h, b, v⟩ (runD P X run sz ops ids false (i + 1) r t1 h1) = some (l, t', h') → guardA ops t o.guard = some b → putD sz t o.dst v = some t1 →
        (b = true → stepD P X run ids false i o.op t h = some (v, h1)) → (b = false → v = .tuple #[] ∧ h1 = h) →
        tAt l t' 0 = t ∧ hpAt l h' 0 = h ∧ l.length = (o :: r).length ∧ ∀ k o', (o :: r)[k]? = some o' → ∃ s, l[k]? = some s ∧ StepFact P X run sz ops ids o' (i + k) s (tAt l t' (k + 1)) (hpAt l h' (k + 1)) := by
      intro b v t1 h1 hc q1 q2 q3 q4
      cases hd : runD P X run sz ops ids false (i + 1) r t1 h1 with
      | none => rw [hd] at hc; cases hc
      | some q =>
        obtain ⟨l1, t2, h2⟩ := q
        rw [hd] at hc
        simp only [consD, Option.some.injEq, Prod.mk.injEq] at hc
        obtain ⟨rfl, rfl, rfl⟩ := hc
        obtain ⟨p1, p2, p3, p4⟩ := runD_spec r (i + 1) t1 h1 l1 t2 h2 hd
        refine ⟨rfl, rfl, by simp [p3], fun k o' ho => ?_⟩
        cases k with
        | zero =>
          simp at ho; subst ho
          refine ⟨⟨t, h, b, v⟩, rfl, q1, ?_, fun hb => ?_, fun hb => ?_⟩
          · rw [q2]
            have : tAt (⟨t, h, b, v⟩ :: l1) t2 (0 + 1) = tAt l1 t2 0 := by simp [tAt]
            rw [this, p1]
          · have : hpAt (⟨t, h, b, v⟩ :: l1) h2 (0 + 1) = hpAt l1 h2 0 := by simp [hpAt]
            rw [this, p2]
            exact q3 hb
          · have : hpAt (⟨t, h, b, v⟩ :: l1) h2 (0 + 1) = hpAt l1 h2 0 := by simp [hpAt]
            rw [this, p2]
            exact q4 hb
        | succ k =>
          simp at ho
          obtain ⟨s, s1, s2⟩ := p4 k o' ho
          refine ⟨s, by simpa using s1, ?_⟩
          have e1 : tAt (⟨t, h, b, v⟩ :: l1) t2 (k + 1 + 1) = tAt l1 t2 (k + 1) := by simp [tAt]
          have e2 : hpAt (⟨t, h, b, v⟩ :: l1) h2 (k + 1 + 1) = hpAt l1 h2 (k + 1) := by simp [hpAt]
          rw [e1, e2, show i + (k + 1) = i + 1 + k by omega]
          exact s2
    simp only [runD] at hr
    split at hr
    · rename_i hg
      split at hr
      · rename_i v h1 hs
        split at hr
        · rename_i t1 hp
          exact key true v t1 h1 hr hg hp (fun _ => hs) (fun q => by cases q)
        · cases hr
      · cases hr
    · rename_i hg
      split at hr
      · rename_i t1 hp
        exact key false _ t1 h hr hg hp (fun q => by cases q) (fun _ => ⟨rfl, rfl⟩)
      · cases hr
    · cases hr

/-! ### the slots -/
def wr (ops : Array Oper) (l : List DStep) (t : Tr Value) (i : Nat) : Tr Value :=
  match ops[i]?, l[i]? with
  | some o, some s => match o.dst with
    | some d => t.set d s.v
    | none => t
  | _, _ => t
def wrs (ops : Array Oper) (x i : Nat) : Bool := match ops[i]? with | some o => (match o.dst with | some d => Nat.beq d x | none => false) | none => false

theorem wr_put {o : Oper} {i : Nat} {l : List DStep} {s : DStep} {t u t1 : Tr Value} (ho : ops[i]? = some o) (hs : l[i]? = some s) (h : putD sz t o.dst s.v = some t1) : putD sz u o.dst s.v = some (wr ops l u i) := by
  unfold putD at h ⊢
  unfold wr
  rw [ho, hs]
  simp only
  cases hd : o.dst with
  | none => rfl
  | some d =>
    rw [hd] at h
    simp only at h ⊢
    split at h
    · rfl
    · cases h
theorem wr_get {l : List DStep} {x i : Nat} {t u : Tr Value} (h : t.get x = u.get x) : (wr ops l t i).get x = (wr ops l u i).get x := by
  unfold wr
  cases ops[i]? with
  | none => exact h
  | some o => cases l[i]? with
    | none => exact h
    | some s => cases hd : o.dst with
      | none => simpa [hd] using h
      | some d => simp only [hd, Tr.get_set, h]
theorem wr_other {l : List DStep} {x i : Nat} {t : Tr Value} (h : wrs ops x i = false) : (wr ops l t i).get x = t.get x := by
  unfold wr
  unfold wrs at h
  cases ho : ops[i]? with
  | none => rfl
  | some o => cases l[i]? with
    | none => rfl
    | some s => cases hd : o.dst with
      | none => simp [hd]
      | some d =>
        rw [ho] at h
        simp only [hd] at h ⊢
        rw [Tr.get_set, if_neg]
        intro q; subst q
        simp at h
theorem foldl_wr {l : List DStep} {x : Nat} : ∀ (p : List Nat) (t u : Tr Value), t.get x = u.get x → (p.foldl (wr ops l) t).get x = ((p.filter (wrs ops x)).foldl (wr ops l) u).get x
  | [], t, u, h => h
  | i :: p, t, u, h => by
    rw [List.filter_cons]
    cases hw : wrs ops x i with
    | true =>
      simp only [if_true, List.foldl_cons]
      exact foldl_wr p _ _ (wr_get h)
    | false =>
      simp only [Bool.false_eq_true, if_false, List.foldl_cons]
      exact foldl_wr p _ _ ((wr_other hw).trans h)

theorem Turn.addAt {f f1 : Emb} {h h1 : AH} {w w1 w2 : World} {ob : Obj} (u : Turn f h w f1 h1 w1) (hp : Pushed w1 w2 ob) {b : Nat} (hb : h.next ≤ b) (hf : f1 b = none) : Turn f h w (f1.put b ⟨w1.heap.size, 0, 0⟩) h1 w2 := by
  refine ⟨fun k L e => ?_, u.next, u.low, fun k L e hk => ?_, fun k L e n => ?_, by rw [hp.size]; have := u.size; omega, fun k hk hq => ?_, u.same, hp.os.trans u.os, hp.tape.trans u.tape, hp.output.trans u.output⟩
  · have := u.le k L e
    rw [Emb.put_ne]; exact this
    intro q; subst q; rw [hf] at this; cases this
  · rw [Emb.put_ne _ _ (by omega)] at e
    exact u.old k L e hk
  · by_cases hkb : k = b
    · subst hkb; rw [Emb.put_same] at e; cases e
      exact .inl u.size
    · rw [Emb.put_ne _ _ hkb] at e
      exact u.fresh k L e n
  · exact (hp.old k (by have := u.size; omega)).trans (u.keep k hk hq)

/-! ### the canonical run -/
structure Canon (P : Program) (X : Extern) (run : Runner) (sz : Nat) (ops : Array Oper) (ids : List (Nat × Nat)) (fl : List Nat) (l : List DStep) (t0 t' : Tr Value) (h h0 h' : AH) : Prop where
  plan : planOk ops (masks ops.toList []) fl = true
  startT : tAt l t' 0 = t0
  startH : hpAt l h' 0 = h0
  len : l.length = ops.size
  step : ∀ k o, ops[k]? = some o → ∃ s, l[k]? = some s ∧ StepFact P X run sz ops ids o k s (tAt l t' (k + 1)) (hpAt l h' (k + 1))
  checked : ∀ i, i < ops.size → stepOk P ops ids (masks ops.toList []) fl ((List.range ops.size).filter (chainAt ops fl)) (h0 :: ((List.range ops.size).filter (chainAt ops fl)).map fun i => hpAt l h' (i + 1)) l i = true
  ids1 : ∀ i, hasN fl i = true → ∃ b, idOf ids i = some b
  ids2 : ∀ i b, idOf ids i = some b → hasN fl i = true ∧ h.next ≤ b ∧ b < h0.next
  ids3 : ∀ i j b, idOf ids i = some b → idOf ids j = some b → i = j

theorem wrs_inv {x i : Nat} (hw : wrs ops x i = true) : ∃ o, ops[i]? = some o ∧ o.dst = some x := by
  unfold wrs at hw
  cases ho : ops[i]? with
  | none => rw [ho] at hw; cases hw
  | some o =>
    rw [ho] at hw
    simp only at hw
    cases hd : o.dst with
    | none => rw [hd] at hw; cases hw
    | some d => rw [hd] at hw; exact ⟨o, rfl, by rw [hd, Nat.eq_of_beq_eq_true hw]⟩
theorem hasN_mem {l : List Nat} {k : Nat} : hasN l k = true ↔ k ∈ l := by
  unfold hasN
  rw [List.any_eq_true]
  constructor
  · rintro ⟨x, h1, h2⟩; rw [Nat.eq_of_beq_eq_true h2]; exact h1
  · intro h; exact ⟨k, h, by simp⟩

theorem wrHits_of {o : Oper} {x : Nat} {ns : List Tmp} (hd : o.dst = some x) (hx : x ∈ ns) : wrHits o ns = true := by
  unfold wrHits
  rw [hd]
  exact hasN_mem.2 hx

theorem hpAt_get {l : List DStep} {h' : AH} {j : Nat} {s : DStep} (hs : l[j]? = some s) : hpAt l h' j = s.h := by simp [hpAt, hs]


section
variable {fl : List Nat} {l : List DStep} {t0 t' : Tr Value} {h h0 h' : AH} (c : Canon P X run sz ops ids fl l t0 t' h h0 h')
include c

theorem Canon.prec {k i : Nat} (hk : k < i) (hi : i < ops.size) (hc : clash ops fl k i = true) : Xx.prec (masks ops.toList []) k i = true := by
  have := c.plan
  unfold planOk at this
  rw [List.all_eq_true] at this
  have h1 := this i (List.mem_range.2 hi)
  rw [Bool.and_eq_true, List.all_eq_true] at h1
  have h2 := h1.2 k (List.mem_range.2 hk)
  rw [hc] at h2
  simpa using h2
theorem Canon.edge {i : Nat} {o : Oper} (ho : ops[i]? = some o) {e : Edge} (he : e ∈ o.after) (hb : Region.binds .any e = true) : e.on < i := by
  have := c.plan
  unfold planOk at this
  rw [List.all_eq_true] at this
  have h1 := this i (List.mem_range.2 (Array.getElem?_eq_some_iff.1 ho).1)
  rw [Bool.and_eq_true] at h1
  have h2 := h1.1
  unfold edgesOk at h2
  rw [ho] at h2
  simp only [List.all_eq_true] at h2
  have h3 := h2 e (by simpa using he)
  rw [hb] at h3
  simpa using h3

theorem Canon.chainW (x : Nat) : Chain ops (wrs ops x) := by
  intro k i hk hi h1 h2
  obtain ⟨a, ha, hda⟩ := wrs_inv h1
  obtain ⟨b, hb, hdb⟩ := wrs_inv h2
  refine c.prec hk hi ?_
  unfold clash
  rw [ha, hb]
  simp only
  rw [wrHits_of hda (by simp [namesOf, dstL, hdb])]
  rfl
theorem Canon.chainC : Chain ops (chainAt ops fl) := by
  intro k i hk hi h1 h2
  refine c.prec hk hi ?_
  have hkk : k < ops.size := by omega
  unfold clash
  rw [Array.getElem?_eq_getElem hkk, Array.getElem?_eq_getElem hi]
  simp [h1, h2]

/-- Before its turn, the slots that an operation names hold what the run in the order of the text has there. -/
theorem Canon.agree {a : List Nat} {j : Nat} {o : Oper} (v : Valid ops (a ++ [j])) (ho : ops[j]? = some o) {x : Nat} (hx : x ∈ namesOf ops o) : a.filter (wrs ops x) = (List.range j).filter (wrs ops x) := by
  have hj : j < ops.size := (Array.getElem?_eq_some_iff.1 ho).1
  refine Chain.at_own v rfl (c.chainW x) (fun k hk hw => ?_) fun k hk hn hw => ?_
  · obtain ⟨a', ha, hda⟩ := wrs_inv hw
    refine c.prec hk hj ?_
    unfold clash
    rw [ha, ho]
    simp only
    rw [wrHits_of hda hx]; rfl
  · obtain ⟨a', ha, hda⟩ := wrs_inv hw
    refine c.prec hk hn ?_
    unfold clash
    rw [ha, ho]
    simp only
    rw [wrHits_of hda hx]; simp

theorem Canon.tRange : ∀ j, j ≤ ops.size → (List.range j).foldl (wr ops l) t0 = tAt l t' j
  | 0, _ => c.startT.symm
  | j + 1, hj => by
    have ho : ops[j]? = some ops[j] := Array.getElem?_eq_getElem (by omega)
    obtain ⟨s, hs, q1, q2, q3⟩ := c.step j _ ho
    rw [List.range_succ, List.foldl_append, Canon.tRange j (by omega)]
    simp only [List.foldl_cons, List.foldl_nil]
    have hst : tAt l t' j = s.t := by simp [tAt, hs]
    have := wr_put (u := s.t) ho hs q2
    rw [hst]
    rw [q2] at this
    exact (Option.some.inj this).symm

theorem Canon.get {a : List Nat} {j : Nat} {o : Oper} (v : Valid ops (a ++ [j])) (ho : ops[j]? = some o) {s : DStep} (hs : l[j]? = some s) {x : Nat} (hx : x ∈ namesOf ops o) : (a.foldl (wr ops l) t0).get x = s.t.get x := by
  have hj : j < ops.size := (Array.getElem?_eq_some_iff.1 ho).1
  have h1 := foldl_wr (ops := ops) (l := l) (x := x) a t0 t0 rfl
  have h2 := foldl_wr (ops := ops) (l := l) (x := x) (List.range j) t0 t0 rfl
  rw [h1, c.agree v ho hx, ← h2, c.tRange j (by omega)]
  simp [tAt, hs]

/-! ### the memory -/
def kk (l : List DStep) (h0 h' : AH) (q : List Nat) : AH := match q.getLast? with | none => h0 | some j => hpAt l h' (j + 1)

theorem Canon.still {j : Nat} {o : Oper} (ho : ops[j]? = some o) {s : DStep} (hs : l[j]? = some s) (hc : chainAt ops fl j = false) : hpAt l h' (j + 1) = s.h := by
  obtain ⟨s', hs', q1, q2, q3, q4⟩ := c.step j o ho
  rw [hs] at hs'; cases hs'
  cases hgo : s.go with
  | false => exact (q4 hgo).2
  | true =>
    have := q3 hgo
    unfold stepD at this
    split at this
    · split at this
      · simp only [Option.some.injEq, Prod.mk.injEq] at this
        exact this.2.symm
      · cases this
    · rename_i hid
      refine opA_pure ?_ this
      unfold chainAt at hc
      rw [Bool.and_eq_false_iff] at hc
      rcases hc with hc | hc
      · unfold isMemAt at hc; rw [ho] at hc; exact hc
      · simp at hc
        obtain ⟨b, hb⟩ := c.ids1 j hc
        rw [hid] at hb; cases hb
theorem Canon.kRange : ∀ j, j ≤ ops.size → kk l h0 h' ((List.range j).filter (chainAt ops fl)) = hpAt l h' j
  | 0, _ => by simp [kk, c.startH]
  | j + 1, hj => by
    have ho : ops[j]? = some ops[j] := Array.getElem?_eq_getElem (by omega)
    obtain ⟨s, hs, -⟩ := c.step j _ ho
    rw [List.range_succ, List.filter_append]
    cases hc : chainAt ops fl j with
    | true => simp [hc, kk]
    | false =>
      simp only [List.filter_cons, hc, Bool.false_eq_true, if_false, List.filter_nil, List.append_nil]
      rw [Canon.kRange j (by omega), c.still ho hs hc, hpAt_get hs]

theorem Canon.kOwn {a : List Nat} {j : Nat} (v : Valid ops (a ++ [j])) {s : DStep} (hs : l[j]? = some s) (hj : j < ops.size) (hc : chainAt ops fl j = true) : kk l h0 h' (a.filter (chainAt ops fl)) = s.h := by
  have : a.filter (chainAt ops fl) = (List.range j).filter (chainAt ops fl) := by
    refine Chain.at_own v rfl c.chainC (fun k hk hw => c.chainC k j hk hj hw hc) fun k hk hn hw => c.chainC j k hk hn hc hw
  rw [this, c.kRange j (by omega), hpAt_get hs]

/-- The memory before an operation whose place among those of the chain is fixed. -/
theorem Canon.kFix {a : List Nat} {j : Nat} (v : Valid ops (a ++ [j])) {s : DStep} (hs : l[j]? = some s) (hj : j < ops.size) (hf : fixedAt (masks ops.toList []) ((List.range ops.size).filter (chainAt ops fl)) j = true) : kk l h0 h' (a.filter (chainAt ops fl)) = s.h := by
  unfold fixedAt at hf
  rw [List.all_eq_true] at hf
  have hmem : ∀ k, k < ops.size → chainAt ops fl k = true → k ∈ (List.range ops.size).filter (chainAt ops fl) := fun k h1 h2 => List.mem_filter.2 ⟨List.mem_range.2 h1, h2⟩
  have : a.filter (chainAt ops fl) = (List.range j).filter (chainAt ops fl) := by
    refine Chain.at_own v rfl c.chainC (fun k hk hw => ?_) fun k hk hn hw => ?_
    · have := hf k (hmem k (by omega) hw)
      rw [show Nat.blt k j = true by rw [Nat.blt_eq]; exact hk] at this
      exact this
    · have := hf k (hmem k hn hw)
      rw [show Nat.blt k j = false by rw [Bool.eq_false_iff]; intro q; rw [Nat.blt_eq] at q; omega, show Nat.beq k j = false by rw [Bool.eq_false_iff]; intro q; have := Nat.eq_of_beq_eq_true q; omega] at this
      simpa using this
  rw [this, c.kRange j (by omega), hpAt_get hs]

theorem Canon.kNext {a : List Nat} {j : Nat} (v : Valid ops (a ++ [j])) {o : Oper} (ho : ops[j]? = some o) {s : DStep} (hs : l[j]? = some s) (hsame : chainAt ops fl j = true → hpAt l h' (j + 1) = s.h) :
    kk l h0 h' ((a ++ [j]).filter (chainAt ops fl)) = kk l h0 h' (a.filter (chainAt ops fl)) := by
  have hj : j < ops.size := (Array.getElem?_eq_some_iff.1 ho).1
  rw [List.filter_append]
  cases hc : chainAt ops fl j with
  | true =>
    rw [c.kOwn v hs hj hc, ← hsame hc]
    simp [hc, kk]
  | false => simp [hc]
end
end
end Go.Proofs.Xx
