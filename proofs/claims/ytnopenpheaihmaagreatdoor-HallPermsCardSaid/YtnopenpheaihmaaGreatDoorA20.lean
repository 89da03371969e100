/-
  Regions whose order is open: the induction over the schedule; the whole run.
-/
import Derived.Test.YtnopenpheaihmaaGreatDoorA19
import Derived.Orders
namespace Go.Proofs.Xx
open Go
set_option linter.unusedSimpArgs false
set_option linter.unusedVariables false

section
variable {P : Program} {X : Extern} {run : Runner} {sz : Nat} {ops : Array Oper} {ids : List (Nat × Nat)}

/-- How things stand after the operations a. -/
structure St [Glob] (B : Bs) (ops : Array Oper) (ids : List (Nat × Nat)) (fl : List Nat) (l : List DStep) (t0 : Tr Value) (h h0 h' : AH) (sz : Nat) (e0 : Emb) (w0 : World) (a : List Nat) (e : Emb) (w : World) (tm : Array Value) : Prop where
  rel : Rel B e (kk l h0 h' (a.filter (chainAt ops fl))) w
  tr : TR e sz (a.foldl (wr ops l) t0) tm
  turn : Turn e0 h w0 e (kk l h0 h' (a.filter (chainAt ops fl))) w
  next : h0.next ≤ (kk l h0 h' (a.filter (chainAt ops fl))).next
  free : ∀ j b, idOf ids j = some b → j ∉ a → e b = none

/-- The value of an operation that turns no memory is that of the run in the order of the text. -/
def OkAtP (P : Program) (ids : List (Nat × Nat)) (i : Nat) (op : Op) (s : DStep) (k : AH) : Prop :=
  match idOf ids i with
  | some b => ∃ x c e, aFloat P s.t op = some (x, c, e) ∧ k.get b = some (.cells c e none false)
  | none => ∃ u, aOp P s.t k op = some (.val s.v u)
theorem OkAtP.of {P : Program} {ids : List (Nat × Nat)} {i : Nat} {op : Op} {s : DStep} {k : AH} (h : okAt P ids i op s k = true) : OkAtP P ids i op s k := by
  unfold okAt at h
  unfold OkAtP
  split at h
  · rename_i b hb
    (try rw [hb])
    split at h
    rotate_left
    · cases h
    rename_i k1 c1 e1 hfl
    split at h
    rotate_left
    · cases h
    rename_i c2 e2 hg
    rw [Bool.and_eq_true] at h
    have he12 := Nat.eq_of_beq_eq_true h.1
    have hc12 := sameL_eq (fun _ _ => same1_eq) h.2
    subst he12 hc12
    exact ⟨_, _, _, hfl, hg⟩
  · rename_i hb
    (try rw [hb])
    split at h
    rotate_left
    · cases h
    rename_i u hx hop
    have hu := sameV_eq h
    subst hu
    exact ⟨_, hop⟩
theorem exists_least {n : Nat} (p : Nat → Prop) (hp : ∃ i, i < n ∧ ¬ p i) : ∃ i, i < n ∧ ¬ p i ∧ ∀ k, k < i → p k := by
  obtain ⟨i, hi, hpi⟩ := hp
  induction i using Nat.strongRecOn with
  | _ i ih =>
    by_cases hall : ∀ k, k < i → p k
    · exact ⟨i, hi, hpi, hall⟩
    · obtain ⟨k, hk⟩ := Classical.not_forall.1 hall
      obtain ⟨hk1, hk2⟩ := Classical.not_imp.1 hk
      exact ih k hk1 (by omega) hk2
section
variable {fl : List Nat} {l : List DStep} {t0 t' : Tr Value} {h h0 h' : AH} (c : Canon P X run sz ops ids fl l t0 t' h h0 h')
include c

theorem Canon.okHere {a : List Nat} {j : Nat} (v : Valid ops (a ++ [j])) {o : Oper} (ho : ops[j]? = some o) {s : DStep} (hs : l[j]? = some s) (hgo : s.go = true) (hc : chainAt ops fl j = false) :
    OkAtP P ids j o.op s (kk l h0 h' (a.filter (chainAt ops fl))) := by
  have hj : j < ops.size := (Array.getElem?_eq_some_iff.1 ho).1
  have h1 := c.checked j hj
  unfold stepOk at h1
  rw [hc, ho, hs] at h1
  simp only [Bool.false_or, hgo, Bool.not_true] at h1
  rw [Bool.or_eq_true] at h1
  rcases h1 with h1 | h1
  · unfold calmAt at h1
    split at h1
    · cases h1
    rename_i hid
    obtain ⟨s', hs', q1, q2, q3, q4⟩ := c.step j o ho
    rw [hs] at hs'; cases hs'
    have hstep := q3 hgo
    unfold stepD at hstep
    rw [hid] at hstep
    simp only at hstep
    have hm : isMem o.op = false := by
      unfold chainAt at hc
      rw [Bool.and_eq_false_iff] at hc
      rcases hc with hc | hc
      · unfold isMemAt at hc; rw [ho] at hc; exact hc
      · simp at hc
        obtain ⟨b, hb⟩ := c.ids1 j hc
        rw [hid] at hb; cases hb
    have hval : ∃ u, aOp P s.t s.h o.op = some (.val s.v u) := by
      unfold opA at hstep
      split at hstep
      · rename_i v0 h0 hn; cases hstep; exact ⟨_, hn⟩
      · rename_i h0 hn; obtain ⟨u, hu⟩ := aOp_pure hm hn; cases hu
      · rename_i g args hn; obtain ⟨u, hu⟩ := aOp_pure hm hn; cases hu
      · rename_i g args hn; obtain ⟨u, hu⟩ := aOp_pure hm hn; cases hu
      · cases hstep
    obtain ⟨u, hval⟩ := hval
    unfold OkAtP
    rw [hid]
    simp only
    rw [Bool.or_eq_true] at h1
    rcases h1 with h1 | h1
    · exact ⟨_, aOp_free hm (by simpa using h1) hval⟩
    · rw [c.kFix v hs hj h1]; exact ⟨u, hval⟩
  refine OkAtP.of (P := P) (ids := ids) (i := j) (op := o.op) (s := s) (k := kk l h0 h' (a.filter (chainAt ops fl))) ?_
  rw [List.all_eq_true] at h1
  have htk := Chain.take v.left c.chainC
  generalize hms : (List.range ops.size).filter (chainAt ops fl) = mems at h1 htk
  generalize hq : a.filter (chainAt ops fl) = q at htk ⊢
  have hql : q.length ≤ mems.length := by rw [htk, List.length_take]; exact Nat.min_le_right _ _
  have h2 := h1 q.length (List.mem_range.2 (by simp; omega))
  have hfar : farOff (masks ops.toList []) mems q.length j = false := by
    rw [Bool.eq_false_iff]
    intro hf
    unfold farOff at hf
    rw [Bool.or_eq_true, List.any_eq_true, List.any_eq_true] at hf
    rcases hf with ⟨x, hx, hp⟩ | ⟨x, hx, hp⟩
    · have hxa := prec_before j _ a [] x v rfl hp
      have hxm : x ∈ mems := List.mem_of_mem_drop hx
      have hxc : chainAt ops fl x = true := by rw [← hms, List.mem_filter] at hxm; exact hxm.2
      have hxq : x ∈ q := by rw [← hq, List.mem_filter]; exact ⟨hxa, hxc⟩
      rw [htk] at hxq
      have hn : mems.Nodup := by rw [← hms]; exact (range_sorted _ _).imp (fun h => Nat.ne_of_lt h)
      rw [← List.take_append_drop q.length mems, List.nodup_append] at hn
      exact hn.2.2 x hxq x hx rfl
    · rw [← htk, ← hq, List.mem_filter] at hx
      obtain ⟨a1, a2, ha⟩ := List.append_of_mem hx.1
      have := prec_before x _ a1 (a2 ++ [j]) j v (by rw [ha]; simp) hp
      exact (v a j [] rfl).1 (by rw [ha]; simp [this])
  have hget : (h0 :: mems.map fun i => hpAt l h' (i + 1))[q.length]? = some (kk l h0 h' q) := by
    unfold kk
    rcases List.eq_nil_or_concat q with hz | ⟨r, x, hz⟩
    · rw [hz]; rfl
    · rw [List.concat_eq_append] at hz
      have hl : q.length = r.length + 1 := by rw [hz]; simp
      have hx : mems[r.length]? = some x := by
        have : q[r.length]? = some x := by rw [hz]; simp
        rw [htk, List.getElem?_take] at this
        split at this
        · exact this
        · cases this
      rw [hl, List.getElem?_cons_succ, List.getElem?_map, hx, hz]
      simp
  rw [hfar, hget] at h2
  simpa using h2

theorem Canon.one [Glob] (hC : CallOk P (callA P X run)) (hY : YieldOk P (yieldA run)) {B : Bs} {e0 : Emb} {w0 : World} {a : List Nat} {j : Nat} {o : Oper} (v : Valid ops (a ++ [j])) (ho : ops[j]? = some o)
    (hdom : ∀ b L, e0 b = some L → b < h.next) {e : Emb} {w : World} {tm : Array Value} (S : St B ops ids fl l t0 h h0 h' sz e0 w0 a e w tm) :
    ∃ e' w' tm', St B ops ids fl l t0 h h0 h' sz e0 w0 (a ++ [j]) e' w' tm' ∧ ∀ (fn : FuncId) (ro : Option Nat) (rest : List Nat) (k : List Item) (ds : List Deferred) (cs : List Frame),
      Steps P (lone (fr fn ro tm (.inRegion ops (j :: rest) :: k) ds) cs w) (lone (fr fn ro tm' (.inRegion ops rest :: k) ds) cs w') := by
  have hj : j < ops.size := (Array.getElem?_eq_some_iff.1 ho).1
  obtain ⟨s, hs, q1, q2, q3, q4⟩ := c.step j o ho
  have hag : ∀ x ∈ namesOf ops o, (a.foldl (wr ops l) t0).get x = s.t.get x := fun x hx => c.get v ho hs hx
  have hguard : guardA ops (a.foldl (wr ops l) t0) o.guard = some s.go := by
    rw [guardA_congr (u := s.t) fun x hx => hag x (by simp [namesOf, hx])]; exact q1
  have hput := wr_put (u := a.foldl (wr ops l) t0) ho hs q2
  have huse : ∀ x ∈ usesOp o.op, (a.foldl (wr ops l) t0).get x = s.t.get x := fun x hx => hag x (by simp [namesOf, hx])
  have hfold : (a ++ [j]).foldl (wr ops l) t0 = wr ops l (a.foldl (wr ops l) t0) j := by rw [List.foldl_append]; rfl
  have hfree : ∀ i b, idOf ids i = some b → i ∉ a ++ [j] → e b = none := fun i b hi hn => S.free i b hi fun q => hn (by simp [q])
  have hw := guardA_sound S.tr hguard
  cases hgo : s.go with
  | false =>
    obtain ⟨r1, r2⟩ := q4 hgo
    have hk := c.kNext v ho hs fun _ => r2
    rw [hgo] at hw
    refine ⟨e, w, putC tm o.dst undef, ⟨by rw [hk]; exact S.rel, ?_, by rw [hk]; exact S.turn, by rw [hk]; exact S.next, hfree⟩, fun fn ro rest k ds cs => ?_⟩
    · rw [hfold]
      exact putD_sound S.tr hput (by rw [r1]; exact .tuple [] [] .nil)
    · refine .one ?_
      have := st_op_skip (P := P) (fn := fn) (ro := ro) (tm := tm) (k := k) (ds := ds) (cs := cs) (w := w) (ops := ops) (i := j) (rest := rest) (by rw [ho]; simp [hw])
      rw [ho] at this
      exact this
  | true =>
    have hstep := q3 hgo
    rw [hgo] at hw
    cases hc : chainAt ops fl j with
    | true =>
      have hid : idOf ids j = none := by
        cases hi : idOf ids j with
        | none => rfl
        | some b =>
          have := (c.ids2 j b hi).1
          unfold chainAt at hc
          rw [this] at hc
          simp at hc
      unfold stepD at hstep
      rw [hid] at hstep
      simp only at hstep
      have hkk := c.kOwn v hs hj hc
      have hk : kk l h0 h' ((a ++ [j]).filter (chainAt ops fl)) = hpAt l h' (j + 1) := by
        rw [List.filter_append]; simp [hc, kk]
      rw [← opA_congr huse, ← hkk] at hstep
      obtain ⟨e', v', w', p1, p2, p3, p4⟩ := opA_sound hC hY ho hstep S.rel S.tr hw
      refine ⟨e', w', putC tm o.dst v', ⟨by rw [hk]; exact p1, ?_, by rw [hk]; exact S.turn.trans p2 hdom, by rw [hk]; exact Nat.le_trans S.next p2.next, fun i b hi hn => ?_⟩, fun fn ro rest k ds cs => p4 fn ro rest k ds cs⟩
      · rw [hfold]
        exact putD_sound (S.tr.mono p2.le) hput p3
      · cases he : e' b with
        | none => rfl
        | some L =>
          have hlt := (c.ids2 i b hi).2.2
          have := p2.old b L he (Nat.lt_of_lt_of_le hlt S.next)
          rw [hfree i b hi hn] at this; cases this
    | false =>
      have hk := c.kNext v ho hs fun q => by rw [hc] at q; cases q
      have hok := c.okHere v ho hs hgo hc
      unfold OkAtP at hok
      unfold stepD at hstep
      cases hid : idOf ids j with
      | some b =>
        rw [hid] at hok hstep
        simp only at hok hstep
        obtain ⟨k1, c1, e1, hfl, hg⟩ := hok
        rw [hfl] at hstep
        simp only [Bool.false_eq_true, Option.some.injEq, Prod.mk.injEq] at hstep
        rw [← aFloat_congr huse] at hfl
        obtain ⟨d', w', r1, r2, r3⟩ := aFloat_sound S.tr (w := w) hfl
        obtain ⟨i1, i2, i3⟩ := c.ids2 j b hid
        have hnone : e b = none := S.free j b hid (v a j [] rfl).1
        have hle0 : e.le (e.put b ⟨w.heap.size, 0, 0⟩) := by
          intro x M ex
          rw [Emb.put_ne]; exact ex
          intro q; subst q; rw [hnone] at ex; cases ex
        obtain ⟨rr, hle⟩ := S.rel.addAt r2 (Nat.lt_of_lt_of_le i3 S.next) hnone hg (ObjR.fresh0 r2.new (r1.mono hle0))
        have hd : isDefer o.op = false := by cases hq : o.op <;> first | rfl | (rw [hq] at hfl; cases hfl)
        refine ⟨e.put b ⟨w.heap.size, 0, 0⟩, w', putC tm o.dst (mkFloat k1 w.heap.size), ⟨by rw [hk]; exact rr, ?_, by rw [hk]; exact S.turn.addAt r2 i2 hnone, by rw [hk]; exact S.next, fun i b' hi hn => ?_⟩,
          fun fn ro rest k ds cs => .one (st_op_value ho hw hd r3)⟩
        · rw [hfold]
          refine putD_sound (S.tr.mono hle) hput ?_
          rw [← hstep.1]
          have hp := Emb.put_same e b ⟨w.heap.size, 0, 0⟩
          cases k1 with
          | none => simpa [mkFloat] using VR.pointer (f := e.put b ⟨w.heap.size, 0, 0⟩) b 0 _ hp
          | some n => simpa [mkFloat] using VR.slice (f := e.put b ⟨w.heap.size, 0, 0⟩) b 0 _ n n _ hp (Nat.le_refl _) (.inl rfl)
        · rw [Emb.put_ne]
          · exact hfree i b' hi hn
          · intro q
            subst q
            have := c.ids3 i j b' hi hid
            subst this
            exact hn (by simp)
      | none =>
        rw [hid] at hok hstep
        simp only at hok hstep
        obtain ⟨u, hop⟩ := hok
        have hm : isMem o.op = false := by
          unfold chainAt at hc
          rw [Bool.and_eq_false_iff] at hc
          rcases hc with hc | hc
          · unfold isMemAt at hc; rw [ho] at hc; exact hc
          · simp at hc
            obtain ⟨b, hb⟩ := c.ids1 j hc
            rw [hid] at hb; cases hb
        obtain ⟨u', hu'⟩ := aOp_pure hm hop
        cases hu'
        have hop' : opA P X run (a.foldl (wr ops l) t0) (kk l h0 h' (a.filter (chainAt ops fl))) o.op = some (s.v, kk l h0 h' (a.filter (chainAt ops fl))) := by
          unfold opA
          rw [aOp_congr huse, hop]
        obtain ⟨e', v', w', p1, p2, p3, p4⟩ := opA_sound hC hY ho hop' S.rel S.tr hw
        refine ⟨e', w', putC tm o.dst v', ⟨by rw [hk]; exact p1, ?_, by rw [hk]; exact S.turn.trans p2 hdom, by rw [hk]; exact S.next, fun i b hi hn => ?_⟩, fun fn ro rest k ds cs => p4 fn ro rest k ds cs⟩
        · rw [hfold]
          exact putD_sound (S.tr.mono p2.le) hput p3
        · cases he : e' b with
          | none => rfl
          | some L =>
            have hlt := (c.ids2 i b hi).2.2
            have := p2.old b L he (Nat.lt_of_lt_of_le hlt S.next)
            rw [hfree i b hi hn] at this; cases this

theorem Canon.finish [Glob] {B : Bs} {e0 : Emb} {w0 : World} {a : List Nat} (v : Valid ops a) (hl : a.length = ops.size) {e : Emb} {w : World} {tm : Array Value} (S : St B ops ids fl l t0 h h0 h' sz e0 w0 a e w tm) :
    Rel B e h' w ∧ Turn e0 h w0 e h' w ∧ TR e sz t' tm := by
  have hk : kk l h0 h' (a.filter (chainAt ops fl)) = h' := by
    rw [Chain.full v c.chainC hl, c.kRange _ (Nat.le_refl _)]
    simp [hpAt, List.getElem?_eq_none (show l.length ≤ ops.size by rw [c.len]; exact Nat.le_refl _)]
  have h1 := S.rel
  have h2 := S.turn
  rw [hk] at h1 h2
  refine ⟨h1, h2, S.tr.1, fun x u hx => S.tr.2 x u ?_⟩
  have q1 := foldl_wr (ops := ops) (l := l) (x := x) a t0 t0 rfl
  have q2 := foldl_wr (ops := ops) (l := l) (x := x) (List.range ops.size) t0 t0 rfl
  rw [q1, Chain.full v (c.chainW x) hl, ← q2, c.tRange _ (Nat.le_refl _)]
  simpa [tAt, List.getElem?_eq_none (show l.length ≤ ops.size by rw [c.len]; exact Nat.le_refl _)] using hx

theorem Canon.go [Glob] (hC : CallOk P (callA P X run)) (hY : YieldOk P (yieldA run)) {B : Bs} {e0 : Emb} {w0 : World} (hdom : ∀ b L, e0 b = some L → b < h.next) :
    ∀ (fuel tv : Nat) (listed : Array Bool) (a : List Nat), a.length + fuel = ops.size → listed.size = ops.size → (∀ i, i < ops.size → listed[i]? = some (decide (i ∈ a))) → Valid ops a →
    ∀ (e : Emb) (w : World) (tm : Array Value), St B ops ids fl l t0 h h0 h' sz e0 w0 a e w tm →
    ∃ e' w' tm', Rel B e' h' w' ∧ Turn e0 h w0 e' h' w' ∧ TR e' sz t' tm' ∧ ∀ (fn : FuncId) (ro : Option Nat) (k : List Item) (ds : List Deferred) (cs : List Frame),
      Steps P (lone (fr fn ro tm (.inRegion ops (Region.linearise.go .any ops fuel tv listed []) :: k) ds) cs w) (lone (fr fn ro tm' (.inRegion ops [] :: k) ds) cs w') := by
  intro fuel
  induction fuel with
  | zero =>
    intro tv listed a hl hsz hli v e w tm S
    obtain ⟨r1, r2, r3⟩ := c.finish v (by omega) S
    exact ⟨e, w, tm, r1, r2, r3, fun fn ro k ds cs => by simp only [Region.linearise.go, List.reverse_nil]; exact .refl _ _⟩
  | succ fuel ih =>
    intro tv listed a hl hsz hli v e w tm S
    simp only [Region.linearise.go]
    generalize hrs : (List.range ops.size).filter (fun i => !listed.getD i true && ((ops[i]?).map (·.after.all fun e => !Region.binds .any e || listed.getD e.on false)).getD false) = rs
    have hmem : ∀ i, i ∈ rs → ∃ o, ops[i]? = some o ∧ i ∉ a ∧ ∀ e ∈ o.after, Region.binds .any e = true → e.on ∈ a := by
      intro i hi
      rw [← hrs, List.mem_filter, List.mem_range] at hi
      obtain ⟨h1, h2⟩ := hi
      rw [Bool.and_eq_true] at h2
      have ho : ops[i]? = some ops[i] := Array.getElem?_eq_getElem h1
      rw [ho] at h2
      have h3 := h2.1
      rw [Array.getD_eq_getD_getElem?, hli i h1] at h3
      simp at h3
      refine ⟨_, ho, h3, fun ed he hb => ?_⟩
      have h4 := h2.2
      simp only [Option.map_some, Option.getD_some, Array.all_eq_true_iff_forall_mem] at h4
      have h5 := h4 ed he
      rw [hb] at h5
      simp only [Bool.not_true, Bool.false_or] at h5
      have hlt := c.edge ho he hb
      rw [Array.getD_eq_getD_getElem?, hli _ (by omega)] at h5
      simpa using h5
    have hne : rs ≠ [] := by
      have hex : ∃ i, i < ops.size ∧ ¬ i ∈ a := by
        apply Classical.byContradiction
        intro hno
        have hall : ∀ i, i < ops.size → i ∈ a := fun i hi => by
          apply Classical.byContradiction; intro hn; exact hno ⟨i, hi, hn⟩
        have hle := nodup_le a.length (List.range ops.size) List.nodup_range
        have hn := Valid.nodup _ a rfl v
        have hsub : (List.range ops.size).length ≤ a.length := by
          clear hle
          have : ∀ (p q : List Nat), p.Nodup → (∀ x ∈ p, x ∈ q) → p.length ≤ q.length := by
            intro p
            induction p with
            | nil => intro q _ _; simp
            | cons x p ihp =>
              intro q hp hq
              rw [List.nodup_cons] at hp
              have := ihp (q.erase x) hp.2 fun y hy => (List.mem_erase_of_ne (fun e => hp.1 (by rw [← e]; exact hy))).2 (hq y (by simp [hy]))
              have hx := hq x (by simp)
              rw [List.length_erase_of_mem hx] at this
              have : 0 < q.length := List.length_pos_of_mem hx
              simp only [List.length_cons]; omega
          exact this _ _ List.nodup_range fun x hx => hall x (List.mem_range.1 hx)
        simp at hsub
        omega
      obtain ⟨i, hi, hia, hleast⟩ := exists_least (fun i => i ∈ a) hex
      have ho : ops[i]? = some ops[i] := Array.getElem?_eq_getElem hi
      have : i ∈ rs := by
        rw [← hrs, List.mem_filter]
        refine ⟨List.mem_range.2 hi, ?_⟩
        rw [Bool.and_eq_true, Array.getD_eq_getD_getElem?, hli i hi, ho]
        refine ⟨by simp [hia], ?_⟩
        simp only [Option.map_some, Option.getD_some, Array.all_eq_true_iff_forall_mem]
        intro ed he
        cases hb : Region.binds .any ed with
        | false => rfl
        | true =>
          have hlt := c.edge ho he hb
          rw [Array.getD_eq_getD_getElem?, hli _ (by omega)]
          simp [hleast _ hlt]
      intro q
      rw [q] at this
      cases this
    have hpos : 0 < rs.length := List.length_pos_iff.2 hne
    have hlt : tv % rs.length < rs.length := Nat.mod_lt _ hpos
    rw [List.getElem?_eq_getElem hlt]
    simp only
    generalize hi : rs[tv % rs.length] = i
    have hir : i ∈ rs := by rw [← hi]; exact List.getElem_mem _
    obtain ⟨o, ho, hia, hed⟩ := hmem i hir
    have v' := v.snoc hia ho hed
    obtain ⟨e1, w1, tm1, S1, s1⟩ := c.one hC hY v' ho hdom S
    have hilt : i < ops.size := (Array.getElem?_eq_some_iff.1 ho).1
    obtain ⟨e2, w2, tm2, r1, r2, r3, s2⟩ := ih (tv / rs.length) (listed.setIfInBounds i true) (a ++ [i]) (by simp; omega) (by simp [hsz]) (fun k hk => by
      rw [Array.getElem?_setIfInBounds]
      by_cases hki : i = k
      · subst hki; simp [hsz, hk]
      · rw [if_neg hki, hli k hk]
        congr 1
        rw [decide_eq_decide]
        simp
        intro q; exact absurd q.symm hki) v' e1 w1 tm1 S1
    refine ⟨e2, w2, tm2, r1, r2, r3, fun fn ro k ds cs => ?_⟩
    rw [linearise_go_acc, List.reverse_singleton, List.singleton_append]
    exact (s1 fn ro _ k ds cs).trans (s2 fn ro k ds cs)
end
end
end Go.Proofs.Xx
