/-
  Operands, loads and stores: what the checked run does, the machine does.
-/
import Derived.Test.YtnopenpheaihmaaGreatDoorA4
import Derived.Laws.Entries
namespace Go.Proofs.Xx
open Go
set_option linter.unusedSimpArgs false
set_option linter.unusedVariables false

def evC (tm : Array Value) : Operand → Value
  | .tmp t => tm.getD t undef
  | .const v => v
  | .global g => .pointer (some ⟨g, 0, none⟩)
  | .func f => .func (.func f) #[] #[]

theorem evA_sound {f : Emb} {sz : Nat} {t : Tr Value} {tm : Array Value} (T : TR f sz t tm) {o : Operand} {v : Value} (h : evA t o = some v) : VR f v (evC tm o) := by
  cases o with
  | tmp k =>
    obtain ⟨v', h1, h2⟩ := T.2 k v h
    simp only [evC, Array.getD_eq_getD_getElem?, h1, Option.getD_some]
    exact h2
  | const u =>
    simp only [evA] at h
    split at h
    · cases h; exact VR.plain f _ ‹_›
    · cases h
  | global g => cases h
  | func g => cases h; exact .func g [] [] [] [] .nil .nil

theorem evAll_sound {f : Emb} {sz : Nat} {t : Tr Value} {tm : Array Value} (T : TR f sz t tm) : ∀ {os : List Operand} {vs : List Value}, evAll t os = some vs → VRs f vs (os.map (evC tm))
  | [], vs, h => by cases h; exact .nil
  | o :: r, vs, h => by
    simp only [evAll] at h
    split at h
    · cases h
      exact .cons _ _ _ _ (evA_sound T ‹_›) (evAll_sound T ‹_›)
    · cases h

section
variable {P : Program}

theorem run_isAgg {t : TypeId} {b : Bool} (h : isAggT P t = some b) (w : World) : (isAgg t).run P w = .ok b w := by
  unfold isAggT at h
  cases hu : P.underlying t with
  | none => rw [hu] at h; cases h
  | some d =>
    rw [hu] at h
    unfold isAgg
    rw [Sem.run_bind, run_underlying hu]
    cases d <;> (simp only at h; cases h; rfl)
theorem run_sizeT {t : TypeId} {n : Nat} (h : sizeT P t = some n) (w : World) : (sizeOf t).run P w = .ok n w := by
  unfold sizeT at h
  cases hi : P.info? t with
  | none => rw [hi] at h; cases h
  | some i => rw [hi] at h; cases h; simp [sizeOf, typeInfo, hi]
theorem run_zeroT {t : TypeId} {z : Value} (h : zeroT P t = some z) (w : World) : (zeroValue t).run P w = .ok z w := by
  unfold zeroT at h
  cases hi : P.info? t with
  | none => rw [hi] at h; cases h
  | some i => rw [hi] at h; simp only at h; simp [zeroValue, typeInfo, hi, h]
theorem run_bytesT {t : TypeId} {n : Nat} (h : bytesT P t = some n) (w : World) : ∃ i, P.info? t = some i ∧ i.bytes = n ∧ (typeInfo t).run P w = .ok i w := by
  unfold bytesT at h
  cases hi : P.info? t with
  | none => rw [hi] at h; cases h
  | some i => rw [hi] at h; cases h; exact ⟨i, rfl, rfl, by simp [typeInfo, hi]⟩
theorem zeroCellsT_eq {e : TypeId} {z : List Value} (h : zeroCellsT P e = some z) : ∃ i v, P.info? e = some i ∧ i.zero = some v ∧ v.cells.toList = z ∧ i.size = z.length ∧ z.length ≠ 0 ∧ plainV v = true := by
  unfold zeroCellsT at h
  cases hi : P.info? e with
  | none => rw [hi] at h; cases h
  | some i =>
    rw [hi] at h; simp only at h
    cases hz : i.zero with
    | none => rw [hz] at h; cases h
    | some v =>
      rw [hz] at h; simp only at h
      split at h
      · rename_i hc
        cases h
        simp only [Bool.and_eq_true, Nat.beq_eq, Bool.not_eq_true'] at hc
        have h2 : v.cells.toList.length = i.size := hc.1.2
        refine ⟨i, v, rfl, hz, rfl, h2.symm, fun q => ?_, hc.1.1⟩
        have := hc.2
        rw [← h2, q] at this
        cases this
      · cases h
theorem sliceElem_eq {t e : TypeId} (h : sliceElem P t = some e) : P.underlying t = some (.slice e) := by
  unfold sliceElem at h
  split at h
  · cases h; assumption
  · cases h

theorem cellsAt_eq {h : AH} {a : Value} {b o : Nat} {c : List Value} {e : TypeId} {s : Option Nat} {r : Bool} (hc : cellsAt h a = some (b, o, c, e, s, r)) : a = .pointer (some ⟨b, o, none⟩) ∧ h.get b = some (.cells c e s r) := by
  unfold cellsAt at hc
  split at hc
  · split at hc
    · cases hc; exact ⟨rfl, by assumption⟩
    · cases hc
  · cases hc
theorem takeAt_eq {c : List Value} {o n : Nat} {xs : List Value} (h : takeAt c o n = some xs) : xs = (c.drop o).take n ∧ xs.length = n ∧ (n = 0 ∨ o + n ≤ c.length) := by
  unfold takeAt at h
  simp only at h
  split at h
  · rename_i hb
    cases h
    have := Nat.eq_of_beq_eq_true hb
    refine ⟨rfl, this, ?_⟩
    rw [List.length_take, List.length_drop] at this
    omega
  · cases h

theorem add_none (b o n : Nat) : (⟨b, o, none⟩ : Addr).add n = ⟨b, o + n, none⟩ := by
  unfold Addr.add
  split
  · subst_vars; rfl
  · rfl

theorem VR.pointer_inv {f : Emb} {b o : Nat} {v : Value} (h : VR f (.pointer (some ⟨b, o, none⟩)) v) : ∃ L, f b = some L ∧ v = .pointer (some ⟨L.blk, L.sh + o, none⟩) := by
  cases h with
  | pointer b o L hb => exact ⟨L, hb, rfl⟩
theorem VR.slice_inv {f : Emb} {b o len cap : Nat} {v : Value} (h : VR f (.slice (some ⟨b, o, none⟩) len cap) v) :
    ∃ L a, f b = some L ∧ v = .slice (some a) len (cap + L.slack) ∧ len ≤ cap ∧ (a = ⟨L.blk, L.sh + o, none⟩ ∨ (cap = 0 ∧ L.slack = 0)) := by
  cases h with
  | slice b o a len cap L hb hl ho => exact ⟨L, a, hb, rfl, hl, ho⟩

/-- A stretch of a block's cells, in the world. -/
theorem ObjR.seg {f : Emb} {L : Loc} {w : World} {c : List Value} {e : TypeId} {s : Option Nat} {r : Bool} (h : ObjR f L w (.cells c e s r)) {o n : Nat} {xs : List Value} (ht : takeAt c o n = some xs) :
    ∃ xs', VRs f xs xs' ∧ xs'.length = n ∧ ∀ (j : Nat) v, xs'[j]? = some v → w.cell? ⟨L.blk, L.sh + o + j, none⟩ = some v := by
  obtain ⟨cc, fr, h1, h2, h3, -⟩ := h
  obtain ⟨rfl, hn, hb⟩ := takeAt_eq ht
  refine ⟨(cc.toList.drop (L.sh + o)).take n, VRs.of_get ?_ fun i v hi => ?_, ?_, fun j v hj => ?_⟩
  · rw [hn, List.length_take, List.length_drop, Array.length_toList]
    rcases hb with hb | hb <;> omega
  · rw [List.getElem?_take] at hi
    split at hi
    · rename_i hlt
      rw [List.getElem?_drop] at hi
      obtain ⟨v', q1, q2⟩ := h3 (o + i) v hi
      refine ⟨v', ?_, q2⟩
      rw [List.getElem?_take, if_pos hlt, List.getElem?_drop, Array.getElem?_toList, Nat.add_assoc]
      exact q1
    · cases hi
  · rw [List.length_take, List.length_drop, Array.length_toList]
    rcases hb with hb | hb <;> omega
  · rw [List.getElem?_take] at hj
    split at hj
    · rw [List.getElem?_drop, Array.getElem?_toList] at hj
      simp only [World.cell?, h1]
      simpa using hj
    · cases hj
theorem ObjR.cell {f : Emb} {L : Loc} {w : World} {c : List Value} {e : TypeId} {s : Option Nat} {r : Bool} (h : ObjR f L w (.cells c e s r)) {o : Nat} {v : Value} (ho : c[o]? = some v) :
    ∃ v', VR f v v' ∧ w.cell? ⟨L.blk, L.sh + o, none⟩ = some v' := by
  obtain ⟨cc, fr, h1, h2, h3, -⟩ := h
  obtain ⟨v', q1, q2⟩ := h3 o v ho
  exact ⟨v', q2, by simp only [World.cell?, h1]; simpa using q1⟩

theorem run_loadCells_seg {w : World} {b o n : Nat} {xs : List Value} (hl : xs.length = n) (h : ∀ (j : Nat) v, xs[j]? = some v → w.cell? ⟨b, o + j, none⟩ = some v) :
    (loadCells ⟨b, o, none⟩ n).run P w = .ok xs.toArray w := by
  subst hl
  exact run_loadCells_list w _ xs fun j v e => by rw [add_none]; exact h j v e

theorem aLoad_sound [Glob] {B : Bs} {f : Emb} {h : AH} {w : World} (r : Rel B f h w) {t : TypeId} {a a' v : Value} (hl : aLoad P t a h = some v) (ha : VR f a a') :
    ∃ v', (Instr.loadAt t a').run P w = .ok v' w ∧ VR f v v' := by
  unfold aLoad at hl
  split at hl
  · rename_i b o c e s ro hc
    obtain ⟨rfl, hg⟩ := cellsAt_eq hc
    obtain ⟨L, hL, rfl⟩ := ha.pointer_inv
    have hO := r.obj b L _ hL hg
    split at hl
    · rename_i hagg
      split at hl
      · rename_i n hn
        split at hl
        · rename_i xs hxs
          cases hl
          obtain ⟨xs', q1, q2, q3⟩ := hO.seg hxs
          refine ⟨.agg xs'.toArray, ?_, .agg _ _ q1⟩
          simp only [Instr.loadAt, Instr.sureAddr, Sem.run_bind, Sem.run_pure, Result.andThen_ok, loadVar, run_isAgg hagg, if_true, run_sizeT hn, run_loadCells_seg q2 q3]
        · cases hl
      · cases hl
    · rename_i hagg
      obtain ⟨v', q1, q2⟩ := hO.cell hl
      refine ⟨v', ?_, q1⟩
      simp only [Instr.loadAt, Instr.sureAddr, Sem.run_bind, Sem.run_pure, Result.andThen_ok, loadVar, run_isAgg hagg, Bool.false_eq_true, if_false, run_load, q2]
    · cases hl
  · cases hl

/-! ### stores -/
theorem splice_get (c : List Value) (o : Nat) (xs : List Value) (h : o + xs.length ≤ c.length) (i : Nat) :
    (splice c o xs)[i]? = if i < o then c[i]? else if i < o + xs.length then xs[i - o]? else c[i]? := by
  unfold splice
  rw [List.getElem?_append, List.length_take]
  by_cases h1 : i < o
  · rw [if_pos (by omega), if_pos h1, List.getElem?_take, if_pos h1]
  · rw [if_neg (by omega), if_neg h1, List.getElem?_append]
    have h2 : min o c.length = o := by omega
    rw [h2]
    by_cases h3 : i < o + xs.length
    · rw [if_pos (by omega), if_pos h3]
    · rw [if_neg (by omega), if_neg h3, List.getElem?_drop]
      congr 1; omega
theorem splice_length (c : List Value) (o : Nat) (xs : List Value) (h : o + xs.length ≤ c.length) : (splice c o xs).length = c.length := by
  unfold splice
  simp only [List.length_append, List.length_take, List.length_drop]
  omega
theorem VRs.splice {f : Emb} {c c' xs xs' : List Value} (h : VRs f c c') (hx : VRs f xs xs') (o : Nat) : VRs f (Xx.splice c o xs) (Xx.splice c' o xs') := by
  unfold Xx.splice
  rw [hx.length]
  exact (h.take o).append (hx.append (h.drop _))

theorem one?_eq (v : Value) : one? v = v.oneCell' := by cases v <;> rfl

theorem run_storeCells_seg {b o : Nat} {e : TypeId} {fr : Nat × Nat} : ∀ (vs : List Value) (i : Nat) (cc : Array Value) (w : World), w.heap[b]? = some (.cells cc e fr) →
    (vs.all one? = true) → o + i + vs.length ≤ cc.size → (∀ j, ¬ (fr.1 ≤ j ∧ j < fr.2)) →
    ∃ w', (storeCells ⟨b, o, none⟩ vs i).run P w = .ok () w' ∧ Wrote w w' b (.cells (Xx.splice cc.toList (o + i) vs).toArray e fr)
  | [], i, cc, w, hb, _, hl, _ => by
    refine ⟨w, rfl, ?_⟩
    have h1 : Xx.splice cc.toList (o + i) [] = cc.toList := by unfold Xx.splice; simp
    rw [h1]
    exact Wrote.same (by simpa using hb)
  | v :: rest, i, cc, w, hb, h1, hl, hfr => by
    simp only [List.all_cons, Bool.and_eq_true] at h1
    simp only [List.length_cons] at hl
    have hi : o + i < cc.size := by omega
    have hcell : w.cell? ⟨b, o + i, none⟩ = some cc[o + i] := by simp [World.cell?, hb, hi]
    have hfro : w.frozen? ⟨b, o + i, none⟩ = false := by
      simp only [World.frozen?, hb]
      have := hfr (o + i)
      cases hq : (decide (fr.1 ≤ o + i) && decide (o + i < fr.2)) with
      | false => rfl
      | true => simp at hq; exact absurd hq this
    have hst : (store ((⟨b, o, none⟩ : Addr).add i) v).run P w = .ok () (w.setRow b (cc.setIfInBounds (o + i) v)) := by
      rw [add_none, run_store P w _ v _ (by rw [← one?_eq]; exact h1.1), hcell]
      simp [hfro, setCell_eq_setRow w b (o + i) cc e fr v hb]
    have hw1 : Wrote w (w.setRow b (cc.setIfInBounds (o + i) v)) b (.cells (cc.setIfInBounds (o + i) v) e fr) :=
      ⟨setRow_heap w b cc _ e fr hb, fun j hj => setRow_other w b j _ hj, by simp, rfl, rfl, rfl⟩
    obtain ⟨w2, q1, q2⟩ := run_storeCells_seg (o := o) rest (i + 1) (cc.setIfInBounds (o + i) v) _ hw1.here h1.2 (by simp; omega) hfr
    refine ⟨w2, ?_, ?_⟩
    · simp only [storeCells, Sem.run_bind, hst, Result.andThen_ok, q1]
    · have := hw1.trans q2
      have heq : Xx.splice (cc.setIfInBounds (o + i) v).toList (o + (i + 1)) rest = Xx.splice cc.toList (o + i) (v :: rest) := by
       apply List.ext_getElem?
       intro k
       rw [splice_get _ _ _ (by simp; omega), splice_get _ _ _ (by simp; omega)]
       simp only [Array.toList_setIfInBounds, List.length_cons]
       by_cases k1 : k < o + i
       · rw [if_pos (by omega), if_pos k1, List.getElem?_set_ne (by omega)]
       · rw [if_neg k1]
         by_cases k2 : k = o + i
         · subst k2
           rw [if_pos (by omega), if_pos (by omega), List.getElem?_set_self (by simpa using hi)]; simp
         · rw [if_neg (by omega)]
           by_cases k3 : k < o + i + (rest.length + 1)
           · rw [if_pos (by omega), if_pos k3]
             rw [show k - (o + i) = (k - (o + (i + 1))) + 1 by omega]; simp
           · rw [if_neg (by omega), if_neg k3, List.getElem?_set_ne (by omega)]
      rw [heq] at this
      exact this

theorem putCells_sound [Glob] {B : Bs} {f : Emb} {h h' : AH} {w : World} (r : Rel B f h w) {b o : Nat} {c : List Value} {e : TypeId} {s : Option Nat} {xs xs' : List Value} {L : Loc}
    (hL : f b = some L) (hg : h.get b = some (.cells c e s false)) (hp : putCells h b o c e s xs = some h') (hx : VRs f xs xs') :
    ∃ w', (storeCells ⟨L.blk, L.sh + o, none⟩ xs').run P w = .ok () w' ∧ Rel B f h' w' ∧ Turn f h w f h' w' := by
  unfold putCells at hp
  split at hp
  · rename_i hc
    cases hp
    simp only [Bool.and_eq_true] at hc
    have hle := Nat.le_of_ble_eq_true hc.2
    have hO := r.obj b L _ hL hg
    obtain ⟨cc, fr, h1, h2, h3, h4, h5, h6⟩ := hO
    obtain ⟨w', q1, q2⟩ := run_storeCells_seg (P := P) (o := L.sh + o) xs' 0 cc w h1 (by rw [hx.one?]; exact hc.1) (by rw [hx.length]; omega) (h6 rfl)
    refine ⟨w', q1, ?_⟩
    refine r.put hL hg rfl q2 ?_ (fun _ => rfl)
    rw [Nat.add_zero] at q2
    have hlen : L.sh + o + xs'.length ≤ cc.toList.length := by
      have e1 : cc.toList.length = cc.size := Array.length_toList
      have e2 := hx.length
      omega
    refine ⟨_, fr, q2.here, ?_, fun i v hi => ?_, fun hs => ?_, fun k hk => ?_, h6⟩
    · simp only [List.size_toArray, splice_length _ _ _ hlen, Array.length_toList, splice_length _ _ _ hle]; exact h2
    · rw [splice_get _ _ _ hle] at hi
      simp only [List.getElem?_toArray, splice_get _ _ _ hlen, hx.length]
      by_cases i1 : i < o
      · rw [if_pos i1] at hi
        rw [if_pos (by omega), Array.getElem?_toList]; exact h3 i v hi
      · rw [if_neg i1] at hi
        by_cases i2 : i < o + xs.length
        · rw [if_pos i2] at hi
          rw [if_neg (by omega), if_pos (by omega)]
          obtain ⟨v', p1, p2⟩ := hx.get _ _ hi
          exact ⟨v', by rw [show L.sh + i - (L.sh + o) = i - o by omega]; exact p1, p2⟩
        · rw [if_neg i2] at hi
          rw [if_neg (by omega), if_neg (by omega), Array.getElem?_toList]; exact h3 i v hi
    · obtain ⟨p1, p2⟩ := h4 hs
      refine ⟨p1, fun q => ?_⟩
      obtain ⟨p3, p4⟩ := p2 rfl
      refine ⟨p3, ?_⟩
      simp only [List.size_toArray, splice_length _ _ _ hlen, Array.length_toList, splice_length _ _ _ hle]; exact p4
    · simp only [List.size_toArray, splice_length _ _ _ hlen, Array.length_toList, splice_length _ _ _ hle]; exact h5 k hk
  · cases hp

theorem aStore_sound [Glob] {B : Bs} {f : Emb} {h h' : AH} {w : World} (r : Rel B f h w) {t : TypeId} {a a' v v' : Value} (hl : aStore P t a v h = some h') (ha : VR f a a') (hv : VR f v v') :
    ∃ w', (Instr.storeAt t a' v').run P w = .ok () w' ∧ Rel B f h' w' ∧ Turn f h w f h' w' := by
  unfold aStore at hl
  split at hl
  · rename_i b o c e s hc
    obtain ⟨rfl, hg⟩ := cellsAt_eq hc
    obtain ⟨L, hL, rfl⟩ := ha.pointer_inv
    split at hl
    · rename_i n hn
      split at hl
      · rename_i hb
        obtain ⟨w', q1, q2⟩ := putCells_sound (P := P) r hL hg hl hv.cells
        refine ⟨w', ?_, q2⟩
        have hsz : v'.cells.size = n := by
          have h1 := hv.cells.length
          have h2 := Nat.eq_of_beq_eq_true hb
          rw [Array.length_toList] at h1
          omega
        simp only [Instr.storeAt, Instr.sureAddr, Sem.run_bind, Sem.run_pure, Result.andThen_ok, storeVar, run_sizeT hn, ne_eq, hsz, not_true, if_false, q1]
      · cases hl
    · cases hl
  · cases hl

/-! ### new blocks -/
theorem ObjR.fresh {f : Emb} {w w' : World} {c c' : List Value} {e : TypeId} (hp : Pushed w w' (.cells c'.toArray e)) (hc : VRs f c c') (ro : Bool) : ObjR f ⟨w.heap.size, 0, 0⟩ w' (.cells c e none ro) := by
  refine ⟨c'.toArray, (0, 0), hp.new, by simp [hc.length], fun i v hi => ?_, fun _ => ⟨rfl, fun _ => ⟨rfl, by simp [hc.length]⟩⟩, (fun k hk => by cases hk), (fun _ i q => by simp at q)⟩
  obtain ⟨v', q1, q2⟩ := hc.get i v hi
  exact ⟨v', by simpa using q1, q2⟩

theorem Rel.new [Glob] {B : Bs} {f : Emb} {h : AH} {w w' : World} (r : Rel B f h w) {c c' : List Value} {e : TypeId} (hc : VRs f c c') (hp : Pushed w w' (.cells c'.toArray e)) :
    Rel B (f.put h.next ⟨w.heap.size, 0, 0⟩) (h.add (.cells c e none false)) w' ∧ Turn f h w (f.put h.next ⟨w.heap.size, 0, 0⟩) (h.add (.cells c e none false)) w' :=
  r.add hp (ObjR.fresh hp (hc.mono (r.le_put _)) false)

theorem pushed_newObj (w : World) (o : Obj) : Pushed w { w with heap := w.heap.push o } o := ⟨rfl, rfl, rfl, rfl⟩

theorem newVar_sound [Glob] {B : Bs} {f : Emb} {h : AH} {w : World} (r : Rel B f h w) (e : TypeId) {v v' : Value} (hv : VR f v v') :
    ∃ f' w', (newVar e v').run P w = .ok ⟨w.heap.size, 0, none⟩ w' ∧ Rel B f' (aNew e v.cells.toList h).2 w' ∧ Turn f h w f' (aNew e v.cells.toList h).2 w' ∧ VR f' (aNew e v.cells.toList h).1 (.pointer (some ⟨w.heap.size, 0, none⟩)) := by
  have hp := pushed_newObj w (.cells v'.cells.toList.toArray e)
  obtain ⟨q1, q2⟩ := r.new hv.cells hp
  refine ⟨_, _, ?_, q1, q2, ?_⟩
  · simp only [newVar, newRow, Sem.run_bind, run_newObj, Result.andThen_ok, Array.toArray_toList]; rfl
  · exact VR.pointer h.next 0 ⟨w.heap.size, 0, 0⟩ (Emb.put_same _ _ _)
end
end Go.Proofs.Xx
