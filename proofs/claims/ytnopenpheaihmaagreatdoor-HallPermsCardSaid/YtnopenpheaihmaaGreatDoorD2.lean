/-
  The arguments of a call, as read-only blocks of the abstract memory.
-/
import Derived.Test.YtnopenpheaihmaaGreatDoorB8
import Derived.Test.YtnopenpheaihmaaGreatDoorD0
import Derived.ChangeArms
import Derived.OpenShut
namespace Go.Proofs.Xx
open Go Go.RowKit
set_option linter.unusedSimpArgs false
set_option linter.unusedVariables false

section
variable {P : Program}

/-- A window of a block, to be read alone. -/
theorem Rel.addRo [Glob] {B : Bs} {e : Emb} {h : AH} {w : World} (r : Rel B e h w) {k sh : Nat} {cc : Array Value} {el : TypeId} {fr : Nat × Nat} {c : List Value} (hkB : k < B.lo) (hk : w.heap[k]? = some (.cells cc el fr)) (hsz : sh + c.length ≤ cc.size)
    (hc : ∀ i v, c[i]? = some v → ∃ v', cc[sh + i]? = some v' ∧ VR (e.put h.next ⟨k, sh, 0⟩) v v') :
    Rel B (e.put h.next ⟨k, sh, 0⟩) (h.add (.cells c el none true)) w ∧ e.le (e.put h.next ⟨k, sh, 0⟩) := by
  have hle := r.le_put ⟨k, sh, 0⟩
  have hlt : k < w.heap.size := (Array.getElem?_eq_some_iff.1 hk).1
  refine ⟨⟨fun b M q => ?_, fun b hb => ?_, fun b M q => ?_, fun b M p q1 q2 => ?_, fun b M p b' M' p' e1 e2 e3 e4 e5 e6 e7 => ?_, fun b M p q1 q2 q3 => ?_, r.base, r.keep, r.glob⟩, hle⟩
  · by_cases hb : b = h.next
    · subst hb; exact Nat.lt_succ_self _
    · rw [Emb.put_ne _ _ hb] at q; exact Nat.lt_succ_of_lt (r.dom b M q)
  · have hb' : h.next + 1 ≤ b := hb
    rw [AH.get_add, if_neg (by omega)]; exact r.wf b (by omega)
  · by_cases hb : b = h.next
    · subst hb; rw [Emb.put_same] at q; cases q; exact hlt
    · rw [Emb.put_ne _ _ hb] at q; exact r.rng b M q
  · rw [AH.get_add] at q2
    by_cases hb : b = h.next
    · subst hb; rw [Emb.put_same] at q1; cases q1; rw [if_pos rfl] at q2; cases q2
      exact ⟨cc, fr, hk, hsz, hc, (fun _ => ⟨rfl, fun q => by cases q⟩), (fun _ q => by cases q), (fun q => by cases q)⟩
    · rw [Emb.put_ne _ _ hb] at q1; rw [if_neg hb] at q2
      exact (r.obj b M p q1 q2).mono hle
  · rw [AH.get_add] at e2 e4
    by_cases hb' : b' = h.next
    · subst hb'; rw [if_pos rfl] at e4; cases e4; cases e7
    · rw [Emb.put_ne _ _ hb'] at e3; rw [if_neg hb'] at e4
      by_cases hb : b = h.next
      · subst hb
        rw [Emb.put_same] at e1; cases e1
        rw [if_pos rfl] at e2; cases e2
        have := r.own b' M' p' e3 e4 e7
        simp only at e5; omega
      · rw [Emb.put_ne _ _ hb] at e1; rw [if_neg hb] at e2
        exact r.inj b M p b' M' p' e1 e2 e3 e4 e5 e6 e7
  · rw [AH.get_add] at q2
    by_cases hb : b = h.next
    · subst hb; rw [if_pos rfl] at q2; cases q2; cases q3
    · rw [Emb.put_ne _ _ hb] at q1; rw [if_neg hb] at q2
      exact r.own b M p q1 q2 q3


/-- The world's own blocks stay as they are. -/
def Bs.of (w : World) : Bs := ⟨w.heap.size, w.heap⟩
def RoH (h : AH) : Prop := ∀ b o, h.get b = some o → writable o = false
/-- h is made of windows of w's blocks, to be read alone. -/
structure WRel [Glob] (w : World) (e : Emb) (h : AH) : Prop where
  rel : Rel (Bs.of w) e h w
  ro : RoH h
theorem WRel.empty [Glob] {w : World} (hg : Glob.ok w.heap) : WRel w (fun _ => none) ⟨.e, 0, 0⟩ :=
  ⟨⟨fun b L q => (by cases q), fun b _ => Tr.get_e b, fun b L q => (by cases q), fun b L o q => (by cases q), fun b L o b' L' o' q => (by cases q), fun b L o q => (by cases q), Nat.le_refl _, fun _ _ => rfl, hg⟩,
    fun b o q => by rw [show (⟨.e, 0, 0⟩ : AH).get b = none from Tr.get_e b] at q; cases q⟩
theorem WRel.wfH [Glob] {w : World} {e : Emb} {h : AH} (r : WRel w e h) : WfH h := r.rel.wf

theorem WRel.addRo [Glob] {e : Emb} {h : AH} {w : World} (r : WRel w e h) {k sh : Nat} {cc : Array Value} {el : TypeId} {fr : Nat × Nat} {c : List Value} (hk : w.heap[k]? = some (.cells cc el fr)) (hsz : sh + c.length ≤ cc.size)
    (hc : ∀ i v, c[i]? = some v → ∃ v', cc[sh + i]? = some v' ∧ VR e v v') :
    ∃ e', WRel w e' (h.add (.cells c el none true)) ∧ e.le e' ∧ Ext h (h.add (.cells c el none true)) ∧ e' h.next = some ⟨k, sh, 0⟩ := by
  have hle := r.rel.le_put ⟨k, sh, 0⟩
  obtain ⟨r1, r2⟩ := Rel.addRo (sh := sh) (c := c) r.rel (show k < w.heap.size from (Array.getElem?_eq_some_iff.1 hk).1) hk hsz (fun i v hi => by obtain ⟨v', h1, h2⟩ := hc i v hi; exact ⟨v', h1, h2.mono hle⟩)
  refine ⟨_, ⟨r1, fun b o q => ?_⟩, r2, (Ext.refl r.wfH).add _, Emb.put_same _ _ _⟩
  rw [AH.get_add] at q
  split at q
  · cases q; rfl
  · exact r.ro b o q

/-- The cells cs, of type t, read well in h. -/
def AR (P : Program) (h : AH) : Nat → TypeId → List Value → Prop
  | 0, _, _ => False
  | f + 1, t, cs =>
    match P.underlying t, cs with
    | some .bool, [.bool _] => True
    | some (.int k), [.int k' n] => k' = k ∧ (Lit.int k n).wf = true
    | some .string, [.string s] => s.size ≤ maxLen
    | some (.slice e), [v] => ∃ n c, Rd h v (P.cellsOf e) n c ∧ n ≤ maxLen ∧ ∀ i, i < n → AR P h f e ((c.drop (i * P.cellsOf e)).take (P.cellsOf e))
    | some (.struct fs), cs => cs.length = P.cellsOf t ∧ ∀ fd ∈ fs.toList, AR P h f fd.type ((cs.drop fd.offset).take (P.cellsOf fd.type))
    | some (.array n e), cs => cs.length = P.cellsOf t ∧ ∀ i, i < n → AR P h f e ((cs.drop (i * P.cellsOf e)).take (P.cellsOf e))
    | _, _ => False
theorem AR.ext {h h' : AH} (w : WfH h) (x : Ext h h') : ∀ (f : Nat) (t : TypeId) (cs : List Value), AR P h f t cs → AR P h' f t cs
  | 0, _, _, q => q
  | f + 1, t, cs, q => by
    unfold AR at q ⊢
    split at q
    · exact q
    · exact q
    · exact q
    · obtain ⟨n, c, h1, h2, h3⟩ := q
      exact ⟨n, c, h1.ext w x, h2, fun i hi => AR.ext w x f _ _ (h3 i hi)⟩
    · exact ⟨q.1, fun fd hf => AR.ext w x f _ _ (q.2 fd hf)⟩
    · exact ⟨q.1, fun i hi => AR.ext w x f _ _ (q.2 i hi)⟩
    · exact q


section
variable {H : Type} {enc : TypeId × Value → H}
theorem tiles_le : ∀ (fs : List Field) (a n : Nat), tiles P fs a n = true → a ≤ n
  | [], a, n, h => by have := Nat.eq_of_beq_eq_true h; omega
  | f :: r, a, n, h => by
    simp only [tiles, Bool.and_eq_true] at h
    have := tiles_le r _ n h.2
    omega
/-- cells of type t that read in w may be taken into h. -/
def Takes [Glob] (enc : TypeId × Value → H) (P : Program) (w : World) (base : Nat) (sp : Nat → Bool) (held : Bool) (n : Nat) (t : TypeId) (cs : List Value) : Prop := ∀ e h, WRel w e h → ∃ e' h' r, WRel w e' h' ∧ e.le e' ∧ Ext h h' ∧ VRs e' r cs ∧ AR P h' n t r

theorem embedFields [Glob] {w : World} {base n : Nat} {sp : Nat → Bool} {held : Bool} {cs : List Value} : ∀ (fs : List Field) (a : Nat), tiles P fs a cs.length = true →
    (∀ fd ∈ fs, Takes enc P w base sp held n fd.type ((cs.drop fd.offset).take (P.cellsOf fd.type))) → ∀ e h, WRel w e h →
    ∃ e' h' r, WRel w e' h' ∧ e.le e' ∧ Ext h h' ∧ VRs e' r (cs.drop a) ∧ ∀ fd ∈ fs, a ≤ fd.offset ∧ AR P h' n fd.type ((r.drop (fd.offset - a)).take (P.cellsOf fd.type))
  | [], a, ht, _, e, h, r => by
    have := Nat.eq_of_beq_eq_true ht
    exact ⟨e, h, [], r, e.le_refl, Ext.refl r.wfH, by rw [this, List.drop_length]; exact .nil, fun fd q => by cases q⟩
  | f :: fs, a, ht, hk, e, h, r => by
    simp only [tiles, Bool.and_eq_true] at ht
    have hoff := Nat.eq_of_beq_eq_true ht.1
    have hle := tiles_le fs _ _ ht.2
    obtain ⟨e1, h1, c1, r1, l1, x1, v1, a1⟩ := hk f (by simp) e h r
    obtain ⟨e2, h2, c2, r2, l2, x2, v2, a2⟩ := embedFields fs _ ht.2 (fun fd q => hk fd (by simp [q])) e1 h1 r1
    have hc1 : c1.length = P.cellsOf f.type := by
      have := v1.length
      rw [List.length_take, List.length_drop, hoff] at this
      omega
    refine ⟨e2, h2, c1 ++ c2, r2, Emb.le_trans l1 l2, x1.trans x2, ?_, ?_⟩
    · have := (v1.mono l2).append v2
      rw [hoff, ← List.drop_drop, List.take_append_drop] at this
      exact this
    · intro fd q
      rcases List.mem_cons.1 q with rfl | q
      · refine ⟨by omega, ?_⟩
        rw [hoff, Nat.sub_self, List.drop_zero, List.take_append_of_le_length (by omega), List.take_of_length_le (by omega)]
        exact a1.ext r1.wfH x2 _ _ _
      · obtain ⟨q1, q2⟩ := a2 fd q
        refine ⟨by omega, ?_⟩
        rw [show fd.offset - a = c1.length + (fd.offset - (a + P.cellsOf f.type)) by omega, ← List.drop_drop, List.drop_left]
        exact q2
theorem embedRow [Glob] {w : World} {base n : Nat} {sp : Nat → Bool} {held : Bool} {ty : TypeId} {z : Nat} {cs : List Value} : ∀ (k : Nat), k * z ≤ cs.length →
    (∀ i, i < k → Takes enc P w base sp held n ty ((cs.drop (i * z)).take z)) → ∀ e h, WRel w e h →
    ∃ e' h' r, WRel w e' h' ∧ e.le e' ∧ Ext h h' ∧ VRs e' r (cs.take (k * z)) ∧ ∀ i, i < k → AR P h' n ty ((r.drop (i * z)).take z)
  | 0, _, _, e, h, r => ⟨e, h, [], r, e.le_refl, Ext.refl r.wfH, by simp; exact .nil, fun i q => by omega⟩
  | k + 1, hk, ht, e, h, r => by
    rw [Nat.add_mul, Nat.one_mul] at hk
    obtain ⟨e1, h1, c1, r1, l1, x1, v1, a1⟩ := embedRow k (by omega) (fun i q => ht i (by omega)) e h r
    obtain ⟨e2, h2, c2, r2, l2, x2, v2, a2⟩ := ht k (by omega) e1 h1 r1
    have hc1 : c1.length = k * z := by
      have := v1.length
      rw [List.length_take] at this; omega
    have hc2 : c2.length = z := by
      have := v2.length
      rw [List.length_take, List.length_drop] at this; omega
    refine ⟨e2, h2, c1 ++ c2, r2, Emb.le_trans l1 l2, x1.trans x2, ?_, fun i hi => ?_⟩
    · have := (v1.mono l2).append v2
      rw [Nat.add_mul, Nat.one_mul, List.take_add]
      exact this
    · by_cases hik : i < k
      · have : (i + 1) * z ≤ k * z := Nat.mul_le_mul_right z hik
        rw [Nat.add_mul, Nat.one_mul] at this
        rw [List.drop_append_of_le_length (by omega), List.take_append_of_le_length (by rw [List.length_drop]; omega)]
        exact (a1 i hik).ext r1.wfH x2 _ _ _
      · obtain rfl : i = k := by omega
        rw [← hc1, List.drop_left, List.take_of_length_le (by omega)]
        exact a2

theorem embed [Glob] {w : World} {base : Nat} {sp : Nat → Bool} (hsp : ∀ b, sp b = true) {held : Bool} (hw : ∃ (k : Nat) (cc : Array Value) (el : TypeId) (fr : Nat × Nat), w.heap[k]? = some (.cells cc el fr)) : ∀ (n m : Nat) (t : TypeId) (cs : List Value) (x : DataW H × List MemPlace), plainT P m t = true →
    DataW.trod enc P w base sp held n t cs = some x → Takes enc P w base sp held n t cs
  | 0, _, _, _, _, _, h => by simp [DataW.trod] at h
  | _ + 1, 0, _, _, _, h, _ => by cases h
  | n + 1, m + 1, t, cs, x, hp, h => by
    intro e h0 r
    unfold plainT at hp
    cases hu : P.underlying t with
    | none => rw [hu] at hp; cases hp
    | some u =>
      rw [hu] at hp
      cases u with
      | bool =>
        obtain ⟨b, rfl, -⟩ := DataW.trod_bool hu h
        exact ⟨e, h0, [.bool b], r, e.le_refl, Ext.refl r.wfH, .one (.bool b), by unfold AR; rw [hu]; trivial⟩
      | int k =>
        obtain ⟨b, rfl, -, hwf⟩ := DataW.trod_int hu h
        exact ⟨e, h0, [.int k b], r, e.le_refl, Ext.refl r.wfH, .one (.int k b), by unfold AR; rw [hu]; exact ⟨rfl, hwf⟩⟩
      | string =>
        obtain ⟨s, rfl, -, hs⟩ := DataW.trod_string hu h
        exact ⟨e, h0, [.string s], r, e.le_refl, Ext.refl r.wfH, .one (.string s), by unfold AR; rw [hu]; exact hs⟩
      | struct fs =>
        simp only [Bool.and_eq_true, List.all_eq_true] at hp
        obtain ⟨xs, n', hn, -, hlen, hxl, hf⟩ := DataW.trod_struct hu h
        obtain rfl : n' = n := by omega
        obtain ⟨e1, h1, c1, r1, l1, x1, v1, a1⟩ := embedFields fs.toList 0 (by rw [hlen]; exact hp.2) (fun fd hfd => by
          obtain ⟨i, hi, rfl⟩ := List.getElem_of_mem hfd
          have hg : fs[i]? = some fs.toList[i] := by rw [← Array.getElem?_toList]; exact List.getElem?_eq_getElem hi
          have h2 := hf i _ hg
          have hix : i < xs.length := by rw [hxl]; simpa using hi
          rw [List.getElem?_eq_getElem hix] at h2
          exact embed hsp hw n' m _ _ _ (hp.1 _ (List.getElem_mem hi)) h2) e h0 r
        refine ⟨e1, h1, c1, r1, l1, x1, by simpa using v1, ?_⟩
        unfold AR; rw [hu]
        have hl1 := v1.length
        simp only [List.drop_zero] at hl1
        exact ⟨by omega, fun fd hfd => by have := (a1 fd hfd).2; simpa using this⟩
      | array k el =>
        simp only [Bool.and_eq_true] at hp
        have hsz := Nat.eq_of_beq_eq_true hp.2
        obtain ⟨xs, n', hn, -, hlen, hxl, hf⟩ := DataW.trod_array hu h
        obtain rfl : n' = n := by omega
        obtain ⟨e1, h1, c1, r1, l1, x1, v1, a1⟩ := embedRow (z := P.cellsOf el) (ty := el) (cs := cs) k (by omega) (fun i hi => by
          have h2 := hf i hi
          have hix : i < xs.length := by omega
          rw [List.getElem?_eq_getElem hix] at h2
          exact embed hsp hw n' m _ _ _ hp.1 h2) e h0 r
        rw [List.take_of_length_le (by omega)] at v1
        refine ⟨e1, h1, c1, r1, l1, x1, v1, ?_⟩
        unfold AR; rw [hu]
        exact ⟨by have := v1.length; omega, a1⟩
      | slice el =>
        simp only [Bool.and_eq_true, Bool.not_eq_true'] at hp
        have hz : P.cellsOf el ≠ 0 := fun q => by have := hp.2.2; rw [q] at this; simp at this
        rcases DataW.trod_slice hu h with ⟨rfl, -⟩ | ⟨a, len, cap, elems, rest, n', hn, rfl, -, hb, hl, hm, hlen, hel, hrest, -⟩
        · refine ⟨e, h0, [.slice none 0 0], r, e.le_refl, Ext.refl r.wfH, .one .nilSlice, ?_⟩
          unfold AR; rw [hu]
          exact ⟨0, [], Rd.none_ _ _, Nat.zero_le _, fun i hi => by omega⟩
        · obtain rfl : n' = n := by omega
          obtain ⟨hr1, hr2⟩ := hrest (hsp _)
          rcases Nat.eq_zero_or_pos cap with hc0 | hc0
          · subst hc0
            obtain rfl : len = 0 := by omega
            obtain ⟨k, cc, el0, fr, hk⟩ := hw
            obtain ⟨e1, r1, l1, x1, q1⟩ := r.addRo (sh := 0) (c := []) hk (by simp) (fun i v hi => by simp at hi)
            refine ⟨e1, _, [.slice (some ⟨h0.next, 0, none⟩) 0 0], r1, l1, x1, .one (.slice h0.next 0 a 0 0 ⟨k, 0, 0⟩ q1 (Nat.le_refl _) (.inr ⟨rfl, rfl⟩)), ?_⟩
            unfold AR; rw [hu]
            exact ⟨0, [], .inr ⟨h0.next, 0, 0, [], el0, none, true, rfl, by rw [AH.get_add, if_pos rfl], by simp [takeAt]⟩, Nat.zero_le _, fun i hi => by omega⟩
          · -- the first cell is there
            have hfirst : ∃ cs0 y, w.cells? base a (P.cellsOf el) = some cs0 ∧ DataW.trod enc P w base sp held n' el cs0 = some y := by
              rcases Nat.eq_zero_or_pos len with h0' | h0'
              · have h2 := hr2 0 (by omega)
                have hix : 0 < rest.length := by omega
                rw [List.getElem?_eq_getElem hix, h0', Option.bind_eq_some_iff] at h2
                obtain ⟨cs0, q1, q2⟩ := h2
                exact ⟨cs0, _, by simpa [Addr.add] using q1, q2⟩
              · have h2 := hel 0 h0'
                have hix : 0 < elems.length := by omega
                rw [List.getElem?_eq_getElem hix, Option.bind_eq_some_iff] at h2
                obtain ⟨cs0, q1, q2⟩ := h2
                exact ⟨cs0, _, by simpa [Addr.add] using q1, q2⟩
            obtain ⟨cs0, y0, g1, -⟩ := hfirst
            obtain ⟨-, g2, g3⟩ := World.cells?_some g1
            have g4 := g3 0 (by omega)
            rw [List.getElem?_eq_getElem (by omega)] at g4
            obtain ⟨ab, ao, asp⟩ := a
            simp only [Addr.add, if_true] at g4
            unfold World.cell? at g4
            simp only at g4
            cases hblk : w.heap[ab]? with
            | none => rw [hblk] at g4; cases g4
            | some ob =>
              rw [hblk] at g4
              cases ob with
              | cells cc el0 fr =>
                simp only at g4
                cases asp with
                | some s => simp at g4
                | none =>
                  simp only [Option.isSome_none, Bool.false_eq_true, if_false] at g4
                  have hao : ao < cc.size := (Array.getElem?_eq_some_iff.1 g4).1
                  have hcell : ∀ (i : Nat) (v : Value), w.cell? ⟨ab, ao + i, none⟩ = some v ↔ cc[ao + i]? = some v := fun i v => by
                    unfold World.cell?
                    simp [hblk]
                  -- each element's cells
                  have helem : ∀ i, i < len → ∃ y, DataW.trod enc P w base sp held n' el (((cc.toList.drop ao).drop (i * P.cellsOf el)).take (P.cellsOf el)) = some y ∧ ao + i * P.cellsOf el + P.cellsOf el ≤ cc.size := by
                    intro i hi
                    have h2 := hel i hi
                    have hix : i < elems.length := by omega
                    rw [List.getElem?_eq_getElem hix, Option.bind_eq_some_iff] at h2
                    obtain ⟨ci, q1, q2⟩ := h2
                    obtain ⟨-, q3, q4⟩ := World.cells?_some q1
                    have hadd : ∀ j, ((⟨ab, ao, none⟩ : Addr).add (i * P.cellsOf el)).add j = ⟨ab, ao + (i * P.cellsOf el + j), none⟩ := fun j => by rw [add_none, add_none, Nat.add_assoc]
                    have hlast : ao + i * P.cellsOf el + P.cellsOf el ≤ cc.size := by
                      have q5 := q4 (P.cellsOf el - 1) (by omega)
                      rw [List.getElem?_eq_getElem (by omega), hadd, hcell] at q5
                      have := (Array.getElem?_eq_some_iff.1 q5).1
                      omega
                    refine ⟨elems[i], ?_, hlast⟩
                    rw [← q2]
                    congr 1
                    refine List.ext_getElem? fun j => ?_
                    by_cases hj : j < P.cellsOf el
                    · rw [List.getElem?_take, if_pos hj, List.getElem?_drop, List.getElem?_drop]
                      have q5 := q4 j hj
                      have e2 : ci[j]? = some (ci[j]'(by omega)) := List.getElem?_eq_getElem (by omega)
                      rw [e2, hadd, hcell] at q5
                      rw [e2, Array.getElem?_toList]
                      exact q5
                    · rw [List.getElem?_eq_none (by rw [List.length_take]; omega), List.getElem?_eq_none (by omega)]
                  have hfit : ao + len * P.cellsOf el ≤ cc.size := by
                    rcases Nat.eq_zero_or_pos len with h0' | h0'
                    · rw [h0', Nat.zero_mul]; omega
                    · obtain ⟨-, -, q⟩ := helem (len - 1) (by omega)
                      have : (len - 1) * P.cellsOf el + P.cellsOf el = len * P.cellsOf el := by
                        rw [← Nat.succ_mul]; congr 1; omega
                      omega
                  obtain ⟨e1, h1, c1, r1, l1, x1, v1, a1⟩ := embedRow (z := P.cellsOf el) (ty := el) (cs := cc.toList.drop ao) len (by simp; omega) (fun i hi => by
                    obtain ⟨y, q1, -⟩ := helem i hi
                    exact embed hsp hw n' m _ _ _ hp.2.1 q1) e h0 r
                  have hc1 : c1.length = len * P.cellsOf el := by
                    have := v1.length
                    rw [List.length_take, List.length_drop, Array.length_toList] at this; omega
                  obtain ⟨e2, r2, l2, x2, q2⟩ := r1.addRo (sh := ao) (c := c1) hblk (by omega) (fun i v hi => by
                    obtain ⟨v', q1, q2⟩ := v1.get i v hi
                    refine ⟨v', ?_, q2⟩
                    rw [List.getElem?_take, List.getElem?_drop, Array.getElem?_toList] at q1
                    split at q1
                    · exact q1
                    · cases q1)
                  refine ⟨e2, _, [.slice (some ⟨h1.next, 0, none⟩) len cap], r2, Emb.le_trans l1 l2, x1.trans x2, .one (.slice h1.next 0 ⟨ab, ao, none⟩ len cap ⟨ab, ao, 0⟩ q2 hl (.inl rfl)), ?_⟩
                  unfold AR; rw [hu]
                  refine ⟨len, c1, .inr ⟨h1.next, 0, cap, c1, el0, none, true, rfl, by rw [AH.get_add, if_pos rfl], by rw [← hc1]; exact takeAt_all c1⟩, by omega, fun i hi => (a1 i hi).ext r1.wfH x2 _ _ _⟩
              | _ => cases g4
      | _ => cases hp
end
end
end Go.Proofs.Xx
