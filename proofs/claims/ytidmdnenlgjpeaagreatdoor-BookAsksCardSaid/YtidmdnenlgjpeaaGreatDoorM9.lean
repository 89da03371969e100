/-
  What the arguments read as is kept in every world whose old blocks are the same.
-/
import Derived.Below
import Derived.ChangeSame
import Derived.ChangeArms
import Derived.OpenShut
import Derived.Test.YtidmdnenlgjpeaaGreatDoorM5
import Derived.Test.YtidmdnenlgjpeaaGreatDoorM3
import Derived.WideShapes
import Derived.ChangeShapes
import Derived.Test.YtidmdnenlgjpeaaGreatDoorM6
import Derived.Test.YtidmdnenlgjpeaaGreatDoorM7
import Derived.Test.YtidmdnenlgjpeaaGreatDoorM8
import Derived.KernelRfl

namespace Go.Proofs.Xx
open Go Go.RowKit
set_option linter.unusedSimpArgs false
set_option linter.unusedVariables false

section
variable {H : Type} {enc : TypeId × Value → H} {P : Program} {W W' : World}

theorem mapM_keep {α β : Type} {f g : α → Option β} : ∀ {l : List α} {r : List β}, l.mapM f = some r → (∀ a b, a ∈ l → b ∈ r → f a = some b → g a = some b) → l.mapM g = some r := by
  intro l
  induction l with
  | nil => intro r h _; simpa using h
  | cons a l ih =>
    intro r h hk
    rw [List.mapM_cons] at h ⊢
    cases hf : f a with
    | none => rw [hf] at h; cases h
    | some b =>
      rw [hf] at h
      cases hm : l.mapM f with
      | none => rw [hm] at h; cases h
      | some r' =>
        rw [hm] at h
        simp at h
        subst h
        rw [hk a b (by simp) (by simp) hf, ih hm fun x y hx hy => hk x y (by simp [hx]) (by simp [hy])]
        rfl

theorem cells_keep (hb : ∀ k, k < W.heap.size → W'.heap[k]? = W.heap[k]?) {base n : Nat} {a : Addr} {cs : List Value} (h : W.cells? base a n = some cs) : W'.cells? base a n = some cs := by
  unfold World.cells? at h ⊢
  split at h
  · rename_i hba
    rw [if_pos hba]
    refine mapM_keep h fun i v _ _ hv => ?_
    have hlt : (a.add i).block < W.heap.size := by
      rcases Nat.lt_or_ge (a.add i).block W.heap.size with q | q
      · exact q
      · have : W.cell? (a.add i) = none := by
          unfold World.cell?
          rw [Array.getElem?_eq_none q]
        rw [this] at hv; cases hv
    rw [← hv]
    exact World.cell?_of_block (w := W) (hb _ hlt)
  · cases h

/-! ### arguments of any plain type -/
def tiles (P : Program) : List Field → Nat → Nat → Bool
  | [], at_, n => Nat.beq at_ n
  | f :: r, at_, n => Nat.beq f.offset at_ && tiles P r (at_ + P.cellsOf f.type) n
def plainT (P : Program) : Nat → TypeId → Bool
  | 0, _ => false
  | m + 1, t => match P.underlying t with
    | some .bool | some .string => Nat.beq (P.cellsOf t) 1
    | some (.int _) => Nat.beq (P.cellsOf t) 1
    | some (.slice e) => Nat.beq (P.cellsOf t) 1 && (plainT P m e && !Nat.beq (P.cellsOf e) 0)
    | some (.struct fs) => fs.toList.all (fun f => plainT P m f.type) && tiles P fs.toList 0 (P.cellsOf t)
    | some (.array n e) => plainT P m e && Nat.beq (P.cellsOf t) (n * P.cellsOf e)
    | _ => false


theorem trod_keep (hb : ∀ k, k < W.heap.size → W'.heap[k]? = W.heap[k]?) {base : Nat} {sp : Nat → Bool} {held : Bool} : ∀ (fuel m : Nat) (t : TypeId) (cs : List Value) (x : DataW H × List MemPlace), plainT P m t = true →
    DataW.trod enc P W base (fun _ => true) held fuel t cs = some x → (∀ p ∈ x.2, sp p.block = true) → DataW.trod enc P W' base sp held fuel t cs = some x := by
  intro fuel
  induction fuel with
  | zero => intro m t cs x _ h _; cases h
  | succ fuel ih =>
    intro m t cs x hp h hsp
    cases m with
    | zero => cases hp
    | succ m =>
    unfold plainT at hp
    cases hu : P.underlying t with
    | none => rw [hu] at hp; cases hp
    | some u =>
      rw [hu] at hp
      cases u with
      | bool => obtain ⟨b, rfl, rfl⟩ := DataW.trod_bool hu h; unfold DataW.trod; rw [hu]
      | int k =>
        obtain ⟨b, rfl, rfl, hwf⟩ := DataW.trod_int hu h
        unfold DataW.trod; rw [hu]
        simp [hwf]
      | string =>
        obtain ⟨b, rfl, rfl, hs⟩ := DataW.trod_string hu h
        unfold DataW.trod; rw [hu]
        simp [hs]
      | struct fs =>
        simp only [Bool.and_eq_true, List.all_eq_true] at hp
        unfold DataW.trod at h ⊢
        rw [hu] at h ⊢
        simp only at h ⊢
        split at h
        · rename_i hc
          rw [if_pos hc]
          simp only [Option.map_eq_some_iff] at h ⊢
          obtain ⟨xs, h1, rfl⟩ := h
          refine ⟨xs, mapM_keep h1 fun f y hf hy hq => ih m _ _ _ (hp.1 f hf) hq fun p hp => hsp p ?_, rfl⟩
          simp only [List.mem_flatMap]
          exact ⟨y, hy, hp⟩
        · cases h
      | array n e =>
        simp only [Bool.and_eq_true] at hp
        unfold DataW.trod at h ⊢
        rw [hu] at h ⊢
        simp only at h ⊢
        split at h
        · rename_i hc
          rw [if_pos hc]
          simp only [Option.map_eq_some_iff] at h ⊢
          obtain ⟨xs, h1, rfl⟩ := h
          refine ⟨xs, mapM_keep h1 fun f y hf hy hq => ih m _ _ _ hp.1 hq fun p hp => hsp p ?_, rfl⟩
          simp only [List.mem_flatMap]
          exact ⟨y, hy, hp⟩
        · cases h
      | slice e =>
        simp only [Bool.and_eq_true, Bool.not_eq_true'] at hp
        have hz : P.cellsOf e ≠ 0 := fun q => by have := hp.2.2; rw [q] at this; simp at this
        rcases DataW.trod_slice hu h with ⟨rfl, rfl⟩ | ⟨a, len, cap, -, -, -, -, rfl, -⟩
        · unfold DataW.trod; rw [hu]; rfl
        · unfold DataW.trod at h ⊢
          rw [hu] at h ⊢
          simp only at h ⊢
          split at h
          · rename_i hc
            rw [if_pos hc]
            simp only [if_true, Option.map_eq_some_iff, Option.bind_eq_some_iff] at h ⊢
            obtain ⟨elems, h1, rest, h2, rfl⟩ := h
            have key : ∀ i y, y ∈ elems ++ rest → (W.cells? base (a.add (i * P.cellsOf e)) (P.cellsOf e)).bind (DataW.trod enc P W base (fun _ => true) held fuel e) = some y →
                (W'.cells? base (a.add (i * P.cellsOf e)) (P.cellsOf e)).bind (DataW.trod enc P W' base sp held fuel e) = some y := by
              intro i y hy hq
              rw [Option.bind_eq_some_iff] at hq ⊢
              obtain ⟨cs', q1, q2⟩ := hq
              refine ⟨cs', cells_keep hb q1, ih m _ _ _ hp.2.1 q2 fun p hp => hsp p ?_⟩
              simp only [List.mem_append, List.mem_flatMap]
              exact .inr ⟨y, by simpa using hy, hp⟩
            refine ⟨elems, mapM_keep h1 fun i y _ hy hq => key i y (by simp [hy]) hq, rest, ?_, rfl⟩
            cases hs : sp a.block with
            | true =>
              simp only [if_true]
              exact mapM_keep h2 fun i y _ hy hq => key (len + i) y (by simp [hy]) hq
            | false =>
              simp only [Bool.false_eq_true, if_false]
              cases rest with
              | nil => rfl
              | cons y rest =>
                have hp' : sp a.block = true := by
                  refine hsp (.cell a.block (a.off + 0)) ?_
                  simp only [List.mem_append]
                  refine .inl ?_
                  unfold MemPlace.row
                  rw [List.mem_map]
                  exact ⟨0, List.mem_range.2 (Nat.mul_pos (by simp only [List.length_cons]; omega) (by omega)), rfl⟩
                rw [hs] at hp'; cases hp'
          · cases h
      | _ => cases hp
theorem trodAll_keep (hb : ∀ k, k < W.heap.size → W'.heap[k]? = W.heap[k]?) {base : Nat} {sp : Nat → Bool} {held : Bool} : ∀ (ts : List TypeId) (vs : List Value) (ds : List (DataW H)) (ps : List MemPlace), ts.all (plainT P 20) = true →
    DataW.TrodAll enc P W base (fun _ => true) held ts vs ds ps → (∀ p ∈ ps, sp p.block = true) → DataW.TrodAll enc P W' base sp held ts vs ds ps
  | [], [], [], ps, _, h, _ => h
  | t :: ts, v :: vs, d :: ds, ps, hp, h, hsp => by
    simp only [List.all_cons, Bool.and_eq_true] at hp
    obtain ⟨p, q, ⟨fuel, h1⟩, h2, rfl⟩ := h
    exact ⟨p, q, ⟨fuel, trod_keep hb fuel 20 t _ _ hp.1 h1 fun x hx => hsp x (by simp [hx])⟩, trodAll_keep hb ts vs ds q hp.2 h2 fun x hx => hsp x (by simp [hx]), rfl⟩
  | [], [], _ :: _, _, _, h, _ => h.elim
  | [], _ :: _, _, _, _, h, _ => h.elim
  | _ :: _, [], _, _, _, h, _ => h.elim
  | _ :: _, _ :: _, [], _, _, h, _ => h.elim
end
end Go.Proofs.Xx

/-
  The arguments of a call, as read-only blocks of the abstract memory.
-/
namespace Go.Proofs.Xx
open Go Go.RowKit
set_option linter.unusedSimpArgs false
set_option linter.unusedVariables false

section
variable {P : Program}

/-- A window of a block, to be read alone. -/
theorem Rel.addRo [Glob] {B : Bs} {e : Emb} {h : AH} {w : World} (r : Rel B e h w) {k sh : Nat} {cc : Array Value} {el : TypeId} {fr : Nat × Nat} {c : List Value} (hkB : k < B.lo) (hk : w.heap[k]? = some (.cells cc el fr)) (hsz : sh + c.length ≤ cc.size)
    (hc : ∀ i v, c[i]? = some v → ∃ v', cc[sh + i]? = some v' ∧ VR (e.put h.next ⟨k, sh, 0⟩) v v') :
    Rel B (e.put h.next ⟨k, sh, 0⟩) (h.add (.cells c el none true)) w ∧ e.le (e.put h.next ⟨k, sh, 0⟩) := by
  have hle := r.le_put ⟨k, sh, 0⟩
  have hlt : k < w.heap.size := (Array.getElem?_eq_some_iff.1 hk).1
  refine ⟨⟨fun b M q => ?_, fun b hb => ?_, fun b M q => ?_, fun b M p q1 q2 => ?_, fun b M p b' M' p' e1 e2 e3 e4 e5 e6 e7 => ?_, fun b M p q1 q2 q3 => ?_, r.base, r.keep, r.glob⟩, hle⟩
  · by_cases hb : b = h.next
    · subst hb; exact Nat.lt_succ_self _
    · rw [Emb.put_ne _ _ hb] at q; exact Nat.lt_succ_of_lt (r.dom b M q)
  · have hb' : h.next + 1 ≤ b := hb
    rw [AH.get_add, if_neg (by omega)]; exact r.wf b (by omega)
  · by_cases hb : b = h.next
    · subst hb; rw [Emb.put_same] at q; cases q; exact hlt
    · rw [Emb.put_ne _ _ hb] at q; exact r.rng b M q
  · rw [AH.get_add] at q2
    by_cases hb : b = h.next
    · subst hb; rw [Emb.put_same] at q1; cases q1; rw [if_pos rfl] at q2; cases q2
      exact ⟨cc, fr, hk, hsz, hc, (fun _ => ⟨rfl, fun q => by cases q⟩), (fun _ q => by cases q), (fun q => by cases q)⟩
    · rw [Emb.put_ne _ _ hb] at q1; rw [if_neg hb] at q2
      exact (r.obj b M p q1 q2).mono hle
  · rw [AH.get_add] at e2 e4
    by_cases hb' : b' = h.next
    · subst hb'; rw [if_pos rfl] at e4; cases e4; cases e7
    · rw [Emb.put_ne _ _ hb'] at e3; rw [if_neg hb'] at e4
      by_cases hb : b = h.next
      · subst hb
        rw [Emb.put_same] at e1; cases e1
        rw [if_pos rfl] at e2; cases e2
        have := r.own b' M' p' e3 e4 e7
        simp only at e5; omega
      · rw [Emb.put_ne _ _ hb] at e1; rw [if_neg hb] at e2
        exact r.inj b M p b' M' p' e1 e2 e3 e4 e5 e6 e7
  · rw [AH.get_add] at q2
    by_cases hb : b = h.next
    · subst hb; rw [if_pos rfl] at q2; cases q2; cases q3
    · rw [Emb.put_ne _ _ hb] at q1; rw [if_neg hb] at q2
      exact r.own b M p q1 q2 q3


/-- The world's own blocks stay as they are. -/
def Bs.of (w : World) : Bs := ⟨w.heap.size, w.heap⟩
def RoH (h : AH) : Prop := ∀ b o, h.get b = some o → writable o = false
/-- h is made of windows of w's blocks, to be read alone. -/
structure WRel [Glob] (w : World) (e : Emb) (h : AH) : Prop where
  rel : Rel (Bs.of w) e h w
  ro : RoH h
theorem WRel.empty [Glob] {w : World} (hg : Glob.ok w.heap.size w.heap) : WRel w (fun _ => none) ⟨.e, 0, 0⟩ :=
  ⟨⟨fun b L q => (by cases q), fun b _ => Tr.get_e b, fun b L q => (by cases q), fun b L o q => (by cases q), fun b L o b' L' o' q => (by cases q), fun b L o q => (by cases q), Nat.le_refl _, fun _ _ => rfl, hg⟩,
    fun b o q => by rw [show (⟨.e, 0, 0⟩ : AH).get b = none from Tr.get_e b] at q; cases q⟩
theorem WRel.wfH [Glob] {w : World} {e : Emb} {h : AH} (r : WRel w e h) : WfH h := r.rel.wf

theorem WRel.addRo [Glob] {e : Emb} {h : AH} {w : World} (r : WRel w e h) {k sh : Nat} {cc : Array Value} {el : TypeId} {fr : Nat × Nat} {c : List Value} (hk : w.heap[k]? = some (.cells cc el fr)) (hsz : sh + c.length ≤ cc.size)
    (hc : ∀ i v, c[i]? = some v → ∃ v', cc[sh + i]? = some v' ∧ VR e v v') :
    ∃ e', WRel w e' (h.add (.cells c el none true)) ∧ e.le e' ∧ Ext h (h.add (.cells c el none true)) ∧ e' h.next = some ⟨k, sh, 0⟩ := by
  have hle := r.rel.le_put ⟨k, sh, 0⟩
  obtain ⟨r1, r2⟩ := Rel.addRo (sh := sh) (c := c) r.rel (show k < w.heap.size from (Array.getElem?_eq_some_iff.1 hk).1) hk hsz (fun i v hi => by obtain ⟨v', h1, h2⟩ := hc i v hi; exact ⟨v', h1, h2.mono hle⟩)
  refine ⟨_, ⟨r1, fun b o q => ?_⟩, r2, (Ext.refl r.wfH).add _, Emb.put_same _ _ _⟩
  rw [AH.get_add] at q
  split at q
  · cases q; rfl
  · exact r.ro b o q

/-- The cells cs, of type t, read well in h. -/
def AR (P : Program) (h : AH) : Nat → TypeId → List Value → Prop
  | 0, _, _ => False
  | f + 1, t, cs =>
    match P.underlying t, cs with
    | some .bool, [.bool _] => True
    | some (.int k), [.int k' n] => k' = k ∧ (Lit.int k n).wf = true
    | some .string, [.string s] => s.size ≤ maxLen
    | some (.slice e), [v] => ∃ n c, Rd h v (P.cellsOf e) n c ∧ n ≤ maxLen ∧ CapOk v ∧ ∀ i, i < n → AR P h f e ((c.drop (i * P.cellsOf e)).take (P.cellsOf e))
    | some (.struct fs), cs => cs.length = P.cellsOf t ∧ ∀ fd ∈ fs.toList, AR P h f fd.type ((cs.drop fd.offset).take (P.cellsOf fd.type))
    | some (.array n e), cs => cs.length = P.cellsOf t ∧ ∀ i, i < n → AR P h f e ((cs.drop (i * P.cellsOf e)).take (P.cellsOf e))
    | _, _ => False
theorem AR.ext {h h' : AH} (w : WfH h) (x : Ext h h') : ∀ (f : Nat) (t : TypeId) (cs : List Value), AR P h f t cs → AR P h' f t cs
  | 0, _, _, q => q
  | f + 1, t, cs, q => by
    unfold AR at q ⊢
    split at q
    · exact q
    · exact q
    · exact q
    · obtain ⟨n, c, h1, h2, hc, h3⟩ := q
      exact ⟨n, c, h1.ext w x, h2, hc, fun i hi => AR.ext w x f _ _ (h3 i hi)⟩
    · exact ⟨q.1, fun fd hf => AR.ext w x f _ _ (q.2 fd hf)⟩
    · exact ⟨q.1, fun i hi => AR.ext w x f _ _ (q.2 i hi)⟩
    · exact q


section
variable {H : Type} {enc : TypeId × Value → H}
theorem tiles_le : ∀ (fs : List Field) (a n : Nat), tiles P fs a n = true → a ≤ n
  | [], a, n, h => by have := Nat.eq_of_beq_eq_true h; omega
  | f :: r, a, n, h => by
    simp only [tiles, Bool.and_eq_true] at h
    have := tiles_le r _ n h.2
    omega
/-- cells of type t that read in w may be taken into h. -/
def Takes [Glob] (enc : TypeId × Value → H) (P : Program) (w : World) (base : Nat) (sp : Nat → Bool) (held : Bool) (n : Nat) (t : TypeId) (cs : List Value) : Prop := ∀ e h, WRel w e h → ∃ e' h' r, WRel w e' h' ∧ e.le e' ∧ Ext h h' ∧ VRs e' r cs ∧ AR P h' n t r

theorem embedFields [Glob] {w : World} {base n : Nat} {sp : Nat → Bool} {held : Bool} {cs : List Value} : ∀ (fs : List Field) (a : Nat), tiles P fs a cs.length = true →
    (∀ fd ∈ fs, Takes enc P w base sp held n fd.type ((cs.drop fd.offset).take (P.cellsOf fd.type))) → ∀ e h, WRel w e h →
    ∃ e' h' r, WRel w e' h' ∧ e.le e' ∧ Ext h h' ∧ VRs e' r (cs.drop a) ∧ ∀ fd ∈ fs, a ≤ fd.offset ∧ AR P h' n fd.type ((r.drop (fd.offset - a)).take (P.cellsOf fd.type))
  | [], a, ht, _, e, h, r => by
    have := Nat.eq_of_beq_eq_true ht
    exact ⟨e, h, [], r, e.le_refl, Ext.refl r.wfH, by rw [this, List.drop_length]; exact .nil, fun fd q => by cases q⟩
  | f :: fs, a, ht, hk, e, h, r => by
    simp only [tiles, Bool.and_eq_true] at ht
    have hoff := Nat.eq_of_beq_eq_true ht.1
    have hle := tiles_le fs _ _ ht.2
    obtain ⟨e1, h1, c1, r1, l1, x1, v1, a1⟩ := hk f (by simp) e h r
    obtain ⟨e2, h2, c2, r2, l2, x2, v2, a2⟩ := embedFields fs _ ht.2 (fun fd q => hk fd (by simp [q])) e1 h1 r1
    have hc1 : c1.length = P.cellsOf f.type := by
      have := v1.length
      rw [List.length_take, List.length_drop, hoff] at this
      omega
    refine ⟨e2, h2, c1 ++ c2, r2, Emb.le_trans l1 l2, x1.trans x2, ?_, ?_⟩
    · have := (v1.mono l2).append v2
      rw [hoff, ← List.drop_drop, List.take_append_drop] at this
      exact this
    · intro fd q
      rcases List.mem_cons.1 q with rfl | q
      · refine ⟨by omega, ?_⟩
        rw [hoff, Nat.sub_self, List.drop_zero, List.take_append_of_le_length (by omega), List.take_of_length_le (by omega)]
        exact a1.ext r1.wfH x2 _ _ _
      · obtain ⟨q1, q2⟩ := a2 fd q
        refine ⟨by omega, ?_⟩
        rw [show fd.offset - a = c1.length + (fd.offset - (a + P.cellsOf f.type)) by omega, ← List.drop_drop, List.drop_left]
        exact q2
theorem embedRow [Glob] {w : World} {base n : Nat} {sp : Nat → Bool} {held : Bool} {ty : TypeId} {z : Nat} {cs : List Value} : ∀ (k : Nat), k * z ≤ cs.length →
    (∀ i, i < k → Takes enc P w base sp held n ty ((cs.drop (i * z)).take z)) → ∀ e h, WRel w e h →
    ∃ e' h' r, WRel w e' h' ∧ e.le e' ∧ Ext h h' ∧ VRs e' r (cs.take (k * z)) ∧ ∀ i, i < k → AR P h' n ty ((r.drop (i * z)).take z)
  | 0, _, _, e, h, r => ⟨e, h, [], r, e.le_refl, Ext.refl r.wfH, by simp; exact .nil, fun i q => by omega⟩
  | k + 1, hk, ht, e, h, r => by
    rw [Nat.add_mul, Nat.one_mul] at hk
    obtain ⟨e1, h1, c1, r1, l1, x1, v1, a1⟩ := embedRow k (by omega) (fun i q => ht i (by omega)) e h r
    obtain ⟨e2, h2, c2, r2, l2, x2, v2, a2⟩ := ht k (by omega) e1 h1 r1
    have hc1 : c1.length = k * z := by
      have := v1.length
      rw [List.length_take] at this; omega
    have hc2 : c2.length = z := by
      have := v2.length
      rw [List.length_take, List.length_drop] at this; omega
    refine ⟨e2, h2, c1 ++ c2, r2, Emb.le_trans l1 l2, x1.trans x2, ?_, fun i hi => ?_⟩
    · have := (v1.mono l2).append v2
      rw [Nat.add_mul, Nat.one_mul, List.take_add]
      exact this
    · by_cases hik : i < k
      · have : (i + 1) * z ≤ k * z := Nat.mul_le_mul_right z hik
        rw [Nat.add_mul, Nat.one_mul] at this
        rw [List.drop_append_of_le_length (by omega), List.take_append_of_le_length (by rw [List.length_drop]; omega)]
        exact (a1 i hik).ext r1.wfH x2 _ _ _
      · obtain rfl : i = k := by omega
        rw [← hc1, List.drop_left, List.take_of_length_le (by omega)]
        exact a2

theorem embed [Glob] {w : World} {base : Nat} {sp : Nat → Bool} (hsp : ∀ b, sp b = true) {held : Bool} (hw : ∃ (k : Nat) (cc : Array Value) (el : TypeId) (fr : Nat × Nat), w.heap[k]? = some (.cells cc el fr)) : ∀ (n m : Nat) (t : TypeId) (cs : List Value) (x : DataW H × List MemPlace), plainT P m t = true →
    DataW.trod enc P w base sp held n t cs = some x → Takes enc P w base sp held n t cs
  | 0, _, _, _, _, _, h => by simp [DataW.trod] at h
  | _ + 1, 0, _, _, _, h, _ => by cases h
  | n + 1, m + 1, t, cs, x, hp, h => by
    intro e h0 r
    unfold plainT at hp
    cases hu : P.underlying t with
    | none => rw [hu] at hp; cases hp
    | some u =>
      rw [hu] at hp
      cases u with
      | bool =>
        obtain ⟨b, rfl, -⟩ := DataW.trod_bool hu h
        exact ⟨e, h0, [.bool b], r, e.le_refl, Ext.refl r.wfH, .one (.bool b), by unfold AR; rw [hu]; trivial⟩
      | int k =>
        obtain ⟨b, rfl, -, hwf⟩ := DataW.trod_int hu h
        exact ⟨e, h0, [.int k b], r, e.le_refl, Ext.refl r.wfH, .one (.int k b), by unfold AR; rw [hu]; exact ⟨rfl, hwf⟩⟩
      | string =>
        obtain ⟨s, rfl, -, hs⟩ := DataW.trod_string hu h
        exact ⟨e, h0, [.string s], r, e.le_refl, Ext.refl r.wfH, .one (.string s), by unfold AR; rw [hu]; exact hs⟩
      | struct fs =>
        simp only [Bool.and_eq_true, List.all_eq_true] at hp
        obtain ⟨xs, n', hn, -, hlen, hxl, hf⟩ := DataW.trod_struct hu h
        obtain rfl : n' = n := by omega
        obtain ⟨e1, h1, c1, r1, l1, x1, v1, a1⟩ := embedFields fs.toList 0 (by rw [hlen]; exact hp.2) (fun fd hfd => by
          obtain ⟨i, hi, rfl⟩ := List.getElem_of_mem hfd
          have hg : fs[i]? = some fs.toList[i] := by rw [← Array.getElem?_toList]; exact List.getElem?_eq_getElem hi
          have h2 := hf i _ hg
          have hix : i < xs.length := by rw [hxl]; simpa using hi
          rw [List.getElem?_eq_getElem hix] at h2
          exact embed hsp hw n' m _ _ _ (hp.1 _ (List.getElem_mem hi)) h2) e h0 r
        refine ⟨e1, h1, c1, r1, l1, x1, by simpa using v1, ?_⟩
        unfold AR; rw [hu]
        have hl1 := v1.length
        simp only [List.drop_zero] at hl1
        exact ⟨by omega, fun fd hfd => by have := (a1 fd hfd).2; simpa using this⟩
      | array k el =>
        simp only [Bool.and_eq_true] at hp
        have hsz := Nat.eq_of_beq_eq_true hp.2
        obtain ⟨xs, n', hn, -, hlen, hxl, hf⟩ := DataW.trod_array hu h
        obtain rfl : n' = n := by omega
        obtain ⟨e1, h1, c1, r1, l1, x1, v1, a1⟩ := embedRow (z := P.cellsOf el) (ty := el) (cs := cs) k (by omega) (fun i hi => by
          have h2 := hf i hi
          have hix : i < xs.length := by omega
          rw [List.getElem?_eq_getElem hix] at h2
          exact embed hsp hw n' m _ _ _ hp.1 h2) e h0 r
        rw [List.take_of_length_le (by omega)] at v1
        refine ⟨e1, h1, c1, r1, l1, x1, v1, ?_⟩
        unfold AR; rw [hu]
        exact ⟨by have := v1.length; omega, a1⟩
      | slice el =>
        simp only [Bool.and_eq_true, Bool.not_eq_true'] at hp
        have hz : P.cellsOf el ≠ 0 := fun q => by have := hp.2.2; rw [q] at this; simp at this
        rcases DataW.trod_slice hu h with ⟨rfl, -⟩ | ⟨a, len, cap, elems, rest, n', hn, rfl, -, hb, hl, hm, hlen, hel, hrest, -⟩
        · refine ⟨e, h0, [.slice none 0 0], r, e.le_refl, Ext.refl r.wfH, .one .nilSlice, ?_⟩
          unfold AR; rw [hu]
          exact ⟨0, [], Rd.none_ _ _, Nat.zero_le _, Nat.le_refl _, fun i hi => by omega⟩
        · obtain rfl : n' = n := by omega
          obtain ⟨hr1, hr2⟩ := hrest (hsp _)
          rcases Nat.eq_zero_or_pos cap with hc0 | hc0
          · subst hc0
            obtain rfl : len = 0 := by omega
            obtain ⟨k, cc, el0, fr, hk⟩ := hw
            obtain ⟨e1, r1, l1, x1, q1⟩ := r.addRo (sh := 0) (c := []) hk (by simp) (fun i v hi => by simp at hi)
            refine ⟨e1, _, [.slice (some ⟨h0.next, 0, none⟩) 0 0], r1, l1, x1, .one (.slice h0.next 0 a 0 0 ⟨k, 0, 0⟩ q1 (Nat.le_refl _) (.inr ⟨rfl, rfl⟩)), ?_⟩
            unfold AR; rw [hu]
            exact ⟨0, [], .inr ⟨h0.next, 0, 0, [], el0, none, true, rfl, by rw [AH.get_add, if_pos rfl], by simp [takeAt]⟩, Nat.zero_le _, Nat.le_refl _, fun i hi => by omega⟩
          · -- the first cell is there
            have hfirst : ∃ cs0 y, w.cells? base a (P.cellsOf el) = some cs0 ∧ DataW.trod enc P w base sp held n' el cs0 = some y := by
              rcases Nat.eq_zero_or_pos len with h0' | h0'
              · have h2 := hr2 0 (by omega)
                have hix : 0 < rest.length := by omega
                rw [List.getElem?_eq_getElem hix, h0', Option.bind_eq_some_iff] at h2
                obtain ⟨cs0, q1, q2⟩ := h2
                exact ⟨cs0, _, by simpa [Addr.add] using q1, q2⟩
              · have h2 := hel 0 h0'
                have hix : 0 < elems.length := by omega
                rw [List.getElem?_eq_getElem hix, Option.bind_eq_some_iff] at h2
                obtain ⟨cs0, q1, q2⟩ := h2
                exact ⟨cs0, _, by simpa [Addr.add] using q1, q2⟩
            obtain ⟨cs0, y0, g1, -⟩ := hfirst
            obtain ⟨-, g2, g3⟩ := World.cells?_some g1
            have g4 := g3 0 (by omega)
            rw [List.getElem?_eq_getElem (by omega)] at g4
            obtain ⟨ab, ao, asp⟩ := a
            simp only [Addr.add, if_true] at g4
            unfold World.cell? at g4
            simp only at g4
            cases hblk : w.heap[ab]? with
            | none => rw [hblk] at g4; cases g4
            | some ob =>
              rw [hblk] at g4
              cases ob with
              | cells cc el0 fr =>
                simp only at g4
                cases asp with
                | some s => simp at g4
                | none =>
                  simp only [Option.isSome_none, Bool.false_eq_true, if_false] at g4
                  have hao : ao < cc.size := (Array.getElem?_eq_some_iff.1 g4).1
                  have hcell : ∀ (i : Nat) (v : Value), w.cell? ⟨ab, ao + i, none⟩ = some v ↔ cc[ao + i]? = some v := fun i v => by
                    unfold World.cell?
                    simp [hblk]
                  -- each element's cells
                  have helem : ∀ i, i < len → ∃ y, DataW.trod enc P w base sp held n' el (((cc.toList.drop ao).drop (i * P.cellsOf el)).take (P.cellsOf el)) = some y ∧ ao + i * P.cellsOf el + P.cellsOf el ≤ cc.size := by
                    intro i hi
                    have h2 := hel i hi
                    have hix : i < elems.length := by omega
                    rw [List.getElem?_eq_getElem hix, Option.bind_eq_some_iff] at h2
                    obtain ⟨ci, q1, q2⟩ := h2
                    obtain ⟨-, q3, q4⟩ := World.cells?_some q1
                    have hadd : ∀ j, ((⟨ab, ao, none⟩ : Addr).add (i * P.cellsOf el)).add j = ⟨ab, ao + (i * P.cellsOf el + j), none⟩ := fun j => by rw [add_none, add_none, Nat.add_assoc]
                    have hlast : ao + i * P.cellsOf el + P.cellsOf el ≤ cc.size := by
                      have q5 := q4 (P.cellsOf el - 1) (by omega)
                      rw [List.getElem?_eq_getElem (by omega), hadd, hcell] at q5
                      have := (Array.getElem?_eq_some_iff.1 q5).1
                      omega
                    refine ⟨elems[i], ?_, hlast⟩
                    rw [← q2]
                    congr 1
                    refine List.ext_getElem? fun j => ?_
                    by_cases hj : j < P.cellsOf el
                    · rw [List.getElem?_take, if_pos hj, List.getElem?_drop, List.getElem?_drop]
                      have q5 := q4 j hj
                      have e2 : ci[j]? = some (ci[j]'(by omega)) := List.getElem?_eq_getElem (by omega)
                      rw [e2, hadd, hcell] at q5
                      rw [e2, Array.getElem?_toList]
                      exact q5
                    · rw [List.getElem?_eq_none (by rw [List.length_take]; omega), List.getElem?_eq_none (by omega)]
                  have hfit : ao + len * P.cellsOf el ≤ cc.size := by
                    rcases Nat.eq_zero_or_pos len with h0' | h0'
                    · rw [h0', Nat.zero_mul]; omega
                    · obtain ⟨-, -, q⟩ := helem (len - 1) (by omega)
                      have : (len - 1) * P.cellsOf el + P.cellsOf el = len * P.cellsOf el := by
                        rw [← Nat.succ_mul]; congr 1; omega
                      omega
                  obtain ⟨e1, h1, c1, r1, l1, x1, v1, a1⟩ := embedRow (z := P.cellsOf el) (ty := el) (cs := cc.toList.drop ao) len (by simp; omega) (fun i hi => by
                    obtain ⟨y, q1, -⟩ := helem i hi
                    exact embed hsp hw n' m _ _ _ hp.2.1 q1) e h0 r
                  have hc1 : c1.length = len * P.cellsOf el := by
                    have := v1.length
                    rw [List.length_take, List.length_drop, Array.length_toList] at this; omega
                  obtain ⟨e2, r2, l2, x2, q2⟩ := r1.addRo (sh := ao) (c := c1) hblk (by omega) (fun i v hi => by
                    obtain ⟨v', q1, q2⟩ := v1.get i v hi
                    refine ⟨v', ?_, q2⟩
                    rw [List.getElem?_take, List.getElem?_drop, Array.getElem?_toList] at q1
                    split at q1
                    · exact q1
                    · cases q1)
                  refine ⟨e2, _, [.slice (some ⟨h1.next, 0, none⟩) len cap], r2, Emb.le_trans l1 l2, x1.trans x2, .one (.slice h1.next 0 ⟨ab, ao, none⟩ len cap ⟨ab, ao, 0⟩ q2 hl (.inl rfl)), ?_⟩
                  unfold AR; rw [hu]
                  refine ⟨len, c1, .inr ⟨h1.next, 0, cap, c1, el0, none, true, rfl, by rw [AH.get_add, if_pos rfl], by rw [← hc1]; exact takeAt_all c1⟩, by omega, hl, fun i hi => (a1 i hi).ext r1.wfH x2 _ _ _⟩
              | _ => cases g4
      | _ => cases hp
end
end
end Go.Proofs.Xx

/-
  From a law's contract over the checked run to the machine's call.
-/
namespace Go.Proofs.Xx
open Go Go.RowKit Go.WideShapes Go.ChangeShapes
set_option linter.unusedSimpArgs false
set_option linter.unusedVariables false

theorem VRs.one_inv {e : Emb} {r : List Value} {v : Value} (h : VRs e r [v]) : ∃ u, r = [u] ∧ VR e u v := by
  cases h with
  | cons u v' s s' h1 h2 => cases h2; exact ⟨u, rfl, h1⟩
section
variable {P : Program}
/-- A value of type t, by its cells. -/
def absV (P : Program) (t : TypeId) (r : List Value) : Value :=
  match P.underlying t with
  | some (.struct _) | some (.array _ _) => .agg r.toArray
  | _ => r.headD .nilFunc
theorem absV_ok {w : World} {rc : Reach} {b0 m : Nat} {t : TypeId} {v : Value} {e : Emb} {r : List Value} (hp : plainT P m t = true) (hval : Value.okWide P w rc b0 t v) (hv : VRs e r v.cells.toList) : VR e (absV P t r) v := by
  cases m with
  | zero => cases hp
  | succ m =>
    unfold plainT at hp
    unfold absV
    unfold Value.okWide at hval
    cases hu : P.underlying t with
    | none => rw [hu] at hp; cases hp
    | some u =>
      rw [hu] at hp hval
      cases u with
      | struct fs =>
        obtain ⟨cs, rfl, -⟩ := hval
        exact VR.agg (f := e) r cs.toList (by simpa [Value.cells] using hv)
      | array n el =>
        obtain ⟨cs, rfl, -⟩ := hval
        exact VR.agg (f := e) r cs.toList (by simpa [Value.cells] using hv)
      | bool =>
        have : ∃ b, v = .bool b := by cases v <;> simp_all [Cell.okWide, Cell.ok]
        obtain ⟨b, rfl⟩ := this
        obtain ⟨x, rfl, h1⟩ := VRs.one_inv (show VRs e r [.bool b] from hv)
        exact h1
      | int k =>
        have : ∃ k' b, v = .int k' b := by cases v <;> simp_all [Cell.okWide, Cell.ok]
        obtain ⟨k', b, rfl⟩ := this
        obtain ⟨x, rfl, h1⟩ := VRs.one_inv (show VRs e r [.int k' b] from hv)
        exact h1
      | string =>
        have : ∃ b, v = .string b := by cases v <;> simp_all [Cell.okWide, Cell.ok]
        obtain ⟨b, rfl⟩ := this
        obtain ⟨x, rfl, h1⟩ := VRs.one_inv (show VRs e r [.string b] from hv)
        exact h1
      | slice el =>
        have : ∃ a l c, v = .slice a l c := by cases v <;> simp_all [Cell.okWide, Cell.ok]
        obtain ⟨a, l, c, rfl⟩ := this
        obtain ⟨x, rfl, h1⟩ := VRs.one_inv (show VRs e r [.slice a l c] from hv)
        exact h1
      | _ => cases hp

/-- The values us, of types ts, read well in h. -/
def ArgsR (P : Program) (h : AH) : List TypeId → List Value → Prop
  | [], [] => True
  | t :: ts, u :: us => (∃ n r, AR P h n t r ∧ u = absV P t r) ∧ ArgsR P h ts us
  | _, _ => False
theorem ArgsR.ext {h h' : AH} (w : WfH h) (x : Ext h h') : ∀ (ts : List TypeId) (us : List Value), ArgsR P h ts us → ArgsR P h' ts us
  | [], [], q => q
  | t :: ts, u :: us, q => ⟨let ⟨n, r, h1, h2⟩ := q.1; ⟨n, r, h1.ext w x _ _ _, h2⟩, ArgsR.ext w x ts us q.2⟩
  | [], _ :: _, q => q.elim
  | _ :: _, [], q => q.elim

theorem ArgsR.cons_inv {h : AH} {t : TypeId} {ts : List TypeId} {us : List Value} (a : ArgsR P h (t :: ts) us) : ∃ n r us', us = absV P t r :: us' ∧ AR P h n t r ∧ ArgsR P h ts us' := by
  cases us with
  | nil => exact a.elim
  | cons u us =>
    obtain ⟨⟨n, r, h1, rfl⟩, h2⟩ := a
    exact ⟨n, r, us, rfl, h1, h2⟩
theorem ArgsR.nil_inv {h : AH} {us : List Value} (a : ArgsR P h [] us) : us = [] := by
  cases us with
  | nil => rfl
  | cons u us => exact a.elim

section
variable {H : Type} {enc : TypeId × Value → H}
theorem embedArgs [Glob] {w : World} {rc : Reach} {b0 base : Nat} {held : Bool} (hw : ∃ (k : Nat) (cc : Array Value) (el : TypeId) (fr : Nat × Nat), w.heap[k]? = some (.cells cc el fr)) : ∀ (ts : List TypeId) (vs : List Value) (ds : List (DataW H)) (ps : List MemPlace),
    ts.all (plainT P 20) = true → (∀ (j : Nat) t v, ts[j]? = some t → vs[j]? = some v → Value.okWide P w rc b0 t v) → DataW.TrodAll enc P w base (fun _ => true) held ts vs ds ps → ∀ e h, WRel w e h →
    ∃ e' h' us, WRel w e' h' ∧ e.le e' ∧ Ext h h' ∧ VRs e' us vs ∧ ArgsR P h' ts us
  | [], [], [], _, _, _, _, e, h, r => ⟨e, h, [], r, e.le_refl, Ext.refl r.wfH, .nil, trivial⟩
  | t :: ts, v :: vs, d :: ds, ps, hp, hval, hA, e, h, r => by
    simp only [List.all_cons, Bool.and_eq_true] at hp
    obtain ⟨p, q, ⟨fuel, h1⟩, h2, rfl⟩ := hA
    obtain ⟨e1, g1, r1, w1, l1, x1, v1, a1⟩ := embed (fun _ => rfl) hw fuel 20 t _ _ hp.1 h1 e h r
    obtain ⟨e2, g2, us, w2, l2, x2, v2, a2⟩ := embedArgs hw ts vs ds q hp.2 (fun j t v q1 q2 => hval (j + 1) t v (by simpa using q1) (by simpa using q2)) h2 e1 g1 w1
    exact ⟨e2, g2, absV P t r1 :: us, w2, Emb.le_trans l1 l2, x1.trans x2, .cons _ _ _ _ (absV_ok hp.1 (hval 0 t v rfl rfl) (v1.mono l2)) v2, ⟨fuel, r1, a1.ext w1.wfH x2 _ _ _, rfl⟩, a2⟩
  | [], [], _ :: _, _, _, _, h, _, _, _ => h.elim
  | [], _ :: _, _, _, _, _, h, _, _, _ => h.elim
  | _ :: _, [], _, _, _, _, h, _, _, _ => h.elim
  | _ :: _, _ :: _, [], _, _, _, h, _, _, _ => h.elim

/-- A LAW'S CALL: what its contract gives. -/
theorem law_calls [Glob] {X : Extern} (hm : P.follows .mixedOrders = true) (hX : XOk P X) (hN : ∀ (f : FuncId) (fn : Func), P.funcs[f]? = some fn → fn.body.isSome = true → (fn.name == "runtime.NumGoroutine") = false)
    {f : FuncId} {fn : Func} {body : Code} (hfn : P.funcs[f]? = some fn) (hb : fn.body = some body) (hXn : ∀ us h, X f us h = none) (hpl : fn.params.toList.all (plainT P 20) = true)
    (core : ∀ h us, WfH h → ArgsR P h fn.params.toList us → Fn P X f us h (fun x _ => x = .bool true))
    {w : World} {rc : Reach} {b0 : Nat} {args : Array Value} {ds : List (DataW H)} {ps : List MemPlace} (hg : Glob.ok w.heap.size w.heap) (hw : ∃ (k : Nat) (cc : Array Value) (el : TypeId) (fr : Nat × Nat), w.heap[k]? = some (.cells cc el fr))
    (hval : ∀ (j : Nat) t v, fn.params[j]? = some t → args[j]? = some v → Value.okWide P w rc b0 t v) (hA : DataW.TrodAll enc P w 0 (fun _ => true) true fn.params.toList args.toList ds ps) :
    Calls P f args w fun e w' => e = .returned (.bool true) ∧ Below w.heap.size w w' := by
  obtain ⟨e, h, us, r, -, -, v1, a1⟩ := embedArgs (P := P) hw fn.params.toList args.toList ds ps hpl (fun j t v q1 q2 => hval j t v (by simpa using q1) (by simpa using q2)) hA _ _ (WRel.empty hg)
  obtain ⟨n, v, h', hc, rfl⟩ := core h us r.wfH a1
  obtain ⟨e', v', w', r1, t1, hv, hcalls⟩ := callA_calls (exec_sound hm hX hN n) hc (hXn us h) hfn hb r.rel v1
  cases hv
  rw [Array.toArray_toList] at hcalls
  refine hcalls.mono fun en w'' ⟨q1, q2⟩ => ?_
  subst q2
  exact ⟨q1, t1.os, t1.tape, t1.output, t1.size, fun k hk => r1.keep k hk⟩
end
end
end Go.Proofs.Xx

/-
  Small lemmas for the rows.
-/
namespace Go.Proofs.Xx
open Go Go.RowKit Go.WideShapes Go.ChangeShapes
set_option linter.unusedSimpArgs false
set_option linter.unusedVariables false

section
variable {H : Type} {enc : TypeId × Value → H} {P : Program}
theorem trodAll_length {W : World} {base : Nat} {sp : Nat → Bool} {held : Bool} : ∀ {ts : List TypeId} {vs : List Value} {ds : List (DataW H)} {ps : List MemPlace}, DataW.TrodAll enc P W base sp held ts vs ds ps → ds.length = ts.length
  | [], [], [], _, _ => rfl
  | t :: ts, v :: vs, d :: ds, ps, h => by
    obtain ⟨p, q, _, h2, _⟩ := h
    simp [trodAll_length h2]
  | [], [], _ :: _, _, h => h.elim
  | [], _ :: _, _, _, h => h.elim
  | _ :: _, [], _, _, h => h.elim
  | _ :: _, _ :: _, [], _, h => h.elim

theorem post_of_below {f : Func} {s : ChangeSpec} {apart fresh handsOn again : Bool} {W W' : World} {args : Array Value} {v : Value} {ds gs : List (DataW H)} {before pa pv : List MemPlace}
    (hW : DataW.Whole enc P f.params.toList s.vars apart W args.toList ds gs before)
    (hres : ∀ (b : Nat) (sp : Nat → Bool) (hd : Bool), DataW.TrodAll enc P W' b sp hd f.resultTypes.toList (v.resultList f.resultTypes.size) (s.fn H (ds ++ gs)).results [])
    (hargs : ∀ sp : Nat → Bool, (∀ p ∈ before, sp p.block = true) → DataW.TrodAll enc P W' 0 sp true f.params.toList args.toList (s.fn H (ds ++ gs)).args pa)
    (hvars : ∀ sp : Nat → Bool, (∀ p ∈ before, sp p.block = true) → DataW.TrodVars enc P W' sp s.vars (s.fn H (ds ++ gs)).vars pv)
    (hps : before = pa ++ pv) (hb : Below W.heap.size W W')
    (hok : ∀ (j : Nat) (t : TypeId) (r : Value), f.resultTypes[j]? = some t → (v.resultList f.resultTypes.size)[j]? = some r → Value.okWide P W' .any 0 t r) :
    s.post enc P f apart fresh handsOn again W args v W' := by
  have hlt : ∀ p ∈ before, p.block < W.heap.size := fun p hp => hW.lt p hp
  have hold : ∀ p ∈ before, (fun b => decide (b < W.heap.size)) p.block = true := fun p hp => by simpa using hlt p hp
  refine ⟨ds, gs, before, [], pa, pv, hW, hres _ _ _, hargs _ hold, hvars _ hold, World.keptBut_mono (fun p hp => ⟨hp, ?_⟩) (hb.frame (· ∈ before)), fun _ => ?_⟩
  · rw [hps, List.mem_append] at hp
    exact Or.inr hp
  · obtain ⟨_, _, _, _, _, hz, hn⟩ := hW
    refine ⟨hok, _, _, ([] ++ pa) ++ pv, ⟨[] ++ pa, pv, trodAll_append (hargs _ (fun _ _ => rfl)) (hres _ _ _), hvars _ (fun _ _ => rfl), rfl, ?_, ?_⟩, ?_⟩
    · intro b off hp
      have hin : MemPlace.cell b off ∈ before := by rw [hps]; simpa using hp
      rw [hb.frozen (hlt _ hin)]
      exact hz b off hin
    · intro ha
      have := hn ha
      rw [hps] at this
      simpa using this
    · intro p hp _
      rw [hps]
      simpa using hp
end
end Go.Proofs.Xx

/-
  Arguments of a law, opened by their types.
-/
namespace Go.Proofs.Xx
open Go
set_option linter.unusedSimpArgs false
set_option linter.unusedVariables false

section
variable {P : Program} {h : AH}
theorem AR.str1 {n : Nat} {t : TypeId} {r : List Value} (a : AR P h n t r) (hu : P.underlying t = some .string) : ∃ s : List UInt8, r = [str s] ∧ s.length ≤ maxLen := by
  cases n with
  | zero => exact a.elim
  | succ n =>
    unfold AR at a
    rw [hu] at a
    split at a
    all_goals (first | exact a.elim | (rename_i q _; cases q; done) | (rename_i q; cases q; done) | skip)
    rename_i s q
    exact ⟨s.data.toList, by rw [str_self], by simpa using a⟩
theorem AR.int1 {n : Nat} {t : TypeId} {r : List Value} {k : IntKind} (a : AR P h n t r) (hu : P.underlying t = some (.int k)) : ∃ x : Int, r = [.int k x] ∧ (Lit.int k x).wf = true := by
  cases n with
  | zero => exact a.elim
  | succ n =>
    unfold AR at a
    rw [hu] at a
    split at a
    all_goals (first | exact a.elim | (rename_i q _; cases q; done) | (rename_i q; cases q; done) | skip)
    rename_i k0 k' x q
    cases q
    obtain ⟨rfl, h2⟩ := a
    exact ⟨x, rfl, h2⟩
theorem AR.struct1 {n : Nat} {t : TypeId} {r : List Value} {fs : Array Field} {m : List (Nat × TypeId)} {z : Nat} (a : AR P h n t r) (hu : P.underlying t = some (.struct fs)) (hm : fs.toList.map (fun f => (f.offset, f.type)) = m) (hz : P.cellsOf t = z) :
    ∃ n', r.length = z ∧ ∀ p ∈ m, AR P h n' p.2 ((r.drop p.1).take (P.cellsOf p.2)) := by
  cases n with
  | zero => exact a.elim
  | succ n =>
    unfold AR at a
    rw [hu] at a
    replace a : r.length = P.cellsOf t ∧ ∀ fd ∈ fs.toList, AR P h n fd.type ((r.drop fd.offset).take (P.cellsOf fd.type)) := a
    refine ⟨n, by rw [a.1, hz], fun p hp => ?_⟩
    rw [← hm, List.mem_map] at hp
    obtain ⟨fd, hf, rfl⟩ := hp
    exact a.2 fd hf
theorem pieces {α : Type} {z : Nat} {enc : α → List Value} {good : α → Prop} : ∀ (n : Nat) (c : List Value), c.length = n * z → (∀ i, i < n → ∃ y, (c.drop (i * z)).take z = enc y ∧ good y) → ∃ l : List α, l.length = n ∧ c = l.flatMap enc ∧ ∀ y ∈ l, good y
  | 0, c, hc, _ => ⟨[], rfl, by rw [Nat.zero_mul] at hc; rw [List.length_eq_zero_iff.1 hc]; rfl, fun y q => by cases q⟩
  | n + 1, c, hc, hk => by
    rw [Nat.add_mul, Nat.one_mul] at hc
    obtain ⟨y, h1, h2⟩ := hk 0 (by omega)
    obtain ⟨l, l1, l2, l3⟩ := pieces (z := z) (enc := enc) (good := good) n (c.drop z) (by rw [List.length_drop, hc]; omega) (fun i hi => by
      obtain ⟨y, q1, q2⟩ := hk (i + 1) (by omega)
      refine ⟨y, ?_, q2⟩
      rw [List.drop_drop, ← q1, Nat.add_mul, Nat.one_mul, Nat.add_comm z])
    rw [Nat.zero_mul, List.drop_zero] at h1
    refine ⟨y :: l, by simp [l1], ?_, fun x q => ?_⟩
    · rw [List.flatMap_cons, ← h1, ← l2, List.take_append_drop]
    · rcases List.mem_cons.1 q with rfl | q
      · exact h2
      · exact l3 x q
theorem AR.slice1 {α : Type} [Inhabited α] {n : Nat} {t e : TypeId} {r : List Value} {z : Nat} (enc : α → List Value) (good : α → Prop) (a : AR P h n t r) (hu : P.underlying t = some (.slice e)) (hz : P.cellsOf e = z) (hk : ∀ n cs, AR P h n e cs → ∃ y, cs = enc y ∧ good y) :
    ∃ v l, r = [v] ∧ RdL h v z enc l ∧ l.length ≤ maxLen ∧ CapOk v ∧ ∀ i, i < l.length → good (l.getD i default) := by
  cases n with
  | zero => exact a.elim
  | succ n =>
    unfold AR at a
    rw [hu] at a
    split at a
    all_goals (first | exact a.elim | (rename_i q _; cases q; done) | (rename_i q; cases q; done) | skip)
    rename_i e' v q
    cases q
    obtain ⟨k, c, h1, h2, hc, h3⟩ := a
    rw [hz] at h1 h3
    obtain ⟨l, l1, l2, l3⟩ := pieces (enc := enc) (good := good) k c h1.length (fun i hi => hk n _ (h3 i hi))
    subst l1 l2
    refine ⟨v, l, rfl, h1, h2, hc, fun i hi => ?_⟩
    rw [List.getD_eq_getElem?_getD, List.getElem?_eq_getElem hi]
    exact l3 _ (List.getElem_mem hi)
end
end Go.Proofs.Xx

/-
  Names; guests and the checks of a guest, the program's and the reference's.
-/
namespace Go.Proofs.Xx
open Go Go.Proofs
set_option linter.unusedSimpArgs false
set_option linter.unusedVariables false
set_option maxRecDepth 100000

def BoolIs (v : Value) (p : Prop) : Prop := (v = .bool true ∧ p) ∨ (v = .bool false ∧ ¬ p)
def lowB (x : UInt8) : Prop := 97 ≤ x.toNat ∧ x.toNat ≤ 122
def nameP (s : List UInt8) : Prop := 1 ≤ s.length ∧ s.length ≤ 12 ∧ ∀ i, i < s.length → lowB (s.getD i default)
def someP (s : List UInt8) : Prop := s = [] ∨ nameP s
theorem u8def : (default : UInt8) = 0 := rfl
theorem nxtD {p : Nat → Prop} {i : Nat} (h : ∀ j, j < i → p j) (hi : p i) : ∀ j, j < i + 1 → p j := fun j hj => by
  rcases Nat.lt_or_ge j i with q | q
  · exact h j q
  · obtain rfl : j = i := by omega
    exact hi

variable [Flag]
theorem awake_okS {h0 : AH} (w : WfH h0) : Fn Tryz.prog Xh 19 [] h0 (fun v h' => v = .bool true ∧ Hs h0 h' []) := Fn_known rfl ⟨rfl, Hs.start w⟩
theorem name_ok {h : AH} (s : List UInt8) : Fn Tryz.prog Xh 56 [str s] h (fun v h' => BoolIs v (nameP s) ∧ h' = h) := by
  refine Fn_K rfl Tryz.func56 rfl rfl ?_
  all_goals (repeat' (first | refine K_seq ?_ | refine k_cond rfl ?_ | refine K_skip ?_ | refine K_exit ?_ | refine k_block ?_ | refine K_scope ?_ | refine K_label ?_ | (refine K_region (id := 0) ?_; refine mv ?_; refine KO_nil ?_) | (refine K_region (id := 1) ?_; refine mv ?_; refine tl ?_; (first | refine cT ?_ | refine cF ?_ | (refine cS ?_ ?_ <;> intro hc)) <;> (refine mv ?_; (first | refine off ?_ | refine mv ?_); (first | refine off ?_ | refine tl ?_); (first | refine off ?_ | (first | refine cT ?_ | refine cF ?_ | (refine cS ?_ ?_ <;> intro hc))) <;> (refine vl ?_; refine KO_nil ?_))) | (refine K_region (id := 2) ?_; refine mv ?_; refine KO_nil ?_)))
  · refine K_ret ⟨_, rfl, ?_⟩
    exact ⟨.inr ⟨rfl, fun q => by have := q.1; omega⟩, rfl⟩
  · refine K_ret ⟨_, rfl, ?_⟩
    exact ⟨.inr ⟨rfl, fun q => by have := q.2.1; omega⟩, rfl⟩
  all_goals (repeat' (first | refine K_seq ?_ | refine k_cond rfl ?_ | refine K_skip ?_ | refine K_exit ?_ | refine k_block ?_ | refine K_scope ?_ | refine K_label ?_ | (refine K_region (id := 3) ?_; refine mv ?_; refine tl ?_; refine mv ?_; refine KO_nil ?_)))
  refine k_loop (σ := Nat) (fun i h' => h' = h ∧ i ≤ s.length ∧ ∀ j, j < i → lowB (s.getD j default)) (fun i => s.length - i) (fun i => [(0, str s), (13, .int .i64 s.length), (14, .int .i64 i)]) 0 (by repeat (first | exact Ks.le_nil _ | refine Ks.le_cons rfl ?_ | refine Ks.le_int ?_)) ?_ ?_
  · exact ⟨rfl, Nat.zero_le _, fun j hj => absurd hj (Nat.not_lt_zero _)⟩
  rintro i h ⟨rfl, h1, h2⟩
  all_goals (repeat' (first | refine K_seq ?_ | refine k_cond rfl ?_ | refine K_skip ?_ | refine K_exit ?_ | refine k_block ?_ | refine K_scope ?_ | refine K_label ?_ | (refine K_region (id := 4) ?_; (first | refine cT ?_ | refine cF ?_ | (refine cS ?_ ?_ <;> intro hc)) <;> (refine KO_nil ?_)) | (refine K_region (id := 5) ?_; refine mv ?_; refine mv ?_; refine KO_nil ?_) | (refine K_region (id := 6) ?_; refine mv ?_; refine mv ?_; (first | refine ti ?_ | refine vl ?_); (first | refine cT ?_ | refine cF ?_ | (refine cS ?_ ?_ <;> intro hc)) <;> (refine mv ?_; (first | refine off ?_ | refine mv ?_); (first | refine off ?_ | refine mv ?_); (first | refine off ?_ | (first | refine ti ?_ | refine vl ?_)); (first | refine off ?_ | (first | refine cT ?_ | refine cF ?_ | (refine cS ?_ ?_ <;> intro hc))) <;> (refine vl ?_; refine KO_nil ?_))) | (refine K_region (id := 7) ?_; refine mv ?_; refine KO_nil ?_) | (refine K_region (id := 8) ?_; (first | refine ad ?_ | refine vl ?_); refine mv ?_; refine KO_nil ?_) | (refine K_region (id := 9) ?_; refine mv ?_; refine KO_nil ?_)))
  all_goals (try simp only [Int.toNat_natCast] at *)
  · refine K_ret ⟨_, rfl, ?_⟩
    exact ⟨.inr ⟨rfl, fun q => by have := q.2.2 i (by omega); unfold lowB at this; simp only [u8def] at this; omega⟩, rfl⟩
  · refine K_ret ⟨_, rfl, ?_⟩
    exact ⟨.inr ⟨rfl, fun q => by have := q.2.2 i (by omega); unfold lowB at this; simp only [u8def] at this; omega⟩, rfl⟩
  · refine ⟨i + 1, ?_, ?_, (by repeat (first | exact Ks.le_nil _ | refine Ks.le_cons rfl ?_ | refine Ks.le_int ?_))⟩
    · show s.length - (i + 1) < s.length - i; omega
    · refine ⟨rfl, by omega, nxtD h2 ?_⟩
      unfold lowB
      simp only [u8def]
      omega
  · refine K_ret ⟨_, rfl, ?_⟩
    exact ⟨.inl ⟨rfl, by omega, by omega, fun j hj => h2 j (by omega)⟩, rfl⟩
theorem some_ok {h : AH} (s : List UInt8) : Fn Tryz.prog Xh 57 [str s] h (fun v h' => BoolIs v (someP s) ∧ h' = h) := by
  refine Fn_K rfl Tryz.func57 rfl rfl ?_
  all_goals (repeat' (first | refine K_seq ?_ | refine k_cond rfl ?_ | refine K_skip ?_ | refine K_exit ?_ | refine k_block ?_ | refine K_scope ?_ | refine K_label ?_ | (refine K_region (id := 0) ?_; refine mv ?_; refine KO_nil ?_) | (refine K_region (id := 1) ?_; refine mv ?_; (refine tS ?_ ?_ <;> intro hc) <;> (refine mv ?_; (first | refine off ?_ | refine mv ?_); (first | (refine off ?_; refine vl ?_; refine mv ?_; refine KO_nil ?_) | skip)))))
  · refine K_ret ⟨_, rfl, ?_⟩
    exact ⟨.inl ⟨rfl, .inl hc⟩, rfl⟩
  (refine KO_fn rfl rfl rfl rfl rfl ((name_ok s).mono ?_); rintro _ _ ⟨⟨rfl, hq⟩ | ⟨rfl, hq⟩, rfl⟩) <;> (refine vl ?_; refine mv ?_; refine KO_nil ?_)
  all_goals (all_goals (repeat' (first | refine K_seq ?_ | refine k_cond rfl ?_ | refine K_skip ?_ | refine K_exit ?_ | refine k_block ?_ | refine K_scope ?_ | refine K_label ?_)))
  all_goals (refine K_ret ⟨_, rfl, ?_⟩)
  · exact ⟨.inl ⟨rfl, .inr hq⟩, rfl⟩
  · exact ⟨.inr ⟨rfl, fun q => by rcases q with q | q; exact hc q; exact hq q⟩, rfl⟩
theorem refName_ok {h : AH} (s : List UInt8) : Fn Tryz.prog Xh 58 [str s] h (fun v h' => BoolIs v (nameP s) ∧ h' = h) := by
  refine Fn_K rfl Tryz.func58 rfl rfl ?_
  all_goals (repeat' (first | refine K_seq ?_ | refine k_cond rfl ?_ | refine K_skip ?_ | refine K_exit ?_ | refine k_block ?_ | refine K_scope ?_ | refine K_label ?_ | (refine K_region (id := 0) ?_; refine mv ?_; refine KO_nil ?_) | (refine K_region (id := 1) ?_; refine mv ?_; refine tl ?_; (first | refine cT ?_ | refine cF ?_ | (refine cS ?_ ?_ <;> intro hc)) <;> (refine mv ?_; (first | refine off ?_ | refine mv ?_); (first | refine off ?_ | refine tl ?_); (first | refine off ?_ | (first | refine cT ?_ | refine cF ?_ | (refine cS ?_ ?_ <;> intro hc))) <;> (refine vl ?_; refine KO_nil ?_))) | (refine K_region (id := 2) ?_; refine mv ?_; refine KO_nil ?_)))
  · refine K_ret ⟨_, rfl, ?_⟩
    exact ⟨.inr ⟨rfl, fun q => by have := q.1; omega⟩, rfl⟩
  · refine K_ret ⟨_, rfl, ?_⟩
    exact ⟨.inr ⟨rfl, fun q => by have := q.2.1; omega⟩, rfl⟩
  all_goals (repeat' (first | refine K_seq ?_ | refine k_cond rfl ?_ | refine K_skip ?_ | refine K_exit ?_ | refine k_block ?_ | refine K_scope ?_ | refine K_label ?_ | (refine K_region (id := 3) ?_; refine mv ?_; refine KO_nil ?_)))
  refine k_loop (σ := Nat) (fun i h' => h' = h ∧ i ≤ s.length ∧ ∀ j, j < i → lowB (s.getD j default)) (fun i => s.length - i) (fun i => [(0, str s), (3, .int .i64 i)]) 0 (by repeat (first | exact Ks.le_nil _ | refine Ks.le_cons rfl ?_ | refine Ks.le_int ?_)) ?_ ?_
  · exact ⟨rfl, Nat.zero_le _, fun j hj => absurd hj (Nat.not_lt_zero _)⟩
  rintro i h ⟨rfl, h1, h2⟩
  all_goals (repeat' (first | refine K_seq ?_ | refine k_cond rfl ?_ | refine K_skip ?_ | refine K_exit ?_ | refine k_block ?_ | refine K_scope ?_ | refine K_label ?_ | (refine K_region (id := 4) ?_; refine mv ?_; refine mv ?_; refine tl ?_; (first | refine cT ?_ | refine cF ?_ | (refine cS ?_ ?_ <;> intro hc)) <;> (refine KO_nil ?_)) | (refine K_region (id := 5) ?_; refine mv ?_; (first | refine ad ?_ | refine vl ?_); refine mv ?_; refine KO_nil ?_) | (refine K_region (id := 6) ?_; refine mv ?_; refine mv ?_; (first | refine ti ?_ | refine vl ?_); (first | refine cT ?_ | refine cF ?_ | (refine cS ?_ ?_ <;> intro hc)) <;> (refine mv ?_; (first | refine off ?_ | refine mv ?_); (first | refine off ?_ | refine mv ?_); (first | refine off ?_ | (first | refine ti ?_ | refine vl ?_)); (first | refine off ?_ | (first | refine cT ?_ | refine cF ?_ | (refine cS ?_ ?_ <;> intro hc))) <;> (refine vl ?_; refine KO_nil ?_))) | (refine K_region (id := 7) ?_; refine mv ?_; refine KO_nil ?_) | (refine K_region (id := 8) ?_; refine mv ?_; refine KO_nil ?_)))
  all_goals (try simp only [Int.toNat_natCast] at *)
  · refine K_ret ⟨_, rfl, ?_⟩
    exact ⟨.inr ⟨rfl, fun q => by have := q.2.2 i (by omega); unfold lowB at this; simp only [u8def] at this; omega⟩, rfl⟩
  · refine K_ret ⟨_, rfl, ?_⟩
    exact ⟨.inr ⟨rfl, fun q => by have := q.2.2 i (by omega); unfold lowB at this; simp only [u8def] at this; omega⟩, rfl⟩
  · refine ⟨i + 1, ?_, ?_, (by repeat (first | exact Ks.le_nil _ | refine Ks.le_cons rfl ?_ | refine Ks.le_int ?_))⟩
    · show s.length - (i + 1) < s.length - i; omega
    · refine ⟨rfl, by omega, nxtD h2 ?_⟩
      unfold lowB
      simp only [u8def]
      omega
  · refine K_ret ⟨_, rfl, ?_⟩
    exact ⟨.inl ⟨rfl, by omega, by omega, fun j hj => h2 j (by omega)⟩, rfl⟩
end Go.Proofs.Xx

/-
  Guests; the check of a guest, the program's and the reference's.
-/
namespace Go.Proofs.Xx
open Go Go.Proofs
set_option linter.unusedSimpArgs false
set_option linter.unusedVariables false
set_option maxRecDepth 100000

/-- What a guest is, wherever its tongues lie. -/
structure Gu where
  name : List UInt8
  rank : List UInt8
  court : List UInt8
  since : Int
  side : Int
  diet : List UInt8
  host : Bool
  access : Bool
  tg : List (List UInt8)
instance : Inhabited Gu := ⟨⟨[], [], [], 0, 0, [], false, false, []⟩⟩
structure Gst extends Gu where
  tv : SlV
instance : Inhabited Gst := ⟨⟨default, ⟨none, 0, 0⟩⟩⟩
def gV (g : Gst) : Value := .agg #[str g.name, str g.rank, str g.court, .int .i64 g.since, .int .i64 g.side, str g.diet, .bool g.host, .bool g.access, g.tv.val]
def eG (g : Gst) : List Value := [str g.name, str g.rank, str g.court, .int .i64 g.since, .int .i64 g.side, str g.diet, .bool g.host, .bool g.access, g.tv.val]
/-- What a guest's tongues read as. -/
def GstR (h : AH) (g : Gst) : Prop := RdL h g.tv.val 1 eS g.tg ∧ g.tg.length ≤ 9223372036854775807
def TgOk (l : List (List UInt8)) : Prop := ∀ i, i < l.length → nameP (l.getD i default) ∧ (0 < i → sLt (l.getD (i - 1) default) (l.getD i default))
def NmsOk (g : Gu) : Prop := nameP g.name ∧ someP g.rank ∧ someP g.court ∧ someP g.diet
open Classical in
noncomputable def chkG (g : Gu) : Int :=
  if ¬ NmsOk g then 4
  else if ¬ (0 ≤ g.since ∧ g.since ≤ 9999) then 21
  else if ¬ (0 ≤ g.side ∧ g.side ≤ 2) then 20
  else if ¬ (g.tg.length ≤ 4 ∧ TgOk g.tg) then 22
  else 0
theorem chkG_4 {g : Gu} (h : ¬ NmsOk g) : chkG g = 4 := by unfold chkG; rw [if_pos h]
theorem chkG_21 {g : Gu} (h : NmsOk g) (h2 : ¬ (0 ≤ g.since ∧ g.since ≤ 9999)) : chkG g = 21 := by unfold chkG; rw [if_neg (by simpa using h), if_pos h2]
theorem chkG_20 {g : Gu} (h : NmsOk g) (h2 : 0 ≤ g.since ∧ g.since ≤ 9999) (h3 : ¬ (0 ≤ g.side ∧ g.side ≤ 2)) : chkG g = 20 := by
  unfold chkG; rw [if_neg (by simpa using h), if_neg (by simpa using h2), if_pos h3]
theorem chkG_22 {g : Gu} (h : NmsOk g) (h2 : 0 ≤ g.since ∧ g.since ≤ 9999) (h3 : 0 ≤ g.side ∧ g.side ≤ 2) (h4 : ¬ (g.tg.length ≤ 4 ∧ TgOk g.tg)) : chkG g = 22 := by
  unfold chkG; rw [if_neg (by simpa using h), if_neg (by simpa using h2), if_neg (by simpa using h3), if_pos h4]
theorem chkG_0 {g : Gu} (h : NmsOk g) (h2 : 0 ≤ g.since ∧ g.since ≤ 9999) (h3 : 0 ≤ g.side ∧ g.side ≤ 2) (h4 : g.tg.length ≤ 4 ∧ TgOk g.tg) : chkG g = 0 := by
  unfold chkG; rw [if_neg (by simpa using h), if_neg (by simpa using h2), if_neg (by simpa using h3), if_neg (by simpa using h4)]
variable [Flag]
theorem check_ok {h0 : AH} (w : WfH h0) (g : Gst) (r : GstR h0 g) : Fn Tryz.prog Xh 17 [gV g] h0 (fun v h' => v = .int .i64 (chkG g.toGu) ∧ Hs h0 h' []) := by
  have S := Hs.start w
  have hr : RdL h0 g.tv.val 1 eS g.tg := r.1
  have hbig := r.2
  unfold gV
  refine Fn_K rfl Tryz.func17 rfl rfl ?_
  all_goals (repeat' (first | refine K_seq ?_ | refine k_block ?_ | (refine K_region (id := 0) ?_; (refine bx S ?_; clear S; intro b h S); refine mv ?_; refine KO_nil ?_)))
  all_goals (repeat' (first | (refine K_region (id := 1) ?_; refine vl ?_; refine lB S rfl rfl ?_)))
  (refine KO_fn rfl rfl rfl rfl rfl ((name_ok g.name).mono ?_); rintro _ _ ⟨⟨rfl, q1⟩ | ⟨rfl, q1⟩, rfl⟩) <;> (refine vl ?_; refine mv ?_; (first | refine off ?_ | (refine vl ?_)); (first | refine off ?_ | (refine lB S rfl rfl ?_)); (first | (refine off ?_; refine off ?_; refine vl ?_; refine mv ?_; refine off ?_; refine off ?_; (first | (refine off ?_; refine off ?_; refine vl ?_; refine mv ?_; refine off ?_; refine off ?_; (first | (refine off ?_; refine off ?_; refine vl ?_; refine mv ?_; refine KO_nil ?_))))) | skip))
  any_goals ((refine KO_fn rfl rfl rfl rfl rfl ((some_ok g.rank).mono ?_); rintro _ _ ⟨⟨rfl, q2⟩ | ⟨rfl, q2⟩, rfl⟩) <;> ((refine vl ?_); refine vl ?_; refine mv ?_; (first | refine off ?_ | (refine vl ?_)); (first | refine off ?_ | (refine lB S rfl rfl ?_)); (first | (refine off ?_; refine off ?_; refine vl ?_; refine mv ?_; refine off ?_; refine off ?_; (first | (refine off ?_; refine off ?_; refine vl ?_; refine mv ?_; refine KO_nil ?_))) | skip)))
  any_goals ((refine KO_fn rfl rfl rfl rfl rfl ((some_ok g.court).mono ?_); rintro _ _ ⟨⟨rfl, q3⟩ | ⟨rfl, q3⟩, rfl⟩) <;> ((refine vl ?_); refine vl ?_; refine mv ?_; (first | refine off ?_ | (refine vl ?_)); (first | refine off ?_ | (refine lB S rfl rfl ?_)); (first | (refine off ?_; refine off ?_; refine vl ?_; refine mv ?_; refine KO_nil ?_) | skip)))
  any_goals ((refine KO_fn rfl rfl rfl rfl rfl ((some_ok g.diet).mono ?_); rintro _ _ ⟨⟨rfl, q4⟩ | ⟨rfl, q4⟩, rfl⟩) <;> ((refine vl ?_); refine vl ?_; refine mv ?_; refine KO_nil ?_))
  all_goals (repeat' (first | refine K_seq ?_ | refine k_cond rfl ?_ | refine K_skip ?_ | refine k_block ?_ | (refine K_region (id := 2) ?_; refine mv ?_; refine KO_nil ?_) | (refine K_region (id := 3) ?_; refine vl ?_; refine lB S rfl rfl ?_; (first | (refine cS ?_ ?_ <;> intro hc)) <;> (refine mv ?_; (first | refine off ?_ | (refine vl ?_)); (first | refine off ?_ | (refine lB S rfl rfl ?_)); (first | refine off ?_ | (first | (refine cS ?_ ?_ <;> intro hc))) <;> (refine vl ?_; refine mv ?_; refine KO_nil ?_))) | (refine K_region (id := 4) ?_; refine mv ?_; refine KO_nil ?_) | (refine K_region (id := 5) ?_; refine vl ?_; refine lB S rfl rfl ?_; (first | (refine cS ?_ ?_ <;> intro hc)) <;> (refine mv ?_; (first | refine off ?_ | (refine vl ?_)); (first | refine off ?_ | (refine lB S rfl rfl ?_)); (first | refine off ?_ | (first | (refine cS ?_ ?_ <;> intro hc))) <;> (refine vl ?_; refine mv ?_; refine KO_nil ?_))) | (refine K_region (id := 6) ?_; refine mv ?_; refine KO_nil ?_) | (refine K_region (id := 7) ?_; refine vl ?_; refine lB S rfl rfl ?_; refine lnB S ?_; (first | (refine cS ?_ ?_ <;> intro hc)) <;> (refine mv ?_; refine KO_nil ?_)) | (refine K_region (id := 8) ?_; refine mv ?_; refine KO_nil ?_) | (refine K_region (id := 9) ?_; refine vl ?_; refine lB S rfl rfl ?_; refine lnB S ?_; refine mv ?_; refine KO_nil ?_)))
  any_goals
    refine K_ret ⟨_, rfl, ?_⟩
    refine ⟨?_, S.drop⟩
    first
      | (rw [chkG_4 (fun q => by unfold NmsOk at q; grind)]; rfl)
      | (rw [chkG_21 ⟨q1, q2, q3, q4⟩ (by omega)]; rfl)
      | (rw [chkG_20 ⟨q1, q2, q3, q4⟩ (by omega) (by omega)]; rfl)
      | (rw [chkG_22 ⟨q1, q2, q3, q4⟩ (by omega) (by omega) (fun q => by have := q.1; omega)]; rfl)
  have h1 : 0 ≤ g.since ∧ g.since ≤ 9999 := by omega
  have h2 : 0 ≤ g.side ∧ g.side ≤ 2 := by omega
  have h3 : g.tg.length ≤ 4 := by omega
  refine k_loop (σ := Nat) (fun i h' => Hs h0 h' [.blk b (eG g) 24] ∧ i ≤ g.tg.length ∧ ∀ j, j < i → nameP (g.tg.getD j default) ∧ (0 < j → sLt (g.tg.getD (j - 1) default) (g.tg.getD j default))) (fun i => g.tg.length - i) (fun i => [(1, .pointer (some ⟨b, 0, none⟩)), (52, g.tv.val), (53, .int .i64 g.tg.length), (54, .int .i64 i)]) 0 (by repeat (first | exact Ks.le_nil _ | refine Ks.le_cons rfl ?_)) ?_ ?_
  · exact ⟨S, Nat.zero_le _, fun j hj => absurd hj (Nat.not_lt_zero _)⟩
  clear S
  rintro i h ⟨S, g1, g2⟩
  all_goals (repeat' (first | refine K_seq ?_ | refine k_cond rfl ?_ | refine K_skip ?_ | refine K_exit ?_ | refine k_block ?_ | (refine K_region (id := 10) ?_; (first | (refine cS ?_ ?_ <;> intro hc)) <;> (refine KO_nil ?_)) | (refine K_region (id := 11) ?_; refine mv ?_; refine ixB S ?_; refine lEB S ?_; refine mv ?_; refine mv ?_; refine KO_nil ?_) | (refine K_region (id := 12) ?_; refine mv ?_) | (refine K_region (id := 15) ?_; refine mv ?_; refine KO_nil ?_)))
  · (try simp only [Int.toNat_natCast] at *)
    (refine KO_fn rfl rfl rfl rfl rfl ((name_ok _).mono ?_); rintro _ _ ⟨⟨rfl, q5⟩ | ⟨rfl, q5⟩, rfl⟩) <;> (refine vl ?_; refine mv ?_; (first | refine off ?_ | refine mv ?_); (first | refine off ?_ | (first | (refine cS ?_ ?_ <;> intro hc))) <;> ((first | refine off ?_ | refine mv ?_); (first | refine off ?_ | (refine vl ?_)); (first | refine off ?_ | (refine lB S rfl rfl ?_)); (first | refine off ?_ | refine mv ?_); (first | refine off ?_ | (refine sb ?_)); (first | refine off ?_ | (refine ixB S ?_)); (first | refine off ?_ | (refine lEB S ?_)); (first | refine off ?_ | refine mv ?_); (first | refine off ?_ | (refine tO ?_ ?_ <;> intro hc)) <;> ((first | refine off ?_ | refine vl ?_); refine vl ?_; refine KO_nil ?_)))
    all_goals (all_goals (repeat' (first | refine K_seq ?_ | refine k_cond rfl ?_ | refine K_skip ?_ | (refine K_region (id := 13) ?_; refine mv ?_; refine KO_nil ?_) | (refine K_region (id := 14) ?_; refine ad ?_; refine mv ?_; refine KO_nil ?_))))
    · refine K_ret ⟨_, rfl, ?_⟩
      rw [show ((i : Int) - 1).toNat = i - 1 by omega] at hc
      exact ⟨by rw [chkG_22 ⟨q1, q2, q3, q4⟩ h1 h2 (fun q => hc ((q.2 i (by omega)).2 (by omega)))]; rfl, S.drop⟩
    · rw [show ((i : Int) - 1).toNat = i - 1 by omega] at hc
      refine ⟨i + 1, ?_, ?_, (by repeat (first | exact Ks.le_nil _ | refine Ks.le_cons rfl ?_))⟩
      · show g.tg.length - (i + 1) < g.tg.length - i; omega
      · exact ⟨S, by omega, nxtD g2 ⟨q5, fun _ => Classical.not_not.1 hc⟩⟩
    · refine ⟨i + 1, ?_, ?_, (by repeat (first | exact Ks.le_nil _ | refine Ks.le_cons rfl ?_))⟩
      · show g.tg.length - (i + 1) < g.tg.length - i; omega
      · exact ⟨S, by omega, nxtD g2 ⟨q5, fun q => by omega⟩⟩
    · refine K_ret ⟨_, rfl, ?_⟩
      exact ⟨by rw [chkG_22 ⟨q1, q2, q3, q4⟩ h1 h2 (fun q => q5 (q.2 i (by omega)).1)]; rfl, S.drop⟩
  · refine K_ret ⟨_, rfl, ?_⟩
    exact ⟨by rw [chkG_0 ⟨q1, q2, q3, q4⟩ h1 h2 ⟨h3, fun j hj => g2 j (by omega)⟩]; rfl, S.drop⟩
theorem refCheck_ok {h0 : AH} (w : WfH h0) (g : Gst) (r : GstR h0 g) : Fn Tryz.prog Xh 18 [gV g] h0 (fun v h' => v = .int .i64 (chkG g.toGu) ∧ Hs h0 h' []) := by
  have S := Hs.start w
  have hr : RdL h0 g.tv.val 1 eS g.tg := r.1
  have hbig := r.2
  unfold gV
  refine Fn_K rfl Tryz.func18 rfl rfl ?_
  all_goals (repeat' (first | refine K_seq ?_ | (refine K_region (id := 0) ?_; (refine bx S ?_; clear S; intro b h S); refine mv ?_; refine KO_nil ?_)))
  (repeat (refine K_seq ?_)); first | refine K_join (σ := Unit) (fun _ h' => NmsOk g.toGu ∧ Hs h0 h' [.blk b (eG g) 24]) (fun _ => [(1, .pointer (some ⟨b, 0, none⟩))]) ?_ ?_
  · all_goals (repeat' (first | (refine K_region (id := 1) ?_; refine vl ?_; refine lB S rfl rfl ?_)))
    (refine KO_fn rfl rfl rfl rfl rfl ((refName_ok g.name).mono ?_); rintro _ _ ⟨⟨rfl, q1⟩ | ⟨rfl, q1⟩, rfl⟩) <;> (refine vl ?_; refine mv ?_; (first | refine off ?_ | (refine vl ?_)); (first | refine off ?_ | (refine lB S rfl rfl ?_)); (first | refine off ?_ | (refine tS ?_ ?_ <;> intro hc)) <;> ((first | refine off ?_ | refine mv ?_); (first | refine off ?_ | (refine vl ?_)); (first | refine off ?_ | (refine lB S rfl rfl ?_)); (first | (refine off ?_; refine off ?_; (first | refine off ?_ | refine vl ?_); refine vl ?_; refine mv ?_; (first | refine off ?_ | (refine vl ?_)); (first | refine off ?_ | (refine lB S rfl rfl ?_)); (first | refine off ?_ | (refine tS ?_ ?_ <;> intro hc)) <;> ((first | refine off ?_ | refine mv ?_); (first | refine off ?_ | (refine vl ?_)); (first | refine off ?_ | (refine lB S rfl rfl ?_)); (first | (refine off ?_; refine off ?_; (first | refine off ?_ | refine vl ?_); refine vl ?_; refine mv ?_; (first | refine off ?_ | (refine vl ?_)); (first | refine off ?_ | (refine lB S rfl rfl ?_)); (first | refine off ?_ | (refine tS ?_ ?_ <;> intro hc)) <;> ((first | refine off ?_ | refine mv ?_); (first | refine off ?_ | (refine vl ?_)); (first | refine off ?_ | (refine lB S rfl rfl ?_)); (first | (refine off ?_; refine off ?_; (first | refine off ?_ | refine vl ?_); refine vl ?_; refine KO_nil ?_) | skip))) | skip))) | skip)))
    any_goals ((refine KO_fn rfl rfl rfl rfl rfl ((refName_ok g.rank).mono ?_); rintro _ _ ⟨⟨rfl, q2⟩ | ⟨rfl, q2⟩, rfl⟩) <;> ((refine vl ?_); refine vl ?_; refine vl ?_; refine mv ?_; (first | refine off ?_ | (refine vl ?_)); (first | refine off ?_ | (refine lB S rfl rfl ?_)); (first | refine off ?_ | (refine tS ?_ ?_ <;> intro hc)) <;> ((first | refine off ?_ | refine mv ?_); (first | refine off ?_ | (refine vl ?_)); (first | refine off ?_ | (refine lB S rfl rfl ?_)); (first | (refine off ?_; refine off ?_; (first | refine off ?_ | refine vl ?_); refine vl ?_; refine mv ?_; (first | refine off ?_ | (refine vl ?_)); (first | refine off ?_ | (refine lB S rfl rfl ?_)); (first | refine off ?_ | (refine tS ?_ ?_ <;> intro hc)) <;> ((first | refine off ?_ | refine mv ?_); (first | refine off ?_ | (refine vl ?_)); (first | refine off ?_ | (refine lB S rfl rfl ?_)); (first | (refine off ?_; refine off ?_; (first | refine off ?_ | refine vl ?_); refine vl ?_; refine KO_nil ?_) | skip))) | skip))))
    any_goals ((refine KO_fn rfl rfl rfl rfl rfl ((refName_ok g.court).mono ?_); rintro _ _ ⟨⟨rfl, q3⟩ | ⟨rfl, q3⟩, rfl⟩) <;> ((refine vl ?_); refine vl ?_; refine vl ?_; refine mv ?_; (first | refine off ?_ | (refine vl ?_)); (first | refine off ?_ | (refine lB S rfl rfl ?_)); (first | refine off ?_ | (refine tS ?_ ?_ <;> intro hc)) <;> ((first | refine off ?_ | refine mv ?_); (first | refine off ?_ | (refine vl ?_)); (first | refine off ?_ | (refine lB S rfl rfl ?_)); (first | (refine off ?_; refine off ?_; (first | refine off ?_ | refine vl ?_); refine vl ?_; refine KO_nil ?_) | skip))))
    any_goals ((refine KO_fn rfl rfl rfl rfl rfl ((refName_ok g.diet).mono ?_); rintro _ _ ⟨⟨rfl, q4⟩ | ⟨rfl, q4⟩, rfl⟩) <;> ((refine vl ?_); refine vl ?_; refine vl ?_; refine KO_nil ?_))
    all_goals (all_goals (repeat' (first | refine K_seq ?_ | refine k_cond rfl ?_ | refine K_skip ?_ | (refine K_region (id := 2) ?_; refine mv ?_; refine KO_nil ?_))))
    any_goals
      refine K_ret ⟨_, rfl, ?_⟩
      refine ⟨?_, S.drop⟩
      rw [chkG_4 (fun q => by unfold NmsOk someP at q; grind)]; rfl
    all_goals exact ⟨(), ⟨by unfold NmsOk someP; grind, S⟩, ((by repeat (first | exact Ks.le_nil _ | refine Ks.le_cons rfl ?_)))⟩
  clear S
  rintro - h ⟨hN, S⟩
  all_goals (repeat' (first | refine K_seq ?_ | refine k_cond rfl ?_ | refine K_skip ?_ | (refine K_region (id := 3) ?_; refine vl ?_; refine lB S rfl rfl ?_; (first | (refine cS ?_ ?_ <;> intro hc)) <;> (refine mv ?_; (first | refine off ?_ | (refine vl ?_)); (first | refine off ?_ | (refine lB S rfl rfl ?_)); (first | refine off ?_ | (first | (refine cS ?_ ?_ <;> intro hc))) <;> (refine vl ?_; refine KO_nil ?_))) | (refine K_region (id := 4) ?_; refine mv ?_; refine KO_nil ?_)))
  any_goals
    refine K_ret ⟨_, rfl, ?_⟩
    refine ⟨?_, S.drop⟩
    rw [chkG_21 hN (by omega)]; rfl
  have h1 : 0 ≤ g.since ∧ g.since ≤ 9999 := by omega
  (repeat (refine K_seq ?_)); first | refine K_join (σ := Unit) (fun _ h' => (0 ≤ g.side ∧ g.side ≤ 2) ∧ Hs h0 h' [.blk b (eG g) 24]) (fun _ => [(1, .pointer (some ⟨b, 0, none⟩))]) ?_ ?_
  · all_goals (repeat' (first | refine K_seq ?_ | refine k_cond rfl ?_ | refine K_skip ?_ | (refine K_region (id := 5) ?_; refine vl ?_; refine lB S rfl rfl ?_; (first | (refine cS ?_ ?_ <;> intro hc)) <;> (refine mv ?_; (first | refine off ?_ | (refine vl ?_)); (first | refine off ?_ | (refine lB S rfl rfl ?_)); (first | refine off ?_ | (first | (refine cS ?_ ?_ <;> intro hc))) <;> (refine vl ?_; refine mv ?_; (first | refine off ?_ | (refine vl ?_)); (first | refine off ?_ | (refine lB S rfl rfl ?_)); (first | refine off ?_ | (first | (refine cS ?_ ?_ <;> intro hc))) <;> (refine vl ?_; refine KO_nil ?_)))) | (refine K_region (id := 6) ?_; refine mv ?_; refine KO_nil ?_)))
    any_goals
      refine K_ret ⟨_, rfl, ?_⟩
      refine ⟨?_, S.drop⟩
      rw [chkG_20 hN h1 (by omega)]; rfl
    all_goals exact ⟨(), ⟨by omega, S⟩, ((by repeat (first | exact Ks.le_nil _ | refine Ks.le_cons rfl ?_)))⟩
  clear S
  rintro - h ⟨h2, S⟩
  all_goals (repeat' (first | refine K_seq ?_ | refine k_cond rfl ?_ | refine K_skip ?_ | refine k_block ?_ | (refine K_region (id := 7) ?_; refine vl ?_; refine lB S rfl rfl ?_; refine lnB S ?_; (first | (refine cS ?_ ?_ <;> intro hc)) <;> (refine KO_nil ?_)) | (refine K_region (id := 8) ?_; refine mv ?_; refine KO_nil ?_) | (refine K_region (id := 9) ?_; refine mv ?_; refine KO_nil ?_)))
  · refine K_ret ⟨_, rfl, ?_⟩
    refine ⟨?_, S.drop⟩
    rw [chkG_22 hN h1 h2 (fun q => by have := q.1; omega)]; rfl
  have h3 : g.tg.length ≤ 4 := by omega
  refine k_loop (σ := Nat) (fun i h' => Hs h0 h' [.blk b (eG g) 24] ∧ i ≤ g.tg.length ∧ ∀ j, j < i → nameP (g.tg.getD j default) ∧ (0 < j → sLt (g.tg.getD (j - 1) default) (g.tg.getD j default))) (fun i => g.tg.length - i) (fun i => [(1, .pointer (some ⟨b, 0, none⟩)), (3, .int .i64 i)]) 0 (by repeat (first | exact Ks.le_nil _ | refine Ks.le_cons rfl ?_)) ?_ ?_
  · exact ⟨S, Nat.zero_le _, fun j hj => absurd hj (Nat.not_lt_zero _)⟩
  clear S
  rintro i h ⟨S, g1, g2⟩
  all_goals (repeat' (first | refine K_seq ?_ | refine k_cond rfl ?_ | refine K_skip ?_ | refine K_exit ?_ | refine k_block ?_ | (refine K_region (id := 10) ?_; refine mv ?_; refine vl ?_; refine lB S rfl rfl ?_; refine lnB S ?_; (first | (refine cS ?_ ?_ <;> intro hc)) <;> (refine KO_nil ?_)) | (refine K_draw (id := 12) ?_; refine vl ?_; refine lB S rfl rfl ?_; refine mv ?_; refine ixB S ?_; refine lEB S ?_) | (refine K_region (id := 14) ?_; refine mv ?_; refine KO_nil ?_)))
  · (try simp only [Int.toNat_natCast] at *)
    (refine KO_fn rfl rfl rfl rfl rfl ((refName_ok _).mono ?_); rintro _ _ ⟨⟨rfl, q5⟩ | ⟨rfl, q5⟩, rfl⟩) <;> (refine vl ?_; refine mv ?_; (first | refine off ?_ | refine mv ?_); (first | refine off ?_ | (first | (refine cS ?_ ?_ <;> intro hc))) <;> ((first | refine off ?_ | refine mv ?_); (first | refine off ?_ | (refine vl ?_)); (first | refine off ?_ | (refine lB S rfl rfl ?_)); (first | refine off ?_ | refine mv ?_); (first | refine off ?_ | (refine ixB S ?_)); (first | refine off ?_ | (refine lEB S ?_)); (first | refine off ?_ | (refine vl ?_)); (first | refine off ?_ | (refine lB S rfl rfl ?_)); (first | refine off ?_ | refine mv ?_); (first | refine off ?_ | (refine sb ?_)); (first | refine off ?_ | (refine ixB S ?_)); (first | refine off ?_ | (refine lEB S ?_)); (first | refine off ?_ | (refine tO ?_ ?_ <;> intro hc)) <;> ((first | refine off ?_ | refine vl ?_); refine vl ?_; refine KO_nil ?_)))
    all_goals (all_goals (repeat' (first | refine K_seq ?_ | refine k_cond rfl ?_ | refine K_skip ?_ | (refine K_region (id := 11) ?_; refine mv ?_; refine ad ?_; refine mv ?_; refine KO_nil ?_) | (refine K_region (id := 13) ?_; refine mv ?_; refine KO_nil ?_))))
    · refine K_ret ⟨_, rfl, ?_⟩
      rw [show ((i : Int) - 1).toNat = i - 1 by omega] at hc
      exact ⟨by rw [chkG_22 hN h1 h2 (fun q => hc ((q.2 i (by omega)).2 (by omega)))]; rfl, S.drop⟩
    · rw [show ((i : Int) - 1).toNat = i - 1 by omega] at hc
      refine ⟨i + 1, ?_, ?_, (by repeat (first | exact Ks.le_nil _ | refine Ks.le_cons rfl ?_))⟩
      · show g.tg.length - (i + 1) < g.tg.length - i; omega
      · exact ⟨S, by omega, nxtD g2 ⟨q5, fun _ => Classical.not_not.1 hc⟩⟩
    · refine ⟨i + 1, ?_, ?_, (by repeat (first | exact Ks.le_nil _ | refine Ks.le_cons rfl ?_))⟩
      · show g.tg.length - (i + 1) < g.tg.length - i; omega
      · exact ⟨S, by omega, nxtD g2 ⟨q5, fun q => by omega⟩⟩
    · refine K_ret ⟨_, rfl, ?_⟩
      exact ⟨by rw [chkG_22 hN h1 h2 (fun q => q5 (q.2 i (by omega)).1)]; rfl, S.drop⟩
  · refine K_ret ⟨_, rfl, ?_⟩
    exact ⟨by rw [chkG_0 hN h1 h2 ⟨h3, fun j hj => g2 j (by omega)⟩]; rfl, S.drop⟩
end Go.Proofs.Xx

/-
  Guests among the arguments.
-/
namespace Go.Proofs.Xx
open Go Go.Proofs
set_option linter.unusedSimpArgs false
set_option linter.unusedVariables false
set_option maxRecDepth 100000

/-- What a guest among the arguments reads as: any lengths. -/
structure GstA (h : AH) (g : Gst) : Prop where
  rd : RdL h g.tv.val 1 eS g.tg
  cap : CapOk g.tv.val
  len : g.tg.length ≤ maxLen
  l1 : g.name.length ≤ maxLen
  l2 : g.rank.length ≤ maxLen
  l3 : g.court.length ≤ maxLen
  l4 : g.diet.length ≤ maxLen
  l5 : ∀ i, i < g.tg.length → (g.tg.getD i default).length ≤ maxLen
  i64 : (-9223372036854775808 ≤ g.since ∧ g.since ≤ 9223372036854775807) ∧ (-9223372036854775808 ≤ g.side ∧ g.side ≤ 9223372036854775807)
theorem GstA.ext {h h' : AH} {g : Gst} (a : GstA h g) (w : WfH h) (x : Ext h h') : GstA h' g := ⟨a.rd.ext w x, a.cap, a.len, a.l1, a.l2, a.l3, a.l4, a.l5, a.i64⟩
theorem GstA.r {h : AH} {g : Gst} (a : GstA h g) : GstR h g := ⟨a.rd, by have := a.len; unfold maxLen at this; omega⟩
theorem i64_of {x : Int} (h : (Lit.int .i64 x).wf = true) : -9223372036854775808 ≤ x ∧ x ≤ 9223372036854775807 := by
  simp [Lit.wf, IntKind.min, IntKind.max, IntKind.signed, IntKind.bits] at h
  omega
theorem AR.bool1 {P : Program} {h : AH} {n : Nat} {t : TypeId} {r : List Value} (a : AR P h n t r) (hu : P.underlying t = some .bool) : ∃ b : Bool, r = [.bool b] := by
  cases n with
  | zero => exact a.elim
  | succ n =>
    unfold AR at a
    rw [hu] at a
    split at a
    all_goals (first | exact a.elim | (rename_i q _; cases q; done) | (rename_i q; cases q; done) | skip)
    all_goals exact ⟨_, rfl⟩
theorem AR.strs1 {h : AH} {n : Nat} {r : List Value} (a : AR Tryz.prog h n 22 r) : ∃ v l, r = [v] ∧ RdL h v 1 eS l ∧ l.length ≤ maxLen ∧ CapOk v ∧ ∀ i, i < l.length → (l.getD i default).length ≤ maxLen :=
  AR.slice1 (e := 9) (z := 1) eS (fun s => s.length ≤ maxLen) a (by kernel_rfl) (by kernel_rfl) (fun n cs q => by
    obtain ⟨s, hs, hl⟩ := q.str1 (by kernel_rfl)
    exact ⟨s, hs, hl⟩)
theorem AR.gst1 {h : AH} {n : Nat} {r : List Value} (a : AR Tryz.prog h n 24 r) : ∃ g, r = eG g ∧ GstA h g := by
  obtain ⟨n', hl, hk⟩ := a.struct1 (m := [(0, 9), (1, 9), (2, 9), (3, 3), (4, 3), (5, 9), (6, 4), (7, 4), (8, 22)]) (z := 9) rfl (by kernel_rfl) (by kernel_rfl)
  match r, hl with
  | [x0, x1, x2, x3, x4, x5, x6, x7, x8], _ =>
    obtain ⟨s0, e0, h0⟩ := AR.str1 (show AR Tryz.prog h n' 9 [x0] from hk (0, 9) (by simp)) (by kernel_rfl)
    obtain ⟨s1, e1, h1⟩ := AR.str1 (show AR Tryz.prog h n' 9 [x1] from hk (1, 9) (by simp)) (by kernel_rfl)
    obtain ⟨s2, e2, h2⟩ := AR.str1 (show AR Tryz.prog h n' 9 [x2] from hk (2, 9) (by simp)) (by kernel_rfl)
    obtain ⟨y3, e3, h3⟩ := AR.int1 (k := .i64) (show AR Tryz.prog h n' 3 [x3] from hk (3, 3) (by simp)) (by kernel_rfl)
    obtain ⟨y4, e4, h4⟩ := AR.int1 (k := .i64) (show AR Tryz.prog h n' 3 [x4] from hk (4, 3) (by simp)) (by kernel_rfl)
    obtain ⟨s5, e5, h5⟩ := AR.str1 (show AR Tryz.prog h n' 9 [x5] from hk (5, 9) (by simp)) (by kernel_rfl)
    obtain ⟨b6, e6⟩ := AR.bool1 (show AR Tryz.prog h n' 4 [x6] from hk (6, 4) (by simp)) (by kernel_rfl)
    obtain ⟨b7, e7⟩ := AR.bool1 (show AR Tryz.prog h n' 4 [x7] from hk (7, 4) (by simp)) (by kernel_rfl)
    obtain ⟨v, l, e8, g1, g2, g3, g4⟩ := AR.strs1 (show AR Tryz.prog h n' 22 [x8] from hk (8, 22) (by simp))
    cases e0; cases e1; cases e2; cases e3; cases e4; cases e5; cases e6; cases e7
    obtain ⟨sv, rfl⟩ := g1.isSl
    cases e8
    exact ⟨⟨⟨s0, s1, s2, y3, y4, s5, b6, b7, l⟩, sv⟩, rfl, g1, g3, g2, h0, h1, h2, h5, g4, i64_of h3, i64_of h4⟩
end Go.Proofs.Xx

/-
  Rolls; books in memory; New, Clone, copied, Add.
-/
namespace Go.Proofs.Xx
open Go Go.Proofs
set_option linter.unusedSimpArgs false
set_option linter.unusedVariables false
set_option maxRecDepth 100000

/-- Some resources of a list. -/
class SubR (rs rs' : List Rs) : Prop where
  sub : ∀ {h0 h : AH}, Hs h0 h rs → Hs h0 h rs'
instance (priority := 2000) SubR.here {rs : List Rs} : SubR rs rs := ⟨id⟩
instance SubR.there {r : Rs} {rs rs' : List Rs} [i : SubR rs rs'] : SubR (r :: rs) rs' := ⟨fun S => i.sub S.tail⟩
theorem Hs.sub {h0 h : AH} {rs rs' : List Rs} [i : SubR rs rs'] (S : Hs h0 h rs) : Hs h0 h rs' := i.sub S
/-- r stands in rs, and the rest. -/
class DtI (rs : List Rs) (r : Rs) (rs' : outParam (List Rs)) : Prop where
  dt : Dt rs r rs'
instance (priority := 2000) DtI.here {r : Rs} {rs : List Rs} : DtI (r :: rs) r rs := ⟨.here⟩
instance DtI.there {r s : Rs} {rs rs' : List Rs} [i : DtI rs r rs'] : DtI (s :: rs) r (s :: rs') := ⟨.there i.dt⟩
/-- The resources l stand in rs. -/
class SelR (rs l : List Rs) : Prop where
  sel : ∀ {lo : Nat} {h : AH} {U : Fp}, Sep lo h rs U → Sep lo h l U
instance (priority := 2000) SelR.here {rs : List Rs} : SelR rs rs := ⟨id⟩
instance SelR.nil {rs : List Rs} : SelR rs [] := ⟨fun _ => trivial⟩
instance SelR.cons {rs rs' l : List Rs} {r : Rs} [i : DtI rs r rs'] [j : SelR rs' l] : SelR rs (r :: l) := ⟨fun k => by
  obtain ⟨fp, k1, k2, k3⟩ := i.dt.sep k
  exact ⟨fp, k1, k2, j.sel k3⟩⟩
instance (priority := 500) SelR.there {rs l : List Rs} {r : Rs} [j : SelR rs l] : SelR (r :: rs) l := ⟨fun ⟨_, _, _, k⟩ => j.sel (k.mono fun _ q => q.1)⟩
theorem Hs.pick {h0 h : AH} {rs l : List Rs} [i : SelR rs l] (S : Hs h0 h rs) : Hs h0 h l := ⟨S.ext, i.sel S.sep⟩
/-- v reads as l as long as the resources rs are there. -/
abbrev RdS {α : Type} (h0 : AH) (rs : List Rs) (v : Value) (z : Nat) (enc : α → List Value) (l : List α) : Prop := ∀ h, Hs h0 h rs → RdL h v z enc l
theorem RdS.base {α : Type} {h0 : AH} {rs : List Rs} {v : Value} {z : Nat} {enc : α → List Value} {l : List α} (w : WfH h0) (r : RdL h0 v z enc l) : RdS h0 rs v z enc l := fun h S => r.ext w S.ext

structure Ti where
  a : List UInt8
  b : List UInt8
  k : Int
instance : Inhabited Ti := ⟨⟨[], [], 0⟩⟩
def eTi (t : Ti) : List Value := [str t.a, str t.b, .int .u8 t.k]
def tiV (t : Ti) : Value := .agg #[str t.a, str t.b, .int .u8 t.k]
/-- Where the guest of a name stands. -/
def gat : List Gu → List UInt8 → Option Nat
  | [], _ => none
  | g :: r, n => if g.name = n then some 0 else (gat r n).map (· + 1)
structure Rl where
  us : List Gu
  ts : List Ti
instance : Inhabited Rl := ⟨⟨[], []⟩⟩
open Classical in
noncomputable def addF (r : Rl) (g : Gu) : Rl × Int :=
  if chkG g ≠ 0 then (r, chkG g) else if gat r.us g.name ≠ none then (r, 5) else if 64 ≤ r.us.length then (r, 7) else (⟨r.us ++ [g], r.ts⟩, 0)
theorem addF_e {r : Rl} {g : Gu} (h : chkG g ≠ 0) : addF r g = (r, chkG g) := by unfold addF; rw [if_pos h]
theorem addF_5 {r : Rl} {g : Gu} (h : chkG g = 0) (h2 : gat r.us g.name ≠ none) : addF r g = (r, 5) := by unfold addF; rw [if_neg (by simpa using h), if_pos h2]
theorem addF_7 {r : Rl} {g : Gu} (h : chkG g = 0) (h2 : gat r.us g.name = none) (h3 : 64 ≤ r.us.length) : addF r g = (r, 7) := by unfold addF; rw [if_neg (by simpa using h), if_neg (by simpa using h2), if_pos h3]
theorem addF_0 {r : Rl} {g : Gu} (h : chkG g = 0) (h2 : gat r.us g.name = none) (h3 : ¬ 64 ≤ r.us.length) : addF r g = (⟨r.us ++ [g], r.ts⟩, 0) := by unfold addF; rw [if_neg (by simpa using h), if_neg (by simpa using h2), if_neg h3]

/-- What the map of a book tells. -/
def AtOk (m : List (List UInt8 × Int)) (us : List Gu) : Prop := ∀ n, mGet m n = (gat us n).map Int.ofNat
theorem gat_app {us : List Gu} {g : Gu} (n : List UInt8) : gat (us ++ [g]) n = match gat us n with | some i => some i | none => if g.name = n then some us.length else none := by
  induction us with
  | nil => simp [gat]
  | cons x r ih =>
    simp only [List.cons_append, gat]
    by_cases h : x.name = n
    · simp [h]
    · simp only [if_neg h, ih]
      cases gat r n <;> simp <;> split <;> simp
theorem AtOk.app {m : List (List UInt8 × Int)} {us : List Gu} {g : Gu} (a : AtOk m us) (hn : gat us g.name = none) : AtOk (mPut m g.name us.length) (us ++ [g]) := fun n => by
  rw [mGet_put, gat_app]
  by_cases h : n = g.name
  · subst h; simp [hn]
  · rw [if_neg h, a n]
    cases gat us n with
    | none => simp; exact fun q => h q.symm
    | some i => simp
/-- The tongues of all guests can be read. -/
def TgsOk (gs : List Gst) (h : AH) (fp : Fp) : Prop := ∀ g ∈ gs, (Rs.rd g.tv.val 1 eS g.tg).ok h fp
abbrev tgR (gs : List Gst) : Rs := .any (TgsOk gs)
structure BkS where
  vg : SlV
  vt : SlV
  m : Nat
  mp : List (List UInt8 × Int)
  gs : List Gst
abbrev bkL (b : Nat) (ts : List Ti) (s : BkS) : List Rs := [.blk b [s.vg.val, s.vt.val, .map (some s.m)] 86, .sl s.vg.val 24 9 eG s.gs, .sl s.vt.val 111 3 eTi ts, .mp s.m (.int .i64) s.mp, tgR s.gs]
/-- A book with the content of a roll. -/
abbrev bookR (b : Nat) (r : Rl) : Rs := packR (fun s : BkS => s.gs.map (·.toGu) = r.us ∧ AtOk s.mp r.us) (bkL b r.ts)
theorem Hs.bk {h0 h : AH} {rs0 rs : List Rs} {b : Nat} {r : Rl} (S : Hs h0 h rs0) (vg vt : SlV) (m : Nat) (mp : List (List UInt8 × Int)) (gs : List Gst) (q1 : gs.map (·.toGu) = r.us) (q2 : AtOk mp r.us)
    [i : SelR rs0 (.blk b [vg.val, vt.val, .map (some m)] 86 :: .sl vg.val 24 9 eG gs :: .sl vt.val 111 3 eTi r.ts :: .mp m (.int .i64) mp :: tgR gs :: rs)] : Hs h0 h (bookR b r :: rs) :=
  Hs.pack (s := ⟨vg, vt, m, mp, gs⟩) ⟨q1, q2⟩ (show Hs h0 h (.blk b [vg.val, vt.val, .map (some m)] 86 :: .sl vg.val 24 9 eG gs :: .sl vt.val 111 3 eTi r.ts :: .mp m (.int .i64) mp :: tgR gs :: rs) from S.pick)
theorem TgsOk.rd {h : AH} {fp : Fp} {gs : List Gst} (k : TgsOk gs h fp) {i : Nat} (hi : i < gs.length) : RdL h (gs.getD i default).tv.val 1 eS (gs.getD i default).tg := by
  have q := k _ (List.getElem_mem hi)
  rw [show gs.getD i default = gs[i] by rw [List.getD_eq_getElem?_getD, List.getElem?_eq_getElem hi]; rfl]
  rcases q with ⟨q1, q2⟩ | ⟨b, o, cap, cc, e, s, r, q1, q2, q3, q4⟩
  · exact .inl ⟨q1, by rw [q2]; rfl, by rw [q2]; rfl⟩
  · exact .inr ⟨b, o, cap, cc, e, s, r, q1, q2, q4⟩
theorem rd_mono {α : Type} {v : Value} {z : Nat} {enc : α → List Value} {l : List α} {h : AH} {fp fp' : Fp} (k : (Rs.rd v z enc l).ok h fp) (hf : ∀ b, fp b → fp' b) : (Rs.rd v z enc l).ok h fp' := by
  rcases k with k | ⟨b, o, cap, cc, e, s, r, q1, q2, q3, q4⟩
  · exact .inl k
  · exact .inr ⟨b, o, cap, cc, e, s, r, q1, q2, hf b q3, q4⟩
theorem sl_rd {α : Type} {v : Value} {e : TypeId} {z : Nat} {enc : α → List Value} {l : List α} {h : AH} {fp : Fp} (k : (Rs.sl v e z enc l).ok h fp) : (Rs.rd v z enc l).ok h fp := by
  rcases k with k | ⟨b, o, cc, slk, cap, h1, h2, h3, h4, -⟩
  · exact .inl k
  · exact .inr ⟨b, o, _, cc, e, slk, false, h1, h2, h3, h4⟩
/-- One more guest's tongues. -/
theorem Hs.tgApp {h0 h : AH} {rs : List Rs} {gs : List Gst} {g : Gst} {e : TypeId} (S : Hs h0 h (.sl g.tv.val e 1 eS g.tg :: tgR gs :: rs)) : Hs h0 h (tgR (gs ++ [g]) :: rs) := by
  obtain ⟨f1, k1, k2, f2, k3, k4, k5⟩ := S.sep
  refine ⟨S.ext, fun b => f1 b ∨ f2 b, fun h' q g' hg => ?_, fun b hb => ?_, k5.mono fun b hb => ⟨trivial, fun q => ?_⟩⟩
  · rcases List.mem_append.1 hg with hg | hg
    · exact rd_mono (k3 h' (fun b hb => q b (.inr hb)) g' hg) fun b hb => .inr hb
    · obtain rfl := List.mem_singleton.1 hg
      exact rd_mono (sl_rd (k1.local fun b hb => q b (.inl hb))) fun b hb => .inl hb
  · rcases hb with hb | hb
    · exact k2 b hb
    · exact ⟨(k4 b hb).1, (k4 b hb).2.1, trivial⟩
  · rcases q with q | q
    · exact hb.1.2 q
    · exact hb.2 q
theorem chkG_ok {g : Gu} (h : chkG g = 0) : NmsOk g ∧ (0 ≤ g.since ∧ g.since ≤ 9999) ∧ (0 ≤ g.side ∧ g.side ≤ 2) ∧ g.tg.length ≤ 4 ∧ TgOk g.tg := by
  unfold chkG at h
  split at h
  · cases h
  · split at h
    · cases h
    · split at h
      · cases h
      · split at h
        · cases h
        · rename_i a b c d
          exact ⟨Classical.not_not.1 a, Classical.not_not.1 b, Classical.not_not.1 c, (Classical.not_not.1 d).1, (Classical.not_not.1 d).2⟩
variable [Flag]
theorem bnone_ok {h0 : AH} (w : WfH h0) {b m : Nat} {vg vt : Value} (hb : h0.get b = some (.cells [vg, vt, .map (some m)] 86 none false)) : Fn Tryz.prog Xh 71 [.pointer (some ⟨b, 0, none⟩)] h0 (fun v h' => v = .bool false ∧ Hs h0 h' []) := by
  have S := Hs.start w
  refine Fn_K rfl Tryz.func71 rfl rfl ?_
  all_goals (repeat' (first | refine K_seq ?_ | (refine K_region (id := 0) ?_; refine mv ?_; refine KO_nil ?_) | (refine K_region (id := 1) ?_; refine mv ?_; refine vl ?_; refine mv ?_; refine mv ?_; refine vl ?_; (first | (refine vl ?_)); (first | (refine lH S ?_)); refine vl ?_; refine vl ?_; refine mv ?_; refine KO_nil ?_)))
  refine K_ret ⟨_, rfl, ?_⟩
  exact ⟨rfl, S⟩
theorem cloneW_ok {h0 : AH} (w : WfH h0) (v : Value) (a : List (List UInt8)) (r : RdL h0 v 1 eS a) (hl : a.length ≤ 1000000) : Fn Tryz.prog Xh 127 [v] h0 (fun u h' => Hs h0 h' [.sl u 9 1 eS a]) := by
  have S := Hs.start w
  have r0 := r
  rcases r with ⟨rfl, h1, -⟩ | ⟨b, o, cap, cc, e, s, q, rfl, h1, h2⟩
  · obtain rfl : a = [] := List.length_eq_zero_iff.1 h1
    refine Fn_K rfl Tryz.func127 rfl rfl ?_
    all_goals (repeat' (first | refine K_seq ?_ | refine k_cond rfl ?_ | (refine K_region (id := 0) ?_; refine mv ?_; refine KO_nil ?_) | (refine K_region (id := 1) ?_; refine mv ?_; refine vl ?_; refine KO_nil ?_) | (refine K_region (id := 2) ?_; refine mv ?_; refine KO_nil ?_)))
    refine K_ret ⟨_, rfl, ?_⟩
    exact S.nilS
  · refine Fn_K rfl Tryz.func127 rfl rfl ?_
    all_goals (repeat' (first | refine K_seq ?_ | refine k_cond rfl ?_ | refine K_skip ?_ | (refine K_region (id := 0) ?_; refine mv ?_; refine KO_nil ?_) | (refine K_region (id := 1) ?_; refine mv ?_; refine vl ?_; refine KO_nil ?_) | (refine K_region (id := 3) ?_; skip)))
    refine nw 1 eS S ?_; clear S; intro u h S; (refine mv ?_)
    refine apd S rfl rfl (r0.ext w S.ext) ?_; clear S; intro v' h S; (refine mv ?_; refine KO_nil ?_)
    all_goals (repeat' (fail))
    refine K_ret ⟨_, rfl, ?_⟩
    exact S
theorem copied_ok {h0 : AH} (w : WfH h0) (g : Gst) (r : RdL h0 g.tv.val 1 eS g.tg) (hl : g.tg.length ≤ 1000000) : Fn Tryz.prog Xh 75 [gV g] h0 (fun v h' => ∃ tv : SlV, v = gV { g with tv := tv } ∧ Hs h0 h' [.sl tv.val 9 1 eS g.tg]) := by
  have S := Hs.start w
  unfold gV
  refine Fn_K rfl Tryz.func75 rfl rfl ?_
  all_goals (repeat' (first | refine K_seq ?_ | (refine K_region (id := 0) ?_; (refine bx S ?_; clear S; intro b h S); (refine al S ?_; clear S; intro b h S); refine KO_nil ?_) | (refine K_region (id := 1) ?_; refine vl ?_; refine lB S rfl rfl ?_)))
  (refine KO_fn rfl rfl rfl rfl rfl ((cloneW_ok S.wf g.tv.val g.tg (r.ext w S.ext) hl).mono ?_); rintro v h x) <;> (replace S := S.join1 x; clear x; obtain ⟨tv, rfl⟩ := S.slRd.sV v; refine vl ?_; (first | (refine sB S rfl rfl ?_; clear S; intro h S)); refine KO_nil ?_)
  all_goals (repeat' (first | refine K_seq ?_ | (refine K_region (id := 2) ?_; refine lB S rfl rfl ?_; (first | (refine sB S rfl rfl ?_; clear S; intro h S)); refine KO_nil ?_)))
  refine K_ret ⟨_, ret_cell S rfl (by first | exact .there .here) (by exact rfl) (by exact rfl), ?_⟩
  exact ⟨tv, rfl, S.only .here⟩
theorem new_ok {h0 : AH} (w : WfH h0) : Fn Tryz.prog Xh 47 [] h0 (fun v h' => ∃ b, v = .pointer (some ⟨b, 0, none⟩) ∧ Hs h0 h' [bookR b ⟨[], []⟩]) := by
  have S := Hs.start w
  refine Fn_K rfl Tryz.func47 rfl rfl ?_
  all_goals (repeat' (first | refine K_seq ?_ | (refine K_region (id := 0) ?_; refine mv ?_; refine KO_nil ?_)))
  refine K_region (id := 1) ?_
  refine mkm (α := Int) (.int .i64) S ?_; clear S; intro m h S; (refine vl ?_; (refine bx S ?_; clear S; intro b h S); refine mv ?_; refine KO_nil ?_)
  all_goals (repeat' (fail))
  refine K_ret ⟨_, rfl, ?_⟩
  refine ⟨_, rfl, ?_⟩
  have S := ((S.nilS (e := 24) (z := 9) (enc := eG)).nilS (e := 111) (z := 3) (enc := eTi)).anyS (p := TgsOk []) fun h' g hg => by cases hg
  replace S : Hs h0 _ [tgR [], .sl (SlV.val ⟨none, 0, 0⟩) 111 3 eTi [], .sl (SlV.val ⟨none, 0, 0⟩) 24 9 eG [], .blk b [SlV.val ⟨none, 0, 0⟩, SlV.val ⟨none, 0, 0⟩, .map (some m)] 86, .mp m (.int .i64) []] := S
  exact S.bk (r := ⟨[], []⟩) ⟨none, 0, 0⟩ ⟨none, 0, 0⟩ m [] [] rfl fun n => rfl
theorem add_ok {h0 h : AH} {rs : List Rs} {p : Nat} {r : Rl} (S : Hs h0 h (bookR p r :: rs)) (g : Gst) (hr : RdS h0 rs g.tv.val 1 eS g.tg) (hl : g.tg.length ≤ 9223372036854775807) (hu : r.us.length ≤ 64) :
    Fn Tryz.prog Xh 35 [.pointer (some ⟨p, 0, none⟩), gV g] h (fun v h' => v = .int .i64 (addF r g.toGu).2 ∧ Hs h0 h' (bookR p (addF r g.toGu).1 :: rs)) := by
  obtain ⟨⟨vg, vt, m, mp, gs⟩, ⟨q1, q2⟩, S⟩ := S.unpack
  have e1 : gs.length = r.us.length := by rw [← q1]; simp
  dsimp only [bkL, List.cons_append, List.nil_append] at q1 q2 S
  unfold gV
  refine Fn_K rfl Tryz.func35 rfl rfl ?_
  all_goals (repeat' (first | refine K_seq ?_ | (refine K_region (id := 0) ?_; (refine bx S ?_; clear S; intro b h S); refine mv ?_; refine KO_nil ?_) | (refine K_region (id := 1) ?_; refine mv ?_)))
  (refine KO_fn rfl rfl rfl rfl rfl ((bnone_ok S.wf (blk_get S (.there .here))).mono ?_); rintro _ h ⟨rfl, x⟩) <;> (replace S := S.join0 x; clear x; refine KO_nil ?_)
  all_goals (repeat' (first | refine K_seq ?_ | refine k_cond rfl ?_ | refine K_skip ?_ | (refine K_region (id := 3) ?_; refine lB S rfl rfl ?_)))
  (refine KO_fn rfl rfl rfl rfl rfl ((check_ok S.wf g ⟨hr _ S.sub, hl⟩).mono ?_); rintro _ h ⟨rfl, x⟩) <;> (replace S := S.join0 x; clear x; refine mv ?_; refine KO_nil ?_)
  all_goals (repeat' (first | refine K_seq ?_ | refine k_cond rfl ?_ | refine K_skip ?_ | (refine K_region (id := 4) ?_; refine mv ?_; (first | (refine cS ?_ ?_ <;> intro hc)) <;> (refine KO_nil ?_)) | (refine K_region (id := 5) ?_; refine mv ?_; refine mv ?_; refine KO_nil ?_) | (refine K_draw (id := 6) ?_; refine mv ?_; refine vl ?_; refine vl ?_; refine lB S rfl rfl ?_; refine vl ?_; refine lB S rfl rfl ?_)))
  · refine K_ret ⟨_, rfl, ?_⟩
    rw [addF_e hc]
    exact ⟨rfl, S.bk vg vt m mp gs q1 q2⟩
  · have hc0 : chkG g.toGu = 0 := by simpa using hc
    replace S : Hs h0 h (.blk b (eG g) 24 :: .blk p [vg.val, vt.val, .map (some m)] 86 :: .sl vg.val 24 9 eG gs :: .sl vt.val 111 3 eTi r.ts :: .mp m (.int .i64) mp :: tgR gs :: rs) := S
    refine lk S (.there (.there (.there (.there .here)))) (fun i hi => ?_) (fun hi => ?_)
    · simp only [okV]
      (refine mv ?_; refine vl ?_; refine vl ?_; refine mv ?_; refine mv ?_; refine KO_nil ?_)
      all_goals (repeat' (first | refine K_seq ?_ | refine k_cond rfl ?_ | (refine K_region (id := 7) ?_; refine mv ?_; refine KO_nil ?_) | (refine K_region (id := 8) ?_; refine mv ?_; refine KO_nil ?_)))
      refine K_ret ⟨_, rfl, ?_⟩
      rw [addF_5 hc0 (by rw [q2] at hi; intro q; rw [q] at hi; cases hi)]
      exact ⟨rfl, S.bk vg vt m mp gs q1 q2⟩
    · simp only [okV]
      (refine mv ?_; refine vl ?_; refine vl ?_; refine mv ?_; refine mv ?_; refine KO_nil ?_)
      all_goals (repeat' (first | refine K_seq ?_ | refine k_cond rfl ?_ | refine K_skip ?_ | (refine K_region (id := 7) ?_; refine mv ?_; refine KO_nil ?_) | (refine K_region (id := 9) ?_; refine mv ?_; refine vl ?_; refine vl ?_; refine vl ?_; refine lB S rfl rfl ?_; refine lnS S rfl rfl ?_; (first | (refine cS ?_ ?_ <;> intro hc)) <;> (refine KO_nil ?_)) | (refine K_region (id := 10) ?_; refine mv ?_; refine KO_nil ?_) | (refine K_draw (id := 11) ?_; refine mv ?_; refine vl ?_; refine vl ?_; refine lB S rfl rfl ?_; refine vl ?_; refine lB S rfl rfl ?_; refine mv ?_; refine vl ?_; refine vl ?_; refine vl ?_; refine lB S rfl rfl ?_; refine lnS S rfl rfl ?_)))
      · refine K_ret ⟨_, rfl, ?_⟩
        rw [addF_7 hc0 (by rw [q2] at hi; cases hq : gat r.us g.name with | none => rfl | some i => rw [hq] at hi; cases hi) (by omega)]
        exact ⟨rfl, S.bk vg vt m mp gs q1 q2⟩
      · have hn : gat r.us g.name = none := by rw [q2] at hi; cases hq : gat r.us g.name with | none => rfl | some i => rw [hq] at hi; cases hi
        have hn64 : ¬ 64 ≤ r.us.length := by omega
        refine up (x := (gs.length : Int)) (key := g.name) S (.there (.there (.there (.there .here)))) (.there (.there (.there (.there .here)))) (fun h S => ?_) (.inl rfl)
        (refine KO_nil ?_)
        have ht4 := (chkG_ok hc0).2.2.2.1
        (repeat (refine K_seq ?_)); refine K_drawX (id := 12) [(5, (0, 2))] [some (p)] ?_; refine KX_cons ?_; (first | (refine mv ?_ <;> refine KO_nil ⟨⟨by (first | exact True.intro), rfl⟩, ?_⟩)); refine KX_cons ?_; (first | (refine mv ?_ <;> refine KO_nil ⟨⟨by (first | exact True.intro), rfl⟩, ?_⟩)); refine KX_cons ?_; (first | (refine vl ?_ <;> refine KO_nil ⟨⟨by (first | exact True.intro), rfl⟩, ?_⟩)); refine KX_cons ?_; (first | (refine vl ?_ <;> refine KO_nil ⟨⟨by (first | exact True.intro), rfl⟩, ?_⟩)); refine KX_cons ?_; (first | (refine vl ?_ <;> refine KO_nil ⟨⟨by (first | exact True.intro), rfl⟩, ?_⟩)); refine KX_cons ?_; (first | (refine lB S rfl rfl ?_ <;> refine KO_nil ⟨⟨by (first | exact Or.inr rfl), rfl⟩, ?_⟩)); refine KX_cons ?_; (first | (refine lB S rfl rfl ?_ <;> refine KO_nil ⟨⟨by (first | exact True.intro), rfl⟩, ?_⟩))
        ((refine KX_cons ?_; first | refine KO_fn rfl rfl rfl rfl rfl ((copied_ok S.wf g (hr _ S.sub) (by omega)).mono ?_)); rintro _ h ⟨tv, rfl, x⟩) <;> ((refine KO_nil ⟨⟨True.intro, ?_⟩, ?_⟩; (focus ((show keepsX _ _ _ _ _; simp only [keepsX]; (repeat' (first | exact True.intro | refine And.intro ?_ ?_)); all_goals (intro hw; first | exact x.ext.old _ S.bB))))); replace S := S.join1 x; clear x; refine KX_cons ?_; (first | ((refine one 9 S ?_; have S0 := S; clear S; intro u h S); refine KO_nil ⟨⟨True.intro, ?_⟩, ?_⟩; (focus ((show keepsX _ _ _ _ _; simp only [keepsX]; (repeat' (first | exact True.intro | refine And.intro ?_ ?_)); all_goals (intro hw; first | exact (S.gB).trans (S0.gB).symm)))); clear S0)))
        refine KX_cons ?_; refine app (y0 := { g with tv := tv }) S rfl rfl ?_; have S0 := S; clear S; intro v h S; obtain ⟨vg', rfl⟩ := S.sV v; refine KO_nil ⟨⟨True.intro, ?_⟩, ?_⟩; (focus ((show keepsX _ _ _ _ _; simp only [keepsX]; (repeat' (first | exact True.intro | refine And.intro ?_ ?_)); all_goals (intro hw; first | exact (S.gB).trans (S0.gB).symm)))); clear S0; (refine KX_cons ?_; (first | (refine vl ?_ <;> refine KO_nil ⟨⟨by (first | exact True.intro), rfl⟩, ?_⟩)); refine KX_cons ?_; (first | (refine vl ?_ <;> refine KO_nil ⟨⟨by (first | exact True.intro), rfl⟩, ?_⟩)); refine KX_cons ?_; (first | (refine vl ?_ <;> refine KO_nil ⟨⟨by (first | exact True.intro), rfl⟩, ?_⟩)); refine KX_cons ?_; (first | ((refine sB S rfl rfl ?_; have S0 := S; clear S; intro h S); refine KO_nil ⟨⟨True.intro, ?_⟩, ?_⟩; (focus ((show keepsX _ _ _ _ _; simp only [keepsX]; (repeat' (first | exact True.intro | refine And.intro ?_ ?_)); all_goals (intro hw; first | exact absurd hw (by decide +kernel))))); clear S0)); refine KX_nil ?_)
        all_goals (repeat' (first | refine K_seq ?_ | (refine K_region (id := 13) ?_; refine mv ?_; refine KO_nil ?_)))
        refine K_ret ⟨_, rfl, ?_⟩
        rw [addF_0 hc0 hn hn64]
        replace S : Hs h0 h (.sl vg'.val 24 9 eG (gs ++ [{ g with tv := tv }]) :: .sl tv.val 9 1 eS g.tg :: .blk b (eG g) 24 :: .blk p [vg'.val, vt.val, .map (some m)] 86 :: .sl vt.val 111 3 eTi r.ts :: .mp m (.int .i64) (mPut mp g.name gs.length) :: tgR gs :: rs) := S
        have S := (show Hs h0 h (.sl tv.val 9 1 eS g.tg :: tgR gs :: .sl vg'.val 24 9 eG (gs ++ [{ g with tv := tv }]) :: .blk p [vg'.val, vt.val, .map (some m)] 86 :: .sl vt.val 111 3 eTi r.ts :: .mp m (.int .i64) (mPut mp g.name gs.length) :: rs) from S.pick)
        have S := Hs.tgApp (g := { g with tv := tv }) S
        refine ⟨rfl, S.bk vg' vt m (mPut mp g.name gs.length) (gs ++ [{ g with tv := tv }]) (by simp [q1]) ?_⟩
        rw [e1]; exact q2.app hn
end Go.Proofs.Xx
