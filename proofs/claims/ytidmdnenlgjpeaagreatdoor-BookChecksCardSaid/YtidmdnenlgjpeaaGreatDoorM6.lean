/-
  Slices of slices of one's own; resources read in other words.
-/
import Derived.Test.YtidmdnenlgjpeaaGreatDoorM5

namespace Go.Proofs.Xx
open Go
set_option linter.unusedSimpArgs false
set_option linter.unusedVariables false

/-- A known slot whose integer is told in other words. -/
theorem Ks.le_int {L L' : Ks} {k : Nat} {ik : IntKind} {n m : Int} (hl : Ks.le L' L) (h : L.get k = some (.int ik m) := by exact rfl) (e : m = n := by first | omega | grind) : Ks.le ((k, .int ik n) :: L') L := Ks.le_cons (by rw [h, e]) hl

section
variable {P : Program} {X : Extern} {inR : Bool} {sz : Nat} {L : Ks} {h h0 : AH} {rs : List Rs} {ops : Array Oper} {os : List Oper} {o : Oper} {R : Ks → AH → Prop} {Q : KQ}

/-- The same memory, a resource read in other words. -/
theorem Hs.same {r r' : Rs} {rs' : List Rs} (S : Hs h0 h rs) (u : Ut rs r r' rs') (hk : ∀ fp, r.ok h fp → r'.ok h fp) : Hs h0 h rs' :=
  S.turn u (Nat.le_refl _) S.wf fun fp k1 k2 => ⟨fun _ _ _ => rfl, fp, hk fp k1, fun b hb => ⟨(k2 b hb).2, .inl hb⟩⟩
theorem Hs.recode {α β : Type} {v : Value} {e : TypeId} {z : Nat} {enc : α → List Value} {l : List α} {enc2 : β → List Value} {l2 : List β} (S : Hs h0 h (.sl v e z enc l :: rs)) (hl : l.length = l2.length) (hc : l.flatMap enc = l2.flatMap enc2) : Hs h0 h (.sl v e z enc2 l2 :: rs) :=
  S.same .here fun fp k => by
    rcases k with ⟨rfl, rfl⟩ | ⟨b, o, cc, slk, h1, h2, h3, h4, h5, h6⟩
    · have : l2 = [] := List.length_eq_zero_iff.1 hl.symm
      exact .inl ⟨rfl, this⟩
    · refine .inr ⟨b, o, cc, slk, by rw [← hl]; exact h1, h2, h3, by rw [← hl, ← hc]; exact h4, ?_, h6⟩
      rcases h5 with h5 | ⟨h5, h7⟩
      · exact .inl (by rw [← hl]; exact h5)
      · subst h5
        exact .inr ⟨List.length_eq_zero_iff.1 hl.symm, h7⟩
theorem Hs.one {α : Type} {v : Value} {e : TypeId} {z : Nat} {c : List Value} (enc : α → List Value) (y : α) (S : Hs h0 h (.sl v e z eRaw [c] :: rs)) (hc : c = enc y) : Hs h0 h (.sl v e z enc [y] :: rs) := S.recode rfl (by simp [eRaw, hc])

/-- v[lo:], of a slice of one's own that is not used any more. -/
theorem dr {α : Type} {x lo : Operand} {ty e : TypeId} {v : Value} {z : Nat} {enc : α → List Value} {l : List α} {f : Rs → List Rs} {dd : List Rs} {ik : IntKind} {a : Int} {d : Tmp} (S : Hs h0 h rs) (ho : o.op = .slice ty x (some lo) none none) (hx : kA L x = some v) [i : HasS rs v α e z enc l f dd]
    (w : ∀ v', Hs h0 h (f (.sl v' e z enc (l.drop a.toNat))) → KO P X sz ops os (L.put d v') h R) (hg : guardA ops L.tree o.guard = some true := by exact rfl) (hlo : kA L lo = some (.int ik a) := by exact rfl) (hz : ∀ x, (enc x).length = z := by intro _; rfl) (hu : elemZ P ty = some z := by exact rfl) (ha : 0 ≤ a ∧ a ≤ l.length := by first | omega | grind)
    (hdst : o.dst = some d := by exact rfl) (hds : Nat.blt d sz = true := by exact rfl) : KO P X sz ops (o :: os) L h R := by
  obtain ⟨k, rfl⟩ := Int.eq_ofNat_of_zero_le ha.1
  have hk : k ≤ l.length := by omega
  obtain ⟨fp, k1, k2, -⟩ := (i.ut (.sl v e z enc l)).ok (h' := h) S.ext.next (Nat.le_refl _) S.sep
  have hue : ∃ e', P.underlying ty = some (.slice e') ∧ sizeT P e' = some z := by
    unfold elemZ at hu
    split at hu
    · exact ⟨_, by assumption, hu⟩
    · cases hu
  obtain ⟨e', hu1, hu2⟩ := hue
  have hlo' : evA L.tree lo = some (.int ik (Int.ofNat k)) := tree_le hlo
  have go : ∀ v', aSlice P ty v (some (.int ik (Int.ofNat k))) none none h = some v' → Hs h0 h (f (.sl v' e z enc (l.drop k))) → KO P X sz ops (o :: os) L h R := fun v' q1 q2 => by
    refine KO_val (v := v') (h' := h) hg ?_ (by simp only [putK, hdst, hds]) (w v' (by simpa using q2))
    rw [ho]
    simp only [aOp, tree_le hx, evOpt, hlo', q1, nextOf, aSlice3_none]
  rcases k1 with ⟨rfl, rfl⟩ | ⟨b, o', cc, slk, g1, g2, g3, g4, g5, g6⟩
  · obtain rfl : k = 0 := by simpa using hk
    refine go (.slice none 0 0) ?_ (S.same (i.ut _) fun fq q => by simpa using q)
    simp only [aSlice, hu1, boundOf, hu2]
  · subst g1
    have hle : Nat.ble k l.length = true := Nat.ble_eq_true_of_le hk
    have hnn : Nat.ble l.length l.length = true := Nat.ble_eq_true_of_le (Nat.le_refl _)
    have hoc : o' + l.length * z ≤ cc.length := by
      rcases g5 with g5 | ⟨g5, g7⟩
      · omega
      · rw [g5]; simpa using g7
    have hkz : k * z ≤ l.length * z := Nat.mul_le_mul_right z hk
    cases hq : slk.isNone && Nat.beq k l.length with
    | true =>
      rw [Bool.and_eq_true] at hq
      have hkl := Nat.eq_of_beq_eq_true hq.2
      refine go (.slice (some ⟨b, o', none⟩) (l.length - k) (l.length - k)) ?_ (S.same (i.ut _) fun fq q => ?_)
      · simp only [aSlice, hu1, g2, hu2, boundOf, hle, hnn, Bool.and_self, hq.1, hq.2]
      · rcases q with ⟨q1, -⟩ | ⟨b', o2, cc2, sl2, q1, q2, q3, -⟩
        · cases q1
        · cases q1
          have : l.drop k = [] := by rw [hkl, List.drop_length]
          exact .inr ⟨b, o', cc, slk, by rw [List.length_drop], g2, q3, by rw [this]; simp [takeAt], .inr ⟨this, by omega⟩, g6⟩
    | false =>
      refine go (.slice (some ⟨b, o' + k * z, none⟩) (l.length - k) (l.length - k)) ?_ (S.same (i.ut _) fun fq q => ?_)
      · simp only [aSlice, hu1, g2, hu2, boundOf, hle, hnn, Bool.and_self, hq]
      · rcases q with ⟨q1, -⟩ | ⟨b', o2, cc2, sl2, q1, q2, q3, -⟩
        · cases q1
        · cases q1
          have hsub : k * z + (l.length - k) * z = l.length * z := by rw [← Nat.add_mul]; congr 1; omega
          refine .inr ⟨b, o' + k * z, cc, slk, by rw [List.length_drop], g2, q3, ?_, ?_, g6⟩
          · rw [List.length_drop, flatMap_drop hz, takeAt_sub g4 (by omega), List.take_of_length_le]
            rw [List.length_drop, flatMap_length hz]; omega
          · rcases g5 with g5 | ⟨g5, g7⟩
            · left; rw [List.length_drop]; omega
            · right; subst g5; simp at hk ⊢; subst hk; omega
end
end Go.Proofs.Xx

/-
  A region whose order is open and where some reads have no fixed place: the blocks that they read keep their value.
-/
namespace Go.Proofs.Xx
open Go
set_option linter.unusedSimpArgs false
set_option linter.unusedVariables false

/-- The block that a pointer or a slice points into. -/
def blkOf : Value → Nat
  | .pointer (some ⟨b, _, _⟩) => b
  | .slice (some ⟨b, _, _⟩) _ _ => b
  | .map (some b) => b
  | _ => 0
/-- The block that an operation looks at. -/
def rdBlk (t : Tr Value) (op : Op) : Option Nat :=
  match op with
  | .load _ a => match evA t a with | some v => some (blkOf v) | none => none
  | .slice _ x _ _ none => match evA t x with | some v => some (blkOf v) | none => none
  | .lookup _ m _ _ => match evA t m with | some v => some (blkOf v) | none => none
  | _ => none
theorem cellsAt_same {h k : AH} {v : Value} (e : k.get (blkOf v) = h.get (blkOf v)) : cellsAt k v = cellsAt h v := by
  unfold cellsAt
  split
  · simp only [blkOf] at e
    rw [e]
  · rfl
theorem aLoad_same {P : Program} {ty : TypeId} {h k : AH} {v : Value} (e : k.get (blkOf v) = h.get (blkOf v)) : aLoad P ty v k = aLoad P ty v h := by
  unfold aLoad; rw [cellsAt_same e]
theorem aSlice_same {P : Program} {ty : TypeId} {h k : AH} {v : Value} {a b c : Option Value} (e : k.get (blkOf v) = h.get (blkOf v)) : aSlice P ty v a b c k = aSlice P ty v a b c h := by
  unfold aSlice
  split
  · rfl
  · rfl
  · simp only [blkOf] at e; rw [e]
  · simp only [blkOf] at e; rw [e]
  · rfl
theorem aMapOf_same {h k : AH} {v : Value} (e : k.get (blkOf v) = h.get (blkOf v)) : aMapOf v k = aMapOf v h := by
  unfold aMapOf
  split
  · rfl
  · simp only [blkOf] at e; rw [e]
  · rfl
theorem aLookup_same {P : Program} {ty : TypeId} {h k : AH} {v q : Value} {ok : Bool} (e : k.get (blkOf v) = h.get (blkOf v)) : aLookup P ty v q ok k = aLookup P ty v q ok h := by
  unfold aLookup; rw [aMapOf_same e]
theorem aOp_same {P : Program} {t : Tr Value} {op : Op} {h k : AH} {b : Nat} {v : Value} {u : AH} (hb : rdBlk t op = some b) (e : k.get b = h.get b) (ha : aOp P t h op = some (.val v u)) : ∃ u', aOp P t k op = some (.val v u') := by
  cases op <;> simp only [rdBlk] at hb <;> try (cases hb)
  · rename_i ty a
    split at hb
    · rename_i x hx
      cases hb
      simp only [aOp, hx, aLoad_same e] at ha ⊢
      cases hl : aLoad P ty x h with
      | none => rw [hl] at ha; cases ha
      | some y => rw [hl] at ha; cases ha; exact ⟨_, rfl⟩
    · cases hb
  · rename_i ty a lo hi mx
    cases mx with
    | some mx => cases hb
    | none =>
    simp only at hb
    split at hb
    · rename_i x hx
      cases hb
      simp only [aOp, hx] at ha ⊢
      cases h1 : evOpt t lo with
      | none => rw [h1] at ha; cases ha
      | some l =>
        cases h2 : evOpt t hi with
        | none => rw [h1, h2] at ha; cases ha
        | some r =>
          have h3 : evOpt t none = some none := rfl
          ·
            rw [h1, h2, h3] at ha
            simp only [aSlice3_none] at ha
            simp only [h3, aSlice3_none, aSlice_same e]
            cases hl : aSlice P ty x l r none h with
            | none => rw [hl] at ha; cases ha
            | some y => rw [hl] at ha; cases ha; exact ⟨_, rfl⟩
    · cases hb
  · rename_i ty a ky ok
    split at hb
    · rename_i x hx
      cases hb
      simp only [aOp, hx] at ha ⊢
      cases h1 : evA t ky with
      | none => rw [h1] at ha; cases ha
      | some l =>
        rw [h1] at ha
        simp only at ha
        simp only [aLookup_same e]
        cases hl : aLookup P ty x l ok h with
        | none => rw [hl] at ha; cases ha
        | some y => rw [hl] at ha; cases ha; exact ⟨_, rfl⟩
    · cases hb

/-- How many operations of the chain stand before the i-th. -/
def cntX (ops : Array Oper) (fl : List Nat) (i : Nat) : Nat := ((List.range i).filter (chainAt ops fl)).length
def winOf : List (Nat × Nat × Nat) → Nat → Option (Nat × Nat)
  | [], _ => none
  | (j, lo, hi) :: r, i => match Nat.beq j i with | true => some (lo, hi) | false => winOf r i
/-- A conversion of an integer looks at no block. -/
def cvInt (t : Tr Value) (op : Op) : Bool :=
  match op with
  | .convert _ _ x => match evA t x with | some (.int _ _) => true | _ => false
  | _ => false
def blkFor : List (Nat × Nat × Nat) → List (Option Nat) → Nat → Option (Option Nat)
  | (j, _, _) :: r, b :: s, i => match Nat.beq j i with | true => some b | false => blkFor r s i
  | _, _, _ => none
/-- The watched blocks are as they were, over the step m of the chain. -/
def keepsX : List (Nat × Nat × Nat) → List (Option Nat) → Nat → AH → AH → Prop
  | (_, lo, hi) :: r, some b :: s, m, h, h' => ((Nat.ble lo m && Nat.blt m hi) = true → h'.get b = h.get b) ∧ keepsX r s m h h'
  | _ :: r, none :: s, m, h, h' => keepsX r s m h h'
  | _, _, _, _, _ => True
theorem keepsX.get {h h' : AH} {m i lo hi b : Nat} : ∀ {rd : List (Nat × Nat × Nat)} {bl : List (Option Nat)}, keepsX rd bl m h h' → winOf rd i = some (lo, hi) → blkFor rd bl i = some (some b) → lo ≤ m → m < hi → h'.get b = h.get b
  | [], _, _, hw, _, _, _ => by cases hw
  | _ :: _, [], _, _, hb, _, _ => by cases hb
  | (j, l, r) :: rd, some c :: s, k, hw, hb, h1, h2 => by
    simp only [winOf] at hw
    simp only [blkFor] at hb
    split at hw
    · rename_i e
      rw [e] at hb
      cases hw; cases hb
      exact k.1 (by rw [Bool.and_eq_true]; exact ⟨Nat.ble_eq_true_of_le h1, Nat.ble_eq_true_of_le h2⟩)
    · rename_i e
      rw [e] at hb
      exact keepsX.get k.2 hw hb h1 h2
  | (j, l, r) :: rd, none :: s, k, hw, hb, h1, h2 => by
    simp only [winOf] at hw
    simp only [blkFor] at hb
    split at hw
    · rename_i e
      rw [e] at hb
      cases hb
    · rename_i e
      rw [e] at hb
      exact keepsX.get (rd := rd) (bl := s) k hw hb h1 h2

section
variable (P : Program) (ops : Array Oper) (fl : List Nat) (ids : List (Nat × Nat)) (rd : List (Nat × Nat × Nat)) (bl : List (Option Nat))
/-- An operation looks at the block b. -/
abbrev looksX (i : Nat) (o : Oper) (t : Tr Value) (h : AH) (b : Nat) : Prop :=
  match idOf ids i with
  | none => rdBlk t o.op = some b
  | some b' => b' = b ∧ ∃ x c e, aFloat P t o.op = some (x, c, e) ∧ h.get b = some (.cells c e none false)
/-- What a step has to keep. -/
abbrev StepX (i : Nat) (o : Oper) (t : Tr Value) (h h' : AH) : Prop :=
  (match blkFor rd bl i with | some (some b) => guardA ops t o.guard = some false ∨ looksX P ids i o t h b | some none => (guardA ops t o.guard = some false ∨ cvInt t o.op = true) ∧ idOf ids i = none | none => True) ∧ (match chainAt ops fl i with | true => keepsX rd bl (cntX ops fl i) h h' | false => h' = h)
def drawX : Bool :=
  planOk ops (masks ops.toList []) fl && (floatsOf ops (masks ops.toList []) == fl) &&
    (List.range ops.size).all fun i => chainAt ops fl i || match winOf rd i with
      | some (lo, hi) => (Nat.ble lo (cntX ops fl i) && Nat.ble (cntX ops fl i) hi) && (List.range (((List.range ops.size).filter (chainAt ops fl)).length + 1)).all fun m => farOff (masks ops.toList []) ((List.range ops.size).filter (chainAt ops fl)) m i || (Nat.ble lo m && Nat.ble m hi)
      | none => match ops[i]? with | some o => !hasN fl i && calmAt [] (masks ops.toList []) ((List.range ops.size).filter (chainAt ops fl)) i o.op | none => false
end
def WOX (P : Program) (X : Extern) (sz : Nat) (ops : Array Oper) (fl : List Nat) (ids : List (Nat × Nat)) (rd : List (Nat × Nat × Nat)) (bl : List (Option Nat)) (i : Nat) (os : List Oper) (t : Tr Value) (h : AH) (R : Tr Value → AH → Prop) : Prop :=
  ∃ n l t' h', runD P X (exec P X n) sz ops ids false i os t h = some (l, t', h') ∧ (∀ k o, os[k]? = some o → ∃ s, l[k]? = some s ∧ (s.go = true → guardA ops s.t o.guard = some true) ∧ StepX P ops fl ids rd bl (i + k) o s.t s.h (hpAt l h' (k + 1))) ∧ hpAt l h' 0 = h ∧ R t' h'
theorem aFloat_le {P : Program} {u t : Tr Value} (hl : TLe u t) {op : Op} {x : Option Nat × List Value × TypeId} (h : aFloat P u op = some x) : aFloat P t op = some x := by
  cases op <;> simp only [aFloat] at h ⊢ <;> try exact h
  · split at h
    · rename_i hx; rw [evA_le hl hx]; exact h
    · cases h
  · split at h
    · rename_i e1 e2; rw [evParts_le hl e1, e2]; exact h
    · cases h
theorem looksX.le {P : Program} {ids : List (Nat × Nat)} {i : Nat} {o : Oper} {u t : Tr Value} (hl : TLe u t) {h : AH} {b : Nat} (k : looksX P ids i o u h b) (hrd : ∀ {op : Op} {b : Nat}, rdBlk u op = some b → rdBlk t op = some b) : looksX P ids i o t h b := by
  unfold looksX at k ⊢
  split
  · rename_i e; rw [e] at k; exact hrd k
  · rename_i b' e
    rw [e] at k
    obtain ⟨k1, x, c, ee, k2, k3⟩ := k
    exact ⟨k1, x, c, ee, aFloat_le hl k2, k3⟩
theorem rdBlk_le {u t : Tr Value} (hl : TLe u t) {op : Op} {b : Nat} (h : rdBlk u op = some b) : rdBlk t op = some b := by
  cases op <;> simp only [rdBlk] at h ⊢ <;> try exact h
  · split at h
    · rename_i hx; rw [evA_le hl hx]; exact h
    · cases h
  · rename_i ty a lo hi mx
    cases mx with
    | some mx => cases h
    | none =>
    simp only at h ⊢
    split at h
    · rename_i hx; rw [evA_le hl hx]; exact h
    · cases h
  · split at h
    · rename_i hx; rw [evA_le hl hx]; exact h
    · cases h
theorem cvInt_le {u t : Tr Value} (hl : TLe u t) {op : Op} (h : cvInt u op = true) : cvInt t op = true := by
  cases op <;> simp only [cvInt] at h ⊢ <;> try exact h
  split at h
  · rename_i hx; rw [evA_le hl hx]
  · cases h
theorem opA_cv {P : Program} {X : Extern} {run : Runner} {t : Tr Value} {h h1 k : AH} {op : Op} {v : Value} (hr : cvInt t op = true) (hv : opA P X run t h op = some (v, h1)) : ∃ u, aOp P t k op = some (.val v u) := by
  cases op <;> simp only [cvInt] at hr <;> try (cases hr)
  rename_i s d x
  split at hr
  · rename_i kk n hx
    have e1 : ∀ g : AH, aToString P s d (.int kk n) g = none := by intro g; unfold aToString; split <;> first | rfl | (rename_i q; cases q)
    have e2 : ∀ g : AH, aUnsafePtr P s d (.int kk n) g = none := by intro g; unfold aUnsafePtr; split <;> first | rfl | (rename_i q; cases q)
    have e : ∀ g : AH, aOp P t g (.convert s d x) = (match aConvert P s d (.int kk n) with | some v => some (.val v g) | none => none) := by
      intro g
      simp only [aOp, hx, e1, e2, nextOf]
      cases aConvert P s d (.int kk n) <;> rfl
    unfold opA at hv
    rw [e h] at hv
    rw [e k]
    cases hw : aConvert P s d (.int kk n) with
    | none => rw [hw] at hv; cases hv
    | some w => rw [hw] at hv; cases hv; exact ⟨_, rfl⟩
  · cases hr

section
variable {P : Program} {X : Extern} {inR : Bool} {sz : Nat} {L : Ks} {h : AH} {Q : KQ} {ops : Array Oper} {fl : List Nat} {ids : List (Nat × Nat)} {rd : List (Nat × Nat × Nat)} {bl : List (Option Nat)} {i : Nat} {o : Oper} {os : List Oper}
theorem StepX.le {u t : Tr Value} (hl : TLe u t) {h h' : AH} (k : StepX P ops fl ids rd bl i o u h h') : StepX P ops fl ids rd bl i o t h h' := by
  refine ⟨?_, k.2⟩
  have := k.1
  split at this
  · rename_i b hb
    exact this.imp (guardA_le hl) (fun k => looksX.le hl k (rdBlk_le hl))
  · exact ⟨this.1.imp (guardA_le hl) (cvInt_le hl), this.2⟩
  · trivial

/-- From the step i (m steps of the chain are done) on, a block not yet looked at may be told anew. -/
def agreeBl (i m : Nat) : List (Nat × Nat × Nat) → List (Option Nat) → List (Option Nat) → Prop
  | [], [], [] => True
  | (j, lo, _) :: rd, a :: s, b :: u => (match Nat.blt j i || Nat.blt lo m with | true => a = b | false => True) ∧ agreeBl i m rd s u
  | _, _, _ => False
theorem agreeBl.refl (i m : Nat) : ∀ {rd : List (Nat × Nat × Nat)} {bl : List (Option Nat)}, rd.length = bl.length → agreeBl i m rd bl bl
  | [], [], _ => trivial
  | (j, lo, hi) :: rd, a :: s, h => ⟨by split <;> trivial, agreeBl.refl i m (by simpa using h)⟩
  | [], _ :: _, h => by cases h
  | _ :: _, [], h => by cases h
theorem agreeBl.len {i m : Nat} : ∀ {rd : List (Nat × Nat × Nat)} {a b : List (Option Nat)}, agreeBl i m rd a b → rd.length = a.length ∧ rd.length = b.length
  | [], [], [], _ => ⟨rfl, rfl⟩
  | (j, lo, hi) :: rd, a :: s, b :: u, h => by have := h.2.len; exact ⟨by rw [List.length_cons, List.length_cons, this.1], by rw [List.length_cons, List.length_cons, this.2]⟩
  | [], _ :: _, _, h => by cases h
  | [], [], _ :: _, h => by cases h
  | _ :: _, [], _, h => by cases h
  | _ :: _, _ :: _, [], h => by cases h
theorem agreeBl.trans {i m i' m' : Nat} (hi : i ≤ i') (hm : m ≤ m') : ∀ {rd : List (Nat × Nat × Nat)} {a b c : List (Option Nat)}, agreeBl i m rd a b → agreeBl i' m' rd b c → agreeBl i m rd a c
  | [], [], [], [], _, _ => trivial
  | (j, lo, hi') :: rd, a :: s, b :: u, c :: v, h, g => by
    refine ⟨?_, h.2.trans hi hm g.2⟩
    have h1 := h.1
    have g1 := g.1
    split
    · rename_i q
      rw [q] at h1
      have q' : (Nat.blt j i' || Nat.blt lo m') = true := by
        rw [Bool.or_eq_true, Nat.blt_eq, Nat.blt_eq] at q ⊢
        omega
      rw [q'] at g1
      exact h1.trans g1
    · trivial
  | [], _ :: _, _, _, h, _ => by cases h
  | [], [], _ :: _, _, h, _ => by cases h
  | _ :: _, [], _, _, h, _ => by cases h
  | _ :: _, _ :: _, [], _, h, _ => by cases h
  | [], [], [], _ :: _, _, g => by cases g
  | _ :: _, _ :: _, _ :: _, [], _, g => by cases g
theorem agreeBl.at_ {i m k : Nat} (hk : k < i) : ∀ {rd : List (Nat × Nat × Nat)} {a b : List (Option Nat)}, agreeBl i m rd a b → blkFor rd a k = blkFor rd b k
  | [], [], [], _ => rfl
  | (j, lo, hi) :: rd, a :: s, b :: u, h => by
    simp only [blkFor]
    split
    · rename_i q
      have := Nat.eq_of_beq_eq_true q
      subst this
      have h1 := h.1
      rw [show (Nat.blt j i || Nat.blt lo m) = true by rw [Bool.or_eq_true, Nat.blt_eq]; exact .inl hk] at h1
      rw [h1]
    · exact h.2.at_ hk
  | [], _ :: _, _, h => by cases h
  | [], [], _ :: _, h => by cases h
  | _ :: _, [], _, h => by cases h
  | _ :: _, _ :: _, [], h => by cases h
theorem agreeBl.keeps {i m k : Nat} (hk : k < m) {h h' : AH} : ∀ {rd : List (Nat × Nat × Nat)} {a b : List (Option Nat)}, agreeBl i m rd a b → keepsX rd a k h h' → keepsX rd b k h h'
  | [], [], [], _, _ => trivial
  | (j, lo, hi) :: rd, a :: s, b :: u, g, q => by
    have g1 := g.1
    by_cases c : lo < m
    · rw [show (Nat.blt j i || Nat.blt lo m) = true by rw [Bool.or_eq_true, Nat.blt_eq, Nat.blt_eq]; exact .inr c] at g1
      simp only at g1
      subst g1
      cases a with
      | none => exact g.2.keeps hk q
      | some x => exact ⟨q.1, g.2.keeps hk q.2⟩
    · have hq : keepsX rd s k h h' := by cases a with
        | none => exact q
        | some x => exact q.2
      cases b with
      | none => exact g.2.keeps hk hq
      | some x => exact ⟨fun e => absurd (Nat.le_of_ble_eq_true ((Bool.and_eq_true _ _).mp e).1) (by omega), g.2.keeps hk hq⟩
  | [], _ :: _, _, h, _ => by cases h
  | [], [], _ :: _, h, _ => by cases h
  | _ :: _, [], _, h, _ => by cases h
  | _ :: _, _ :: _, [], h, _ => by cases h
def KOX (P : Program) (X : Extern) (sz : Nat) (ops : Array Oper) (fl : List Nat) (ids : List (Nat × Nat)) (rd : List (Nat × Nat × Nat)) (bl : List (Option Nat)) (i : Nat) (os : List Oper) (L : Ks) (h : AH) (R : Ks → AH → Prop) : Prop :=
  rd.length = bl.length → ∀ t, Kn t L → ∃ bl', agreeBl i (cntX ops fl i) rd bl bl' ∧ WOX P X sz ops fl ids rd bl' i os t h (fun t' h' => ∃ L', Kn t' L' ∧ R L' h')

theorem KX_nil {R : Ks → AH → Prop} (hq : R L h) : KOX P X sz ops fl ids rd bl i [] L h R := fun hn t hk => ⟨bl, agreeBl.refl _ _ hn, 0, [], t, h, rfl, fun k o ho => by simp at ho, rfl, L, hk, hq⟩
theorem cntX_step (k : Nat) : cntX ops fl k ≤ cntX ops fl (k + 1) ∧ (chainAt ops fl k = true → cntX ops fl k < cntX ops fl (k + 1)) := by
  unfold cntX
  rw [List.range_succ, List.filter_append, List.length_append]
  cases hk : chainAt ops fl k <;> simp [List.filter_cons, hk]
/-- What the step i keeps, it keeps for the blocks told later. -/
theorem StepX.agree {bl' : List (Option Nat)} (a : agreeBl (i + 1) (cntX ops fl (i + 1)) rd bl bl') {t : Tr Value} {h h' : AH} (k : StepX P ops fl ids rd bl i o t h h') : StepX P ops fl ids rd bl' i o t h h' := by
  refine ⟨?_, ?_⟩
  · rw [← a.at_ (Nat.lt_succ_self i)]; exact k.1
  · have k2 := k.2
    cases hc : chainAt ops fl i with
    | true =>
      rw [hc] at k2
      exact a.keeps ((cntX_step (ops := ops) (fl := fl) i).2 hc) k2
    | false => rw [hc] at k2; exact k2

theorem KX_cons {R : Ks → AH → Prop} (w : KO P X sz ops [o] L h (fun L' h' => StepX P ops fl ids rd bl i o L.tree h h' ∧ KOX P X sz ops fl ids rd bl (i + 1) os L' h' R)) (hid : idOf ids i = none := by exact rfl) : KOX P X sz ops fl ids rd bl i (o :: os) L h R := fun hn t hk => by
  obtain ⟨n, t1, h1, e1, L', k1, sx, w2⟩ := w t hk
  obtain ⟨bl', ag, n2, l, t2, h2, e2, g2, z2, L2, k2, q2⟩ := w2 hn t1 k1
  have hx := (sx.le hk.tle).agree ag
  refine ⟨bl', (agreeBl.refl _ _ hn).trans (Nat.le_succ _) (cntX_step (ops := ops) (fl := fl) i).1 ag, ?_⟩
  have M := runD_mono (P := P) (X := X) (exec_le (P := P) (X := X) (Nat.le_max_right n n2)) (sz := sz) (ops := ops) (ids := ids) (pl := false) os (i + 1) t1 h1 _ e2
  have e3 := opsA_mono (P := P) (X := X) (exec_le (P := P) (X := X) (Nat.le_max_left n n2)) (sz := sz) (ops := ops) [o] t h _ e1
  have key : ∀ (go : Bool) (v : Value), (go = true → guardA ops t o.guard = some true) → ∀ k o', (o :: os)[k]? = some o' → ∃ s, ((⟨t, h, go, v⟩ : DStep) :: l)[k]? = some s ∧ (s.go = true → guardA ops s.t o'.guard = some true) ∧ StepX P ops fl ids rd bl' (i + k) o' s.t s.h (hpAt ((⟨t, h, go, v⟩ : DStep) :: l) h2 (k + 1)) := by
    intro go v hgo k o' ho
    cases k with
    | zero =>
      simp only [List.getElem?_cons_zero, Option.some.injEq] at ho
      subst ho
      refine ⟨_, rfl, hgo, ?_⟩
      have : hpAt ((⟨t, h, go, v⟩ : DStep) :: l) h2 (0 + 1) = h1 := by rw [← z2]; simp [hpAt]
      rw [this]
      exact hx
    | succ k =>
      simp only [List.getElem?_cons_succ] at ho
      obtain ⟨s, s1, s2, s3⟩ := g2 k o' ho
      refine ⟨s, by simpa using s1, s2, ?_⟩
      have : hpAt ((⟨t, h, go, v⟩ : DStep) :: l) h2 (k + 1 + 1) = hpAt l h2 (k + 1) := by simp [hpAt]
      rw [this, show i + (k + 1) = i + 1 + k by omega]
      exact s3
  simp only [opsA] at e3
  split at e3
  · rename_i hg
    split at e3
    · rename_i v h3 ho
      split at e3
      · rename_i t3 hp
        cases e3
        exact ⟨max n n2, ⟨t, h, true, v⟩ :: l, t2, h2, by simp only [runD, hg, stepD, hid, ho, hp, M, consD], key true v (fun _ => hg), rfl, L2, k2, q2⟩
      · cases e3
    · cases e3
  · rename_i hg
    split at e3
    · rename_i t3 hp
      cases e3
      exact ⟨max n n2, ⟨t, h, false, .tuple #[]⟩ :: l, t2, h2, by simp only [runD, hg, hp, M, consD], key false _ (fun q => by cases q), rfl, L2, k2, q2⟩
    · cases e3
  · cases e3

theorem KX_fl {R : Ks → AH → Prop} {b : Nat} {L' : Ks} {x : Option Nat} {c : List Value} {e : TypeId} (hi : idOf ids i = some b) (hf : aFloat P L.tree o.op = some (x, c, e)) (hb : h.get b = some (.cells c e none false)) (hbl : blkFor rd bl i = some (some b)) (hc : chainAt ops fl i = false)
    (hg : guardA ops L.tree o.guard = some true) (hp : putK sz L o.dst (mkFloat x b) = some L') (w : KOX P X sz ops fl ids rd bl (i + 1) os L' h R) : KOX P X sz ops fl ids rd bl i (o :: os) L h R := fun hn t hk => by
  obtain ⟨t1, e1, k1⟩ := putK_ok hk hp
  obtain ⟨bl', ag, n2, l, t2, h2, e2, g2, z2, q2⟩ := w hn t1 k1
  rw [ag.at_ (Nat.lt_succ_self i)] at hbl
  refine ⟨bl', (agreeBl.refl _ _ hn).trans (Nat.le_succ _) (cntX_step (ops := ops) (fl := fl) i).1 ag, ?_⟩
  have hf' := aFloat_le hk.tle hf
  have hg' := guardA_le hk.tle hg
  refine ⟨n2, ⟨t, h, true, mkFloat x b⟩ :: l, t2, h2, by simp only [runD, hg', stepD, hi, hf', e1, e2, consD], ?_, rfl, q2⟩
  intro k o' ho
  cases k with
  | zero =>
    simp only [List.getElem?_cons_zero, Option.some.injEq] at ho
    subst ho
    refine ⟨_, rfl, fun _ => hg', ?_⟩
    have : hpAt ((⟨t, h, true, mkFloat x b⟩ : DStep) :: l) h2 (0 + 1) = h := by rw [← z2]; simp [hpAt]
    rw [this, Nat.add_zero]
    refine ⟨?_, ?_⟩
    · rw [hbl]
      refine .inr ?_
      unfold looksX
      rw [hi]
      exact ⟨rfl, x, c, e, hf', hb⟩
    · rw [hc]
  | succ k =>
    simp only [List.getElem?_cons_succ] at ho
    obtain ⟨s, s1, s2, s3⟩ := g2 k o' ho
    refine ⟨s, by simpa using s1, s2, ?_⟩
    have : hpAt ((⟨t, h, true, mkFloat x b⟩ : DStep) :: l) h2 (k + 1 + 1) = hpAt l h2 (k + 1) := by simp [hpAt]
    rw [this, show i + (k + 1) = i + 1 + k by omega]
    exact s3

theorem opA_read {run : Runner} {t : Tr Value} {h h1 : AH} {op : Op} {b : Nat} {v : Value} (hr : rdBlk t op = some b) (hv : opA P X run t h op = some (v, h1)) : ∃ u, aOp P t h op = some (.val v u) := by
  unfold opA at hv
  have key : ∀ o' : Option Value, aOp P t h op = nextOf o' h → ∃ u, aOp P t h op = some (.val v u) := by
    intro o' ho
    rw [ho] at hv ⊢
    cases o' with
    | none => cases hv
    | some y => cases hv; exact ⟨_, rfl⟩
  cases op <;> simp only [rdBlk] at hr <;> try (cases hr)
  · rename_i ty a
    split at hr
    · rename_i x hx
      exact key (aLoad P ty x h) (by simp only [aOp, hx])
    · cases hr
  · rename_i ty a lo hi mx
    cases mx with
    | some mx => cases hr
    | none =>
    simp only at hr
    split at hr
    · rename_i x hx
      cases h1 : evOpt t lo with
      | none => simp only [aOp, hx, h1] at hv; cases hv
      | some l =>
        cases h2 : evOpt t hi with
        | none => simp only [aOp, hx, h1, h2] at hv; cases hv
        | some r =>
          have h3 : evOpt t none = some none := rfl
          exact key (aSlice P ty x l r none h) (by simp only [aOp, hx, h1, h2, h3, aSlice3_none])
    · cases hr
  · rename_i ty a ky ok
    split at hr
    · rename_i x hx
      cases h1 : evA t ky with
      | none => simp only [aOp, hx, h1] at hv; cases hv
      | some l => exact key (aLookup P ty x l ok h) (by simp only [aOp, hx, h1])
    · cases hr

theorem range_filter_at {p : Nat → Bool} : ∀ (n m i : Nat), ((List.range n).filter p)[m]? = some i → ((List.range i).filter p).length = m ∧ p i = true ∧ i < n
  | 0, m, i, h => by simp at h
  | n + 1, m, i, h => by
    rw [List.range_succ, List.filter_append] at h
    rw [List.getElem?_append] at h
    split at h
    · obtain ⟨a, b, c⟩ := range_filter_at n m i h
      exact ⟨a, b, by omega⟩
    · rename_i hm
      cases hp : p n with
      | false => simp [hp] at h
      | true =>
        simp only [List.filter_cons, hp, if_true, List.filter_nil] at h
        cases hd : m - ((List.range n).filter p).length with
        | zero =>
          rw [hd] at h
          simp only [List.getElem?_cons_zero, Option.some.injEq] at h
          subst h
          exact ⟨by omega, hp, by omega⟩
        | succ k => rw [hd] at h; simp at h
theorem cntX_succ (k : Nat) : cntX ops fl (k + 1) = cntX ops fl k + (if chainAt ops fl k then 1 else 0) := by
  unfold cntX
  rw [List.range_succ, List.filter_append, List.length_append]
  cases hk : chainAt ops fl k <;> simp [List.filter_cons, hk]

theorem opsD2_drawX {t : Tr Value} {Q : Tr Value → AH → Prop} (hd : drawX ops fl rd = true) (hid : ∀ i b, idOf ids i = some b → hasN fl i = true) (hlen : rd.length = bl.length) (w : WOX P X sz ops fl ids rd bl 0 ops.toList t h Q) :
    ∃ n t' h', opsD2 P X (exec P X n) sz ops (masks ops.toList []) fl ids t h = some (t', h') ∧ Q t' h' := by
  obtain ⟨n, l, t', h', hl, hg, hz, hq⟩ := w
  refine ⟨n, _, _, ?_, hq⟩
  unfold drawX at hd
  rw [Bool.and_eq_true, Bool.and_eq_true, List.all_eq_true] at hd
  obtain ⟨⟨hp, hf⟩, hs⟩ := hd
  obtain ⟨q1, q2, q3, q4⟩ := runD_spec ops.toList 0 t h l t' h' hl
  have hbl : ∀ (rd : List (Nat × Nat × Nat)) (bl : List (Option Nat)) (i lo hi : Nat), rd.length = bl.length → winOf rd i = some (lo, hi) → ∃ b, blkFor rd bl i = some b := by
    intro rd
    induction rd with
    | nil => intro bl i lo hi _ hw; cases hw
    | cons a rd ih =>
      intro bl i lo hi hn hw
      obtain ⟨j, a1, a2⟩ := a
      cases bl with
      | nil => simp at hn
      | cons b bl =>
        simp only [winOf] at hw
        simp only [blkFor]
        split
        · exact ⟨b, rfl⟩
        · rename_i e
          rw [e] at hw
          exact ih bl i lo hi (by simpa using hn) hw
  have hopd : opsD2 P X (exec P X n) sz ops (masks ops.toList []) fl ids t h = some (t', h') := by
    unfold opsD2
    rw [hl]
    simp only
    split
    · rfl
    · rw [if_pos]
      intro i hi hc o s ho hs' hgo hcalm m k hm hfar
      have h1 := hs i (List.mem_range.2 hi)
      rw [hc, Bool.false_or] at h1
      cases hw : winOf rd i with
      | none =>
        rw [hw] at h1
        simp only [ho, Bool.and_eq_true, Bool.not_eq_true'] at h1
        have hn : idOf ids i = none := by
          cases hq : idOf ids i with
          | none => rfl
          | some b => rw [hid i b hq] at h1; cases h1.1
        have h2 := h1.2
        unfold calmAt at hcalm h2
        simp only [hn, idOf] at hcalm h2
        rw [h2] at hcalm; cases hcalm
      | some lh =>
        obtain ⟨lo, hi'⟩ := lh
        rw [hw] at h1
        simp only [Bool.and_eq_true, List.all_eq_true, Bool.or_eq_true] at h1
        obtain ⟨⟨a1, a2⟩, a3⟩ := h1
        have a1 := Nat.le_of_ble_eq_true a1
        have a2 := Nat.le_of_ble_eq_true a2
        obtain ⟨ob, hb⟩ := hbl rd bl i lo hi' hlen hw
        obtain ⟨s2, e2, hgs, sx⟩ := hg i o (by rw [Array.getElem?_toList]; exact ho)
        rw [hs'] at e2
        cases e2
        obtain ⟨s3, e3, sf⟩ := q4 i o (by rw [Array.getElem?_toList]; exact ho)
        rw [hs'] at e3
        cases e3
        have hv := sf.2.2.1 hgo
        cases ob with
        | none =>
          have := sx.1
          rw [Nat.zero_add, hb] at this
          obtain ⟨this, hn⟩ := this
          simp only [stepD, Nat.zero_add, hn] at hv
          unfold OkAtP
          rw [hn]
          rcases this with q | q
          · rw [hgs hgo] at q; cases q
          · exact opA_cv q hv
        | some b =>
        -- the heaps of the window agree on b
        have agree : ∀ q p, p ≤ q → q ≤ ops.size → lo ≤ cntX ops fl p → cntX ops fl q ≤ hi' → (hpAt l h' q).get b = (hpAt l h' p).get b := by
          intro q
          induction q with
          | zero => intro p hp _ _ _; rw [Nat.le_zero.1 hp]
          | succ q ih =>
            intro p hp hqs hlo hhi
            rcases Nat.eq_or_lt_of_le hp with e | e
            · rw [e]
            · have hc1 := cntX_succ (ops := ops) (fl := fl) q
              have hmono : ∀ a c, a ≤ c → cntX ops fl a ≤ cntX ops fl c := by
                intro a c hac
                induction hac with
                | refl => exact Nat.le_refl _
                | step _ ih2 => rw [cntX_succ]; omega
              have hpq := hmono p q (by omega)
              rw [← ih p (by omega) (by omega) hlo (by omega)]
              obtain ⟨s2, e2, _, sx⟩ := hg q ops[q] (by rw [Array.getElem?_toList]; exact Array.getElem?_eq_getElem (by omega))
              have hsh : hpAt l h' q = s2.h := by unfold hpAt; rw [e2]
              rw [hsh]
              have sx2 := sx.2
              rw [Nat.zero_add] at sx2
              split at sx2
              · rename_i hch
                rw [hch, if_pos rfl] at hc1
                exact sx2.get hw hb (by omega) (by omega)
              · rw [sx2]
        have hpos : ∃ p, p ≤ ops.size ∧ cntX ops fl p = m ∧ k = hpAt l h' p := by
          cases m with
          | zero =>
            simp only [List.getElem?_cons_zero, Option.some.injEq] at hm
            exact ⟨0, by omega, by simp [cntX], by rw [← hm, q2]⟩
          | succ m =>
            simp only [List.getElem?_cons_succ, List.getElem?_map] at hm
            cases hj : ((List.range ops.size).filter (chainAt ops fl))[m]? with
            | none => rw [hj] at hm; cases hm
            | some j =>
              rw [hj] at hm
              simp only [Option.map_some, Option.some.injEq] at hm
              obtain ⟨c1, c2, c3⟩ := range_filter_at _ _ _ hj
              refine ⟨j + 1, by omega, ?_, hm.symm⟩
              rw [cntX_succ, c2, if_pos rfl]
              unfold cntX; omega
        obtain ⟨p, p1, p2, rfl⟩ := hpos
        have hin : lo ≤ m ∧ m ≤ hi' := by
          have hml : m < ((List.range ops.size).filter (chainAt ops fl)).length + 1 := by
            have := (List.getElem?_eq_some_iff.1 hm).1
            simpa using this
          have := a3 m (List.mem_range.2 hml)
          rw [hfar] at this
          rcases this with q | q
          · cases q
          · exact ⟨Nat.le_of_ble_eq_true q.1, Nat.le_of_ble_eq_true q.2⟩
        have hr : looksX P ids i o s.t s.h b := by
          have := sx.1
          rw [Nat.zero_add, hb] at this
          rcases this with q | q
          · rw [hgs hgo] at q; cases q
          · exact q
        have hsh : hpAt l h' i = s.h := by unfold hpAt; rw [hs']
        have same : (hpAt l h' p).get b = s.h.get b := by
          rw [← hsh]
          rcases Nat.le_total p i with e | e
          · exact (agree i p e (by omega) (by omega) (by omega)).symm
          · exact agree p i e p1 (by omega) (by omega)
        unfold looksX at hr
        unfold OkAtP
        split at hr
        · rename_i hn
          rw [hn]
          simp only [stepD, Nat.zero_add, hn] at hv
          show ∃ u, aOp P s.t (hpAt l h' p) o.op = some (.val s.v u)
          obtain ⟨u, hu⟩ := opA_read hr hv
          exact aOp_same hr same hu
        · rename_i b' hn
          rw [hn]
          obtain ⟨rfl, x, c, e, r1, r2⟩ := hr
          exact ⟨x, c, e, r1, by rw [same, r2]⟩
  exact hopd
theorem K_drawX {id : Nat} (rd : List (Nat × Nat × Nat)) (bl : List (Option Nat)) (w : KOX P X sz ops [] [] rd bl 0 ops.toList L h (Q .norm)) (hn : rd.length = bl.length := by exact rfl) (hd : drawX ops [] rd = true := by decide +kernel) : K P X inR sz (.region id ops true) L h Q := fun t hk => by
  obtain ⟨bl', ag, w'⟩ := w hn t hk
  obtain ⟨n, t', h', e, L', k, q⟩ := opsD2_drawX hd (fun i b q => by cases q) ag.len.2 w'
  unfold drawX at hd
  rw [Bool.and_eq_true, Bool.and_eq_true] at hd
  obtain ⟨⟨hp, hf⟩, hs⟩ := hd
  have hf : floatsOf ops (masks ops.toList []) = [] := by simpa using hf
  refine ⟨n + 1, _, _, _, ?_, L', k, q⟩
  rw [exec_S]
  simp only [execStep]
  have : opsD P X (exec P X n) sz ops t h = some (t', h') := by
    unfold opsD
    simp only [hf, hp]
    exact e
  rw [this]
/-- What the float j makes is known before the region. -/
def HintOk (P : Program) (ops : Array Oper) (sz : Nat) (L : Ks) (h : AH) (j : Nat) (c : List Value) (e : TypeId) : Prop := ∀ t, Kn t L → hintObj P ops sz h t j = .cells c e none false
theorem HintOk.one {j k : Nat} {o ok : Oper} {x : Option Nat} {c : List Value} {e : TypeId} {v : Value} {h' : AH} {L' : Ks} (hp : predsOf ops (masks ops.toList []) j = [k]) (ho : ops[j]? = some o) (hok : ops[k]? = some ok) (hg : guardA ops L.tree ok.guard = some true) (ha : aOp P L.tree h ok.op = some (.val v h')) (hd : putK sz L ok.dst v = some L')
    (hf : aFloat P L'.tree o.op = some (x, c, e)) : HintOk P ops sz L h j c e := fun t hk => by
  obtain ⟨t1, e1, k1⟩ := putK_ok hk hd
  unfold hintObj
  rw [ho, hp]
  have : stepH P ops sz h t k = t1 := by
    unfold stepH
    simp only [hok, guardA_le hk.tle hg, aOp_le hk.tle ha, e1]
  simp only [List.foldl_cons, List.foldl_nil, this, aFloat_le k1.tle hf]
/-- What the floats make is known before the region. -/
def hintsK (P : Program) (ops : Array Oper) (sz : Nat) (L : Ks) (h : AH) : List Nat → List AObj → Prop
  | [], [] => True
  | j :: r, ob :: s => (∃ c e, HintOk P ops sz L h j c e ∧ ob = .cells c e none false) ∧ hintsK P ops sz L h r s
  | _, _ => False
end
end Go.Proofs.Xx

/-
  The watched blocks of an open region: short side conditions.
-/
namespace Go.Proofs.Xx
open Go
set_option linter.unusedSimpArgs false
set_option linter.unusedVariables false

def blkS : Value → Nat
  | .slice (some ⟨b, _, _⟩) _ _ => b
  | _ => 0
theorem blkOf_elA (v : Value) (z k off : Nat) : blkOf (elA v z k off) = blkS v := by
  unfold elA
  split
  · rfl
  · unfold blkS
    split
    · rename_i h; exact absurd rfl (h _ _ _ _ _)
    · rfl
section
variable {h0 h h' : AH} {rs rs1 : List Rs} {b : Nat} {c : List Value} {e : TypeId} {f : Rs → List Rs}
theorem Hs.bB (S : Hs h0 h rs) [i : HasB rs b c e f] : b < h.next := by
  obtain ⟨fp, h1, h2⟩ := i.at_.ok S.sep
  exact (h2 b h1.2).2.1
theorem Rd.bS {v : Value} {z n : Nat} {c : List Value} (w : WfH h) (r : Rd h v z n c) (hn : 0 < n) : blkS v < h.next := by
  rcases r with ⟨rfl, rfl, rfl⟩ | ⟨b, o, cap, cc, e, s, q, rfl, h1, h2⟩
  · omega
  · exact w.lt h1
theorem Hs.bR {v : Value} {α : Type} {z : Nat} {enc : α → List Value} {l : List α} (S : Hs h0 h rs) [i : HasR rs v α z enc l] (hl : 0 < l.length) : blkS v < h.next := (i.rd S).bS S.wf hl
theorem Hs.bX {v : Value} {α : Type} {z : Nat} {enc : α → List Value} {l : List α} (S : Hs h0 h rs) (r : RdL h0 v z enc l) (w : WfH h0) (hl : 0 < l.length) : blkS v < h.next := Nat.lt_of_lt_of_le (r.bS w hl) S.ext.next
end
end Go.Proofs.Xx

/-
  A part of a slice that is only read.
-/
namespace Go.Proofs.Xx
open Go
set_option linter.unusedSimpArgs false
set_option linter.unusedVariables false

section
variable {P : Program} {X : Extern} {sz : Nat} {L : Ks} {h h0 : AH} {rs : List Rs} {ops : Array Oper} {os : List Oper} {o : Oper} {R : Ks → AH → Prop}
/-- A load from a block that was there before. -/
theorem lH {L' : Ks} {x : Operand} {ty e : TypeId} {b k : Nat} {c : List Value} {v : Value} {q : Option Nat} {r : Bool} (S : Hs h0 h rs) (w : KO P X sz ops os L' h R) (ho : o.op = .load ty x := by exact rfl) (hx : kA L x = some (.pointer (some ⟨b, k, none⟩)) := by exact rfl)
    (hb : h0.get b = some (.cells c e q r) := by assumption) (wf : WfH h0 := by assumption) (hg : guardA ops L.tree o.guard = some true := by exact rfl) (hv : loadC P ty c k = some v := by exact rfl) (hp : putK sz L o.dst v = some L' := by exact rfl) : KO P X sz ops (o :: os) L h R :=
  KO_load ho hg hx (by rw [aLoad_loadC (S.ext.get wf hb)]; exact hv) hp w
end
end Go.Proofs.Xx

/-
  Regions with makes whose place is open; resources joined; the front of a slice of one's own.
-/
namespace Go.Proofs.Xx
open Go
set_option linter.unusedSimpArgs false
set_option linter.unusedVariables false

section
variable {P : Program} {X : Extern} {inR : Bool} {sz : Nat} {L : Ks} {h h0 : AH} {rs : List Rs} {ops : Array Oper} {os : List Oper} {o : Oper} {R : Ks → AH → Prop} {Q : KQ}

/-- A float's step. -/
theorem fl {fls : List Nat} {ids : List (Nat × Nat)} {rd : List (Nat × Nat × Nat)} {bl : List (Option Nat)} {i b : Nat} {L' : Ks} {x : Option Nat} {c : List Value} {e : TypeId} (S : Hs h0 h rs) (hi : idOf ids i = some b) (hf : aFloat P L.tree o.op = some (x, c, e)) (hb : h.get b = some (.cells c e none false)) (w : KOX P X sz ops fls ids rd bl (i + 1) os L' h R)
    (hbl : blkFor rd bl i = some (some b) := by exact rfl) (hc : chainAt ops fls i = false := by decide +kernel) (hg : guardA ops L.tree o.guard = some true := by exact rfl) (hp : putK sz L o.dst (mkFloat x b) = some L' := by exact rfl) : KOX P X sz ops fls ids rd bl i (o :: os) L h R := KX_fl hi hf hb hbl hc hg hp w

/-- v[:b] of a slice of one's own, from now on only read. -/
theorem th {α : Type} {x hi : Operand} {ty e : TypeId} {v vh : Value} {z : Nat} {enc : α → List Value} {l : List α} {f : Rs → List Rs} {dd : List Rs} {d : Tmp} (b : Nat) (S : Hs h0 h rs) (ho : o.op = .slice ty x none (some hi) none) (hx : kA L x = some v) [i : HasS rs v α e z enc l f dd]
    (w : ∀ v', Hs h0 h (f (.rd v' z enc (l.take b))) → KO P X sz ops os (L.put d v') h R) (hg : guardA ops L.tree o.guard = some true := by exact rfl) (hhi : kA L hi = some vh := by exact rfl) (hbo : boundOf (some vh) l.length = some b := by exact rfl) (hb : b ≤ l.length := by first | omega | grind)
    (hz : ∀ x, (enc x).length = z := by intro _; rfl) (hu : elemZ P ty = some z := by exact rfl) (hdst : o.dst = some d := by exact rfl) (hds : Nat.blt d sz = true := by exact rfl) : KO P X sz ops (o :: os) L h R := by
  obtain ⟨fp, k1, k2, -⟩ := (i.ut (.sl v e z enc l)).ok (h' := h) S.ext.next (Nat.le_refl _) S.sep
  have hue : ∃ e', P.underlying ty = some (.slice e') ∧ sizeT P e' = some z := by
    unfold elemZ at hu
    split at hu
    · exact ⟨_, by assumption, hu⟩
    · cases hu
  obtain ⟨e', hu1, hu2⟩ := hue
  have hhi' : evA L.tree hi = some vh := tree_le hhi
  have go : ∀ v', aSlice P ty v none (some vh) none h = some v' → (∀ fq, (Rs.sl v e z enc l).ok h fq → (Rs.rd v' z enc (l.take b)).ok h fq) → KO P X sz ops (o :: os) L h R := fun v' q1 q2 => by
    refine KO_val (v := v') (h' := h) hg ?_ (by simp only [putK, hdst, hds]) (w v' (S.same (i.ut _) q2))
    rw [ho]
    simp only [aOp, tree_le hx, evOpt, hhi', q1, nextOf, aSlice3_none]
  have h0b : boundOf none 0 = some 0 := rfl
  rcases k1 with ⟨rfl, rfl⟩ | ⟨bb, o', cc, slk, g1, g2, g3, g4, g5, g6⟩
  · obtain rfl : b = 0 := by simpa using hb
    refine go (.slice none 0 0) ?_ fun fq q => .inl ⟨rfl, by simp⟩
    have : boundOf (some vh) 0 = some 0 := hbo
    simp only [aSlice, hu1, hu2, this, h0b]
  · subst g1
    have t1 : Nat.ble 0 b = true := by simp
    have t2 : Nat.ble b l.length = true := Nat.ble_eq_true_of_le hb
    have hlen : (l.take b).length = b := by simp; omega
    have sub := takeAt_sub (i := 0) (m := b * z) g4 (by rw [Nat.zero_add]; exact Nat.mul_le_mul_right z hb)
    rw [List.drop_zero, ← flatMap_take hz, Nat.add_zero] at sub
    have fin : ∀ c2, (Rs.rd (.slice (some ⟨bb, o', none⟩) (b - 0) c2) z enc (l.take b)).ok h fp := fun c2 =>
      .inr ⟨bb, o', c2, cc, e, slk, false, by rw [hlen, Nat.sub_zero], g2, g3, by rw [hlen]; exact sub⟩
    have key : ∀ c2, ∀ fq, (Rs.sl (.slice (some ⟨bb, o', none⟩) l.length l.length) e z enc l).ok h fq → (Rs.rd (.slice (some ⟨bb, o', none⟩) (b - 0) c2) z enc (l.take b)).ok h fq := fun c2 fq q => by
      rcases q with ⟨q1, -⟩ | ⟨b2, o2, cc2, sl2, q1, q2, q3, -⟩
      · cases q1
      · cases q1
        exact .inr ⟨bb, o', c2, cc, e, slk, false, by rw [hlen, Nat.sub_zero], g2, q3, by rw [hlen]; exact sub⟩
    cases hk : (slk.isNone && Nat.beq 0 l.length) with
    | false =>
      refine go (.slice (some ⟨bb, o', none⟩) (b - 0) (l.length - 0)) ?_ (key _)
      simp only [aSlice, hu1, hu2, g2, h0b, hbo, t1, t2, hk, Bool.and_self, Nat.zero_mul, Nat.add_zero]
    | true =>
      refine go (.slice (some ⟨bb, o', none⟩) (b - 0) (l.length - 0)) ?_ (key _)
      simp only [aSlice, hu1, hu2, g2, h0b, hbo, t1, t2, hk, Bool.and_self]
/-- The address of a field of an element of a slice that was there before, or of one's own. -/
theorem fB {L' : Ks} {x : Operand} {ty : TypeId} {fs : Array Field} {fd : Field} {v : Value} {z k off f m n : Nat} {c : List Value} (S : Hs h0 h rs) (w : KO P X sz ops os L' h R) (ho : o.op = .fieldAddr ty x f := by exact rfl) (hg : guardA ops L.tree o.guard = some true := by exact rfl)
    (hx : kA L x = some (elA v z k off) := by exact rfl) (hu : P.underlying ty = some (.struct fs) := by exact rfl) (hf : fs[f]? = some fd := by exact rfl) (hm : sizeT P fd.type = some (m + 1) := by exact rfl) (hr : Rd h0 v z n c := by assumption) (wf : WfH h0 := by assumption) (hk : k < n := by first | omega | grind)
    (hp : putK sz L o.dst (elA v z k (off + fd.offset)) = some L' := by exact rfl) : KO P X sz ops (o :: os) L h R := m_fld ho hg hx hu hf hm (hr.ext wf S.ext) hk hp w
theorem fS {L' : Ks} {x : Operand} {ty : TypeId} {fs : Array Field} {fd : Field} {v : Value} {z z' k off f m : Nat} {α : Type} {enc : α → List Value} {l : List α} (S : Hs h0 h rs) (ho : o.op = .fieldAddr ty x f) (hx : kA L x = some (elA v z' k off)) [i : HasR rs v α z enc l] (w : KO P X sz ops os L' h R) (hzz : z' = z := by exact rfl) (hg : guardA ops L.tree o.guard = some true := by exact rfl)
    (hu : P.underlying ty = some (.struct fs) := by exact rfl) (hf : fs[f]? = some fd := by exact rfl) (hm : sizeT P fd.type = some (m + 1) := by exact rfl) (hk : k < l.length := by first | omega | grind) (hp : putK sz L o.dst (elA v z' k (off + fd.offset)) = some L' := by exact rfl) : KO P X sz ops (o :: os) L h R := by
  subst hzz
  exact m_fld ho hg hx hu hf hm (i.rd S) hk hp w
end
end Go.Proofs.Xx

/-
  Rules for unsigned words: shifts, masks, conversions.
-/
namespace Go.Proofs.Xx
open Go
set_option linter.unusedSimpArgs false
set_option linter.unusedVariables false

section
variable {P : Program} {X : Extern} {inR : Bool} {sz : Nat} {L : Ks} {h h0 : AH} {rs : List Rs} {ops : Array Oper} {os : List Oper} {o : Oper} {R : Ks → AH → Prop} {Q : KQ}

/-! ### two pieces of code taken together -/
/-- What holds behind a piece of code. -/
def cutB {σ : Type} (I : σ → AH → Prop) (sl : σ → Ks) (Q : KQ) : KQ
  | .norm, L', h' => ∃ s, I s h' ∧ Ks.le (sl s) L'
  | x, L', h' => Q x L' h'
theorem K_cut {σ : Type} {a b : Code} (I : σ → AH → Prop) (sl : σ → Ks) (w1 : K P X inR sz a L h (cutB I sl Q)) (w2 : ∀ s h', I s h' → K P X inR sz b (sl s) h' Q) : K P X inR sz (.seq a b) L h Q :=
  K_seq (w1.mono fun x L' h' q => by
    cases x with
    | norm => obtain ⟨s, q1, q2⟩ := q; exact (w2 s h' q1).le q2
    | exit id => exact q
    | ret => exact q)
/-! ### the rules of elements, after stores -/
theorem ixS2 {L' : Ks} {x i : Operand} {ty : TypeId} {v : Value} {ik : IntKind} {a : Int} {α : Type} {z : Nat} {enc : α → List Value} {l : List α} (S : Hs h0 h rs) (ho : o.op = .indexAddr ty x i) (hx : kA L x = some v) [k : HasR rs v α z enc l] (w : KO P X sz ops os L' h R) (hg : guardA ops L.tree o.guard = some true := by exact rfl) (hi : kA L i = some (.int ik a) := by exact rfl) (hu : elemZ P ty = some z := by exact rfl)
    (ha : 0 ≤ a ∧ a < l.length := by first | omega | (simp only [List.length_set, List.length_append, List.length_cons, List.length_nil]; omega) | grind) (hp : putK sz L o.dst (elA v z a.toNat 0) = some L' := by exact rfl) : KO P X sz ops (o :: os) L h R := m_idx ho hg hx hi hu (k.rd S) ha hp w
theorem lES2 {α : Type} [Inhabited α] {L' : Ks} {x : Operand} {ty : TypeId} {v u : Value} {z' z k off : Nat} {enc : α → List Value} {l : List α} (S : Hs h0 h rs) (ho : o.op = .load ty x) (hx : kA L x = some (elA v z' k off)) [i : HasR rs v α z enc l] (w : KO P X sz ops os L' h R) (hzz : z' = z := by exact rfl) (hg : guardA ops L.tree o.guard = some true := by exact rfl)
    (hz : ∀ x, (enc x).length = z := by intro _; rfl) (hk : k < l.length := by first | omega | (simp only [List.length_set, List.length_append, List.length_cons, List.length_nil]; omega) | grind) (hv : loadC P ty (enc (l.getD k default)) off = some u := by exact rfl) (hp : putK sz L o.dst u = some L' := by exact rfl) : KO P X sz ops (o :: os) L h R := by
  subst hzz
  exact m_ldE ho hg hx (i.rd S) hz hk hv hp w
end
end Go.Proofs.Xx

/-
  The back of a slice of one's own, seen beside it; clear; bytes.
-/
namespace Go.Proofs.Xx
open Go
set_option linter.unusedSimpArgs false
set_option linter.unusedVariables false

/-- v2 is v[k:], of length n - k. -/
def IsView (v v2 : Value) (z k n : Nat) : Prop := ∃ b o c2, v = .slice (some ⟨b, o, none⟩) n n ∧ v2 = .slice (some ⟨b, o + k * z, none⟩) (n - k) c2
theorem IsView.el {v v2 : Value} {z k n : Nat} (V : IsView v v2 z k n) (j off : Nat) : elA v2 z j off = elA v z (k + j) off := by
  obtain ⟨b, o, c2, rfl, rfl⟩ := V
  simp only [elA]
  rw [show o + k * z + j * z + off = o + (k + j) * z + off by rw [Nat.add_mul]; omega]
theorem IsView.rd {α : Type} {v v2 : Value} {z k : Nat} {h : AH} {enc : α → List Value} {l : List α} (V : IsView v v2 z k l.length) (r : RdL h v z enc l) (hz : ∀ x, (enc x).length = z) (hk : k ≤ l.length) : RdL h v2 z enc (l.drop k) := by
  obtain ⟨b, o, c2, rfl, rfl⟩ := V
  rcases r with ⟨q, -⟩ | ⟨b', o', cap, cc, e, s, q, e1, h1, h2⟩
  · cases q
  · cases e1
    have hkz : k * z ≤ l.length * z := Nat.mul_le_mul_right z hk
    have hsub : k * z + (l.length - k) * z = l.length * z := by rw [← Nat.add_mul]; congr 1; omega
    refine .inr ⟨b, o + k * z, c2, cc, e, s, q, by rw [List.length_drop], h1, ?_⟩
    rw [List.length_drop, flatMap_drop hz, takeAt_sub h2 (by omega), List.take_of_length_le]
    rw [List.length_drop, flatMap_length hz]; omega

section
variable {P : Program} {X : Extern} {inR : Bool} {sz : Nat} {L : Ks} {h h0 : AH} {rs : List Rs} {ops : Array Oper} {os : List Oper} {o : Oper} {R : Ks → AH → Prop} {Q : KQ}

/-- clear of the back of a slice of one's own. -/
theorem cl {α : Type} {x : Operand} {ty e e' : TypeId} {v v2 : Value} {z k : Nat} {enc : α → List Value} {l : List α} {f : Rs → List Rs} {dd : List Rs} (y0 : α) (S : Hs h0 h rs) (V : IsView v v2 z k l.length) (ho : o.op = .call { callee := .builtin .clear, args := #[x], argTypes := #[ty] }) (hx : kA L x = some v2) [i : HasS rs v α e z enc l f dd]
    (w : ∀ h', Hs h0 h' (f (.sl v e z enc (l.take k ++ List.replicate (l.length - k) y0))) → KO P X sz ops os L h' R) (hu : P.underlying ty = some (.slice e') := by exact rfl) (hz0 : zeroCellsT P e' = some (enc y0) := by exact rfl) (h1 : (enc y0).all one? = true := by exact rfl)
    (hz : ∀ x, (enc x).length = z := by intro _; rfl) (hk : k < l.length := by omega) (hzz : 0 < z := by decide) (hg : guardA ops L.tree o.guard = some true := by exact rfl) (hdst : o.dst = none := by exact rfl) : KO P X sz ops (o :: os) L h R := by
  obtain ⟨b, o', c2, rfl, rfl⟩ := V
  obtain ⟨fp, k1, k2, -⟩ := (i.ut (.sl (.slice (some ⟨b, o', none⟩) l.length l.length) e z enc l)).ok (h' := h) S.ext.next (Nat.le_refl _) S.sep
  rcases k1 with ⟨q, -⟩ | ⟨b', o2, cc, slk, g1, g2, g3, g4, g5, g6⟩
  · cases q
  cases g1
  have hrow : zeroRow (enc y0) (l.length - k) = (List.replicate (l.length - k) y0).flatMap enc := zeroRow_enc rfl _
  have hrl : ((List.replicate (l.length - k) y0).flatMap enc).length = (l.length - k) * z := by rw [flatMap_length hz]; simp
  have hkz : k * z + (l.length - k) * z = l.length * z := by rw [← Nat.add_mul]; congr 1; omega
  obtain ⟨he, hlen⟩ : l.flatMap enc = (cc.drop o').take (l.length * z) ∧ o' + l.length * z ≤ cc.length := by
    rcases takeAt_eqs g4 with q | ⟨q1, q2⟩
    · exact q
    · exfalso
      have : l.length * z = 0 := q1
      have := Nat.mul_pos (show 0 < l.length by omega) hzz
      omega
  have hall : ((List.replicate (l.length - k) y0).flatMap enc).all one? = true := by
    rw [List.all_eq_true]
    intro u hu
    rw [List.mem_flatMap] at hu
    obtain ⟨y, hy, hu⟩ := hu
    rw [List.mem_replicate] at hy
    rw [hy.2] at hu
    exact List.all_eq_true.1 h1 u hu
  have hput : putCells h b (o' + k * z) cc e slk (zeroRow (enc y0) (l.length - k)) = some (h.put b (.cells (splice cc (o' + k * z) ((List.replicate (l.length - k) y0).flatMap enc)) e slk false)) := by
    rw [hrow]
    unfold putCells
    rw [hall, Nat.ble_eq_true_of_le (by rw [hrl]; omega)]
    rfl
  obtain ⟨m, hm⟩ : ∃ m, l.length - k = m + 1 := ⟨l.length - k - 1, by omega⟩
  have hclear : aClear P ty (.slice (some ⟨b, o' + k * z, none⟩) (l.length - k) c2) h = some (h.put b (.cells (splice cc (o' + k * z) ((List.replicate (l.length - k) y0).flatMap enc)) e slk false)) := by
    rw [hm] at hput ⊢
    simp only [aClear, hu, hz0, g2, hput]
  refine KO_val (v := .tuple #[]) (h' := h.put b (.cells (splice cc (o' + k * z) ((List.replicate (l.length - k) y0).flatMap enc)) e slk false)) hg ?_ (by simp only [putK, hdst]) (w _ ?_)
  · rw [ho]
    simp only [aOp, evAll, tree_le hx, aBuiltin, hclear]
  · have hsp : splice cc (o' + k * z) ((List.replicate (l.length - k) y0).flatMap enc) = splice cc (o' + k * z + 0) ((List.replicate (l.length - k) y0).flatMap enc) := rfl
    have hin := splice_in (cc := cc) (uc := (List.replicate (l.length - k) y0).flatMap enc) (o := o') (n := l.length * z) (a := k * z) (z := (l.length - k) * z) (off := 0) hlen (by omega) (by rw [hrl]; omega)
    have hfl : ((l.take k ++ List.replicate (l.length - k) y0).flatMap enc) = splice ((cc.drop o').take (l.length * z)) (k * z) (splice ((((cc.drop o').take (l.length * z)).drop (k * z)).take ((l.length - k) * z)) 0 ((List.replicate (l.length - k) y0).flatMap enc)) := by
      rw [← he]
      have hll : (l.flatMap enc).length = l.length * z := flatMap_length hz l
      rw [List.flatMap_append, flatMap_take hz]
      simp only [splice, List.take_zero, List.nil_append, Nat.zero_add]
      rw [hrl, List.drop_of_length_le (l := (((l.flatMap enc).drop (k * z)).take ((l.length - k) * z))) (by rw [List.length_take]; omega), List.append_nil, hrl, List.drop_of_length_le (by omega), List.append_nil]
    refine S.turn (i.ut _) (Nat.le_refl _) (S.wf.put (k2 b g3).2.1 _) fun fq q1 q2 => ?_
    have hb : fq b := by
      rcases q1 with ⟨q, -⟩ | ⟨b', o2, cc2, sl2, q3, q4, q5, -⟩
      · cases q
      · cases q3; exact q5
    have hnl : (l.take k ++ List.replicate (l.length - k) y0).length = l.length := by simp; omega
    refine ⟨fun j _ hj => by rw [AH.get_put, if_neg]; intro q; subst q; exact hj hb, fun j => j = b, .inr ⟨b, o', _, slk, by rw [hnl], by rw [AH.get_put, if_pos rfl], rfl, ?_, ?_, g6⟩, fun j hj => by subst hj; exact ⟨(k2 _ g3).2.1, .inl hb⟩⟩
    · rw [hnl, hfl]; exact hin
    · left
      rw [hnl, spl_len (by rw [hrl]; omega)]
      rcases g5 with g5 | ⟨g5, -⟩
      · exact g5
      · subst g5; simp at hk
theorem bytesOf_eU : ∀ l : List Nat, bytesOf? (l.flatMap eU) = some (l.map UInt8.ofNat)
  | [] => rfl
  | x :: l => by
    rw [List.flatMap_cons]
    show (match byteOf? (.int .u8 (Int.ofNat x)), bytesOf? (l.flatMap eU) with | some b, some s => some (b :: s) | _, _ => none) = _
    rw [bytesOf_eU l]; rfl
/-- Bytes as a string. -/
theorem bS {L' : Ks} {x : Operand} {s dt e : TypeId} {v : Value} {l : List Nat} (hr : RdL h v 1 eU l) (w : KO P X sz ops os L' h R) (ho : o.op = .convert s dt x := by exact rfl) (hg : guardA ops L.tree o.guard = some true := by exact rfl) (hx : kA L x = some v := by exact rfl)
    (hs : P.underlying s = some (.slice e) := by exact rfl) (he : P.underlying e = some (.int .u8) := by exact rfl) (hd : P.underlying dt = some .string := by exact rfl) (hp : putK sz L o.dst (str (l.map UInt8.ofNat)) = some L' := by exact rfl) : KO P X sz ops (o :: os) L h R := by
  refine KO_val hg ?_ hp w
  rw [ho]
  have e1 : aToString P s dt v h = some (str (l.map UInt8.ofNat)) := by
    rcases hr with ⟨rfl, g1, g2⟩ | ⟨b', o', cap, cc, e0, s0, q, rfl, g1, g2⟩
    · have : l = [] := List.length_eq_zero_iff.1 g1
      subst this
      simp only [aToString, hs, hd, he]; rfl
    · rw [Nat.mul_one] at g2
      simp only [aToString, hs, hd, he, g1, g2, bytesOf_eU]; rfl
  have e2 : aConvert P s dt v = none := by
    unfold aConvert
    rw [hs]
  simp only [aOp, tree_le hx, e2, e1]
end
end Go.Proofs.Xx

/-
  Elements of arrays in blocks.
-/
namespace Go.Proofs.Xx
open Go
set_option linter.unusedSimpArgs false
set_option linter.unusedVariables false

section
variable {P : Program} {X : Extern} {inR : Bool} {sz : Nat} {L : Ks} {h h0 : AH} {rs : List Rs} {ops : Array Oper} {os : List Oper} {o : Oper} {R : Ks → AH → Prop} {Q : KQ}
def arrOf (P : Program) (ty : TypeId) : Option (Nat × Nat) := match P.underlying ty with | some (.array n e) => (match sizeT P e with | some z => some (n, z) | none => none) | _ => none
end
end Go.Proofs.Xx

/-
  Strings built out of bytes: append of a string, the bytes seen as a string.
-/
namespace Go.Proofs.Xx
open Go
set_option linter.unusedSimpArgs false
set_option linter.unusedVariables false

section
variable {P : Program} {X : Extern} {inR : Bool} {sz : Nat} {L : Ks} {h h0 : AH} {rs : List Rs} {ops : Array Oper} {os : List Oper} {o : Oper} {R : Ks → AH → Prop} {Q : KQ}
end
end Go.Proofs.Xx

/-
  Ranges over functions: the yield is called, the body runs.
-/
namespace Go.Proofs.Xx
open Go
set_option linter.unusedSimpArgs false
set_option linter.unusedVariables false

/-- The block of a range over a function. -/
abbrev lpR (l : Nat) (o : AObj) : Rs := .any (fun h fp => h.get l = some o ∧ fp l)
def yv (l : Nat) : Value := .func (.yield l) #[] #[]
section
variable {h h0 : AH} {rs : List Rs} {l : Nat} {o : AObj}
theorem Hs.bY (S : Hs h0 h rs) {b : Nat} {o : AObj} (hb : h0.get b = some o) (w : WfH h0) : b < h.next :=
  Nat.lt_of_lt_of_le (Nat.lt_of_not_le fun q => by have := w b q; rw [hb] at this; cases this) S.ext.next
end

section
variable {P : Program} {X : Extern} {inR : Bool} {sz : Nat} {L : Ks} {h h0 : AH} {rs : List Rs} {ops : Array Oper} {os : List Oper} {o : Oper} {R : Ks → AH → Prop} {Q : KQ}
/-- What a call of the yield of block l gives. -/
def Yd (P : Program) (X : Extern) (l : Nat) (args : List Value) (h : AH) (Q : Value → AH → Prop) : Prop := ∃ n v h', yieldA (exec P X n) l args h = some (v, h') ∧ Q v h'
theorem Yd.mono {l : Nat} {args : List Value} {Q Q' : Value → AH → Prop} (w : Yd P X l args h Q) (hq : ∀ v h', Q v h' → Q' v h') : Yd P X l args h Q' := by
  obtain ⟨n, v, h', h1, h2⟩ := w
  exact ⟨n, v, h', h1, hq _ _ h2⟩
end
end Go.Proofs.Xx

/-
  Blocks that a store leaves as they were; a slice's block is none of the other blocks of one's own.
-/
namespace Go.Proofs.Xx
open Go
set_option linter.unusedSimpArgs false
set_option linter.unusedVariables false

section
variable {P : Program} {X : Extern} {sz : Nat} {L : Ks} {h h0 : AH} {rs : List Rs} {ops : Array Oper} {os : List Oper} {o : Oper} {R : Ks → AH → Prop}
end
/-- v is a slice of rs that is not nil. -/
class HasV (rs : List Rs) (v : Value) : Prop where
  fp : ∀ {lo : Nat} {h : AH} {U : Fp}, Sep lo h rs U → v ≠ .slice none 0 0 → U (blkS v)
instance HasV.there {rs : List Rs} {v : Value} {s : Rs} [k : HasV rs v] : HasV (s :: rs) v := ⟨fun S hv => by
  obtain ⟨f, -, -, h3⟩ := S
  exact (k.fp h3 hv).1⟩
instance HasV.sl {rs : List Rs} {v : Value} {α : Type} {e : TypeId} {z : Nat} {enc : α → List Value} {l : List α} : HasV (.sl v e z enc l :: rs) v := ⟨fun S hv => by
  obtain ⟨f, h1, h2, -⟩ := S
  rcases h1 with ⟨q, -⟩ | ⟨b, o, cc, slk, rfl, -, q, -⟩
  · exact absurd q hv
  · exact (h2 b q).2.2⟩
instance HasV.rd {rs : List Rs} {v : Value} {α : Type} {z : Nat} {enc : α → List Value} {l : List α} : HasV (.rd v z enc l :: rs) v := ⟨fun S hv => by
  obtain ⟨f, h1, h2, -⟩ := S
  rcases h1 with ⟨q, -⟩ | ⟨b, o, cap, cc, e, s, r, rfl, -, q, -⟩
  · exact absurd q hv
  · exact (h2 b q).2.2⟩
class HasK (rs : List Rs) (b : Nat) : Prop where
  fp : ∀ {lo : Nat} {h : AH} {U : Fp}, Sep lo h rs U → U b
instance HasK.there {rs : List Rs} {b : Nat} {s : Rs} [k : HasK rs b] : HasK (s :: rs) b := ⟨fun S => by
  obtain ⟨f, -, -, h3⟩ := S
  exact (k.fp h3).1⟩
instance HasK.here {rs : List Rs} {b : Nat} {c : List Value} {e : TypeId} : HasK (.blk b c e :: rs) b := ⟨fun S => by
  obtain ⟨f, h1, h2, -⟩ := S
  exact (h2 b h1.2).2.2⟩
/-- The slice's block is not b. -/
class NeB (rs : List Rs) (b : Nat) (v : Value) : Prop where
  ne : ∀ {lo : Nat} {h : AH} {U : Fp}, Sep lo h rs U → v ≠ .slice none 0 0 → blkS v ≠ b
instance NeB.there {rs : List Rs} {b : Nat} {v : Value} {s : Rs} [k : NeB rs b v] : NeB (s :: rs) b v := ⟨fun S hv => by
  obtain ⟨f, -, -, h3⟩ := S
  exact k.ne h3 hv⟩
instance NeB.blk {rs : List Rs} {b : Nat} {v : Value} {c : List Value} {e : TypeId} [k : HasV rs v] : NeB (.blk b c e :: rs) b v := ⟨fun S hv q => by
  obtain ⟨f, h1, h2, h3⟩ := S
  have := (k.fp h3 hv).2
  rw [q] at this
  exact this h1.2⟩
instance NeB.sl {rs : List Rs} {b : Nat} {v : Value} {α : Type} {e : TypeId} {z : Nat} {enc : α → List Value} {l : List α} [k : HasK rs b] : NeB (.sl v e z enc l :: rs) b v := ⟨fun S hv q => by
  obtain ⟨f, h1, h2, h3⟩ := S
  rcases h1 with ⟨q', -⟩ | ⟨b', o, cc, slk, rfl, -, q', -⟩
  · exact absurd q' hv
  · have := (k.fp h3).2
    exact this (by rw [← q]; exact q')⟩
section
variable {P : Program} {X : Extern} {sz : Nat} {L : Ks} {h h0 : AH} {rs : List Rs} {ops : Array Oper} {os : List Oper} {o : Oper} {R : Ks → AH → Prop}
end
end Go.Proofs.Xx

/-
  Maps with strings for keys: what a search finds.
-/
namespace Go.Proofs.Xx
open Go Go.Proofs
set_option linter.unusedSimpArgs false
set_option linter.unusedVariables false

/-- What a search gives: the value, or with what was asked, too. -/
abbrev okV (ok : Bool) (v : Value) (b : Bool) : Value := match ok with | true => .tuple #[v, .bool b] | false => v
def mIdx {α : Type} (k : List UInt8) : List (List UInt8 × α) → Nat → Option (Nat × α)
  | [], _ => none
  | p :: r, i => if p.1 = k then some (i, p.2) else mIdx k r (i + 1)
def mGet {α : Type} (l : List (List UInt8 × α)) (k : List UInt8) : Option α := (mIdx k l 0).map (·.2)
theorem beq_str (a b : List UInt8) : ((⟨a.toArray⟩ : ByteArray) == ⟨b.toArray⟩) = decide (a = b) := by
  rw [Bool.eq_iff_iff]
  constructor
  · intro h
    have h2 := ba_eq h
    have h3 : a.toArray = b.toArray := congrArg ByteArray.data h2
    simpa using h3
  · intro h
    have h2 : a = b := by simpa using h
    subst h2
    exact ba_refl _
theorem aFind_mp {α : Type} {enc : α → Value} {k : List UInt8} : ∀ {es : List (Value × Value × Nat)} {l : List (List UInt8 × α)} {i : Nat}, es.map (fun e => (e.1, e.2.1)) = l.map (fun p => (Value.string ⟨p.1.toArray⟩, enc p.2)) →
    aFind .string (str k) es i = some ((mIdx k l i).map fun q => (q.1, enc q.2))
  | [], [], i, _ => rfl
  | [], p :: r, i, h => by simp at h
  | e :: es, [], i, h => by simp at h
  | e :: es, p :: r, i, h => by
    simp only [List.map_cons, List.cons.injEq, Prod.mk.injEq] at h
    obtain ⟨⟨h1, h2⟩, h3⟩ := h
    have hs : Instr.sameNow .string (str k) e.1 = some (decide (k = p.1)) := by
      rw [h1]
      show some (((⟨k.toArray⟩ : ByteArray) == ⟨p.1.toArray⟩)) = _
      rw [beq_str]
    unfold aFind
    unfold mIdx
    by_cases hk : p.1 = k
    · rw [hs, decide_eq_true hk.symm, if_pos hk, h2]; rfl
    · rw [hs, decide_eq_false (fun q => hk q.symm), if_neg hk]
      exact aFind_mp h3
section
variable {P : Program} {X : Extern} {inR : Bool} {sz : Nat} {L : Ks} {h h0 : AH} {rs : List Rs} {ops : Array Oper} {os : List Oper} {o : Oper} {R : Ks → AH → Prop} {Q : KQ}
theorem mp_get {α : Type} {b : Nat} {enc : α → Value} {l : List (List UInt8 × α)} (S : Hs h0 h rs) (a : At rs (.mp b enc l)) : ∃ es clock, h.get b = some (.map es clock) ∧ es.map (fun e => (e.1, e.2.1)) = l.map (fun p => (Value.string ⟨p.1.toArray⟩, enc p.2)) ∧ (∀ e ∈ es, e.2.2 < clock) ∧ (es.map (·.2.2)).Nodup := by
  obtain ⟨fp, k, _⟩ := a.ok S.sep
  obtain ⟨es, clock, h1, h2, h3⟩ := k
  exact ⟨es, clock, h1, h3⟩
theorem Hs.putMp {α : Type} {rs' : List Rs} {b clock2 : Nat} {enc : α → Value} {l l2 : List (List UInt8 × α)} {es2 : List (Value × Value × Nat)} (S : Hs h0 h rs) (u : Ut rs (.mp b enc l) (.mp b enc l2) rs')
    (h2 : es2.map (fun e => (e.1, e.2.1)) = l2.map (fun p => (Value.string ⟨p.1.toArray⟩, enc p.2))) (hc : ∀ e ∈ es2, e.2.2 < clock2) (hn : (es2.map (·.2.2)).Nodup) : Hs h0 (h.put b (.map es2 clock2)) rs' := by
  obtain ⟨fp, k, k2, -⟩ := u.ok (h' := h) S.ext.next (Nat.le_refl _) S.sep
  obtain ⟨es, clock, g1, g2, -⟩ := k
  refine S.turn u (Nat.le_refl _) (S.wf.put (k2 b g2).2.1 _) fun fq q1 q2 => ⟨fun j _ hj => ?_, fun j => j = b, ⟨es2, clock2, by rw [AH.get_put, if_pos rfl], rfl, h2, hc, hn⟩, fun j hj => ?_⟩
  · obtain ⟨_, _, _, g, _⟩ := q1
    rw [AH.get_put, if_neg]; intro q; subst q; exact hj g
  · obtain ⟨_, _, _, g, _⟩ := q1
    subst hj; exact ⟨(q2 _ g).2, .inl g⟩
def mPut {α : Type} (l : List (List UInt8 × α)) (k : List UInt8) (x : α) : List (List UInt8 × α) := match mIdx k l 0 with | some q => l.set q.1 (k, x) | none => l ++ [(k, x)]
theorem modify_eq_set {β : Type} {l : List β} {i : Nat} {f : β → β} {y e : β} (he : l[i]? = some e) (hf : f e = y) : l.modify i f = l.set i y := by
  apply List.ext_getElem?
  intro j
  rw [List.getElem?_modify, List.getElem?_set]
  by_cases hj : i = j
  · subst hj
    have hl : i < l.length := (List.getElem?_eq_some_iff.1 he).1
    have e2 : l[i] = e := (List.getElem?_eq_some_iff.1 he).2
    simp [hl, e2, hf]
  · simp [hj]
theorem mIdx_lt {α : Type} {k : List UInt8} : ∀ {l : List (List UInt8 × α)} {i : Nat} {q : Nat × α}, mIdx k l i = some q → i ≤ q.1 ∧ l[q.1 - i]? = some (k, q.2)
  | [], i, q, h => by cases h
  | p :: r, i, q, h => by
    unfold mIdx at h
    split at h
    · rename_i hk
      cases h
      refine ⟨Nat.le_refl _, ?_⟩
      rw [Nat.sub_self]; show some p = _
      rw [← hk]
    · obtain ⟨h1, h2⟩ := mIdx_lt h
      refine ⟨by omega, ?_⟩
      rw [show q.1 - i = (q.1 - (i + 1)) + 1 by omega]
      exact h2
theorem update_mp {α : Type} {key : List UInt8} {b : Nat} {enc : α → Value} {l : List (List UInt8 × α)} {rs' : List Rs} {x : α} (S : Hs h0 h rs) (u : Ut rs (.mp b enc l) (.mp b enc (mPut l key x)) rs') (a : At rs (.mp b enc l)) {ty kt et : TypeId}
    (hu : P.underlying ty = some (.map kt et)) (hkt : P.underlying kt = some .string) :
    ∃ h', aMapUpdate P ty (.map (some b)) (str key) (enc x) h = some h' ∧ Hs h0 h' rs' := by
  obtain ⟨es, clock, h1, h2, h3, h4⟩ := mp_get S a
  have hT : mapT P ty (str key) = some (.string, et) := by
    unfold mapT
    simp only [hu, hkt]; rfl
  have hF := aFind_mp (enc := enc) (k := key) (i := 0) h2
  unfold aMapUpdate
  simp only [hT, h1, hF]
  unfold mPut at u
  cases hq : mIdx key l 0 with
  | none =>
    rw [hq] at u
    refine ⟨_, rfl, S.putMp u ?_ ?_ ?_⟩
    · rw [List.map_append, List.map_append, h2]; rfl
    · intro e he
      rcases List.mem_append.1 he with q | q
      · have := h3 e q; omega
      · simp at q; subst q; exact Nat.lt_succ_self _
    · rw [List.map_append, List.nodup_append]
      refine ⟨h4, by simp, ?_⟩
      intro c hc d hd
      obtain ⟨e, he, rfl⟩ := List.mem_map.1 hc
      simp at hd; subst hd
      have := h3 e he; omega
  | some q =>
    rw [hq] at u
    obtain ⟨i, y⟩ := q
    obtain ⟨-, hl⟩ := mIdx_lt hq
    have hle : es.length = l.length := by simpa using congrArg List.length h2
    obtain ⟨e, he⟩ : ∃ e, es[i]? = some e := ⟨es[i]'(by have := (List.getElem?_eq_some_iff.1 hl).1; omega), by simp⟩
    have hm := modify_eq_set (f := fun e : Value × Value × Nat => (str key, enc x, e.2.2)) (y := (str key, enc x, e.2.2)) he rfl
    refine ⟨_, rfl, S.putMp u ?_ ?_ ?_⟩
    · rw [hm, List.map_set, List.map_set, h2]; rfl
    · intro e1 h1
      rw [hm] at h1
      rcases List.mem_or_eq_of_mem_set h1 with q | q
      · exact h3 e1 q
      · subst q; exact h3 e (List.mem_of_getElem? he)
    · rw [hm, List.map_set]
      have : (es.map (·.2.2)).set i e.2.2 = es.map (·.2.2) := by
        apply List.ext_getElem?
        intro j
        rw [List.getElem?_set]
        by_cases hj : i = j
        · subst hj
          have hl2 := (List.getElem?_eq_some_iff.1 he)
          obtain ⟨g1, g2⟩ := hl2
          simp [g1, g2]
        · simp [hj]
      rw [this]; exact h4
/-- A value is put into a map. -/
theorem up {α : Type} {L' : Ks} {b : Nat} {enc : α → Value} {l : List (List UInt8 × α)} {rs' : List Rs} {key : List UInt8} {y : Value} {m k v : Operand} {ty kt et : TypeId} (x : α) (S : Hs h0 h rs) (a : At rs (.mp b enc l)) (u : Ut rs (.mp b enc l) (.mp b enc (mPut l key x)) rs')
    (w : ∀ h', Hs h0 h' rs' → KO P X sz ops os L' h' R) (ho : o.op = .mapUpdate ty m k v ∨ o.op = .insert ty m k v) (hg : guardA ops L.tree o.guard = some true := by exact rfl) (hm : kA L m = some (.map (some b)) := by exact rfl) (hk : kA L k = some (str key) := by exact rfl) (hv : kA L v = some y := by exact rfl) (hy : y = enc x := by exact rfl)
    (hu : P.underlying ty = some (.map kt et) := by exact rfl) (hkt : P.underlying kt = some .string := by exact rfl) (hp : putK sz L o.dst (.tuple #[]) = some L' := by exact rfl) : KO P X sz ops (o :: os) L h R := by
  subst hy
  obtain ⟨h', e1, e2⟩ := update_mp (x := x) S u a hu hkt
  refine KO_skip hg (h' := h') ?_ hp (w h' e2)
  rcases ho with ho | ho
  · rw [ho]; simp only [aOp, tree_le hm, tree_le hk, tree_le hv, e1]
  · rw [ho]; simp only [aOp, tree_le hm, tree_le hk, tree_le hv, e1]
end
end Go.Proofs.Xx

/-
  Strings in order, structs compared, maps counted up and emptied: rules.
-/
namespace Go.Proofs.Xx
open Go Go.Proofs
set_option linter.unusedSimpArgs false
set_option linter.unusedVariables false

/-! ### the order of strings -/
def sLt (a b : List UInt8) : Prop := Op.bytesLess a b = true
instance (a b : List UInt8) : Decidable (sLt a b) := inferInstanceAs (Decidable (_ = true))
theorem sLt_nil (a : List UInt8) : ¬ sLt a [] := by unfold sLt; cases a <;> simp [Op.bytesLess]
theorem nil_sLt (b : UInt8) (l : List UInt8) : sLt [] (b :: l) := by unfold sLt; simp [Op.bytesLess]
theorem sLt_cons {a b : UInt8} {x y : List UInt8} : sLt (a :: x) (b :: y) ↔ a < b ∨ (a = b ∧ sLt x y) := by
  unfold sLt
  simp [Op.bytesLess]
theorem sLt_irr : ∀ a : List UInt8, ¬ sLt a a
  | [] => sLt_nil _
  | a :: x => by
    rw [sLt_cons]
    rintro (h | ⟨-, h⟩)
    · exact UInt8.lt_irrefl _ h
    · exact sLt_irr x h
theorem sLt_trans : ∀ {a b c : List UInt8}, sLt a b → sLt b c → sLt a c
  | _, [], _, h, _ => absurd h (sLt_nil _)
  | _, _ :: _, [], _, h => absurd h (sLt_nil _)
  | [], _ :: _, c :: z, _, _ => nil_sLt _ _
  | a :: x, b :: y, c :: z, h1, h2 => by
    rw [sLt_cons] at h1 h2 ⊢
    rcases h1 with h1 | ⟨rfl, h1⟩ <;> rcases h2 with h2 | ⟨rfl, h2⟩
    · exact .inl (UInt8.lt_trans h1 h2)
    · exact .inl h1
    · exact .inl h2
    · exact .inr ⟨rfl, sLt_trans h1 h2⟩
theorem sLt_tri : ∀ (a b : List UInt8), sLt a b ∨ a = b ∨ sLt b a
  | [], [] => .inr (.inl rfl)
  | [], b :: y => .inl (nil_sLt _ _)
  | a :: x, [] => .inr (.inr (nil_sLt _ _))
  | a :: x, b :: y => by
    rw [sLt_cons, sLt_cons]
    rcases Nat.lt_trichotomy a.toNat b.toNat with h | h | h
    · exact .inl (.inl (UInt8.lt_iff_toNat_lt.2 h))
    · have e : a = b := UInt8.toNat_inj.1 h
      subst e
      rcases sLt_tri x y with h | h | h
      · exact .inl (.inr ⟨rfl, h⟩)
      · exact .inr (.inl (by rw [h]))
      · exact .inr (.inr (.inr ⟨rfl, h⟩))
    · exact .inr (.inr (.inl (UInt8.lt_iff_toNat_lt.2 h)))
theorem sLt_asymm {a b : List UInt8} (h : sLt a b) : ¬ sLt b a := fun q => sLt_irr a (sLt_trans h q)
def sMin (a b : List UInt8) : List UInt8 := if sLt b a then b else a
def sMax (a b : List UInt8) : List UInt8 := if sLt a b then b else a
def ordP (op : BinOp) (a b : List UInt8) : Option Prop :=
  match op with
  | .lss => some (sLt a b)
  | .geq => some (¬ sLt a b)
  | .gtr => some (sLt b a)
  | .leq => some (¬ sLt b a)
  | _ => none
theorem less_or_eq (a b : List UInt8) : (Op.bytesLess a b || eqBytes ⟨a.toArray⟩ ⟨b.toArray⟩) = !(Op.bytesLess b a) := by
  rw [eqBytes_str]
  rcases sLt_tri a b with h | h | h
  · have h2 : Op.bytesLess b a = false := by
      have := sLt_asymm h
      unfold sLt at this; simpa using this
    unfold sLt at h
    rw [h, h2]; rfl
  · subst h
    have h2 : Op.bytesLess a a = false := by
      have := sLt_irr a
      unfold sLt at this; simpa using this
    rw [h2]; simp
  · have h2 : Op.bytesLess a b = false := by
      have := sLt_asymm h
      unfold sLt at this; simpa using this
    have h3 : decide (a = b) = false := decide_eq_false fun e => sLt_irr b (by rw [e] at h; exact h)
    unfold sLt at h
    rw [h, h2, h3]; rfl
theorem ordP_bin {P : Program} {op : BinOp} {ty : TypeId} {a b : List UInt8} {p : Prop} (h : ordP op a b = some p) (v : Bool) (hv : p ↔ v = true) : aBin P op ty (str a) (str b) = some (.bool v) := by
  have key : ∀ q : Prop, ∀ d : Bool, (q ↔ d = true) → (q ↔ v = true) → d = v := fun q d h1 h2 => by
    cases d <;> cases v <;> simp_all
  unfold str
  cases op <;> simp only [ordP, Option.some.injEq] at h <;> try (cases h; done)
  all_goals (subst h)
  all_goals (simp only [aBin, List.toList_toArray, less_or_eq, Option.some.injEq, Value.bool.injEq])
  · exact key _ _ Iff.rfl hv
  · exact key _ _ (by unfold sLt; simp) hv
  · exact key _ _ (by unfold sLt; simp) hv
  · exact key _ _ (by unfold sLt; simp) hv

section
variable {P : Program} {X : Extern} {inR : Bool} {sz : Nat} {L : Ks} {h h0 : AH} {rs : List Rs} {ops : Array Oper} {os : List Oper} {o : Oper} {R : Ks → AH → Prop} {Q : KQ}
/-- Two strings in order. -/
theorem tO {L1 L2 : Ks} {op : BinOp} {x y : Operand} {ty ty2 : TypeId} {l m : List UInt8} {p : Prop} (w1 : p → KO P X sz ops os L1 h R) (w2 : ¬ p → KO P X sz ops os L2 h R) (ho : o.op = .binOp op ty x y ty2 := by exact rfl) (hg : guardA ops L.tree o.guard = some true := by exact rfl) (hx : kA L x = some (str l) := by exact rfl) (hy : kA L y = some (str m) := by exact rfl)
    (hop : ordP op l m = some p := by exact rfl) (hp1 : putK sz L o.dst (.bool true) = some L1 := by exact rfl) (hp2 : putK sz L o.dst (.bool false) = some L2 := by exact rfl) : KO P X sz ops (o :: os) L h R := by
  by_cases q : p
  · exact KO_bin ho hg hx hy (ordP_bin hop true (by simp [q])) hp1 (w1 q)
  · exact KO_bin ho hg hx hy (ordP_bin hop false (by simp [q])) hp2 (w2 q)
end
end Go.Proofs.Xx

/-
  What holds behind statements; pointers to blocks; strings put together: rules.
-/
namespace Go.Proofs.Xx
open Go Go.Proofs
set_option linter.unusedSimpArgs false
set_option linter.unusedVariables false
set_option maxRecDepth 100000

section
variable {P : Program} {X : Extern} {inR : Bool} {sz : Nat} {L : Ks} {h h0 : AH} {rs : List Rs} {ops : Array Oper} {os : List Oper} {o : Oper} {R : Ks → AH → Prop} {Q : KQ}
/-- What holds behind this statement and the next one. -/
theorem K_join {σ : Type} {a b c : Code} (I : σ → AH → Prop) (sl : σ → Ks) (w1 : K P X inR sz a L h (thenK P X inR sz b (cutB I sl Q))) (w2 : ∀ s h', I s h' → K P X inR sz c (sl s) h' Q) : K P X inR sz a L h (thenK P X inR sz b (thenK P X inR sz c Q)) := by
  have key : ∀ x L' h', cutB I sl Q x L' h' → thenK P X inR sz c Q x L' h' := fun x L' h' q => by
    cases x with
    | norm => obtain ⟨s, q1, q2⟩ := q; exact (w2 s h' q1).le q2
    | exit id => exact q
    | ret => exact q
  refine w1.mono fun x L' h' q => ?_
  cases x with
  | norm => exact K.mono q key
  | exit id => exact q
  | ret => exact q
theorem K_joinR {σ : Type} {a b c : Code} (I : σ → AH → Prop) (sl : σ → Ks) (w1 : K P X inR sz a L h (thenK P X inR sz b (cutB I sl Q))) (w2 : ∀ s h', I s h' → K P X inR sz c (sl s) h' Q) : K P X inR sz a L h (thenK P X inR sz (.seq b c) Q) :=
  w1.mono fun x L' h' q => by
    cases x with
    | norm => exact K_cut I sl q w2
    | exit id => exact q
    | ret => exact q
end
/-- A slice's value. -/
structure SlV where
  p : Option Addr
  n : Nat
  c : Nat
abbrev SlV.val (s : SlV) : Value := .slice s.p s.n s.c
theorem Rd.isSl {h : AH} {v : Value} {z n : Nat} {c : List Value} (r : Rd h v z n c) : ∃ s : SlV, v = s.val := by
  rcases r with ⟨rfl, -, -⟩ | ⟨b, o, cap, cc, e, s, q, rfl, -, -⟩
  · exact ⟨⟨none, 0, 0⟩, rfl⟩
  · exact ⟨⟨some ⟨b, o, none⟩, n, cap⟩, rfl⟩
end Go.Proofs.Xx
