/-
  The rules of the operations on memory and strings, over resources.
-/
import Derived.Test.YtnopenpheaihmaaGreatDoorM3

namespace Go.Proofs.Xx
open Go
set_option linter.unusedSimpArgs false
set_option linter.unusedVariables false

def loadC (P : Program) (ty : TypeId) (c : List Value) (k : Nat) : Option Value :=
  match isAggT P ty with
  | some true => match sizeT P ty with
    | some n => match takeAt c k n with
      | some xs => some (.agg xs.toArray)
      | none => none
    | none => none
  | some false => c[k]?
  | none => none
def storeC (P : Program) (ty : TypeId) (c : List Value) (k : Nat) (v : Value) : Option (List Value) :=
  match sizeT P ty with
  | some n => match Nat.beq v.cells.toList.length n && (v.cells.toList.all one? && Nat.ble (k + v.cells.toList.length) c.length) with
    | true => some (splice c k v.cells.toList)
    | false => none
  | none => none
def elemZ (P : Program) (ty : TypeId) : Option Nat := match P.underlying ty with | some (.slice e) => sizeT P e | _ => none

theorem loadC_at {P : Program} {ty : TypeId} {cc c : List Value} {a n k : Nat} {v : Value} (ht : takeAt cc a n = some c) (h : loadC P ty c k = some v) : loadC P ty cc (a + k) = some v := by
  unfold loadC at h ⊢
  have hl := takeAt_len ht
  split at h
  · rename_i h1
    (try rw [h1])
    (try simp only)
    split at h
    · rename_i m h2
      (try rw [h2])
      (try simp only)
      split at h
      · rename_i xs h3
        have h4 := takeAt_eqs h3
        have h5 : takeAt cc (a + k) m = some xs := by
          rcases h4 with ⟨h4, h6⟩ | ⟨rfl, rfl⟩
          · rw [takeAt_sub ht (by omega), h4]
          · simp [takeAt]
        rw [h5]; exact h
      · cases h
    · cases h
  · rename_i h1
    (try rw [h1])
    (try simp only)
    have hk : k < n := by have := (List.getElem?_eq_some_iff.1 h).1; omega
    rw [takeAt_get ht hk]; exact h
  · cases h
theorem aLoad_loadC {P : Program} {ty : TypeId} {h : AH} {b k : Nat} {c : List Value} {e : TypeId} {s : Option Nat} {r : Bool} (hg : h.get b = some (.cells c e s r)) : aLoad P ty (.pointer (some ⟨b, k, none⟩)) h = loadC P ty c k := by
  simp only [aLoad, cellsAt, hg, loadC]; rfl
theorem spl_get {c xs : List Value} {o : Nat} (h : o + xs.length ≤ c.length) (j : Nat) : (splice c o xs)[j]? = if j < o then c[j]? else if j < o + xs.length then xs[j - o]? else c[j]? := by
  simp only [splice]
  rw [List.getElem?_append, List.length_take, Nat.min_eq_left (by omega)]
  by_cases h1 : j < o
  · rw [if_pos h1, if_pos h1, List.getElem?_take, if_pos h1]
  · rw [if_neg h1, if_neg h1, List.getElem?_append]
    by_cases h2 : j < o + xs.length
    · rw [if_pos h2, if_pos (by omega)]
    · rw [if_neg h2, if_neg (by omega), List.getElem?_drop]
      congr 1; omega
theorem spl_len {c xs : List Value} {o : Nat} (h : o + xs.length ≤ c.length) : (splice c o xs).length = c.length := by
  simp only [splice, List.length_append, List.length_take, List.length_drop]; omega
theorem splice_in {cc uc : List Value} {o n a z off : Nat} (h1 : o + n ≤ cc.length) (h2 : a + z ≤ n) (h3 : off + uc.length ≤ z) :
    takeAt (splice cc (o + a + off) uc) o n = some (splice ((cc.drop o).take n) a (splice ((((cc.drop o).take n).drop a).take z) off uc)) := by
  have e1 : o + a + off + uc.length ≤ cc.length := by omega
  have l1 : ((cc.drop o).take n).length = n := by rw [List.length_take, List.length_drop]; omega
  have l2 : ((((cc.drop o).take n).drop a).take z).length = z := by rw [List.length_take, List.length_drop, l1]; omega
  have e2 : off + uc.length ≤ ((((cc.drop o).take n).drop a).take z).length := by omega
  have e3 : a + (splice ((((cc.drop o).take n).drop a).take z) off uc).length ≤ ((cc.drop o).take n).length := by rw [spl_len e2]; omega
  rw [takeAt_mk (by rw [spl_len e1]; exact h1)]
  congr 1
  refine List.ext_getElem? fun j => ?_
  rw [spl_get e3, spl_len e2, l2, List.getElem?_take, List.getElem?_drop, spl_get e1]
  by_cases hj : j < n
  · rw [if_pos hj]
    have base : ((cc.drop o).take n)[j]? = cc[o + j]? := by rw [List.getElem?_take, if_pos hj, List.getElem?_drop]
    by_cases q1 : j < a
    · rw [if_pos q1, if_pos (by omega), base]
    · rw [if_neg q1]
      by_cases q2 : j < a + z
      · rw [if_pos q2, spl_get e2]
        have piece : ((((cc.drop o).take n).drop a).take z)[j - a]? = cc[o + j]? := by
          rw [List.getElem?_take, if_pos (by omega), List.getElem?_drop, show a + (j - a) = j by omega, base]
        by_cases q3 : j - a < off
        · rw [if_pos q3, if_pos (by omega), piece]
        · rw [if_neg q3, if_neg (by omega)]
          by_cases q4 : j - a < off + uc.length
          · rw [if_pos q4, if_pos (by omega)]; congr 1; omega
          · rw [if_neg q4, if_neg (by omega), piece]
      · rw [if_neg q2, if_neg (by omega), if_neg (by omega), base]
  · rw [if_neg hj, if_neg (by omega), if_neg (by omega), List.getElem?_eq_none (by omega)]
theorem aStore_storeC {P : Program} {ty : TypeId} {h : AH} {b k : Nat} {c c' : List Value} {e : TypeId} {s : Option Nat} {v : Value} (hg : h.get b = some (.cells c e s false)) (hs : storeC P ty c k v = some c') :
    aStore P ty (.pointer (some ⟨b, k, none⟩)) v h = some (h.put b (.cells c' e s false)) := by
  unfold storeC at hs
  split at hs
  · rename_i n hn
    split at hs
    · rename_i hc
      cases hs
      rw [Bool.and_eq_true] at hc
      simp only [aStore, cellsAt, hg, hn, hc.1, putCells, hc.2]
    · cases hs
  · cases hs

section
variable {P : Program} {X : Extern} {inR : Bool} {sz : Nat} {L : Ks} {h h0 : AH} {rs : List Rs} {ops : Array Oper} {os : List Oper} {o : Oper} {R : Ks → AH → Prop} {Q : KQ}

/-! ### variables in blocks -/
theorem m_box {x : Operand} {e : TypeId} {v : Value} {c : List Value} {d : Tmp} (S : Hs h0 h rs) (ho : o.op = .box e x) (hg : guardA ops L.tree o.guard = some true) (hx : kA L x = some v) (hc : v.cells.toList = c) (hd : o.dst = some d) (hs : Nat.blt d sz = true)
    (w : ∀ b h', Hs h0 h' (.blk b c e :: rs) → KO P X sz ops os (L.put d (.pointer (some ⟨b, 0, none⟩))) h' R) : KO P X sz ops (o :: os) L h R := by
  subst hc
  refine KO_val (v := .pointer (some ⟨h.next, 0, none⟩)) (h' := h.add (.cells v.cells.toList e none false)) hg ?_ ?_ (w _ _ (S.add _ _))
  · rw [ho]; simp only [aOp, tree_le hx, aNew]
  · simp only [putK, hd, hs]
theorem m_alloc {e : TypeId} {v : Value} {c : List Value} {d : Tmp} (S : Hs h0 h rs) (ho : o.op = .alloc e) (hg : guardA ops L.tree o.guard = some true) (hz : zeroT P e = some v) (hpl : plainV v = true) (hc : v.cells.toList = c) (hd : o.dst = some d) (hs : Nat.blt d sz = true)
    (w : ∀ b h', Hs h0 h' (.blk b c e :: rs) → KO P X sz ops os (L.put d (.pointer (some ⟨b, 0, none⟩))) h' R) : KO P X sz ops (o :: os) L h R := by
  subst hc
  refine KO_val (v := .pointer (some ⟨h.next, 0, none⟩)) (h' := h.add (.cells v.cells.toList e none false)) hg ?_ ?_ (w _ _ (S.add _ _))
  · rw [ho]; simp only [aOp, hz, hpl, aNew]
  · simp only [putK, hd, hs]
theorem m_ldB {L' : Ks} {x : Operand} {ty e : TypeId} {b k : Nat} {c : List Value} {v : Value} (S : Hs h0 h rs) (ho : o.op = .load ty x) (hg : guardA ops L.tree o.guard = some true) (hx : kA L x = some (.pointer (some ⟨b, k, none⟩))) (hi : At rs (.blk b c e))
    (hv : loadC P ty c k = some v) (hp : putK sz L o.dst v = some L') (w : KO P X sz ops os L' h R) : KO P X sz ops (o :: os) L h R :=
  KO_load ho hg hx (by rw [aLoad_loadC (blk_get S hi)]; exact hv) hp w
theorem m_stB {L' : Ks} {rs' : List Rs} {x y : Operand} {ty e : TypeId} {b k : Nat} {c c' : List Value} {v : Value} (S : Hs h0 h rs) (ho : o.op = .store ty x y) (hg : guardA ops L.tree o.guard = some true) (hx : kA L x = some (.pointer (some ⟨b, k, none⟩))) (hy : kA L y = some v)
    (hi : Ut rs (.blk b c e) (.blk b c' e) rs') (hv : storeC P ty c k v = some c') (hp : putK sz L o.dst (.tuple #[]) = some L') (w : ∀ h', Hs h0 h' rs' → KO P X sz ops os L' h' R) : KO P X sz ops (o :: os) L h R := by
  have hg2 : h.get b = some (.cells c e none false) := by
    obtain ⟨fp, k1, -⟩ := hi.ok (h' := h) S.ext.next (Nat.le_refl _) S.sep
    exact k1.1
  exact KO_store ho hg hx hy (aStore_storeC hg2 hv) hp (w _ (S.put hi))

/-! ### elements of slices -/
theorem m_len {L' : Ks} {x : Operand} {ty : TypeId} {v : Value} {z n : Nat} {c : List Value} (ho : o.op = .call { callee := .builtin .len, args := #[x], argTypes := #[ty] }) (hg : guardA ops L.tree o.guard = some true) (hx : kA L x = some v) (hu : (sliceElem P ty).isSome = true)
    (hr : Rd h v z n c) (hp : putK sz L o.dst (.int .i64 n) = some L') (w : KO P X sz ops os L' h R) : KO P X sz ops (o :: os) L h R := by
  obtain ⟨e, he⟩ := Option.isSome_iff_exists.1 hu
  have he' : P.underlying ty = some (.slice e) := by
    unfold sliceElem at he
    split at he
    · cases he; assumption
    · cases he
  exact KO_len ho hg hx (hr.len he') hp w
theorem rd_elA {h : AH} {ty : TypeId} {v : Value} {z n : Nat} {c : List Value} {ik : IntKind} {a : Int} (hu : elemZ P ty = some z) (hr : Rd h v z n c) (ha : 0 ≤ a ∧ a < n) : aIndexAddr P ty v (.int ik a) = some (elA v z a.toNat 0) := by
  unfold elemZ at hu
  split at hu
  · rename_i e he
    obtain ⟨k, rfl⟩ := Int.eq_ofNat_of_zero_le ha.1
    have hk : k < n := by omega
    rcases hr with ⟨rfl, rfl, rfl⟩ | ⟨b, o, cap, cc, e', s, q, rfl, h1, h2⟩
    · omega
    · have : Nat.blt k n = true := by rw [Nat.blt_eq]; exact hk
      show aIndexAddr P ty _ (.int ik (Int.ofNat k)) = _
      simp only [aIndexAddr, he, hu, this, elA, Int.toNat_natCast, Nat.add_zero]
  · cases hu
theorem m_idx {L' : Ks} {x i : Operand} {ty : TypeId} {v : Value} {ik : IntKind} {a : Int} {z n : Nat} {c : List Value} (ho : o.op = .indexAddr ty x i) (hg : guardA ops L.tree o.guard = some true) (hx : kA L x = some v) (hi : kA L i = some (.int ik a)) (hu : elemZ P ty = some z)
    (hr : Rd h v z n c) (ha : 0 ≤ a ∧ a < n) (hp : putK sz L o.dst (elA v z a.toNat 0) = some L') (w : KO P X sz ops os L' h R) : KO P X sz ops (o :: os) L h R :=
  KO_index ho hg hx hi (rd_elA hu hr ha) hp w
theorem m_fld {L' : Ks} {x : Operand} {ty : TypeId} {fs : Array Field} {fd : Field} {v : Value} {z k off f m n : Nat} {c : List Value} (ho : o.op = .fieldAddr ty x f) (hg : guardA ops L.tree o.guard = some true) (hx : kA L x = some (elA v z k off)) (hu : P.underlying ty = some (.struct fs)) (hf : fs[f]? = some fd) (hm : sizeT P fd.type = some (m + 1))
    (hr : Rd h v z n c) (hk : k < n) (hp : putK sz L o.dst (elA v z k (off + fd.offset)) = some L') (w : KO P X sz ops os L' h R) : KO P X sz ops (o :: os) L h R := by
  refine KO_val hg ?_ hp w
  rw [ho]
  rcases hr with ⟨rfl, rfl, rfl⟩ | ⟨b, o', cap, cc, e', s, q, rfl, h1, h2⟩
  · omega
  · simp only [aOp, tree_le hx, elA, aFieldAddr, hu, hf, hm, nextOf, Nat.add_assoc]
theorem rd_ldE {α : Type} [Inhabited α] {h : AH} {ty : TypeId} {v u : Value} {z k off : Nat} {enc : α → List Value} {l : List α} (hr : RdL h v z enc l) (hz : ∀ x, (enc x).length = z) (hk : k < l.length) (hv : loadC P ty (enc (l.getD k default)) off = some u) : aLoad P ty (elA v z k off) h = some u := by
  rcases hr with ⟨rfl, h1, h2⟩ | ⟨b, o', cap, cc, e', s, q, rfl, h1, h2⟩
  · rw [h1] at hk; omega
  · simp only [elA]
    rw [aLoad_loadC h1]
    have hkz : k * z + z ≤ l.length * z := by
      have : (k + 1) * z ≤ l.length * z := Nat.mul_le_mul_right z hk
      rw [Nat.add_mul, Nat.one_mul] at this; exact this
    have h3 := takeAt_sub h2 (i := k * z) (m := z) hkz
    rw [flatMap_piece hz l hk] at h3
    exact loadC_at h3 hv
theorem m_ldE {α : Type} [Inhabited α] {L' : Ks} {x : Operand} {ty : TypeId} {v u : Value} {z k off : Nat} {enc : α → List Value} {l : List α} (ho : o.op = .load ty x) (hg : guardA ops L.tree o.guard = some true) (hx : kA L x = some (elA v z k off))
    (hr : RdL h v z enc l) (hz : ∀ x, (enc x).length = z) (hk : k < l.length) (hv : loadC P ty (enc (l.getD k default)) off = some u) (hp : putK sz L o.dst u = some L') (w : KO P X sz ops os L' h R) : KO P X sz ops (o :: os) L h R :=
  KO_load ho hg hx (rd_ldE hr hz hk hv) hp w
/-- A store into an element of a slice of one's own. -/
theorem sl_store {α : Type} [Inhabited α] {rs' : List Rs} {ty e : TypeId} {v u : Value} {z k off : Nat} {enc : α → List Value} {l : List α} {y : α} (S : Hs h0 h rs) (hi : Ut rs (.sl v e z enc l) (.sl v e z enc (l.set k y)) rs') (hz : ∀ x, (enc x).length = z) (hk : k < l.length)
    (hv : storeC P ty (enc (l.getD k default)) off u = some (enc y)) : ∃ h', aStore P ty (elA v z k off) u h = some h' ∧ Hs h0 h' rs' := by
  obtain ⟨fp, k1, k2, -⟩ := hi.ok (h' := h) S.ext.next (Nat.le_refl _) S.sep
  rcases k1 with ⟨rfl, rfl⟩ | ⟨b, o', cc, slk, h1, h2, h3, h4, h5, h6⟩
  · simp at hk
  subst h1
  have hkz : k * z + z ≤ l.length * z := by
    have : (k + 1) * z ≤ l.length * z := Nat.mul_le_mul_right z hk
    rw [Nat.add_mul, Nat.one_mul] at this; exact this
  obtain ⟨he, hlen⟩ : l.flatMap enc = (cc.drop o').take (l.length * z) ∧ o' + l.length * z ≤ cc.length := by
    rcases takeAt_eqs h4 with q | ⟨q1, q2⟩
    · exact q
    · have : z = 0 := by
        rcases Nat.eq_zero_or_pos z with q | q
        · exact q
        · have := Nat.mul_pos (show 0 < l.length by omega) q; omega
      rcases h5 with h5 | h5
      · exact ⟨by rw [q2, q1]; simp, by omega⟩
      · have := h5.1; subst this; simp at hk
  have hpc := flatMap_piece hz l hk
  -- the whole block's cells behind the store
  unfold storeC at hv
  split at hv
  rotate_left
  · cases hv
  rename_i n hn
  split at hv
  rotate_left
  · cases hv
  rename_i hc
  simp only [Option.some.injEq] at hv
  rw [Bool.and_eq_true, Bool.and_eq_true] at hc
  have hfit := Nat.le_of_ble_eq_true hc.2.2
  rw [hz] at hfit
  have hst : storeC P ty cc (o' + k * z + off) u = some (splice cc (o' + k * z + off) u.cells.toList) := by
    unfold storeC
    rw [hn]
    simp only [hc.1, hc.2.1, Bool.true_and]
    rw [Nat.ble_eq_true_of_le (by omega)]
  refine ⟨_, aStore_storeC h2 hst, ?_⟩
  refine S.turn hi (Nat.le_refl _) (S.wf.put (k2 b h3).2.1 _) fun fq q1 q2 => ?_
  have hb : fq b := by
    rcases q1 with ⟨q, -⟩ | ⟨b', o2, cc2, sl2, q3, q4, q5, -⟩
    · cases q
    · cases q3; exact q5
  refine ⟨fun j _ hj => by rw [AH.get_put, if_neg]; intro q; subst q; exact hj hb, fun j => j = b, .inr ⟨b, o', _, slk, by rw [List.length_set], by rw [AH.get_put, if_pos rfl], rfl, ?_, ?_, h6⟩, fun j hj => by subst hj; exact ⟨(k2 _ h3).2.1, .inl hb⟩⟩
  · rw [List.length_set, flatMap_set hz l k y hk, ← hv, ← hpc, he]
    exact splice_in hlen hkz hfit
  · rcases h5 with h5 | h5
    · left; rw [List.length_set, spl_len (by omega)]; exact h5
    · have := h5.1; subst this; simp at hk
theorem m_stE {α : Type} [Inhabited α] {L' : Ks} {rs' : List Rs} {x yo : Operand} {ty e : TypeId} {v u : Value} {z k off : Nat} {enc : α → List Value} {l : List α} {y : α} (S : Hs h0 h rs) (ho : o.op = .store ty x yo) (hg : guardA ops L.tree o.guard = some true) (hx : kA L x = some (elA v z k off)) (hy : kA L yo = some u)
    (hi : Ut rs (.sl v e z enc l) (.sl v e z enc (l.set k y)) rs') (hz : ∀ x, (enc x).length = z) (hk : k < l.length) (hv : storeC P ty (enc (l.getD k default)) off u = some (enc y)) (hp : putK sz L o.dst (.tuple #[]) = some L')
    (w : ∀ h', Hs h0 h' rs' → KO P X sz ops os L' h' R) : KO P X sz ops (o :: os) L h R := by
  obtain ⟨h', q1, q2⟩ := sl_store S hi hz hk hv
  exact KO_store ho hg hx hy q1 hp (w h' q2)
end
end Go.Proofs.Xx

/-
  make, append, slices of slices, strings: rules over resources.
-/
namespace Go.Proofs.Xx
open Go
set_option linter.unusedSimpArgs false
set_option linter.unusedVariables false

theorem zeroRow_enc {α : Type} {enc : α → List Value} {y : α} {zc : List Value} (h : zc = enc y) : ∀ n, zeroRow zc n = (List.replicate n y).flatMap enc
  | 0 => rfl
  | n + 1 => by rw [zeroRow, zeroRow_enc h n, List.replicate_succ, List.flatMap_cons, h]

section
variable {P : Program} {X : Extern} {inR : Bool} {sz : Nat} {L : Ks} {h h0 : AH} {rs : List Rs} {ops : Array Oper} {os : List Oper} {o : Oper} {R : Ks → AH → Prop} {Q : KQ}

theorem Hs.nil {α : Type} (S : Hs h0 h rs) (e : TypeId) (z : Nat) (enc : α → List Value) : Hs h0 h (.sl (.slice none 0 0) e z enc [] :: rs) :=
  ⟨S.ext, fun _ => False, .inl ⟨rfl, rfl⟩, fun b hb => hb.elim, S.sep.mono fun b _ => ⟨trivial, id⟩⟩

/-- make, all elements zero. -/
theorem m_make {α : Type} {x y : Operand} {ty e : TypeId} {a : Int} {zc : List Value} {by_ z : Nat} {enc : α → List Value} {y0 : α} {d : Tmp} (S : Hs h0 h rs) (ho : o.op = .makeSlice ty x y) (hg : guardA ops L.tree o.guard = some true) (hx : kA L x = some (.int .i64 a)) (hy : kA L y = some (.int .i64 a))
    (hs : sliceElem P ty = some e) (hz : zeroCellsT P e = some zc) (hb : bytesT P e = some by_) (hzl : zc.length = z) (hc : zc = enc y0) (hlen : ∀ x, (enc x).length = z) (ha : 0 ≤ a ∧ a.toNat * (by_ + 1) ≤ 1099511627776) (hd : o.dst = some d) (hsz : Nat.blt d sz = true)
    (w : ∀ v h', Hs h0 h' (.sl v e z enc (List.replicate a.toNat y0) :: rs) → KO P X sz ops os (L.put d v) h' R) : KO P X sz ops (o :: os) L h R := by
  subst hzl
  obtain ⟨k, rfl⟩ := Int.eq_ofNat_of_zero_le ha.1
  have hk : k * (by_ + 1) ≤ 1099511627776 := ha.2
  obtain ⟨v, h', h1, h2, h3⟩ := make_own S.wf hs hz hb hk
  refine KO_make ho hg hx hy h1 (by simp only [putK, hd, hsz]) (w v h' ?_)
  refine S.grow (fp := fun b => b = h.next) h3 (.inr ⟨h.next, 0, _, none, ?_, h2.obj, rfl, ?_, .inl ?_, .inl rfl⟩) fun b hb => by subst hb; exact ⟨Nat.le_refl _, h3.wf.lt h2.obj⟩
  · rw [h2.val]; simp
  · rw [← zeroRow_enc hc, Int.toNat_natCast]
    simp only [List.length_replicate]
    rw [← h2.len]; exact takeAt_all _
  · simp only [List.length_replicate, Int.toNat_natCast, Nat.zero_add]; exact h2.len.symm

/-! ### append -/
theorem sl_append {α : Type} {rs' : List Rs} {ts tx e : TypeId} {zc : List Value} {by_ : Nat} {enc : α → List Value} {l l2 : List α} {v x : Value} (S : Hs h0 h rs) (hs : sliceElem P ts = some e) (hz : zeroCellsT P e = some zc) (hb : bytesT P e = some (by_ + 1)) (hx : (sliceElem P tx).isSome = true)
    (hd : Dt rs (.sl v e zc.length enc l) rs') (hr : RdL h x zc.length enc l2) (h1 : ∀ y ∈ l2, (enc y).all one? = true) (hlen : ∀ y, (enc y).length = zc.length) (hsz : (l.length + l2.length + 1) * (by_ + 1) ≤ 1099511627776) :
    ∃ v' h', aAppend P [ts, tx] v x h = some (v', h') ∧ Hs h0 h' (.sl v' e zc.length enc (l ++ l2) :: rs') := by
  have hx' : ∃ e', P.underlying tx = some (.slice e') := by
    obtain ⟨e', he⟩ := Option.isSome_iff_exists.1 hx
    unfold sliceElem at he
    split at he
    · cases he; exact ⟨_, by assumption⟩
    · cases he
  obtain ⟨e', hx'⟩ := hx'
  have hall : (l2.flatMap enc).all one? = true := by
    rw [List.all_eq_true]
    intro u hu
    rw [List.mem_flatMap] at hu
    obtain ⟨y, hy, hu⟩ := hu
    exact List.all_eq_true.1 (h1 y hy) u hu
  have hnl : (l2.flatMap enc).length = l2.length * zc.length := flatMap_length hlen l2
  have k1 : Nat.ble ((l2.length + 1) * (by_ + 1)) 1099511627776 = true := Nat.ble_eq_true_of_le (Nat.le_trans (Nat.mul_le_mul_right _ (by omega)) hsz)
  have k2 : Nat.beq (l2.flatMap enc).length (l2.length * zc.length) = true := by rw [hnl]; simp
  have k3 : Nat.ble ((l.length + l2.length) * (by_ + 1)) 1099511627776 = true := Nat.ble_eq_true_of_le (Nat.le_trans (Nat.mul_le_mul_right _ (by omega)) hsz)
  obtain ⟨fp, q1, q2, q3⟩ := hd.sep S.sep
  have S' : Hs h0 h rs' := S.del hd
  have front : Hs h0 h (.sl v e zc.length enc l :: rs') := S.front hd
  have hsrc := hr.source
  -- a new block with c
  have fresh : ∀ (c : List Value) (l3 : List α), c = l3.flatMap enc → Hs h0 (h.add (.cells c e (some zc.length) false)) (.sl (.slice (some ⟨h.next, 0, none⟩) l3.length l3.length) e zc.length enc l3 :: rs') := by
    intro c l3 hc
    have hcl : c.length = l3.length * zc.length := by rw [hc]; exact flatMap_length hlen l3
    refine S'.grow (fp := fun b => b = h.next) ((Ext.refl S.wf).add _) (.inr ⟨h.next, 0, c, some zc.length, rfl, by rw [AH.get_add, if_pos rfl], rfl, ?_, .inl (by omega), .inr rfl⟩) fun b hb => by subst hb; exact ⟨Nat.le_refl _, Nat.lt_succ_self _⟩
    rw [← hcl, takeAt_all, hc]
  obtain ⟨n2, hn2⟩ : ∃ n2, l2.length = n2 := ⟨_, rfl⟩
  rcases q1 with ⟨rfl, rfl⟩ | ⟨b, o, cc, slk, g1, g2, g3, g4, g5, g6⟩
  · rw [hn2] at hsrc k1 k2
    cases n2 with
    | zero =>
      have hl2 : l2 = [] := List.length_eq_zero_iff.1 hn2
      subst hl2
      refine ⟨_, _, ?_, front⟩
      simp only [aAppend, hs, hx', hz, hb, hsrc, k1, hall, k2, Bool.and_self]
    | succ m =>
      refine ⟨.slice (some ⟨h.next, 0, none⟩) (m + 1) (m + 1), h.add (.cells (l2.flatMap enc) e (some zc.length) false), ?_, ?_⟩
      · simp only [aAppend, hs, hx', hz, hb, hsrc, k1, hall, k2, Bool.and_self]
      · have := fresh _ l2 rfl
        rw [hn2] at this
        exact this
  · subst g1
    rw [hn2] at hsrc k1 k2 k3
    have hoc : o + l.length * zc.length ≤ cc.length := by
      rcases g5 with g5 | ⟨g5, g7⟩
      · omega
      · rw [g5]; simpa using g7
    cases n2 with
    | zero =>
      have hl2 : l2 = [] := List.length_eq_zero_iff.1 hn2
      subst hl2
      refine ⟨_, _, ?_, by rw [List.append_nil]; exact front⟩
      have : Nat.ble (l.length + 0) l.length = true := Nat.ble_eq_true_of_le (Nat.le_refl _)
      simp only [aAppend, hs, hx', hz, hb, hsrc, k1, hall, k2, Bool.and_self, g2, this]
    | succ m =>
      have k4 : Nat.ble (l.length + (m + 1)) l.length = false := by
        cases hq : Nat.ble (l.length + (m + 1)) l.length with
        | false => rfl
        | true => have := Nat.le_of_ble_eq_true hq; omega
      have hcat : l.flatMap enc ++ l2.flatMap enc = (l ++ l2).flatMap enc := by rw [List.flatMap_append]
      rcases g6 with rfl | rfl
      · have hfr := fresh _ (l ++ l2) hcat
        rw [List.length_append, hn2] at hfr
        refine ⟨_, _, ?_, hfr⟩
        simp only [aAppend, hs, hx', hz, hb, hsrc, k1, hall, k2, Bool.and_self, g2, k4, g4, k3]
      · have hbl : b < h.next := (q2 b g3).2.1
        refine ⟨.slice (some ⟨h.next, 0, none⟩) (l.length + (m + 1)) (l.length + (m + 1)), (h.put b .dead).add (.cells (l.flatMap enc ++ l2.flatMap enc) e (some zc.length) false), ?_, ?_⟩
        · have k6 : (Nat.beq zc.length zc.length && Nat.beq e e && Nat.ble (o + l.length * zc.length) cc.length) = true := by
            simp [Nat.ble_eq_true_of_le hoc]
          simp only [aAppend, hs, hx', hz, hb, hsrc, k1, hall, k2, Bool.and_self, g2, k4, g4, k3, k6]
        · have hln : (l ++ l2).length = l.length + (m + 1) := by rw [List.length_append, hn2]
          have hcl : (l.flatMap enc ++ l2.flatMap enc).length = (l ++ l2).length * zc.length := by rw [hcat]; exact flatMap_length hlen _
          refine front.turn .here (Nat.le_succ _) ((S.wf.put hbl _).add _) fun fq r1 r2 => ?_
          have hb' : fq b := by
            rcases r1 with ⟨q, -⟩ | ⟨b', o2, cc2, sl2, q3, q4, q5, -⟩
            · cases q
            · cases q3; exact q5
          refine ⟨fun j hj hn => ?_, fun j => j = h.next, .inr ⟨h.next, 0, l.flatMap enc ++ l2.flatMap enc, some zc.length, by rw [hln], ?_, rfl, ?_, .inl (by omega), .inr rfl⟩, fun j hj => by subst hj; exact ⟨Nat.lt_succ_self _, .inr (Nat.le_refl _)⟩⟩
          · rw [AH.get_add, if_neg (by simp only [AH.put]; omega), AH.get_put, if_neg]; intro q; subst q; exact hn hb'
          · rw [AH.get_add]; exact if_pos rfl
          · rw [← hcl, takeAt_all, hcat]
/-- append of a list that is read. -/
theorem m_append {α : Type} {rs' : List Rs} {x y : Operand} {ts tx e : TypeId} {zc : List Value} {by_ z : Nat} {enc : α → List Value} {l l2 : List α} {v u : Value} {d : Tmp} (S : Hs h0 h rs) (ho : o.op = .call { callee := .builtin .append, args := #[x, y], argTypes := #[ts, tx] }) (hg : guardA ops L.tree o.guard = some true) (hx : kA L x = some v) (hy : kA L y = some u)
    (hd : Dt rs (.sl v e z enc l) rs') (hr : RdL h u z enc l2) (hs : sliceElem P ts = some e) (hz : zeroCellsT P e = some zc) (hzl : zc.length = z) (hb : bytesT P e = some (by_ + 1)) (hxs : (sliceElem P tx).isSome = true) (h1 : ∀ y ∈ l2, (enc y).all one? = true) (hlen : ∀ y, (enc y).length = z)
    (hsz : (l.length + l2.length + 1) * (by_ + 1) ≤ 1099511627776) (hdst : o.dst = some d) (hds : Nat.blt d sz = true) (w : ∀ v' h', Hs h0 h' (.sl v' e z enc (l ++ l2) :: rs') → KO P X sz ops os (L.put d v') h' R) : KO P X sz ops (o :: os) L h R := by
  subst hzl
  obtain ⟨v', h', q1, q2⟩ := sl_append S hs hz hb hxs hd hr h1 hlen hsz
  exact KO_append ho hg hx hy q1 (by simp only [putK, hdst, hds]) (w v' h' q2)
/-- A slice of one element, made to be appended. -/
theorem m_one {x : Operand} {ty e : TypeId} {zc : List Value} {z : Nat} {v : Value} {c : List Value} {d : Tmp} (S : Hs h0 h rs) (ho : o.op = .buildSlice ty 1 #[(0, x)]) (hg : guardA ops L.tree o.guard = some true) (hx : kA L x = some v) (hs : sliceElem P ty = some e) (hz : zeroCellsT P e = some zc) (hzl : zc.length = z) (hv : v.cells.toList = c) (hc : c.length = z)
    (hsm : z ≤ 1000) (hdst : o.dst = some d) (hds : Nat.blt d sz = true) (w : ∀ u h', Hs h0 h' (.sl u e z eRaw [c] :: rs) → KO P X sz ops os (L.put d u) h' R) : KO P X sz ops (o :: os) L h R := by
  subst hv
  subst hzl
  refine KO_bslice ho hg (show kParts L (#[(0, x)] : Array (Nat × Operand)).toList = some [(0, v)] by simp [kParts, hx]) (build1 hs hz hc hsm h) (by simp only [putK, hdst, hds]) (w (.slice (some ⟨h.next, 0, none⟩) 1 1) (h.add (.cells v.cells.toList e none false)) ?_)
  refine S.grow (fp := fun b => b = h.next) ((Ext.refl S.wf).add _) (.inr ⟨h.next, 0, v.cells.toList, none, rfl, by rw [AH.get_add, if_pos rfl], rfl, ?_, .inl (by simp [hc]), .inl rfl⟩) fun b hb => by subst hb; exact ⟨Nat.le_refl _, Nat.lt_succ_self _⟩
  simp only [List.length_cons, List.length_nil, Nat.zero_add, Nat.one_mul, List.flatMap_cons, List.flatMap_nil, List.append_nil, eRaw]
  rw [← hc]; exact takeAt_all _
/-- append of one element, in a slice of its own. -/
theorem m_app1 {α : Type} {rs' : List Rs} {x y : Operand} {ts tx e e2 : TypeId} {zc c : List Value} {by_ z : Nat} {enc : α → List Value} {l : List α} {y0 : α} {v u : Value} {d : Tmp} (S : Hs h0 h (.sl u e2 z eRaw [c] :: rs)) (ho : o.op = .call { callee := .builtin .append, args := #[x, y], argTypes := #[ts, tx] }) (hg : guardA ops L.tree o.guard = some true) (hx : kA L x = some v) (hy : kA L y = some u)
    (hd : Dt rs (.sl v e z enc l) rs') (hs : sliceElem P ts = some e) (hz : zeroCellsT P e = some zc) (hzl : zc.length = z) (hb : bytesT P e = some (by_ + 1)) (hxs : (sliceElem P tx).isSome = true) (hc : c = enc y0) (h1 : c.all one? = true) (hlen : ∀ y, (enc y).length = z)
    (hsz : (l.length + 2) * (by_ + 1) ≤ 1099511627776) (hdst : o.dst = some d) (hds : Nat.blt d sz = true) (w : ∀ v' h', Hs h0 h' (.sl v' e z enc (l ++ [y0]) :: rs') → KO P X sz ops os (L.put d v') h' R) : KO P X sz ops (o :: os) L h R := by
  subst hc
  have hr : RdL h u z enc [y0] := by
    have := Rd.of_sl S .here
    unfold RdL at this ⊢
    simp only [List.flatMap_cons, List.flatMap_nil, eRaw] at this ⊢
    exact this
  exact m_append S.tail ho hg hx hy hd hr hs hz hzl hb hxs (by simpa using h1) hlen (by simpa using hsz) hdst hds w

/-! ### strings -/
theorem s_len {L' : Ks} {x : Operand} {ty : TypeId} {l : List UInt8} (ho : o.op = .call { callee := .builtin .len, args := #[x], argTypes := #[ty] }) (hg : guardA ops L.tree o.guard = some true) (hx : kA L x = some (str l)) (hu : P.underlying ty = some .string)
    (hp : putK sz L o.dst (.int .i64 l.length) = some L') (w : KO P X sz ops os L' h R) : KO P X sz ops (o :: os) L h R :=
  KO_len ho hg hx (by unfold str; simp only [aLen, hu, List.toList_toArray]) hp w
theorem s_idx {L' : Ks} {x i : Operand} {ty : TypeId} {l : List UInt8} {ik : IntKind} {a : Int} (ho : o.op = .index ty x i) (hg : guardA ops L.tree o.guard = some true) (hx : kA L x = some (str l)) (hi : kA L i = some (.int ik a)) (hu : P.underlying ty = some .string)
    (ha : 0 ≤ a ∧ a < l.length) (hp : putK sz L o.dst (.int .u8 ((l.getD a.toNat 0).toNat : Int)) = some L') (w : KO P X sz ops os L' h R) : KO P X sz ops (o :: os) L h R := by
  obtain ⟨k, rfl⟩ := Int.eq_ofNat_of_zero_le ha.1
  have hk : k < l.length := by omega
  refine KO_val hg ?_ hp w
  rw [ho]
  have : aIndex P ty (str l) (.int ik (Int.ofNat k)) = some (.int .u8 ((l.getD k 0).toNat : Int)) := by
    unfold str
    simp only [aIndex, hu, List.toList_toArray]
    rw [List.getElem?_eq_getElem hk, List.getD_eq_getElem?_getD, List.getElem?_eq_getElem hk]; rfl
  have hi' : evA L.tree i = some (.int ik (Int.ofNat k)) := tree_le hi
  simp only [aOp, tree_le hx, hi', this, nextOf, Int.toNat_natCast]
theorem s_sub {L' : Ks} {x : Operand} {lo hi : Option Operand} {vlo vhi : Option Value} {ty : TypeId} {l : List UInt8} {a b : Nat} (ho : o.op = .slice ty x lo hi none) (hg : guardA ops L.tree o.guard = some true) (hx : kA L x = some (str l)) (hu : P.underlying ty = some .string)
    (hlo : evOpt L.tree lo = some vlo) (hhi : evOpt L.tree hi = some vhi) (h1 : boundOf vlo 0 = some a) (h2 : boundOf vhi l.length = some b) (hab : a ≤ b ∧ b ≤ l.length) (hp : putK sz L o.dst (str ((l.drop a).take (b - a))) = some L') (w : KO P X sz ops os L' h R) : KO P X sz ops (o :: os) L h R := by
  refine KO_val hg ?_ hp w
  rw [ho]
  have : aSlice P ty (str l) vlo vhi none h = some (str ((l.drop a).take (b - a))) := by
    unfold str
    simp only [aSlice, hu, List.toList_toArray, h1, h2]
    rw [Nat.ble_eq_true_of_le hab.1, Nat.ble_eq_true_of_le hab.2]; rfl
  simp only [aOp, tree_le hx, hlo, hhi, show evOpt L.tree none = some none from rfl, this, nextOf]
theorem s_cat {L' : Ks} {x y : Operand} {ty ty2 : TypeId} {l m : List UInt8} (ho : o.op = .binOp .add ty x y ty2) (hg : guardA ops L.tree o.guard = some true) (hx : kA L x = some (str l)) (hy : kA L y = some (str m))
    (hb : l.length + m.length ≤ 4611686018427387904) (hp : putK sz L o.dst (str (l ++ m)) = some L') (w : KO P X sz ops os L' h R) : KO P X sz ops (o :: os) L h R :=
  KO_bin ho hg hx hy (by
    unfold str
    simp only [aBin, List.toList_toArray]
    rw [Nat.ble_eq_true_of_le hb]) hp w
theorem eqBytes_str (l m : List UInt8) : eqBytes ⟨l.toArray⟩ ⟨m.toArray⟩ = decide (l = m) := by
  unfold eqBytes
  simp only [List.toList_toArray]
  rw [Bool.eq_iff_iff]; simp
theorem s_eqT {L' : Ks} {op : BinOp} {x y : Operand} {ty ty2 : TypeId} {l m : List UInt8} {v : Bool} (ho : o.op = .binOp op ty x y ty2) (hg : guardA ops L.tree o.guard = some true) (hx : kA L x = some (str l)) (hy : kA L y = some (str m))
    (hop : (match op with | .eql => some true | .neq => some false | _ => none) = some v) (hq : l = m) (hp : putK sz L o.dst (.bool v) = some L') (w : KO P X sz ops os L' h R) : KO P X sz ops (o :: os) L h R :=
  KO_bin ho hg hx hy (by
    unfold str
    cases op <;> simp only [Option.some.injEq] at hop <;> try (cases hop; done)
    all_goals (subst hop; simp only [aBin, eqBytes_str, decide_eq_true hq, Bool.not_true])) hp w
theorem s_eqF {L' : Ks} {op : BinOp} {x y : Operand} {ty ty2 : TypeId} {l m : List UInt8} {v : Bool} (ho : o.op = .binOp op ty x y ty2) (hg : guardA ops L.tree o.guard = some true) (hx : kA L x = some (str l)) (hy : kA L y = some (str m))
    (hop : (match op with | .eql => some false | .neq => some true | _ => none) = some v) (hq : ¬ l = m) (hp : putK sz L o.dst (.bool v) = some L') (w : KO P X sz ops os L' h R) : KO P X sz ops (o :: os) L h R :=
  KO_bin ho hg hx hy (by
    unfold str
    cases op <;> simp only [Option.some.injEq] at hop <;> try (cases hop; done)
    all_goals (subst hop; simp only [aBin, eqBytes_str, decide_eq_false hq, Bool.not_false])) hp w
theorem s_eqS {L1 L2 : Ks} {op : BinOp} {x y : Operand} {ty ty2 : TypeId} {l m : List UInt8} {v : Bool} (ho : o.op = .binOp op ty x y ty2) (hg : guardA ops L.tree o.guard = some true) (hx : kA L x = some (str l)) (hy : kA L y = some (str m))
    (hop : (match op with | .eql => some true | .neq => some false | _ => none) = some v) (hp1 : putK sz L o.dst (.bool v) = some L1) (hp2 : putK sz L o.dst (.bool !v) = some L2) (w1 : l = m → KO P X sz ops os L1 h R) (w2 : ¬ l = m → KO P X sz ops os L2 h R) : KO P X sz ops (o :: os) L h R := by
  by_cases hq : l = m
  · exact s_eqT ho hg hx hy hop hq hp1 (w1 hq)
  · refine s_eqF (v := !v) ho hg hx hy ?_ hq hp2 (w2 hq)
    cases op <;> simp only [Option.some.injEq] at hop ⊢ <;> try (cases hop; done)
    all_goals (subst hop; rfl)
end
end Go.Proofs.Xx

/-
  Moves, conversions; facts on lists that the walks want.
-/
namespace Go.Proofs.Xx
open Go
set_option linter.unusedSimpArgs false
set_option linter.unusedVariables false

def mvOf : Op → Option Operand | .move x | .assign x => some x | _ => none
section
variable {P : Program} {X : Extern} {inR : Bool} {sz : Nat} {L : Ks} {h h0 : AH} {rs : List Rs} {ops : Array Oper} {os : List Oper} {o : Oper} {R : Ks → AH → Prop} {Q : KQ}
theorem a_mov {L' : Ks} {x : Operand} {v : Value} (ho : mvOf o.op = some x) (hg : guardA ops L.tree o.guard = some true) (hx : kA L x = some v) (hp : putK sz L o.dst v = some L') (w : KO P X sz ops os L' h R) : KO P X sz ops (o :: os) L h R := by
  refine KO_val hg ?_ hp w
  cases he : o.op with
  | move y => rw [he] at ho; cases ho; simp only [aOp, tree_le hx, nextOf]
  | assign y => rw [he] at ho; cases ho; simp only [aOp, tree_le hx, nextOf]
  | _ => rw [he] at ho; cases ho
theorem wrap_u8 {n : Int} (h : 0 ≤ n ∧ n ≤ 255) : IntKind.u8.wrap n = n := conv_in (by simpa [IntKind.min, IntKind.max, IntKind.signed, IntKind.bits] using h)
theorem a_addU {L' : Ks} {x y : Operand} {ty ty2 : TypeId} {a b : Int} (ho : o.op = .binOp .add ty x y ty2) (hg : guardA ops L.tree o.guard = some true) (hx : kA L x = some (.int .u8 a)) (hy : kA L y = some (.int .u8 b))
    (hb : 0 ≤ a + b ∧ a + b ≤ 255) (hp : putK sz L o.dst (.int .u8 (a + b)) = some L') (w : KO P X sz ops os L' h R) : KO P X sz ops (o :: os) L h R :=
  KO_bin ho hg hx hy (by simp only [aBin, decide_true, wrap_u8 hb]) hp w
theorem a_subU {L' : Ks} {x y : Operand} {ty ty2 : TypeId} {a b : Int} (ho : o.op = .binOp .sub ty x y ty2) (hg : guardA ops L.tree o.guard = some true) (hx : kA L x = some (.int .u8 a)) (hy : kA L y = some (.int .u8 b))
    (hb : 0 ≤ a - b ∧ a - b ≤ 255) (hp : putK sz L o.dst (.int .u8 (a - b)) = some L') (w : KO P X sz ops os L' h R) : KO P X sz ops (o :: os) L h R :=
  KO_bin ho hg hx hy (by simp only [aBin, decide_true, wrap_u8 hb]) hp w
theorem a_cvI {L' : Ks} {x : Operand} {s d : TypeId} {k k2 : IntKind} {a : Int} (ho : o.op = .convert s d x) (hg : guardA ops L.tree o.guard = some true) (hx : kA L x = some (.int k a)) (hs : P.underlying s = some (.int k2)) (hd : P.underlying d = some (.int .i64))
    (hb : -9223372036854775808 ≤ a ∧ a ≤ 9223372036854775807) (hp : putK sz L o.dst (.int .i64 a) = some L') (w : KO P X sz ops os L' h R) : KO P X sz ops (o :: os) L h R :=
  KO_val hg (by rw [ho]; simp only [aOp, tree_le hx, aConvert, hs, hd, wrap_i64 hb.1 hb.2]) hp w
theorem a_cvU {L' : Ks} {x : Operand} {s d : TypeId} {k k2 : IntKind} {a : Int} (ho : o.op = .convert s d x) (hg : guardA ops L.tree o.guard = some true) (hx : kA L x = some (.int k a)) (hs : P.underlying s = some (.int k2)) (hd : P.underlying d = some (.int .u8))
    (hb : 0 ≤ a ∧ a ≤ 255) (hp : putK sz L o.dst (.int .u8 a) = some L') (w : KO P X sz ops os L' h R) : KO P X sz ops (o :: os) L h R :=
  KO_val hg (by rw [ho]; simp only [aOp, tree_le hx, aConvert, hs, hd, wrap_u8 hb]) hp w
end
theorem byte_lt (x : UInt8) : (x.toNat : Int) < 256 := by have := x.toNat_lt; omega
end Go.Proofs.Xx
namespace Go.Proofs.Xx
open Go
theorem ret_cell {P : Program} {L : Ks} {h h0 : AH} {rs : List Rs} {a b k : Nat} {ty e : TypeId} {c : List Value} {v : Value} {res : List ResultVar} {vs : List Value} (S : Hs h0 h rs) (hx : L.get a = some (.pointer (some ⟨b, k, none⟩))) (hi : At rs (.blk b c e)) (hv : loadC P ty c k = some v) (hr : resultsA P L.tree h res = some vs) :
    resultsA P L.tree h (.cell a ty :: res) = some (v :: vs) := by
  simp only [resultsA, resultA, Ks.tree_get, hx]
  rw [aLoad_loadC (blk_get S hi), hv]
  simp only [hr]
end Go.Proofs.Xx

/-
  The same rules in short: what computes is found by itself.
-/
namespace Go.Proofs.Xx
open Go
set_option linter.unusedSimpArgs false
set_option linter.unusedVariables false

/-! ### where a resource stands -/
class HasB (rs : List Rs) (b : Nat) (c : outParam (List Value)) (e : outParam TypeId) (f : outParam (Rs → List Rs)) : Prop where
  at_ : At rs (.blk b c e)
  ut : ∀ r, Ut rs (.blk b c e) r (f r)
instance HasB.there {rs : List Rs} {b : Nat} {c : List Value} {e : TypeId} {f : Rs → List Rs} {s : Rs} [k : HasB rs b c e f] : HasB (s :: rs) b c e (fun r => s :: f r) := ⟨.there k.at_, fun r => .there (k.ut r)⟩
instance HasB.here {rs : List Rs} {b : Nat} {c : List Value} {e : TypeId} : HasB (.blk b c e :: rs) b c e (fun r => r :: rs) := ⟨.here, fun r => .here⟩
class HasS (rs : List Rs) (v : Value) (α : outParam Type) (e : outParam TypeId) (z : outParam Nat) (enc : outParam (α → List Value)) (l : outParam (List α)) (f : outParam (Rs → List Rs)) (d : outParam (List Rs)) : Prop where
  at_ : At rs (.sl v e z enc l)
  ut : ∀ r, Ut rs (.sl v e z enc l) r (f r)
  dt : Dt rs (.sl v e z enc l) d
instance HasS.there {rs : List Rs} {v : Value} {α : Type} {e : TypeId} {z : Nat} {enc : α → List Value} {l : List α} {f : Rs → List Rs} {d : List Rs} {s : Rs} [k : HasS rs v α e z enc l f d] : HasS (s :: rs) v α e z enc l (fun r => s :: f r) (s :: d) :=
  ⟨.there k.at_, fun r => .there (k.ut r), .there k.dt⟩
instance HasS.here {rs : List Rs} {v : Value} {α : Type} {e : TypeId} {z : Nat} {enc : α → List Value} {l : List α} : HasS (.sl v e z enc l :: rs) v α e z enc l (fun r => r :: rs) rs := ⟨.here, fun r => .here, .here⟩
class HasR (rs : List Rs) (v : Value) (α : outParam Type) (z : outParam Nat) (enc : outParam (α → List Value)) (l : outParam (List α)) : Prop where
  rd : ∀ {h0 h : AH}, Hs h0 h rs → RdL h v z enc l
instance HasR.there {rs : List Rs} {v : Value} {α : Type} {z : Nat} {enc : α → List Value} {l : List α} {s : Rs} [k : HasR rs v α z enc l] : HasR (s :: rs) v α z enc l := ⟨fun S => k.rd S.tail⟩
instance HasR.sl {rs : List Rs} {v : Value} {α : Type} {e : TypeId} {z : Nat} {enc : α → List Value} {l : List α} : HasR (.sl v e z enc l :: rs) v α z enc l := ⟨fun S => Rd.of_sl S .here⟩
instance HasR.rdd {rs : List Rs} {v : Value} {α : Type} {z : Nat} {enc : α → List Value} {l : List α} : HasR (.rd v z enc l :: rs) v α z enc l := ⟨fun S => Rd.of_rd S .here⟩

section
variable {P : Program} {X : Extern} {inR : Bool} {sz : Nat} {L : Ks} {h h0 : AH} {rs : List Rs} {ops : Array Oper} {os : List Oper} {o : Oper} {R : Ks → AH → Prop} {Q : KQ}

theorem mv {L' : Ks} {x : Operand} {v : Value} (w : KO P X sz ops os L' h R) (ho : mvOf o.op = some x := by exact rfl) (hg : guardA ops L.tree o.guard = some true := by exact rfl) (hx : kA L x = some v := by exact rfl) (hp : putK sz L o.dst v = some L' := by exact rfl) : KO P X sz ops (o :: os) L h R := a_mov ho hg hx hp w
theorem vl {L' : Ks} {h' : AH} {v : Value} (w : KO P X sz ops os L' h' R) (hg : guardA ops L.tree o.guard = some true := by exact rfl) (ha : aOp P L.tree h o.op = some (.val v h') := by exact rfl) (hp : putK sz L o.dst v = some L' := by exact rfl) : KO P X sz ops (o :: os) L h R := KO_val hg ha hp w
theorem off {L' : Ks} (w : KO P X sz ops os L' h R) (hg : guardA ops L.tree o.guard = some false := by exact rfl) (hp : putK sz L o.dst (.tuple #[]) = some L' := by exact rfl) : KO P X sz ops (o :: os) L h R := KO_off hg hp w
theorem ad {L' : Ks} {x y : Operand} {ty ty2 : TypeId} {a b : Int} (w : KO P X sz ops os L' h R) (ho : o.op = .binOp .add ty x y ty2 := by exact rfl) (hg : guardA ops L.tree o.guard = some true := by exact rfl) (hx : kA L x = some (.int .i64 a) := by exact rfl) (hy : kA L y = some (.int .i64 b) := by exact rfl)
    (hb : -9223372036854775808 ≤ a + b ∧ a + b ≤ 9223372036854775807 := by first | omega | grind) (hp : putK sz L o.dst (.int .i64 (a + b)) = some L' := by exact rfl) : KO P X sz ops (o :: os) L h R := a_add ho hg hx hy hb hp w
theorem sb {L' : Ks} {x y : Operand} {ty ty2 : TypeId} {a b : Int} (w : KO P X sz ops os L' h R) (ho : o.op = .binOp .sub ty x y ty2 := by exact rfl) (hg : guardA ops L.tree o.guard = some true := by exact rfl) (hx : kA L x = some (.int .i64 a) := by exact rfl) (hy : kA L y = some (.int .i64 b) := by exact rfl)
    (hb : -9223372036854775808 ≤ a - b ∧ a - b ≤ 9223372036854775807 := by first | omega | grind) (hp : putK sz L o.dst (.int .i64 (a - b)) = some L' := by exact rfl) : KO P X sz ops (o :: os) L h R := a_sub ho hg hx hy hb hp w
theorem ml {L' : Ks} {x y : Operand} {ty ty2 : TypeId} {a b : Int} (w : KO P X sz ops os L' h R) (ho : o.op = .binOp .mul ty x y ty2 := by exact rfl) (hg : guardA ops L.tree o.guard = some true := by exact rfl) (hx : kA L x = some (.int .i64 a) := by exact rfl) (hy : kA L y = some (.int .i64 b) := by exact rfl)
    (hb : -9223372036854775808 ≤ a * b ∧ a * b ≤ 9223372036854775807 := by first | omega | grind) (hp : putK sz L o.dst (.int .i64 (a * b)) = some L' := by exact rfl) : KO P X sz ops (o :: os) L h R := a_mul ho hg hx hy hb hp w
theorem qu {L' : Ks} {x y : Operand} {ty ty2 : TypeId} {a b : Int} (w : KO P X sz ops os L' h R) (ho : o.op = .binOp .quo ty x y ty2 := by exact rfl) (hg : guardA ops L.tree o.guard = some true := by exact rfl) (hx : kA L x = some (.int .i64 a) := by exact rfl) (hy : kA L y = some (.int .i64 b) := by exact rfl)
    (hb : 0 ≤ a ∧ a ≤ 9223372036854775807 ∧ 0 < b := by first | omega | grind) (hp : putK sz L o.dst (.int .i64 (a / b)) = some L' := by exact rfl) : KO P X sz ops (o :: os) L h R := a_quo ho hg hx hy hb hp w
theorem rm {L' : Ks} {x y : Operand} {ty ty2 : TypeId} {a b : Int} (w : KO P X sz ops os L' h R) (ho : o.op = .binOp .rem ty x y ty2 := by exact rfl) (hg : guardA ops L.tree o.guard = some true := by exact rfl) (hx : kA L x = some (.int .i64 a) := by exact rfl) (hy : kA L y = some (.int .i64 b) := by exact rfl)
    (hb : 0 ≤ a ∧ 0 < b := by first | omega | grind) (hp : putK sz L o.dst (.int .i64 (a % b)) = some L' := by exact rfl) : KO P X sz ops (o :: os) L h R := a_rem ho hg hx hy hb hp w
theorem ng {L' : Ks} {x : Operand} {ty : TypeId} {a : Int} (w : KO P X sz ops os L' h R) (ho : o.op = .unOp .neg ty x := by exact rfl) (hg : guardA ops L.tree o.guard = some true := by exact rfl) (hx : kA L x = some (.int .i64 a) := by exact rfl)
    (hb : -9223372036854775808 ≤ -a ∧ -a ≤ 9223372036854775807 := by first | omega | grind) (hp : putK sz L o.dst (.int .i64 (-a)) = some L' := by exact rfl) : KO P X sz ops (o :: os) L h R := a_neg ho hg hx hb hp w
theorem mn {L' : Ks} {x y : Operand} {tys : Array TypeId} {k k' : IntKind} {a b : Int} (w : KO P X sz ops os L' h R) (ho : o.op = .call { callee := .builtin .min, args := #[x, y], argTypes := tys } := by exact rfl) (hg : guardA ops L.tree o.guard = some true := by exact rfl) (hx : kA L x = some (.int k a) := by exact rfl) (hy : kA L y = some (.int k' b) := by exact rfl)
    (hp : putK sz L o.dst (.int k (min a b)) = some L' := by exact rfl) : KO P X sz ops (o :: os) L h R := a_min ho hg hx hy hp w
theorem mx {L' : Ks} {x y : Operand} {tys : Array TypeId} {k k' : IntKind} {a b : Int} (w : KO P X sz ops os L' h R) (ho : o.op = .call { callee := .builtin .max, args := #[x, y], argTypes := tys } := by exact rfl) (hg : guardA ops L.tree o.guard = some true := by exact rfl) (hx : kA L x = some (.int k a) := by exact rfl) (hy : kA L y = some (.int k' b) := by exact rfl)
    (hp : putK sz L o.dst (.int k (max a b)) = some L' := by exact rfl) : KO P X sz ops (o :: os) L h R := a_max ho hg hx hy hp w
theorem aU {L' : Ks} {x y : Operand} {ty ty2 : TypeId} {a b : Int} (w : KO P X sz ops os L' h R) (ho : o.op = .binOp .add ty x y ty2 := by exact rfl) (hg : guardA ops L.tree o.guard = some true := by exact rfl) (hx : kA L x = some (.int .u8 a) := by exact rfl) (hy : kA L y = some (.int .u8 b) := by exact rfl)
    (hb : 0 ≤ a + b ∧ a + b ≤ 255 := by omega) (hp : putK sz L o.dst (.int .u8 (a + b)) = some L' := by exact rfl) : KO P X sz ops (o :: os) L h R := a_addU ho hg hx hy hb hp w
theorem sU {L' : Ks} {x y : Operand} {ty ty2 : TypeId} {a b : Int} (w : KO P X sz ops os L' h R) (ho : o.op = .binOp .sub ty x y ty2 := by exact rfl) (hg : guardA ops L.tree o.guard = some true := by exact rfl) (hx : kA L x = some (.int .u8 a) := by exact rfl) (hy : kA L y = some (.int .u8 b) := by exact rfl)
    (hb : 0 ≤ a - b ∧ a - b ≤ 255 := by omega) (hp : putK sz L o.dst (.int .u8 (a - b)) = some L' := by exact rfl) : KO P X sz ops (o :: os) L h R := a_subU ho hg hx hy hb hp w
theorem cI {L' : Ks} {x : Operand} {s d : TypeId} {k k2 : IntKind} {a : Int} (w : KO P X sz ops os L' h R) (ho : o.op = .convert s d x := by exact rfl) (hg : guardA ops L.tree o.guard = some true := by exact rfl) (hx : kA L x = some (.int k a) := by exact rfl) (hs : P.underlying s = some (.int k2) := by exact rfl) (hd : P.underlying d = some (.int .i64) := by exact rfl)
    (hb : -9223372036854775808 ≤ a ∧ a ≤ 9223372036854775807 := by first | omega | grind) (hp : putK sz L o.dst (.int .i64 a) = some L' := by exact rfl) : KO P X sz ops (o :: os) L h R := a_cvI ho hg hx hs hd hb hp w
theorem cU {L' : Ks} {x : Operand} {s d : TypeId} {k k2 : IntKind} {a : Int} (w : KO P X sz ops os L' h R) (ho : o.op = .convert s d x := by exact rfl) (hg : guardA ops L.tree o.guard = some true := by exact rfl) (hx : kA L x = some (.int k a) := by exact rfl) (hs : P.underlying s = some (.int k2) := by exact rfl) (hd : P.underlying d = some (.int .u8) := by exact rfl)
    (hb : 0 ≤ a ∧ a ≤ 255 := by omega) (hp : putK sz L o.dst (.int .u8 a) = some L' := by exact rfl) : KO P X sz ops (o :: os) L h R := a_cvU ho hg hx hs hd hb hp w
theorem cT {L' : Ks} {op : BinOp} {x y : Operand} {ty ty2 : TypeId} {k : IntKind} {a b : Int} {p : Prop} (w : KO P X sz ops os L' h R) (ho : o.op = .binOp op ty x y ty2 := by exact rfl) (hg : guardA ops L.tree o.guard = some true := by exact rfl) (hx : kA L x = some (.int k a) := by exact rfl) (hy : kA L y = some (.int k b) := by exact rfl)
    (hc : cmpP op a b = some p := by exact rfl) (hq : p := by omega) (hp : putK sz L o.dst (.bool true) = some L' := by exact rfl) : KO P X sz ops (o :: os) L h R := a_cT ho hg hx hy hc hq hp w
theorem cF {L' : Ks} {op : BinOp} {x y : Operand} {ty ty2 : TypeId} {k : IntKind} {a b : Int} {p : Prop} (w : KO P X sz ops os L' h R) (ho : o.op = .binOp op ty x y ty2 := by exact rfl) (hg : guardA ops L.tree o.guard = some true := by exact rfl) (hx : kA L x = some (.int k a) := by exact rfl) (hy : kA L y = some (.int k b) := by exact rfl)
    (hc : cmpP op a b = some p := by exact rfl) (hq : ¬ p := by omega) (hp : putK sz L o.dst (.bool false) = some L' := by exact rfl) : KO P X sz ops (o :: os) L h R := a_cF ho hg hx hy hc hq hp w
theorem cS {L1 L2 : Ks} {op : BinOp} {x y : Operand} {ty ty2 : TypeId} {k : IntKind} {a b : Int} {p : Prop} (w1 : p → KO P X sz ops os L1 h R) (w2 : ¬ p → KO P X sz ops os L2 h R) (ho : o.op = .binOp op ty x y ty2 := by exact rfl) (hg : guardA ops L.tree o.guard = some true := by exact rfl) (hx : kA L x = some (.int k a) := by exact rfl) (hy : kA L y = some (.int k b) := by exact rfl)
    (hc : cmpP op a b = some p := by exact rfl) (hp1 : putK sz L o.dst (.bool true) = some L1 := by exact rfl) (hp2 : putK sz L o.dst (.bool false) = some L2 := by exact rfl) : KO P X sz ops (o :: os) L h R := a_cS ho hg hx hy hc hp1 hp2 w1 w2
theorem tS {L1 L2 : Ks} {op : BinOp} {x y : Operand} {ty ty2 : TypeId} {l m : List UInt8} {v : Bool} (w1 : l = m → KO P X sz ops os L1 h R) (w2 : ¬ l = m → KO P X sz ops os L2 h R) (ho : o.op = .binOp op ty x y ty2 := by exact rfl) (hg : guardA ops L.tree o.guard = some true := by exact rfl) (hx : kA L x = some (str l) := by exact rfl) (hy : kA L y = some (str m) := by exact rfl)
    (hop : (match op with | .eql => some true | .neq => some false | _ => none) = some v := by exact rfl) (hp1 : putK sz L o.dst (.bool v) = some L1 := by exact rfl) (hp2 : putK sz L o.dst (.bool !v) = some L2 := by exact rfl) : KO P X sz ops (o :: os) L h R := s_eqS ho hg hx hy hop hp1 hp2 w1 w2
theorem tl {L' : Ks} {x : Operand} {ty : TypeId} {l : List UInt8} (w : KO P X sz ops os L' h R) (ho : o.op = .call { callee := .builtin .len, args := #[x], argTypes := #[ty] } := by exact rfl) (hg : guardA ops L.tree o.guard = some true := by exact rfl) (hx : kA L x = some (str l) := by exact rfl) (hu : P.underlying ty = some .string := by exact rfl)
    (hp : putK sz L o.dst (.int .i64 l.length) = some L' := by exact rfl) : KO P X sz ops (o :: os) L h R := s_len ho hg hx hu hp w
theorem ti {L' : Ks} {x i : Operand} {ty : TypeId} {l : List UInt8} {ik : IntKind} {a : Int} (w : KO P X sz ops os L' h R) (ho : o.op = .index ty x i := by exact rfl) (hg : guardA ops L.tree o.guard = some true := by exact rfl) (hx : kA L x = some (str l) := by exact rfl) (hi : kA L i = some (.int ik a) := by exact rfl) (hu : P.underlying ty = some .string := by exact rfl)
    (ha : 0 ≤ a ∧ a < l.length := by first | omega | grind) (hp : putK sz L o.dst (.int .u8 ((l.getD a.toNat 0).toNat : Int)) = some L' := by exact rfl) : KO P X sz ops (o :: os) L h R := s_idx ho hg hx hi hu ha hp w
theorem tc {L' : Ks} {x y : Operand} {ty ty2 : TypeId} {l m : List UInt8} (w : KO P X sz ops os L' h R) (ho : o.op = .binOp .add ty x y ty2 := by exact rfl) (hg : guardA ops L.tree o.guard = some true := by exact rfl) (hx : kA L x = some (str l) := by exact rfl) (hy : kA L y = some (str m) := by exact rfl)
    (hb : l.length + m.length ≤ 4611686018427387904 := by first | omega | grind) (hp : putK sz L o.dst (str (l ++ m)) = some L' := by exact rfl) : KO P X sz ops (o :: os) L h R := s_cat ho hg hx hy hb hp w

/-! memory -/
theorem bx {x : Operand} {e : TypeId} {v : Value} {c : List Value} {d : Tmp} (S : Hs h0 h rs) (w : ∀ b h', Hs h0 h' (.blk b c e :: rs) → KO P X sz ops os (L.put d (.pointer (some ⟨b, 0, none⟩))) h' R) (ho : o.op = .box e x := by exact rfl) (hg : guardA ops L.tree o.guard = some true := by exact rfl) (hx : kA L x = some v := by exact rfl) (hc : v.cells.toList = c := by exact rfl) (hd : o.dst = some d := by exact rfl) (hs : Nat.blt d sz = true := by exact rfl) : KO P X sz ops (o :: os) L h R :=
  m_box S ho hg hx hc hd hs w
theorem al {e : TypeId} {v : Value} {c : List Value} {d : Tmp} (S : Hs h0 h rs) (w : ∀ b h', Hs h0 h' (.blk b c e :: rs) → KO P X sz ops os (L.put d (.pointer (some ⟨b, 0, none⟩))) h' R) (ho : o.op = .alloc e := by exact rfl) (hg : guardA ops L.tree o.guard = some true := by exact rfl) (hz : zeroT P e = some v := by exact rfl) (hpl : plainV v = true := by exact rfl) (hc : v.cells.toList = c := by exact rfl) (hd : o.dst = some d := by exact rfl) (hs : Nat.blt d sz = true := by exact rfl) : KO P X sz ops (o :: os) L h R :=
  m_alloc S ho hg hz hpl hc hd hs w
theorem lB {L' : Ks} {x : Operand} {ty e : TypeId} {b k : Nat} {c : List Value} {v : Value} {f : Rs → List Rs} (S : Hs h0 h rs) (ho : o.op = .load ty x) (hx : kA L x = some (.pointer (some ⟨b, k, none⟩))) [i : HasB rs b c e f] (w : KO P X sz ops os L' h R) (hg : guardA ops L.tree o.guard = some true := by exact rfl) (hv : loadC P ty c k = some v := by exact rfl) (hp : putK sz L o.dst v = some L' := by exact rfl) : KO P X sz ops (o :: os) L h R :=
  m_ldB S ho hg hx i.at_ hv hp w
theorem sB {L' : Ks} {x y : Operand} {ty e : TypeId} {b k : Nat} {c c' : List Value} {v : Value} {f : Rs → List Rs} (S : Hs h0 h rs) (ho : o.op = .store ty x y) (hx : kA L x = some (.pointer (some ⟨b, k, none⟩))) [i : HasB rs b c e f] (w : ∀ h', Hs h0 h' (f (.blk b c' e)) → KO P X sz ops os L' h' R)
    (hg : guardA ops L.tree o.guard = some true := by exact rfl) (hy : kA L y = some v := by exact rfl) (hv : storeC P ty c k v = some c' := by exact rfl) (hp : putK sz L o.dst (.tuple #[]) = some L' := by exact rfl) : KO P X sz ops (o :: os) L h R :=
  m_stB S ho hg hx hy (i.ut _) hv hp w
theorem lnB {L' : Ks} {x : Operand} {ty : TypeId} {v : Value} {z n : Nat} {c : List Value} (S : Hs h0 h rs) (w : KO P X sz ops os L' h R) (ho : o.op = .call { callee := .builtin .len, args := #[x], argTypes := #[ty] } := by exact rfl) (hg : guardA ops L.tree o.guard = some true := by exact rfl) (hx : kA L x = some v := by exact rfl) (hu : (sliceElem P ty).isSome = true := by exact rfl)
    (hr : Rd h0 v z n c := by assumption) (wf : WfH h0 := by assumption) (hp : putK sz L o.dst (.int .i64 n) = some L' := by exact rfl) : KO P X sz ops (o :: os) L h R := m_len ho hg hx hu (Rd.of_base S hr wf) hp w
theorem lnS {L' : Ks} {x : Operand} {ty : TypeId} {v : Value} {α : Type} {z : Nat} {enc : α → List Value} {l : List α} (S : Hs h0 h rs) (ho : o.op = .call { callee := .builtin .len, args := #[x], argTypes := #[ty] }) (hx : kA L x = some v) [i : HasR rs v α z enc l] (w : KO P X sz ops os L' h R) (hg : guardA ops L.tree o.guard = some true := by exact rfl) (hu : (sliceElem P ty).isSome = true := by exact rfl)
    (hp : putK sz L o.dst (.int .i64 l.length) = some L' := by exact rfl) : KO P X sz ops (o :: os) L h R := m_len ho hg hx hu (i.rd S) hp w
theorem ixB {L' : Ks} {x i : Operand} {ty : TypeId} {v : Value} {ik : IntKind} {a : Int} {z n : Nat} {c : List Value} (S : Hs h0 h rs) (w : KO P X sz ops os L' h R) (ho : o.op = .indexAddr ty x i := by exact rfl) (hg : guardA ops L.tree o.guard = some true := by exact rfl) (hx : kA L x = some v := by exact rfl) (hi : kA L i = some (.int ik a) := by exact rfl) (hu : elemZ P ty = some z := by exact rfl)
    (hr : Rd h0 v z n c := by assumption) (wf : WfH h0 := by assumption) (ha : 0 ≤ a ∧ a < n := by first | omega | grind) (hp : putK sz L o.dst (elA v z a.toNat 0) = some L' := by exact rfl) : KO P X sz ops (o :: os) L h R := m_idx ho hg hx hi hu (Rd.of_base S hr wf) ha hp w
theorem ixS {L' : Ks} {x i : Operand} {ty : TypeId} {v : Value} {ik : IntKind} {a : Int} {α : Type} {z : Nat} {enc : α → List Value} {l : List α} (S : Hs h0 h rs) (ho : o.op = .indexAddr ty x i) (hx : kA L x = some v) [k : HasR rs v α z enc l] (w : KO P X sz ops os L' h R) (hg : guardA ops L.tree o.guard = some true := by exact rfl) (hi : kA L i = some (.int ik a) := by exact rfl) (hu : elemZ P ty = some z := by exact rfl)
    (ha : 0 ≤ a ∧ a < l.length := by first | omega | grind) (hp : putK sz L o.dst (elA v z a.toNat 0) = some L' := by exact rfl) : KO P X sz ops (o :: os) L h R := m_idx ho hg hx hi hu (k.rd S) ha hp w
theorem lEB {α : Type} [Inhabited α] {L' : Ks} {x : Operand} {ty : TypeId} {v u : Value} {z k off : Nat} {enc : α → List Value} {l : List α} (S : Hs h0 h rs) (w : KO P X sz ops os L' h R) (ho : o.op = .load ty x := by exact rfl) (hg : guardA ops L.tree o.guard = some true := by exact rfl) (hx : kA L x = some (elA v z k off) := by exact rfl)
    (hr : RdL h0 v z enc l := by assumption) (wf : WfH h0 := by assumption) (hz : ∀ x, (enc x).length = z := by intro _; rfl) (hk : k < l.length := by first | omega | grind) (hv : loadC P ty (enc (l.getD k default)) off = some u := by exact rfl) (hp : putK sz L o.dst u = some L' := by exact rfl) : KO P X sz ops (o :: os) L h R :=
  m_ldE ho hg hx (Rd.of_base S hr wf) hz hk hv hp w
theorem lES {α : Type} [Inhabited α] {L' : Ks} {x : Operand} {ty : TypeId} {v u : Value} {z' z k off : Nat} {enc : α → List Value} {l : List α} (S : Hs h0 h rs) (ho : o.op = .load ty x) (hx : kA L x = some (elA v z' k off)) [i : HasR rs v α z enc l] (w : KO P X sz ops os L' h R) (hzz : z' = z := by exact rfl) (hg : guardA ops L.tree o.guard = some true := by exact rfl)
    (hz : ∀ x, (enc x).length = z := by intro _; rfl) (hk : k < l.length := by first | omega | grind) (hv : loadC P ty (enc (l.getD k default)) off = some u := by exact rfl) (hp : putK sz L o.dst u = some L' := by exact rfl) : KO P X sz ops (o :: os) L h R := by
  subst hzz
  exact m_ldE ho hg hx (i.rd S) hz hk hv hp w
theorem fA {L' : Ks} {x : Operand} {ty : TypeId} {fs : Array Field} {fd : Field} {v : Value} {z k off f m n : Nat} {c : List Value} (w : KO P X sz ops os L' h R) (ho : o.op = .fieldAddr ty x f := by exact rfl) (hg : guardA ops L.tree o.guard = some true := by exact rfl) (hx : kA L x = some (elA v z k off) := by exact rfl) (hu : P.underlying ty = some (.struct fs) := by exact rfl) (hf : fs[f]? = some fd := by exact rfl) (hm : sizeT P fd.type = some (m + 1) := by exact rfl)
    (hr : Rd h v z n c := by assumption) (hk : k < n := by first | omega | grind) (hp : putK sz L o.dst (elA v z k (off + fd.offset)) = some L' := by exact rfl) : KO P X sz ops (o :: os) L h R := m_fld ho hg hx hu hf hm hr hk hp w
theorem sE {α : Type} [Inhabited α] {L' : Ks} {x yo : Operand} {ty e : TypeId} {v u : Value} {z' z k off : Nat} {enc : α → List Value} {l : List α} {f : Rs → List Rs} {d : List Rs} {y : α} (S : Hs h0 h rs) (ho : o.op = .store ty x yo) (hx : kA L x = some (elA v z' k off)) [i : HasS rs v α e z enc l f d] (w : ∀ h', Hs h0 h' (f (.sl v e z enc (l.set k y))) → KO P X sz ops os L' h' R)
    (hzz : z' = z := by exact rfl) (hg : guardA ops L.tree o.guard = some true := by exact rfl) (hy : kA L yo = some u := by exact rfl) (hz : ∀ x, (enc x).length = z := by intro _; rfl) (hk : k < l.length := by first | omega | grind) (hv : storeC P ty (enc (l.getD k default)) off u = some (enc y) := by exact rfl) (hp : putK sz L o.dst (.tuple #[]) = some L' := by exact rfl) : KO P X sz ops (o :: os) L h R := by
  subst hzz
  exact m_stE S ho hg hx hy (i.ut _) hz hk hv hp w
theorem one {x : Operand} {ty e : TypeId} {zc : List Value} {v : Value} {c : List Value} {d : Tmp} (z : Nat) (S : Hs h0 h rs) (w : ∀ u h', Hs h0 h' (.sl u e z eRaw [c] :: rs) → KO P X sz ops os (L.put d u) h' R) (ho : o.op = .buildSlice ty 1 #[(0, x)] := by exact rfl) (hg : guardA ops L.tree o.guard = some true := by exact rfl) (hx : kA L x = some v := by exact rfl)
    (hs : sliceElem P ty = some e := by exact rfl) (hz : zeroCellsT P e = some zc := by exact rfl) (hzl : zc.length = z := by exact rfl) (hv : v.cells.toList = c := by exact rfl) (hc : c.length = z := by exact rfl) (hsm : z ≤ 1000 := by decide) (hdst : o.dst = some d := by exact rfl) (hds : Nat.blt d sz = true := by exact rfl) : KO P X sz ops (o :: os) L h R := m_one S ho hg hx hs hz hzl hv hc hsm hdst hds w
theorem app {α : Type} {x y : Operand} {ts tx e e2 : TypeId} {zc c : List Value} {by_ z z2 : Nat} {enc : α → List Value} {l : List α} {f : Rs → List Rs} {dd : List Rs} {v u : Value} {d : Tmp} {y0 : α} (S : Hs h0 h (.sl u e2 z2 eRaw [c] :: rs)) (ho : o.op = .call { callee := .builtin .append, args := #[x, y], argTypes := #[ts, tx] }) (hx : kA L x = some v) [i : HasS rs v α e z enc l f dd]
    (w : ∀ v' h', Hs h0 h' (.sl v' e z enc (l ++ [y0]) :: dd) → KO P X sz ops os (L.put d v') h' R) (hzz : z2 = z := by exact rfl) (hc : c = enc y0 := by exact rfl) (hg : guardA ops L.tree o.guard = some true := by exact rfl) (hy : kA L y = some u := by exact rfl) (hs : sliceElem P ts = some e := by exact rfl) (hz : zeroCellsT P e = some zc := by exact rfl) (hzl : zc.length = z := by exact rfl) (hb : bytesT P e = some (by_ + 1) := by exact rfl) (hxs : (sliceElem P tx).isSome = true := by exact rfl)
    (h1 : c.all one? = true := by exact rfl) (hlen : ∀ y, (enc y).length = z := by intro _; rfl) (hsz : (l.length + 2) * (by_ + 1) ≤ 1099511627776 := by first | omega | grind) (hdst : o.dst = some d := by exact rfl) (hds : Nat.blt d sz = true := by exact rfl) : KO P X sz ops (o :: os) L h R := by
  subst hzz
  exact m_app1 S ho hg hx hy i.dt hs hz hzl hb hxs hc h1 hlen hsz hdst hds w
end
end Go.Proofs.Xx

/-
  Slices of slices of one's own; resources read in other words.
-/
namespace Go.Proofs.Xx
open Go
set_option linter.unusedSimpArgs false
set_option linter.unusedVariables false

/-- A known slot whose integer is told in other words. -/
theorem Ks.le_int {L L' : Ks} {k : Nat} {ik : IntKind} {n m : Int} (hl : Ks.le L' L) (h : L.get k = some (.int ik m) := by exact rfl) (e : m = n := by first | omega | grind) : Ks.le ((k, .int ik n) :: L') L := Ks.le_cons (by rw [h, e]) hl

section
variable {P : Program} {X : Extern} {inR : Bool} {sz : Nat} {L : Ks} {h h0 : AH} {rs : List Rs} {ops : Array Oper} {os : List Oper} {o : Oper} {R : Ks → AH → Prop} {Q : KQ}

/-- The same memory, a resource read in other words. -/
theorem Hs.same {r r' : Rs} {rs' : List Rs} (S : Hs h0 h rs) (u : Ut rs r r' rs') (hk : ∀ fp, r.ok h fp → r'.ok h fp) : Hs h0 h rs' :=
  S.turn u (Nat.le_refl _) S.wf fun fp k1 k2 => ⟨fun _ _ _ => rfl, fp, hk fp k1, fun b hb => ⟨(k2 b hb).2, .inl hb⟩⟩
theorem Hs.recode {α β : Type} {v : Value} {e : TypeId} {z : Nat} {enc : α → List Value} {l : List α} {enc2 : β → List Value} {l2 : List β} (S : Hs h0 h (.sl v e z enc l :: rs)) (hl : l.length = l2.length) (hc : l.flatMap enc = l2.flatMap enc2) : Hs h0 h (.sl v e z enc2 l2 :: rs) :=
  S.same .here fun fp k => by
    rcases k with ⟨rfl, rfl⟩ | ⟨b, o, cc, slk, h1, h2, h3, h4, h5, h6⟩
    · have : l2 = [] := List.length_eq_zero_iff.1 hl.symm
      exact .inl ⟨rfl, this⟩
    · refine .inr ⟨b, o, cc, slk, by rw [← hl]; exact h1, h2, h3, by rw [← hl, ← hc]; exact h4, ?_, h6⟩
      rcases h5 with h5 | ⟨h5, h7⟩
      · exact .inl (by rw [← hl]; exact h5)
      · subst h5
        exact .inr ⟨List.length_eq_zero_iff.1 hl.symm, h7⟩
theorem Hs.one {α : Type} {v : Value} {e : TypeId} {z : Nat} {c : List Value} (enc : α → List Value) (y : α) (S : Hs h0 h (.sl v e z eRaw [c] :: rs)) (hc : c = enc y) : Hs h0 h (.sl v e z enc [y] :: rs) := S.recode rfl (by simp [eRaw, hc])

/-- v[lo:], of a slice of one's own that is not used any more. -/
theorem dr {α : Type} {x lo : Operand} {ty e : TypeId} {v : Value} {z : Nat} {enc : α → List Value} {l : List α} {f : Rs → List Rs} {dd : List Rs} {ik : IntKind} {a : Int} {d : Tmp} (S : Hs h0 h rs) (ho : o.op = .slice ty x (some lo) none none) (hx : kA L x = some v) [i : HasS rs v α e z enc l f dd]
    (w : ∀ v', Hs h0 h (f (.sl v' e z enc (l.drop a.toNat))) → KO P X sz ops os (L.put d v') h R) (hg : guardA ops L.tree o.guard = some true := by exact rfl) (hlo : kA L lo = some (.int ik a) := by exact rfl) (hz : ∀ x, (enc x).length = z := by intro _; rfl) (hu : elemZ P ty = some z := by exact rfl) (ha : 0 ≤ a ∧ a ≤ l.length := by first | omega | grind)
    (hdst : o.dst = some d := by exact rfl) (hds : Nat.blt d sz = true := by exact rfl) : KO P X sz ops (o :: os) L h R := by
  obtain ⟨k, rfl⟩ := Int.eq_ofNat_of_zero_le ha.1
  have hk : k ≤ l.length := by omega
  obtain ⟨fp, k1, k2, -⟩ := (i.ut (.sl v e z enc l)).ok (h' := h) S.ext.next (Nat.le_refl _) S.sep
  have hue : ∃ e', P.underlying ty = some (.slice e') ∧ sizeT P e' = some z := by
    unfold elemZ at hu
    split at hu
    · exact ⟨_, by assumption, hu⟩
    · cases hu
  obtain ⟨e', hu1, hu2⟩ := hue
  have hlo' : evA L.tree lo = some (.int ik (Int.ofNat k)) := tree_le hlo
  have go : ∀ v', aSlice P ty v (some (.int ik (Int.ofNat k))) none none h = some v' → Hs h0 h (f (.sl v' e z enc (l.drop k))) → KO P X sz ops (o :: os) L h R := fun v' q1 q2 => by
    refine KO_val (v := v') (h' := h) hg ?_ (by simp only [putK, hdst, hds]) (w v' (by simpa using q2))
    rw [ho]
    simp only [aOp, tree_le hx, evOpt, hlo', q1, nextOf]
  rcases k1 with ⟨rfl, rfl⟩ | ⟨b, o', cc, slk, g1, g2, g3, g4, g5, g6⟩
  · obtain rfl : k = 0 := by simpa using hk
    refine go (.slice none 0 0) ?_ (S.same (i.ut _) fun fq q => by simpa using q)
    simp only [aSlice, hu1, boundOf, hu2]
  · subst g1
    have hle : Nat.ble k l.length = true := Nat.ble_eq_true_of_le hk
    have hnn : Nat.ble l.length l.length = true := Nat.ble_eq_true_of_le (Nat.le_refl _)
    have hoc : o' + l.length * z ≤ cc.length := by
      rcases g5 with g5 | ⟨g5, g7⟩
      · omega
      · rw [g5]; simpa using g7
    have hkz : k * z ≤ l.length * z := Nat.mul_le_mul_right z hk
    cases hq : slk.isNone && Nat.beq k l.length with
    | true =>
      rw [Bool.and_eq_true] at hq
      have hkl := Nat.eq_of_beq_eq_true hq.2
      refine go (.slice (some ⟨b, o', none⟩) (l.length - k) (l.length - k)) ?_ (S.same (i.ut _) fun fq q => ?_)
      · simp only [aSlice, hu1, g2, hu2, boundOf, hle, hnn, Bool.and_self, hq.1, hq.2]
      · rcases q with ⟨q1, -⟩ | ⟨b', o2, cc2, sl2, q1, q2, q3, -⟩
        · cases q1
        · cases q1
          have : l.drop k = [] := by rw [hkl, List.drop_length]
          exact .inr ⟨b, o', cc, slk, by rw [List.length_drop], g2, q3, by rw [this]; simp [takeAt], .inr ⟨this, by omega⟩, g6⟩
    | false =>
      refine go (.slice (some ⟨b, o' + k * z, none⟩) (l.length - k) (l.length - k)) ?_ (S.same (i.ut _) fun fq q => ?_)
      · simp only [aSlice, hu1, g2, hu2, boundOf, hle, hnn, Bool.and_self, hq]
      · rcases q with ⟨q1, -⟩ | ⟨b', o2, cc2, sl2, q1, q2, q3, -⟩
        · cases q1
        · cases q1
          have hsub : k * z + (l.length - k) * z = l.length * z := by rw [← Nat.add_mul]; congr 1; omega
          refine .inr ⟨b, o' + k * z, cc, slk, by rw [List.length_drop], g2, q3, ?_, ?_, g6⟩
          · rw [List.length_drop, flatMap_drop hz, takeAt_sub g4 (by omega), List.take_of_length_le]
            rw [List.length_drop, flatMap_length hz]; omega
          · rcases g5 with g5 | ⟨g5, g7⟩
            · left; rw [List.length_drop]; omega
            · right; subst g5; simp at hk ⊢; subst hk; omega
end
end Go.Proofs.Xx
