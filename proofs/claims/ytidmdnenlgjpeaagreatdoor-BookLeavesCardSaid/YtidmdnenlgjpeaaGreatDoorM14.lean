/-
  Rows with room, op by op; Delete; Untie.
-/
import Derived.Test.YtidmdnenlgjpeaaGreatDoorM13
import Derived.Test.YtidmdnenlgjpeaaGreatDoorM11
import Derived.Test.YtidmdnenlgjpeaaGreatDoorM8
import Derived.Test.YtidmdnenlgjpeaaGreatDoorM9
import Derived.Test.YtidmdnenlgjpeaaGreatDoorRows
import Derived.Lib.LaidTab
import Derived.Stop.LaidErr
import Derived.Shelf.Vars

namespace Go.Proofs.Xx
open Go Go.Proofs
set_option linter.unusedSimpArgs false
set_option linter.unusedVariables false
set_option linter.unusedSectionVars false
set_option maxRecDepth 100000
set_option maxHeartbeats 4000000

/-- One block is changed at most, blocks are made at most. -/
structure Chg (h h' : AH) (b : Nat) (o : AObj) : Prop where
  at_ : h'.get b = some o
  old : ∀ j, j ≠ b → j < h.next → h'.get j = h.get j
  next : h.next ≤ h'.next
  wf : WfH h'
theorem Chg.trans {h h' h'' : AH} {b : Nat} {o o' : AObj} (c : Chg h h' b o) (d : Chg h' h'' b o') : Chg h h'' b o' :=
  ⟨d.at_, fun j hj hn => (d.old j hj (Nat.lt_of_lt_of_le hn c.next)).trans (c.old j hj hn), Nat.le_trans c.next d.next, d.wf⟩
theorem splice_nil {c : List Value} {o : Nat} (h : o ≤ c.length) : splice c o [] = c := by simp [splice]
section
variable {P : Program} {X : Extern} {sz : Nat} {L L' : Ks} {h : AH} {ops : Array Oper} {os : List Oper} {o : Oper} {R : Ks → AH → Prop}
/-- v[l:r:m], which nothing looks at. -/
theorem rw3 {x lo hi mx : Operand} {vl vr vm : Value} {ty e' e : TypeId} {b o' n cap l r m z : Nat} {cc : List Value} {slk : Option Nat} {ro : Bool} (hb : h.get b = some (.cells cc e slk ro)) (wf : WfH h)
    (w : ∀ h', Chg h h' b (.cells cc e slk ro) → KO P X sz ops os L' h' R) (ho : o.op = .slice ty x (some lo) (some hi) (some mx) := by exact rfl) (hg : guardA ops L.tree o.guard = some true := by exact rfl) (hx : kA L x = some (.slice (some ⟨b, o', none⟩) n cap) := by exact rfl)
    (h1 : kA L lo = some vl := by exact rfl) (h2 : kA L hi = some vr := by exact rfl) (h3 : kA L mx = some vm := by exact rfl) (b1 : boundOf (some vl) 0 = some l := by exact rfl) (b2 : boundOf (some vr) n = some r := by exact rfl) (b3 : boundOf (some vm) cap = some m := by exact rfl)
    (hc : l ≤ r ∧ r ≤ m ∧ m ≤ cap := by omega) (hu : P.underlying ty = some (.slice e') := by exact rfl) (hz : sizeT P e' = some z := by exact rfl) (hp : putK sz L o.dst (.slice (some ⟨h.next, 0, none⟩) (r - l) (m - l)) = some L' := by exact rfl) : KO P X sz ops (o :: os) L h R := by
  refine KO_val (v := .slice (some ⟨h.next, 0, none⟩) (r - l) (m - l)) (h' := { tr := h.tr, next := h.next + 1, low := lowest h.low b }) hg ?_ hp (w _ ⟨hb, fun j _ _ => rfl, Nat.le_succ _, fun j hj => wf j (Nat.le_of_succ_le hj)⟩)
  rw [ho]
  simp only [aOp, tree_le hx, evOpt, tree_le h1, tree_le h2, tree_le h3, aSlice3, hu, hb, hz, b1, b2, b3, Nat.ble_eq_true_of_le hc.1, Nat.ble_eq_true_of_le hc.2.1, Nat.ble_eq_true_of_le hc.2.2, Bool.and_self]
/-- v[l:r], raw. -/
theorem rw2 {x : Operand} {lo hi : Option Operand} {vl vr : Option Value} {ty e' e : TypeId} {b o' n cap l r z : Nat} {cc : List Value} {slk : Option Nat} {ro : Bool} {d : Tmp} (hb : h.get b = some (.cells cc e slk ro))
    (w : ∀ o2, (l < cap → o2 = o' + l * z) → (slk ≠ none → o2 = o' + l * z) → KO P X sz ops os (L.put d (.slice (some ⟨b, o2, none⟩) (r - l) (cap - l))) h R) (ho : o.op = .slice ty x lo hi none := by exact rfl) (hg : guardA ops L.tree o.guard = some true := by exact rfl) (hx : kA L x = some (.slice (some ⟨b, o', none⟩) n cap) := by exact rfl)
    (h1 : evOpt L.tree lo = some vl := by exact rfl) (h2 : evOpt L.tree hi = some vr := by exact rfl) (b1 : boundOf vl 0 = some l := by exact rfl) (b2 : boundOf vr n = some r := by exact rfl)
    (hc : l ≤ r ∧ r ≤ cap := by omega) (hu : P.underlying ty = some (.slice e') := by exact rfl) (hz : sizeT P e' = some z := by exact rfl) (hdst : o.dst = some d := by exact rfl) (hds : Nat.blt d sz = true := by exact rfl) : KO P X sz ops (o :: os) L h R := by
  have key : ∀ o2, aSlice P ty (.slice (some ⟨b, o', none⟩) n cap) vl vr none h = some (.slice (some ⟨b, o2, none⟩) (r - l) (cap - l)) → (l < cap → o2 = o' + l * z) → (slk ≠ none → o2 = o' + l * z) → KO P X sz ops (o :: os) L h R := fun o2 q1 q2 q3 => by
    refine KO_val (v := .slice (some ⟨b, o2, none⟩) (r - l) (cap - l)) (h' := h) hg ?_ (by simp only [putK, hdst, hds]) (w o2 q2 q3)
    rw [ho]
    simp only [aOp, tree_le hx, h1, h2, show evOpt L.tree none = some none from rfl, q1, nextOf, aSlice3_none]
  cases hq : slk.isNone && Nat.beq l cap with
  | true =>
    rw [Bool.and_eq_true] at hq
    have hl := Nat.eq_of_beq_eq_true hq.2
    subst hl
    refine key o' ?_ (fun q => by omega) (fun q => by cases slk with | none => exact absurd rfl q | some k => cases hq.1)
    simp only [aSlice, hu, hb, hz, b1, b2, Nat.ble_eq_true_of_le hc.1, Nat.ble_eq_true_of_le hc.2, Bool.and_self, hq.1, show Nat.beq l l = true by simp]
  | false =>
    refine key (o' + l * z) ?_ (fun _ => rfl) (fun _ => rfl)
    simp only [aSlice, hu, hb, hz, b1, b2, Nat.ble_eq_true_of_le hc.1, Nat.ble_eq_true_of_le hc.2, Bool.and_self, hq]
/-- append where there is room. -/
theorem rwa {x y : Operand} {ts tx e e2 : TypeId} {zc new cc : List Value} {by_ b o' n cap m z : Nat} {slk : Option Nat} {u : Value} {d : Tmp} (hb : h.get b = some (.cells cc e2 slk false)) (wf : WfH h) (hr : Rd h u z m new)
    (w : ∀ h', Chg h h' b (.cells (splice cc (o' + n * z) new) e2 slk false) → KO P X sz ops os (L.put d (.slice (some ⟨b, o', none⟩) (n + m) cap)) h' R)
    (ho : o.op = .call { callee := .builtin .append, args := #[x, y], argTypes := #[ts, tx] } := by exact rfl) (hg : guardA ops L.tree o.guard = some true := by exact rfl) (hx : kA L x = some (.slice (some ⟨b, o', none⟩) n cap) := by exact rfl) (hy : kA L y = some u := by exact rfl)
    (hs : sliceElem P ts = some e := by exact rfl) (hz : zeroCellsT P e = some zc := by exact rfl) (hzl : zc.length = z := by exact rfl) (hby : bytesT P e = some (by_ + 1) := by exact rfl) (hxs : P.underlying tx = some (.slice e) := by exact rfl)
    (hc : n + m ≤ cap := by omega) (hcc : o' + cap * z ≤ cc.length := by assumption) (h1 : new.all one? = true := by assumption) (hsz : (m + 1) * (by_ + 1) ≤ 1099511627776 := by omega) (hdst : o.dst = some d := by exact rfl) (hds : Nat.blt d sz = true := by exact rfl) : KO P X sz ops (o :: os) L h R := by
  subst hzl
  have hlen := hr.length
  have hfit : o' + n * zc.length + new.length ≤ cc.length := by
    rw [hlen, Nat.add_assoc, ← Nat.add_mul]
    exact Nat.le_trans (Nat.add_le_add_left (Nat.mul_le_mul_right _ hc) _) hcc
  have k2 : Nat.beq new.length (m * zc.length) = true := by rw [hlen]; simp
  have hsrc : aSource zc.length u h = some (m, new) := hr.source
  have go : ∀ h', aAppend P [ts, tx] (.slice (some ⟨b, o', none⟩) n cap) u h = some (.slice (some ⟨b, o', none⟩) (n + m) cap, h') → Chg h h' b (.cells (splice cc (o' + n * zc.length) new) e2 slk false) → KO P X sz ops (o :: os) L h R := fun h' q1 q2 => by
    refine KO_val (v := .slice (some ⟨b, o', none⟩) (n + m) cap) (h' := h') hg ?_ (by simp only [putK, hdst, hds]) (w h' q2)
    rw [ho]
    simp [aOp, tree_le hx, tree_le hy, evAll, aBuiltin, q1, nextOf2]
  cases m with
  | zero =>
    have hn : new = [] := List.length_eq_zero_iff.1 (by omega)
    subst hn
    refine go h ?_ ⟨by rw [splice_nil (by simp at hfit; omega)]; exact hb, fun _ _ _ => rfl, Nat.le_refl _, wf⟩
    simp only [aAppend, hs, hxs, hz, hby, hsrc, Nat.ble_eq_true_of_le hsz, h1, k2, Bool.and_self, hb, Nat.ble_eq_true_of_le (show n ≤ cap from hc), Nat.add_zero]
  | succ m =>
    refine go (h.put b (.cells (splice cc (o' + n * zc.length) new) e2 slk false)) ?_ ⟨by rw [AH.get_put, if_pos rfl], fun j hj _ => by rw [AH.get_put, if_neg hj], Nat.le_refl _, wf.put (wf.lt hb) _⟩
    simp only [aAppend, hs, hxs, hz, hby, hsrc, Nat.ble_eq_true_of_le hsz, h1, k2, Bool.and_self, hb, Nat.ble_eq_true_of_le hc, putCells, Nat.ble_eq_true_of_le hfit]
/-- clear. -/
theorem zrow_len (zc : List Value) : ∀ n, (zeroRow zc n).length = n * zc.length
  | 0 => by simp [zeroRow]
  | n + 1 => by rw [zeroRow, List.length_append, zrow_len zc n, Nat.add_mul, Nat.one_mul, Nat.add_comm]
theorem zrow_one {zc : List Value} (h : zc.all one? = true) : ∀ n, (zeroRow zc n).all one? = true
  | 0 => rfl
  | n + 1 => by rw [zeroRow, List.all_append, h, zrow_one h n]; rfl
theorem rwc {x : Operand} {ty e e2 : TypeId} {zc cc : List Value} {b o' n cap : Nat} {slk : Option Nat} (hb : h.get b = some (.cells cc e2 slk false)) (wf : WfH h)
    (w : ∀ h', Chg h h' b (.cells (splice cc o' (zeroRow zc n)) e2 slk false) → KO P X sz ops os L' h' R)
    (ho : o.op = .call { callee := .builtin .clear, args := #[x], argTypes := #[ty] } := by exact rfl) (hg : guardA ops L.tree o.guard = some true := by exact rfl) (hx : kA L x = some (.slice (some ⟨b, o', none⟩) n cap) := by exact rfl)
    (hu : P.underlying ty = some (.slice e) := by exact rfl) (hz : zeroCellsT P e = some zc := by exact rfl) (h1 : zc.all one? = true := by exact rfl) (hfit : o' + n * zc.length ≤ cc.length := by omega) (hp : putK sz L o.dst (.tuple #[]) = some L' := by exact rfl) : KO P X sz ops (o :: os) L h R := by
  have go : ∀ h', aClear P ty (.slice (some ⟨b, o', none⟩) n cap) h = some h' → Chg h h' b (.cells (splice cc o' (zeroRow zc n)) e2 slk false) → KO P X sz ops (o :: os) L h R := fun h' q1 q2 => by
    refine KO_val (v := .tuple #[]) (h' := h') hg ?_ hp (w h' q2)
    rw [ho]
    simp [aOp, tree_le hx, evAll, aBuiltin, q1]
  have hfit2 : o' + (zeroRow zc n).length ≤ cc.length := by rw [zrow_len]; exact hfit
  cases n with
  | zero =>
    refine go h ?_ ⟨by show _ = some (AObj.cells (splice cc o' []) e2 slk false); rw [splice_nil (by omega)]; exact hb, fun _ _ _ => rfl, Nat.le_refl _, wf⟩
    simp only [aClear, hu]
  | succ n =>
    refine go (h.put b (.cells (splice cc o' (zeroRow zc (n + 1))) e2 slk false)) ?_ ⟨by rw [AH.get_put, if_pos rfl], fun j hj _ => by rw [AH.get_put, if_neg hj], Nat.le_refl _, wf.put (wf.lt hb) _⟩
    simp only [aClear, hu, hz, hb, putCells, zrow_one h1, Nat.ble_eq_true_of_le hfit2, Bool.and_self]
end
/-- What stands in a row when a piece is taken out and the end is cleared. -/
theorem del_get {cc old zr : List Value} {s a b z n : Nat} (ho : ∀ j, j < n → cc[s + j]? = old[j]?) (hn : old.length = n) (hab : a ≤ b ∧ b ≤ n) (hz : zr.length = b - a) (hs : s + n ≤ cc.length) :
    ∀ j, j < a + (n - b) → (splice (splice cc (s + a) (old.drop b)) (s + (a + (n - b))) zr)[s + j]? = (old.take a ++ old.drop b)[j]? := by
  intro j hj
  have l1 : s + a + (old.drop b).length ≤ cc.length := by rw [List.length_drop]; omega
  have l2 : (splice cc (s + a) (old.drop b)).length = cc.length := splice_length _ _ _ l1
  have hd : (old.drop b).length = n - b := by rw [List.length_drop, hn]
  have ht : (old.take a).length = a := by rw [List.length_take]; omega
  rw [splice_get _ _ _ (by rw [l2]; omega), splice_get _ _ _ l1, if_pos (by omega), List.getElem?_append, ht]
  by_cases h1 : j < a
  · rw [if_pos (by omega), if_pos h1, List.getElem?_take, if_pos h1, ho j (by omega)]
  · rw [if_neg (by omega), if_pos (by omega), if_neg h1]
    congr 1; omega
theorem takeAt_ext {c xs : List Value} {o n : Nat} (hl : xs.length = n) (hfit : o + n ≤ c.length) (hg : ∀ j, j < n → c[o + j]? = xs[j]?) : takeAt c o n = some xs := by
  rw [takeAt_mk hfit]
  congr 1
  apply List.ext_getElem?
  intro j
  rw [List.getElem?_take]
  split
  · rw [List.getElem?_drop]; exact hg j (by assumption)
  · rw [List.getElem?_eq_none (by omega)]
variable [Flag]
end Go.Proofs.Xx

/-
  Untie.
-/
namespace Go.Proofs.Xx
open Go Go.Proofs
set_option linter.unusedSimpArgs false
set_option linter.unusedVariables false
set_option linter.unusedSectionVars false
set_option maxRecDepth 100000
set_option maxHeartbeats 4000000

/-- The ties but for a pair's. -/
def untT (ts : List Ti) (a b : List UInt8) : List Ti := ts.filter fun t => !decide (t.a = sMin a b ∧ t.b = sMax a b)
open Classical in
noncomputable def untieF (r : Rl) (a b : List UInt8) : Rl × Int := if tied r.ts a b then (⟨r.us, untT r.ts a b⟩, 0) else (r, 6)
variable [Flag]
end Go.Proofs.Xx

/-
  Ties tied and untied: plain laws.
-/
namespace Go.Proofs.Xx
open Go Go.Proofs
set_option linter.unusedSimpArgs false
set_option linter.unusedVariables false
set_option linter.unusedSectionVars false
set_option maxRecDepth 100000

theorem sMin_comm (a b : List UInt8) : sMin a b = sMin b a := by
  unfold sMin
  rcases sLt_tri a b with h | h | h
  · rw [if_neg (sLt_asymm h), if_pos h]
  · subst h; rfl
  · rw [if_pos h, if_neg (sLt_asymm h)]
theorem sMax_comm (a b : List UInt8) : sMax a b = sMax b a := by
  unfold sMax
  rcases sLt_tri a b with h | h | h
  · rw [if_pos h, if_neg (sLt_asymm h)]
  · subst h; rfl
  · rw [if_neg (sLt_asymm h), if_pos h]
theorem tied_comm {ts : List Ti} {a b : List UInt8} : tied ts a b ↔ tied ts b a := by unfold tied; rw [sMin_comm a b, sMax_comm a b]
theorem sMinMax {a b : List UInt8} (h : a ≠ b) : sLt (sMin a b) (sMax a b) ∧ ((sMin a b = a ∧ sMax a b = b) ∨ (sMin a b = b ∧ sMax a b = a)) := by
  rcases sLt_tri a b with q | q | q
  · rw [sMin_lt q, sMax_lt q]; exact ⟨q, .inl ⟨rfl, rfl⟩⟩
  · exact absurd q h
  · rw [sMin_comm, sMax_comm, sMin_lt q, sMax_lt q]; exact ⟨q, .inr ⟨rfl, rfl⟩⟩
/-- Every pair has its place. -/
theorem plc_ex {ts : List Ti} (hs : TS ts) (y : Ti) : ∃ i, Plc ts y i := by
  induction ts with
  | nil => exact ⟨0, Nat.le_refl _, fun j hj => absurd hj (Nat.not_lt_zero _), fun j _ hj => absurd hj (Nat.not_lt_zero _)⟩
  | cons x r ih =>
    by_cases h : bef x y
    · obtain ⟨i, i1, i2, i3⟩ := ih (List.pairwise_cons.1 hs).2
      refine ⟨i + 1, by simp; exact i1, fun j hj => ?_, fun j h1 h2 => ?_⟩
      · cases j with
        | zero => exact h
        | succ j => exact i2 j (by omega)
      · cases j with
        | zero => omega
        | succ j => exact i3 j (by omega) (by simp at h2; omega)
    · refine ⟨0, Nat.zero_le _, fun j hj => absurd hj (Nat.not_lt_zero _), fun j _ hj q => h ?_⟩
      rcases Nat.eq_zero_or_pos j with z | z
      · subst z; exact q
      · exact bef_trans (hs.lt z hj) q
theorem Plc.kind {ts : List Ti} {a b : List UInt8} {k k' : Int} {i : Nat} (h : Plc ts ⟨a, b, k⟩ i) : Plc ts ⟨a, b, k'⟩ i := ⟨h.1, h.2.1, h.2.2⟩
theorem ts_put {ts : List Ti} {a b : List UInt8} {k : Int} (hs : TS ts) (hn : ¬ tied ts a b) : ∃ i, i ≤ ts.length ∧ putT ts (tiOf a b k) = ts.take i ++ tiOf a b k :: ts.drop i ∧ TS (putT ts (tiOf a b k)) := by
  obtain ⟨i, hi⟩ := plc_ex hs ⟨sMin a b, sMax a b, 0⟩
  have e := putT_plc (t := tiOf a b k) (hi.kind (k' := k))
  refine ⟨i, hi.1, e, ?_⟩
  rw [e, TS, List.pairwise_append]
  refine ⟨List.Pairwise.sublist (List.take_sublist i ts) hs, List.pairwise_cons.2 ⟨fun y hy => ?_, List.Pairwise.sublist (List.drop_sublist i ts) hs⟩, fun x hx y hy => ?_⟩
  · obtain ⟨j, hj, rfl⟩ := mem_iff_getD.1 hy
    simp only [List.length_drop] at hj
    have ej : (ts.drop i).getD j default = ts.getD (i + j) default := by
      rw [List.getD_eq_getElem?_getD, List.getD_eq_getElem?_getD, List.getElem?_drop]
    rw [ej]
    rcases bef_tri (ts.getD (i + j) default) (tiOf a b k) with q | q | q
    · exact absurd q (hi.2.2 (i + j) (by omega) (by omega))
    · exact absurd ⟨_, mem_getD (show i + j < ts.length by omega), q⟩ hn
    · exact q
  · obtain ⟨j, hj, rfl⟩ := mem_iff_getD.1 hx
    simp only [List.length_take] at hj
    rw [getD_take (by omega)]
    have h1 := hi.2.1 j (by omega)
    rcases List.mem_cons.1 hy with rfl | hy
    · exact h1
    · obtain ⟨m, hm, rfl⟩ := mem_iff_getD.1 hy
      simp only [List.length_drop] at hm
      have ej : (ts.drop i).getD m default = ts.getD (i + m) default := by
        rw [List.getD_eq_getElem?_getD, List.getD_eq_getElem?_getD, List.getElem?_drop]
      rw [ej]
      exact hs.lt (by omega) (by omega)
theorem RO.tie {r : Rl} (H : RO r) {a b : List UInt8} {k : Int} (h : (tieF r a b k).2 = 0) : RO (tieF r a b k).1 := by
  obtain ⟨h1, h2, h3, h4, h5, h6, h7⟩ := tieF_zero h
  rw [h7]
  obtain ⟨i, hi, e, hs⟩ := ts_put (k := k) H.ts h5
  obtain ⟨m1, m2⟩ := sMinMax h2
  refine ⟨H.chk, H.nd, H.l64, hs, fun t ht => ?_, ?_⟩
  · simp only at ht
    rw [e] at ht
    have : t ∈ r.ts ∨ t = tiOf a b k := by
      rcases List.mem_append.1 ht with q | q
      · exact .inl (List.mem_of_mem_take q)
      · rcases List.mem_cons.1 q with q | q
        · exact .inr q
        · exact .inl (List.mem_of_mem_drop q)
    rcases this with q | rfl
    · exact H.tt t q
    · refine ⟨m1, h1, ?_⟩
      rcases m2 with ⟨e1, e2⟩ | ⟨e1, e2⟩
      · show Xx.gat r.us (sMin a b) ≠ none ∧ Xx.gat r.us (sMax a b) ≠ none
        rw [e1, e2]; exact ⟨h3, h4⟩
      · show Xx.gat r.us (sMin a b) ≠ none ∧ Xx.gat r.us (sMax a b) ≠ none
        rw [e1, e2]; exact ⟨h4, h3⟩
  · simp only
    rw [e]; simp; omega
end Go.Proofs.Xx

/-
  BookTies.
-/
namespace Go.Proofs.Xx
open Go Go.Proofs
set_option linter.unusedSimpArgs false
set_option linter.unusedVariables false
set_option linter.unusedSectionVars false
set_option maxRecDepth 100000
set_option maxHeartbeats 4000000

/-- The tie of a pair. -/
def tieOf (ts : List Ti) (a b : List UInt8) : Option Ti := ts.find? fun t => decide (t.a = sMin a b ∧ t.b = sMax a b)
theorem tieOf_some {ts : List Ti} {a b : List UInt8} {t : Ti} (h : tieOf ts a b = some t) : t ∈ ts ∧ t.a = sMin a b ∧ t.b = sMax a b := by
  have h1 := List.find?_some h
  exact ⟨List.mem_of_find?_eq_some h, by simpa using h1⟩
theorem tieOf_none {ts : List Ti} {a b : List UInt8} (h : tieOf ts a b = none) : ¬ tied ts a b := by
  rintro ⟨t, ht, h1, h2⟩
  have := List.find?_eq_none.1 h t ht
  simp [h1, h2] at this
theorem tieOf_eq {ts : List Ti} {a b : List UInt8} {t : Ti} (hs : TS ts) (ht : t ∈ ts) (h1 : t.a = sMin a b) (h2 : t.b = sMax a b) : tieOf ts a b = some t := by
  cases h : tieOf ts a b with
  | none => exact absurd ⟨t, ht, h1, h2⟩ (tieOf_none h)
  | some u =>
    obtain ⟨hu, u1, u2⟩ := tieOf_some h
    obtain ⟨i, hi, rfl⟩ := mem_iff_getD.1 ht
    obtain ⟨j, hj, rfl⟩ := mem_iff_getD.1 hu
    rcases Nat.lt_trichotomy i j with q | q | q
    · rcases hs.lt q hj with y | y
      · rw [h1, u1] at y; exact absurd y (sLt_irr _)
      · rw [h2, u2] at y; exact absurd y.2 (sLt_irr _)
    · rw [q]
    · rcases hs.lt q hi with y | y
      · rw [h1, u1] at y; exact absurd y (sLt_irr _)
      · rw [h2, u2] at y; exact absurd y.2 (sLt_irr _)
theorem ts_le {r : Rl} (H : RO r) : r.ts.length ≤ r.us.length * r.us.length := by
  have hn : (r.ts.map fun t => (t.a, t.b)).Nodup := by
    rw [List.Nodup, List.pairwise_map]
    refine H.ts.imp fun {x y} h q => ?_
    injection q with q1 q2
    rcases h with h | h
    · rw [q1] at h; exact sLt_irr _ h
    · rw [q2] at h; exact sLt_irr _ h.2
  have := nodup_leM hn (m := (r.us.map (·.name)).flatMap fun a => (r.us.map (·.name)).map fun b => (a, b)) fun x hx => by
    obtain ⟨t, ht, rfl⟩ := List.mem_map.1 hx
    obtain ⟨-, -, h1, h2⟩ := H.tt t ht
    exact List.mem_flatMap.2 ⟨t.a, gat_name h1, List.mem_map.2 ⟨t.b, gat_name h2, rfl⟩⟩
  rw [List.length_map, List.length_flatMap] at this
  simp only [List.length_map] at this
  have e : ∀ l : List (List UInt8), (l.map fun _ => r.us.length).sum = l.length * r.us.length := fun l => by
    induction l with
    | nil => simp
    | cons x l ih => rw [List.map_cons, List.sum_cons, ih, List.length_cons, Nat.add_mul, Nat.one_mul, Nat.add_comm]
  rw [e, List.length_map] at this
  exact this
def tkd (o : Option Ti) : Value := match o with | some t => .tuple #[.int .u8 t.k, .bool true] | none => .tuple #[.int .u8 0, .bool false]
variable [Flag]
theorem tiedF_ok {h0 : AH} (w : WfH h0) {p : Nat} {r : Rl} (B : BkRd h0 p r) (H : RO r) (a b : List UInt8) : Fn Tryz.prog Xh 36 [.pointer (some ⟨p, 0, none⟩), str a, str b] h0 (fun u h' => u = tkd (tieOf r.ts a b) ∧ Hs h0 h' []) :=
  (tied_ok w B H a b).mono fun u h' q => by
    refine ⟨?_, q.2⟩
    rcases q.1 with ⟨t, h1, h2, h3, h4⟩ | ⟨h1, h2⟩
    · rw [tieOf_eq H.ts h1 h2 h3, h4]; rfl
    · cases h : tieOf r.ts a b with
      | none => rw [h2]; rfl
      | some t => exact absurd ⟨t, tieOf_some h⟩ h1
theorem tiedO_ok {h0 : AH} (w : WfH h0) {p : Nat} {r : Rl} (B : BkRd h0 p r) (H : RO r) (a b : List UInt8) (o : Option Ti) (ho : tieOf r.ts a b = o) : Fn Tryz.prog Xh 36 [.pointer (some ⟨p, 0, none⟩), str a, str b] h0 (fun u h' => u = tkd o ∧ Hs h0 h' []) := ho ▸ tiedF_ok w B H a b
theorem tieE_ok {h0 h : AH} {rs : List Rs} {p : Nat} {r : Rl} (S : Hs h0 h (bookR p r :: rs)) (H : RO r) (a b : List UInt8) (k : Int) (r' : Rl) (e : Int) (he : tieF r a b k = (r', e)) : Fn Tryz.prog Xh 37 [.pointer (some ⟨p, 0, none⟩), str a, str b, .int .u8 k] h (fun v h' => v = .int .i64 e ∧ Hs h0 h' (bookR p r' :: rs)) := by
  have := tie_ok S a b k H.l256 H.ts
  rwa [he] at this
end Go.Proofs.Xx

/-
  Delete of a guest.
-/
namespace Go.Proofs.Xx
open Go Go.Proofs
set_option linter.unusedSimpArgs false
set_option linter.unusedVariables false
set_option linter.unusedSectionVars false
set_option maxRecDepth 100000
set_option maxHeartbeats 4000000

variable [Flag]
theorem delG_ok {h0 h : AH} {rs : List Rs} {v : SlV} {l : List Gst} (i : Nat) (hi : i < l.length) (hl : l.length ≤ 1000000) (S : Hs h0 h (.sl v.val 24 9 eG l :: rs)) :
    Fn Tryz.prog Xh 90 [v.val, .int .i64 i, .int .i64 ((i : Int) + 1)] h (fun u h' => Hs h0 h' (.sl u 24 9 eG (l.take i ++ l.drop (i + 1)) :: rs)) := by
  have S0 := S
  obtain ⟨f1, k1, k2, k3⟩ := S.sep
  have hr := Rd.of_sl S .here
  rcases k1 with ⟨-, rfl⟩ | ⟨b, o, cc, slk, cap, e1, g1, fb, t1, c1, s1⟩
  · simp at hi
  rw [e1] at hr ⊢
  have hb := g1
  have w := S.wf
  have hcc : o + cap * 9 ≤ cc.length := c1.2
  replace S := Hs.start S.wf
  have hfl := flatMap_length (enc := eG) (z := 9) (by intro _; rfl) l
  have hcap := c1.1
  refine Fn_K rfl Tryz.func90 rfl rfl ?_
  all_goals (repeat' (first | refine K_seq ?_ | refine k_cond rfl ?_ | refine K_skip ?_ | refine K_exit ?_ | refine k_block ?_ | refine K_scope ?_ | refine K_label ?_ | (refine K_region (id := 0) ?_; refine mv ?_; refine KO_nil ?_) | (refine K_region (id := 1) ?_; refine mv ?_; refine mv ?_; refine mv ?_; refine mv ?_; (first | refine lnB S ?_ | refine lnS S rfl rfl ?_))))
  refine rw3 (l := i) (r := i + 1) (m := l.length) hb w (fun ha ca => ?_)
  have xa : Ext h ha := ⟨ca.next, fun j hj => by
    by_cases q : j = b
    · subst q; rw [ca.at_, hb]
    · exact ca.old j q hj, ca.wf⟩
  have ra := hr.ext w xa
  have wa := ca.wf
  have ba := ca.at_
  clear S
  have S := Hs.start wa
  (refine KO_nil ?_)
  skip
  all_goals (repeat' (first | refine K_seq ?_ | refine k_cond rfl ?_ | refine K_skip ?_ | refine K_exit ?_ | refine k_block ?_ | refine K_scope ?_ | refine K_label ?_ | (refine K_region (id := 2) ?_; refine mv ?_; refine mv ?_; (first | refine cT ?_ | refine cF ?_ | (refine cS ?_ ?_ <;> intro hc)) <;> (refine KO_nil ?_)) | (refine K_region (id := 3) ?_; refine mv ?_; refine mv ?_; refine KO_nil ?_) | (refine K_region (id := 4) ?_; refine mv ?_; (first | refine lnB S ?_ | refine lnS S rfl rfl ?_); refine mv ?_; refine KO_nil ?_) | (refine K_draw (id := 5) ?_; refine mv ?_; refine mv ?_)))
  refine rw2 (l := 0) (r := i) ba (fun o2 q1 _ => ?_)
  rw [show o2 = o by have := q1 (by omega); omega]
  refine mv ?_; refine mv ?_
  refine rw2 (l := i + 1) (r := l.length) ba (fun o3 q3 q4 => ?_)
  have ru : Rd ha (.slice (some ⟨b, o3, none⟩) (l.length - (i + 1)) (cap - (i + 1))) 9 (l.length - (i + 1)) ((l.drop (i + 1)).flatMap eG) := by
    refine .inr ⟨b, o3, _, cc, 24, slk, false, rfl, ba, ?_⟩
    rcases Nat.lt_or_ge (i + 1) cap with z | z
    · have z1 := q3 z
      have z2 : o3 = o + (i + 1) * 9 := z1
      have := takeAt_sub (i := (i + 1) * 9) (m := (l.length - (i + 1)) * 9) t1 (by omega)
      rw [z2, this, flatMap_drop (z := 9) (by intro _; rfl), List.take_of_length_le (by rw [List.length_drop, hfl]; omega)]
    · rw [show l.length - (i + 1) = 0 by omega, List.drop_of_length_le (by omega)]
      rfl
  have hone : ((l.drop (i + 1)).flatMap eG).all one? = true := by
    rw [List.all_eq_true]
    intro x hx
    obtain ⟨y, -, hy⟩ := List.mem_flatMap.1 hx
    simp [eG] at hy
    rcases hy with rfl | rfl | rfl | rfl | rfl | rfl | rfl | rfl | rfl <;> rfl
  refine rwa (z := 9) ba wa ru (fun hd cd => ?_)
  (refine mv ?_; refine KO_nil ?_)
  have hln : l.length - (i - 0 + (l.length - (i + 1))) = 1 := by omega
  (repeat (refine K_seq ?_)); refine K_region (id := 6) ?_; refine mv ?_; refine mv ?_; refine vl ?_; refine mv ?_
  refine rw2 (l := i - 0 + (l.length - (i + 1))) (r := l.length) cd.at_ (fun o4 q5 _ => ?_)
  have q6 := q5 (by omega)
  have hq6 : o4 = o + (i - 0 + (l.length - (i + 1))) * 9 := q6
  have hsl : (splice cc (o + (i - 0) * 9) ((l.drop (i + 1)).flatMap eG)).length = cc.length := splice_length _ _ _ (by rw [flatMap_length (z := 9) (by intro _; rfl), List.length_drop]; omega)
  refine rwc cd.at_ cd.wf (fun he ce => ?_) (hfit := ?_)
  rotate_left
  · rw [hsl]
    show o4 + (l.length - (i - 0 + (l.length - (i + 1)))) * 9 ≤ cc.length
    omega
  (refine KO_nil ?_)
  skip
  all_goals (repeat' (first | refine K_seq ?_ | refine k_cond rfl ?_ | refine K_skip ?_ | refine K_exit ?_ | refine k_block ?_ | refine K_scope ?_ | refine K_label ?_ | (refine K_region (id := 7) ?_; refine mv ?_; refine mv ?_; refine KO_nil ?_)))
  refine K_ret ⟨_, rfl, ?_⟩
  have C := (ca.trans cd).trans ce
  have hm : ∀ a c : Nat, a - 0 + c = a + c := fun a c => by omega
  have hlen : (l.take i ++ l.drop (i + 1)).length = i - 0 + (l.length - (i + 1)) := by rw [List.length_append, List.length_take, List.length_drop]; omega
  have hzl : (zeroRow (Value.agg #[Value.string { data := #[] }, Value.string { data := #[] }, Value.string { data := #[] }, Value.int IntKind.i64 0, Value.int IntKind.i64 0, Value.string { data := #[] }, Value.bool false, Value.bool false, Value.slice none 0 0]).cells.toList (l.length - (i - 0 + (l.length - (i + 1))))).length = (i + 1) * 9 - i * 9 := by
    rw [zrow_len, hln]; show 1 * 9 = _; omega
  have hdrop := flatMap_drop (enc := eG) (z := 9) (by intro _; rfl) l (i + 1)
  have htake := flatMap_take (enc := eG) (z := 9) (by intro _; rfl) l i
  show Hs h0 he (.sl (.slice (some ⟨b, o, none⟩) (i - 0 + (l.length - (i + 1))) (cap - 0)) 24 9 eG (l.take i ++ l.drop (i + 1)) :: rs)
  refine S0.turn .here C.next C.wf fun fp p1 p2 => ?_
  rcases p1 with ⟨p1, -⟩ | ⟨b2, o2, cc2, sl2, cap2, p1, -, p3, -⟩
  · rw [p1] at e1; cases e1
  obtain rfl : b2 = b := by rw [p1] at e1; cases e1; rfl
  refine ⟨fun j hj hf => C.old j (fun q => by subst q; exact hf p3) hj, fun j => j = b2, .inr ⟨b2, o, _, slk, cap - 0, by rw [hlen], C.at_, rfl, ?_, ⟨by rw [hlen]; omega, ?_⟩, s1⟩, fun j hj => ?_⟩
  · rw [hlen]
    have hg : ∀ j, j < l.length * 9 → cc[o + j]? = (l.flatMap eG)[j]? := fun j hj => takeAt_get t1 hj
    have D := del_get (zr := zeroRow (Value.agg #[Value.string { data := #[] }, Value.string { data := #[] }, Value.string { data := #[] }, Value.int IntKind.i64 0, Value.int IntKind.i64 0, Value.string { data := #[] }, Value.bool false, Value.bool false, Value.slice none 0 0]).cells.toList (l.length - (i - 0 + (l.length - (i + 1))))) (a := i * 9) (b := (i + 1) * 9) (z := 9) hg hfl (by omega) hzl (by omega)
    rw [hdrop, hq6, Nat.sub_zero, show (i + (l.length - (i + 1))) * 9 = i * 9 + (l.length * 9 - (i + 1) * 9) by omega]
    have e2 : (l.take i ++ l.drop (i + 1)).flatMap eG = (l.flatMap eG).take (i * 9) ++ (l.flatMap eG).drop ((i + 1) * 9) := by rw [List.flatMap_append, htake, hdrop]
    rw [e2]
    rw [Nat.sub_zero] at D
    refine takeAt_ext ?_ ?_ D
    · rw [List.length_append, List.length_take, List.length_drop, hfl]; omega
    · rw [splice_length, splice_length]
      · omega
      · rw [List.length_drop, hfl]; omega
      · rw [splice_length _ _ _ (by rw [List.length_drop, hfl]; omega)]
        have hz2 := hzl
        simp only [Nat.sub_zero] at hz2 ⊢
        rw [hz2]; omega
  · rw [splice_length, hsl]
    · show o + (cap - 0) * 9 ≤ _; omega
    · rw [hsl, hzl]; omega
  · subst hj; exact ⟨C.wf.lt C.at_, .inl p3⟩
end Go.Proofs.Xx

/-
  The map is written anew.
-/
namespace Go.Proofs.Xx
open Go Go.Proofs
set_option linter.unusedSimpArgs false
set_option linter.unusedVariables false
set_option linter.unusedSectionVars false
set_option maxRecDepth 100000
set_option maxHeartbeats 4000000

section
variable {P : Program} {X : Extern} {sz : Nat} {L L' : Ks} {h h0 : AH} {rs : List Rs} {ops : Array Oper} {os : List Oper} {o : Oper} {R : Ks → AH → Prop}
/-- A map is cleared. -/
theorem clrM {α : Type} {b : Nat} {enc : α → Value} {l : List (List UInt8 × α)} {rs' : List Rs} {x : Operand} {ty kt et : TypeId} (S : Hs h0 h rs) (a : At rs (.mp b enc l)) (u : Ut rs (.mp b enc l) (.mp b enc []) rs') (w : ∀ h', Hs h0 h' rs' → KO P X sz ops os L' h' R)
    (ho : o.op = .call { callee := .builtin .clear, args := #[x], argTypes := #[ty] } := by exact rfl) (hg : guardA ops L.tree o.guard = some true := by exact rfl) (hx : kA L x = some (.map (some b)) := by exact rfl) (hu : P.underlying ty = some (.map kt et) := by exact rfl) (hp : putK sz L o.dst (.tuple #[]) = some L' := by exact rfl) : KO P X sz ops (o :: os) L h R := by
  obtain ⟨es, clock, h1, h2, h3, h4⟩ := mp_get S a
  refine KO_val (v := .tuple #[]) (h' := h.put b (.map [] clock)) hg ?_ hp (w _ (S.putMp (es2 := []) u rfl (fun e he => by cases he) List.Pairwise.nil))
  rw [ho]
  simp [aOp, tree_le hx, evAll, aBuiltin, aClear, hu, aClearMap, h1]
end
variable [Flag]
theorem index_ok {h0 h : AH} {rs : List Rs} {p m : Nat} {vg vt : SlV} {gs : List Gst} {mp : List (List UInt8 × Int)} (S : Hs h0 h (.mp m (.int .i64) mp :: .blk p [vg.val, vt.val, .map (some m)] 86 :: .sl vg.val 24 9 eG gs :: rs)) (hl : gs.length ≤ 64) (nd : ∀ i j, i < j → j < gs.length → (gs.getD i default).name ≠ (gs.getD j default).name) :
    Fn Tryz.prog Xh 93 [.pointer (some ⟨p, 0, none⟩)] h (fun _ h' => ∃ mp', AtOk mp' (gs.map (·.toGu)) ∧ Hs h0 h' (.mp m (.int .i64) mp' :: .blk p [vg.val, vt.val, .map (some m)] 86 :: .sl vg.val 24 9 eG gs :: rs)) := by
  refine Fn_K rfl Tryz.func93 rfl rfl ?_
  all_goals (repeat' (first | refine K_seq ?_ | refine k_cond rfl ?_ | refine K_skip ?_ | refine K_exit ?_ | refine k_block ?_ | refine K_scope ?_ | refine K_label ?_ | (refine K_region (id := 0) ?_; refine mv ?_; refine vl ?_; (first | refine vl ?_ | refine fB S ?_ | refine fS S rfl rfl ?_ | refine fA ?_); (first | refine lB S rfl rfl ?_ | refine lES2 S rfl rfl ?_ | refine lEB S ?_ | refine lH S ?_))))
  refine clrM S .here .here (fun h S => ?_)
  (refine KO_nil ?_)
  all_goals (repeat' (first | refine K_seq ?_ | refine k_cond rfl ?_ | refine K_skip ?_ | refine K_exit ?_ | refine k_block ?_ | refine K_scope ?_ | refine K_label ?_ | (refine K_region (id := 1) ?_; refine mv ?_; refine vl ?_; (first | refine vl ?_ | refine fB S ?_ | refine fS S rfl rfl ?_ | refine fA ?_); (first | refine vl ?_ | refine fB S ?_ | refine fS S rfl rfl ?_ | refine fA ?_); (first | refine lB S rfl rfl ?_ | refine lES2 S rfl rfl ?_ | refine lEB S ?_ | refine lH S ?_); (first | refine lnB S ?_ | refine lnS S rfl rfl ?_); refine mv ?_; refine KO_nil ?_)))
  refine k_loop (σ := Nat × List (List UInt8 × Int)) (fun (i, mp) h' => Hs h0 h' (.mp m (.int .i64) mp :: .blk p [vg.val, vt.val, .map (some m)] 86 :: .sl vg.val 24 9 eG gs :: rs) ∧ i ≤ gs.length ∧ AtOk mp ((gs.map (·.toGu)).take i)) (fun (i, mp) => gs.length - i) (fun (i, mp) => [(0, .pointer (some ⟨p, 0, none⟩)), (12, vg.val), (13, .int .i64 gs.length), (14, .int .i64 i)]) (0, []) (by repeat (first | exact Ks.le_nil _ | refine Ks.le_cons rfl ?_ | refine Ks.le_int ?_)) ?_ ?_
  · exact ⟨S, Nat.zero_le _, fun n => rfl⟩
  clear S
  rintro ⟨i, mp⟩ h ⟨S, g1, g2⟩
  all_goals (repeat' (first | refine K_seq ?_ | refine k_cond rfl ?_ | refine K_skip ?_ | refine K_exit ?_ | refine k_block ?_ | refine K_scope ?_ | refine K_label ?_ | (refine K_region (id := 2) ?_; (first | refine cT ?_ | refine cF ?_ | (refine cS ?_ ?_ <;> intro hc)) <;> (refine KO_nil ?_))))
  · all_goals (repeat' (first | refine K_seq ?_ | refine k_cond rfl ?_ | refine K_skip ?_ | refine K_exit ?_ | refine k_block ?_ | refine K_scope ?_ | refine K_label ?_ | (refine K_region (id := 3) ?_; refine mv ?_; (first | refine ixB S ?_ | refine ixS2 S rfl rfl ?_); (first | refine lB S rfl rfl ?_ | refine lES2 S rfl rfl ?_ | refine lEB S ?_ | refine lH S ?_); (refine al S ?_; clear S; intro b h S); refine mv ?_; (first | (refine sB S rfl rfl ?_; clear S; intro h S) | (refine sE2 S rfl rfl ?_; clear S; intro h S)); refine KO_nil ?_) | (refine K_draw (id := 4) ?_; refine mv ?_; refine vl ?_; (first | refine vl ?_ | refine fB S ?_ | refine fS S rfl rfl ?_ | refine fA ?_); (first | refine lB S rfl rfl ?_ | refine lES2 S rfl rfl ?_ | refine lEB S ?_ | refine lH S ?_); (first | refine vl ?_ | refine fB S ?_ | refine fS S rfl rfl ?_ | refine fA ?_); (first | refine lB S rfl rfl ?_ | refine lES2 S rfl rfl ?_ | refine lEB S ?_ | refine lH S ?_); refine mv ?_)))
    simp only [Int.toNat_natCast] at S
    simp only [Int.toNat_natCast]
    replace S : Hs h0 h (.blk b (eG (gs.getD i default)) 24 :: .mp m (.int .i64) mp :: .blk p [vg.val, vt.val, .map (some m)] 86 :: .sl vg.val 24 9 eG gs :: rs) := S
    refine up (x := (i : Int)) (key := (gs.getD i default).name) S (.there .here) (.there .here) (fun h S => ?_) (.inl rfl)
    (refine KO_nil ?_)
    all_goals (repeat' (first | refine K_seq ?_ | refine k_cond rfl ?_ | refine K_skip ?_ | refine K_exit ?_ | refine k_block ?_ | refine K_scope ?_ | refine K_label ?_ | (refine K_region (id := 5) ?_; (first | refine ad ?_ | refine vl ?_); refine mv ?_; refine KO_nil ?_)))
    refine ⟨(i + 1, mPut mp (gs.getD i default).name i), ?_, ?_, (by repeat (first | exact Ks.le_nil _ | refine Ks.le_cons rfl ?_ | refine Ks.le_int ?_))⟩
    · show gs.length - (i + 1) < gs.length - i; omega
    · refine ⟨S.tail, by (try dsimp only); omega, ?_⟩
      dsimp only
      have hil : i < (gs.map (·.toGu)).length := by simp; omega
      have e : (gs.map (·.toGu)).getD i default = (gs.getD i default).toGu := map_getD (f := fun g : Gst => g.toGu) (by omega)
      have hlen : ((gs.map (·.toGu)).take i).length = i := by simp; omega
      rw [take_succ_getD hil, e]
      have := g2.app (g := (gs.getD i default).toGu) (gat_none.2 fun g hg => by
        obtain ⟨j, hj, rfl⟩ := mem_iff_getD.1 hg
        rw [hlen] at hj
        rw [getD_take hj, map_getD (f := fun g : Gst => g.toGu) (by omega)]
        exact nd j i hj (by omega))
      rwa [hlen] at this
  · obtain rfl : i = gs.length := by omega
    refine ⟨_, rfl, ?_⟩
    rw [List.take_of_length_le (by simp)] at g2
    exact ⟨mp, g2, S⟩
end Go.Proofs.Xx

/-
  DeleteFunc on ties.
-/
namespace Go.Proofs.Xx
open Go Go.Proofs
set_option linter.unusedSimpArgs false
set_option linter.unusedVariables false
set_option linter.unusedSectionVars false
set_option maxRecDepth 100000
set_option maxHeartbeats 4000000

/-- A tie of the guest n. -/
def hasT (n : List UInt8) (t : Ti) : Prop := t.a = n ∨ t.b = n
instance (n : List UInt8) (t : Ti) : Decidable (hasT n t) := inferInstanceAs (Decidable (_ ∨ _))
def cvN (b : Nat) : Value := .func (.func 92) #[] #[.pointer (some ⟨b, 0, none⟩)]
def keepT (n : List UInt8) (t : Ti) : Bool := !decide (hasT n t)
theorem keep_yes {n : List UInt8} {t : Ti} (h : ¬ hasT n t) : keepT n t = true := by unfold keepT; rw [decide_eq_false h]; rfl
theorem keep_no {n : List UInt8} {t : Ti} (h : hasT n t) : keepT n t = false := by unfold keepT; rw [decide_eq_true h]; rfl
variable [Flag]
theorem rem1_ok {h0 : AH} (w : WfH h0) {b3 : Nat} {n : List UInt8} (hb : h0.get b3 = some (.cells [str n] 9 none false)) (t : Ti) : Fn Tryz.prog Xh 92 [tiV t, .pointer (some ⟨b3, 0, none⟩)] h0 (fun v h' => BoolIs v (hasT n t) ∧ Hs h0 h' []) := by
  have S := Hs.start w
  unfold tiV
  refine Fn_K rfl Tryz.func92 rfl rfl ?_
  all_goals (repeat' (first | refine K_seq ?_ | refine k_cond rfl ?_ | refine K_skip ?_ | refine K_exit ?_ | refine k_block ?_ | refine K_scope ?_ | refine K_label ?_ | (refine K_region (id := 0) ?_; (refine bx S ?_; clear S; intro b h S); refine mv ?_; refine KO_nil ?_) | (refine K_region (id := 1) ?_; (first | refine vl ?_ | refine fB S ?_ | refine fS S rfl rfl ?_ | refine fA ?_); (first | refine lB S rfl rfl ?_ | refine lES2 S rfl rfl ?_ | refine lEB S ?_ | refine lH S ?_); (first | refine lB S rfl rfl ?_ | refine lES2 S rfl rfl ?_ | refine lEB S ?_ | refine lH S ?_); (refine tS ?_ ?_ <;> intro hc) <;> (refine mv ?_; (first | refine off ?_ | (first | refine vl ?_ | refine fB S ?_ | refine fS S rfl rfl ?_ | refine fA ?_)); (first | refine off ?_ | (first | refine lB S rfl rfl ?_ | refine lES2 S rfl rfl ?_ | refine lEB S ?_ | refine lH S ?_)); (first | refine off ?_ | (first | refine lB S rfl rfl ?_ | refine lES2 S rfl rfl ?_ | refine lEB S ?_ | refine lH S ?_)); (first | refine off ?_ | (refine tS ?_ ?_ <;> intro hc)) <;> (refine vl ?_; refine mv ?_; refine KO_nil ?_)))))
  all_goals (refine K_ret ⟨_, rfl, ?_⟩)
  · exact ⟨.inl ⟨rfl, .inl hc⟩, S.drop⟩
  · exact ⟨.inl ⟨rfl, .inr (by assumption)⟩, S.drop⟩
  · exact ⟨.inr ⟨rfl, fun q => q.elim (by assumption) (by assumption)⟩, S.drop⟩
theorem idxF_ok {h0 : AH} (w : WfH h0) {b3 : Nat} {n : List UInt8} (hb : h0.get b3 = some (.cells [str n] 9 none false)) (v : Value) (l : List Ti) (hr : RdL h0 v 3 eTi l) (hl : l.length ≤ 1000000) :
    Fn Tryz.prog Xh 137 [v, cvN b3] h0 (fun u h' => ((u = .int .i64 (-1) ∧ ∀ i, i < l.length → ¬ hasT n (l.getD i default)) ∨ ∃ i : Nat, u = .int .i64 i ∧ i < l.length ∧ hasT n (l.getD i default) ∧ ∀ j, j < i → ¬ hasT n (l.getD j default)) ∧ Hs h0 h' []) := by
  have S := Hs.start w
  unfold cvN
  refine Fn_K rfl Tryz.func137 rfl rfl ?_
  all_goals (repeat' (first | refine K_seq ?_ | refine k_cond rfl ?_ | refine K_skip ?_ | refine K_exit ?_ | refine k_block ?_ | refine K_scope ?_ | refine K_label ?_ | (refine K_region (id := 0) ?_; refine mv ?_; refine KO_nil ?_) | (refine K_region (id := 1) ?_; refine mv ?_; (first | refine lnB S ?_ | refine lnS S rfl rfl ?_); refine mv ?_; refine KO_nil ?_)))
  refine k_loop (σ := Nat) (fun i h' => Hs h0 h' [] ∧ i ≤ l.length ∧ ∀ j, j < i → ¬ hasT n (l.getD j default)) (fun i => l.length - i) (fun i => [(0, v), (1, cvN b3), (7, .int .i64 l.length), (8, .int .i64 i)]) 0 (by repeat (first | exact Ks.le_nil _ | refine Ks.le_cons rfl ?_ | refine Ks.le_int ?_)) ?_ ?_
  · exact ⟨S, Nat.zero_le _, fun j hj => absurd hj (Nat.not_lt_zero _)⟩
  clear S
  rintro i h ⟨S, g1, g2⟩
  unfold cvN
  all_goals (repeat' (first | refine K_seq ?_ | refine k_cond rfl ?_ | refine K_skip ?_ | refine K_exit ?_ | refine k_block ?_ | refine K_scope ?_ | refine K_label ?_ | (refine K_region (id := 2) ?_; (first | refine cT ?_ | refine cF ?_ | (refine cS ?_ ?_ <;> intro hc)) <;> (refine KO_nil ?_))))
  · all_goals (repeat' (first | refine K_seq ?_ | refine k_cond rfl ?_ | refine K_skip ?_ | refine K_exit ?_ | refine k_block ?_ | refine K_scope ?_ | refine K_label ?_ | (refine K_region (id := 3) ?_; refine mv ?_; refine mv ?_; refine KO_nil ?_) | (refine K_region (id := 4) ?_; refine mv ?_; refine mv ?_; refine mv ?_; (first | refine ixB S ?_ | refine ixS2 S rfl rfl ?_); (first | refine lB S rfl rfl ?_ | refine lES2 S rfl rfl ?_ | refine lEB S ?_ | refine lH S ?_))))
    simp only [Int.toNat_natCast]
    (refine KO_call rfl rfl rfl rfl ((rem1_ok S.wf (S.ext.get w hb) (l.getD i default)).mono ?_); rintro _ h ⟨⟨rfl, z⟩ | ⟨rfl, z⟩, x⟩) <;> (replace S := S.join0 x; clear x; refine KO_nil ?_)
    · all_goals (repeat' (first | refine K_seq ?_ | refine k_cond rfl ?_ | refine K_skip ?_ | refine K_exit ?_ | refine k_block ?_ | refine K_scope ?_ | refine K_label ?_ | (refine K_region (id := 5) ?_; refine mv ?_; refine mv ?_; refine KO_nil ?_)))
      refine K_ret ⟨_, rfl, ?_⟩
      exact ⟨.inr ⟨i, rfl, by omega, z, g2⟩, S⟩
    · all_goals (repeat' (first | refine K_seq ?_ | refine k_cond rfl ?_ | refine K_skip ?_ | refine K_exit ?_ | refine k_block ?_ | refine K_scope ?_ | refine K_label ?_ | (refine K_region (id := 5) ?_; refine mv ?_; refine mv ?_; refine KO_nil ?_) | (refine K_region (id := 6) ?_; (first | refine ad ?_ | refine vl ?_); refine mv ?_; refine KO_nil ?_)))
      refine ⟨i + 1, ?_, ?_, (by repeat (first | exact Ks.le_nil _ | refine Ks.le_cons rfl ?_ | refine Ks.le_int ?_))⟩
      · show l.length - (i + 1) < l.length - i; omega
      · exact ⟨S, by omega, nxtD g2 z⟩
  · skip
    all_goals (repeat' (first | refine K_seq ?_ | refine k_cond rfl ?_ | refine K_skip ?_ | refine K_exit ?_ | refine k_block ?_ | refine K_scope ?_ | refine K_label ?_ | (refine K_region (id := 7) ?_; refine mv ?_; refine KO_nil ?_)))
    refine K_ret ⟨_, rfl, ?_⟩
    exact ⟨.inl ⟨rfl, fun j hj => g2 j (by omega)⟩, S⟩
theorem delF_ok {h0 h : AH} {rs : List Rs} {v : SlV} {l : List Ti} {b3 : Nat} {n : List UInt8} (hl : l.length ≤ 1000000) (S : Hs h0 h (.sl v.val 111 3 eTi l :: .blk b3 [str n] 9 :: rs)) :
    Fn Tryz.prog Xh 91 [v.val, cvN b3] h (fun u h' => Hs h0 h' (.sl u 111 3 eTi (l.filter (keepT n)) :: .blk b3 [str n] 9 :: rs)) := by
  refine Fn_K rfl Tryz.func91 rfl rfl ?_
  all_goals (repeat' (first | refine K_seq ?_ | refine k_cond rfl ?_ | refine K_skip ?_ | refine K_exit ?_ | refine k_block ?_ | refine K_scope ?_ | refine K_label ?_ | (refine K_region (id := 0) ?_; refine mv ?_; refine KO_nil ?_) | (refine K_region (id := 1) ?_; refine mv ?_; refine mv ?_)))
  (refine KO_fn rfl rfl rfl rfl rfl ((idxF_ok S.wf (blk_get S (.there .here)) v.val l (Rd.of_sl S .here) hl).mono ?_); rintro _ h ⟨⟨rfl, z⟩ | ⟨i0, rfl, z1, z2, z3⟩, x⟩) <;> (replace S := S.join0 x; clear x; refine mv ?_; refine KO_nil ?_)
  · all_goals (repeat' (first | refine K_seq ?_ | refine k_cond rfl ?_ | refine K_skip ?_ | refine K_exit ?_ | refine k_block ?_ | refine K_scope ?_ | refine K_label ?_ | (refine K_region (id := 2) ?_; refine mv ?_; (first | refine cT ?_ | refine cF ?_ | (refine cS ?_ ?_ <;> intro hc)) <;> (refine KO_nil ?_)) | (refine K_region (id := 3) ?_; refine mv ?_; refine mv ?_; refine KO_nil ?_)))
    refine K_ret ⟨_, rfl, ?_⟩
    rw [List.filter_eq_self.2 fun t ht => by
      obtain ⟨j, hj, rfl⟩ := mem_iff_getD.1 ht
      exact keep_yes (z j hj)]
    exact S
  · all_goals (repeat' (first | refine K_seq ?_ | refine k_cond rfl ?_ | refine K_skip ?_ | refine K_exit ?_ | refine k_block ?_ | refine K_scope ?_ | refine K_label ?_ | (refine K_region (id := 2) ?_; refine mv ?_; (first | refine cT ?_ | refine cF ?_ | (refine cS ?_ ?_ <;> intro hc)) <;> (refine KO_nil ?_)) | (refine K_region (id := 4) ?_; refine mv ?_; (first | refine ad ?_ | refine vl ?_); refine mv ?_; refine KO_nil ?_)))
    have hst : l.take i0 = (l.take (i0 + 1)).filter (keepT n) := by
      rw [take_succ_getD z1, List.filter_append, List.filter_cons, keep_no z2, List.filter_eq_self.2 fun t ht => by
        obtain ⟨j, hj, rfl⟩ := mem_iff_getD.1 ht
        simp only [List.length_take] at hj
        rw [getD_take (by omega)]
        exact keep_yes (z3 j (by omega))]
      simp
    refine k_loop (σ := Nat × Nat × List Ti) (fun (i, j, m) h' => Hs h0 h' (.sl v.val 111 3 eTi m :: .blk b3 [str n] 9 :: rs) ∧ (i < j ∧ j ≤ l.length) ∧ m.length = l.length ∧ m.take i = (l.take j).filter (keepT n) ∧ ∀ k, j ≤ k → k < l.length → m.getD k default = l.getD k default) (fun (i, j, m) => l.length - j) (fun (i, j, m) => [(0, v.val), (1, cvN b3), (5, .int .i64 i), (6, .int .i64 j)]) (i0, i0 + 1, l) (by repeat (first | exact Ks.le_nil _ | refine Ks.le_cons rfl ?_ | refine Ks.le_int ?_)) ?_ ?_
    · exact ⟨S, by (try dsimp only); omega, rfl, hst, fun _ _ _ => rfl⟩
    clear S
    rintro ⟨i, j, m⟩ h ⟨S, k1, k2, k3, k4⟩
    unfold cvN
    all_goals (repeat' (first | refine K_seq ?_ | refine k_cond rfl ?_ | refine K_skip ?_ | refine K_exit ?_ | refine k_block ?_ | refine K_scope ?_ | refine K_label ?_ | (refine K_region (id := 5) ?_; refine mv ?_; refine mv ?_; (first | refine lnB S ?_ | refine lnS S rfl rfl ?_); (first | refine cT ?_ | refine cF ?_ | (refine cS ?_ ?_ <;> intro hc)) <;> (refine KO_nil ?_))))
    · have hjl : j < l.length := by omega
      all_goals (repeat' (first | refine K_seq ?_ | refine k_cond rfl ?_ | refine K_skip ?_ | refine K_exit ?_ | refine k_block ?_ | refine K_scope ?_ | refine K_label ?_ | (refine K_region (id := 7) ?_; refine mv ?_; refine mv ?_; (first | refine ixB S ?_ | refine ixS2 S rfl rfl ?_); (first | refine lB S rfl rfl ?_ | refine lES2 S rfl rfl ?_ | refine lEB S ?_ | refine lH S ?_); (refine al S ?_; clear S; intro b h S); (first | (refine sB S rfl rfl ?_; clear S; intro h S) | (refine sE2 S rfl rfl ?_; clear S; intro h S)); refine KO_nil ?_) | (refine K_region (id := 8) ?_; refine mv ?_; (first | refine lB S rfl rfl ?_ | refine lES2 S rfl rfl ?_ | refine lEB S ?_ | refine lH S ?_))))
      simp only [Int.toNat_natCast] at S
      simp only [Int.toNat_natCast]
      rw [k4 j (Nat.le_refl _) hjl] at S
      simp only [k4 j (Nat.le_refl _) hjl]
      replace S : Hs h0 h (.blk b (eTi (l.getD j default)) 111 :: .sl v.val 111 3 eTi m :: .blk b3 [str n] 9 :: rs) := S
      (refine KO_call rfl rfl rfl rfl ((rem1_ok S.wf (blk_get S (.there (.there .here))) (l.getD j default)).mono ?_); rintro _ h ⟨⟨rfl, y⟩ | ⟨rfl, y⟩, x⟩) <;> (replace S := S.join0 x; clear x; refine vl ?_; refine KO_nil ?_)
      · all_goals (repeat' (first | refine K_seq ?_ | refine k_cond rfl ?_ | refine K_skip ?_ | refine K_exit ?_ | refine k_block ?_ | refine K_scope ?_ | refine K_label ?_ | (refine K_region (id := 6) ?_; refine mv ?_; (first | refine ad ?_ | refine vl ?_); refine mv ?_; refine KO_nil ?_) | (refine K_region (id := 8) ?_; refine mv ?_; (first | refine lB S rfl rfl ?_ | refine lES2 S rfl rfl ?_ | refine lEB S ?_ | refine lH S ?_))))
        refine ⟨(i, j + 1, m), ?_, ?_, (by repeat (first | exact Ks.le_nil _ | refine Ks.le_cons rfl ?_ | refine Ks.le_int ?_))⟩
        · show l.length - (j + 1) < l.length - j; omega
        · refine ⟨S.tail, by (try dsimp only); omega, k2, ?_, fun k q1 q2 => k4 k (by (try dsimp only at q1); omega) q2⟩
          dsimp only
          rw [take_succ_getD hjl, List.filter_append, List.filter_cons, keep_no y, k3]; simp
      · all_goals (repeat' (first | refine K_seq ?_ | refine k_cond rfl ?_ | refine K_skip ?_ | refine K_exit ?_ | refine k_block ?_ | refine K_scope ?_ | refine K_label ?_ | (refine K_region (id := 8) ?_; refine mv ?_; (first | refine lB S rfl rfl ?_ | refine lES2 S rfl rfl ?_ | refine lEB S ?_ | refine lH S ?_)) | (refine K_region (id := 9) ?_; refine mv ?_; refine mv ?_; (first | refine lB S rfl rfl ?_ | refine lES2 S rfl rfl ?_ | refine lEB S ?_ | refine lH S ?_); (first | refine ixB S ?_ | refine ixS2 S rfl rfl ?_); (first | (refine sB S rfl rfl ?_; clear S; intro h S) | (refine sE2 S rfl rfl ?_; clear S; intro h S)); refine KO_nil ?_)))
        simp only [Int.toNat_natCast] at S
        all_goals (repeat' (first | refine K_seq ?_ | refine k_cond rfl ?_ | refine K_skip ?_ | refine K_exit ?_ | refine k_block ?_ | refine K_scope ?_ | refine K_label ?_ | (refine K_region (id := 6) ?_; refine mv ?_; (first | refine ad ?_ | refine vl ?_); refine mv ?_; refine KO_nil ?_) | (refine K_region (id := 10) ?_; refine mv ?_; (first | refine ad ?_ | refine vl ?_); refine mv ?_; refine KO_nil ?_)))
        refine ⟨(i + 1, j + 1, m.set i (l.getD j default)), ?_, ?_, (by repeat (first | exact Ks.le_nil _ | refine Ks.le_cons rfl ?_ | refine Ks.le_int ?_))⟩
        · show l.length - (j + 1) < l.length - j; omega
        · have hset : ∀ k, (m.set i (l.getD j default)).getD k default = if k = i then l.getD j default else m.getD k default := fun k => getD_set _ _ (by omega) k
          refine ⟨S.tail, by (try dsimp only); omega, by simp; exact k2, ?_, fun k q1 q2 => ?_⟩
          · dsimp only
            rw [take_succ_getD hjl, List.filter_append, List.filter_cons, keep_yes y, ← k3, take_succ_getD (by simp; omega), hset, if_pos rfl]
            congr 1
            apply eq_getD (by simp)
            intro k hk
            simp only [List.length_take, List.length_set] at hk
            rw [getD_take (by omega), getD_take (by omega), hset, if_neg (by omega)]
          · dsimp only at q1 ⊢
            rw [hset, if_neg (by omega)]
            exact k4 k (by omega) q2
    · have hj : j = l.length := by omega
      subst hj
      rw [List.take_length] at k3
      have S0 := S
      obtain ⟨f1, p1, p2, p3⟩ := S.sep
      have hbb := blk_get S (.there .here)
      rcases p1 with ⟨-, e0⟩ | ⟨b, o, cc, slk, cap, e1, g1, fb, t1, c1, s1⟩
      · rw [e0] at k2; simp at k2; omega
      rw [e1]
      have w := S.wf
      have hfl := flatMap_length (enc := eTi) (z := 3) (by intro _; rfl) m
      have hcap := c1.1
      have hcc := c1.2
      (repeat (refine K_seq ?_)); refine K_region (id := 11) ?_; refine mv ?_; refine mv ?_
      refine rw2 (l := i) (r := m.length) g1 (fun o2 q1 _ => ?_)
      have q2 : o2 = o + i * 3 := q1 (by omega)
      refine rwc g1 w (fun hd cd => ?_) (hfit := ?_)
      rotate_left
      · show o2 + (m.length - i) * 3 ≤ cc.length
        omega
      (refine KO_nil ?_)
      (repeat (refine K_seq ?_)); refine K_region (id := 12) ?_; refine mv ?_; refine mv ?_
      refine rw2 (l := 0) (r := i) cd.at_ (fun o3 q3 _ => ?_)
      have q4 : o3 = o := by have := q3 (by omega); omega
      (refine mv ?_; refine KO_nil ?_)
      skip
      all_goals (repeat' (first | refine K_seq ?_ | refine k_cond rfl ?_ | refine K_skip ?_ | refine K_exit ?_ | refine k_block ?_ | refine K_scope ?_ | refine K_label ?_))
      refine K_ret ⟨_, rfl, ?_⟩
      have hfil : l.filter (keepT n) = m.take i := k3.symm
      have htl : (m.take i).length = i := by simp; omega
      show Hs h0 hd (.sl (.slice (some ⟨b, o3, none⟩) (i - 0) (cap - 0)) 111 3 eTi (l.filter (keepT n)) :: .blk b3 [str n] 9 :: rs)
      rw [hfil, q4]
      have htake := flatMap_take (enc := eTi) (z := 3) (by intro _; rfl) m i
      have hzl : (zeroRow (Value.agg #[Value.string { data := #[] }, Value.string { data := #[] }, Value.int IntKind.u8 0]).cells.toList (m.length - i)).length = (m.length - i) * 3 := zrow_len _ _
      refine S0.turn .here cd.next cd.wf fun fp p1 p2 => ?_
      rcases p1 with ⟨p1, -⟩ | ⟨b2, o5, cc2, sl2, cap2, p1, -, p3, -⟩
      · rw [p1] at e1; cases e1
      obtain rfl : b2 = b := by rw [p1] at e1; cases e1; rfl
      refine ⟨fun j hj hf => cd.old j (fun q => by subst q; exact hf p3) hj, fun j => j = b2, .inr ⟨b2, o, _, slk, cap - 0, by rw [htl]; rfl, cd.at_, rfl, ?_, ⟨by rw [htl]; omega, ?_⟩, s1⟩, fun j hj => ?_⟩
      · rw [htl, htake]
        refine takeAt_ext ?_ ?_ fun k hk => ?_
        · rw [List.length_take, hfl]; omega
        · rw [splice_length _ _ _ (by rw [hzl]; omega)]; omega
        · rw [splice_get _ _ _ (by rw [hzl]; omega), if_pos (by omega), List.getElem?_take, if_pos hk]
          exact takeAt_get t1 (by omega)
      · rw [splice_length _ _ _ (by rw [hzl]; omega)]
        show o + (cap - 0) * 3 ≤ _
        omega
      · subst hj; exact ⟨cd.wf.lt cd.at_, .inl p3⟩
end Go.Proofs.Xx

/-
  Remove.
-/
namespace Go.Proofs.Xx
open Go Go.Proofs
set_option linter.unusedSimpArgs false
set_option linter.unusedVariables false
set_option linter.unusedSectionVars false
set_option maxRecDepth 100000
set_option maxHeartbeats 4000000

theorem Hs.tgSub {h0 h : AH} {rs : List Rs} {gs gs' : List Gst} (S : Hs h0 h (tgR gs :: rs)) (hs : ∀ g ∈ gs', g ∈ gs) : Hs h0 h (tgR gs' :: rs) := S.conv fun fp k h' q g hg => k h' q g (hs g hg)
variable [Flag]
theorem remove_ok {h0 h : AH} {rs : List Rs} {p : Nat} {r : Rl} (S : Hs h0 h (bookR p r :: rs)) (H : RO r) (n : List UInt8) :
    Fn Tryz.prog Xh 38 [.pointer (some ⟨p, 0, none⟩), str n] h (fun v h' => (gat r.us n = none ∧ v = .tuple #[.int .i64 0, .int .i64 6] ∧ Hs h0 h' (bookR p r :: rs)) ∨ (∃ i, gat r.us n = some i ∧ v = .tuple #[.int .i64 ((r.ts.length : Int) - (r.ts.filter (keepT n)).length), .int .i64 0] ∧ Hs h0 h' (bookR p ⟨r.us.take i ++ r.us.drop (i + 1), r.ts.filter (keepT n)⟩ :: rs))) := by
  obtain ⟨⟨vg, vt, m, mp, gs⟩, ⟨q1, q2⟩, S⟩ := S.unpack
  have e1 : gs.length = r.us.length := by rw [← q1]; simp
  have h64 := H.l64
  have h256 := H.l256
  dsimp only [bkL, List.cons_append, List.nil_append] at q1 q2 S
  refine Fn_K rfl Tryz.func38 rfl rfl ?_
  all_goals (repeat' (first | refine K_seq ?_ | refine k_cond rfl ?_ | refine K_skip ?_ | refine K_exit ?_ | refine k_block ?_ | refine K_scope ?_ | refine K_label ?_ | (refine K_region (id := 0) ?_; (refine bx S ?_; clear S; intro b h S); refine mv ?_; refine mv ?_; refine KO_nil ?_) | (refine K_region (id := 1) ?_; refine mv ?_)))
  (refine KO_fn rfl rfl rfl rfl rfl ((bnone_ok S.wf (blk_get S (.there .here))).mono ?_); rintro _ h ⟨rfl, x⟩) <;> (replace S := S.join0 x; clear x; refine KO_nil ?_)
  obtain ⟨b3, hnm⟩ : ∃ x, x = b := ⟨_, rfl⟩; subst hnm
  all_goals (repeat' (first | refine K_seq ?_ | refine k_cond rfl ?_ | refine K_skip ?_ | refine K_exit ?_ | refine k_block ?_ | refine K_scope ?_ | refine K_label ?_ | (refine K_region (id := 2) ?_; refine mv ?_; refine mv ?_; refine KO_nil ?_) | (refine K_draw (id := 3) ?_; refine mv ?_; refine vl ?_; (first | refine vl ?_ | refine fB S ?_ | refine fS S rfl rfl ?_ | refine fA ?_); (first | refine lB S rfl rfl ?_ | refine lES2 S rfl rfl ?_ | refine lEB S ?_ | refine lH S ?_); (first | refine lB S rfl rfl ?_ | refine lES2 S rfl rfl ?_ | refine lEB S ?_ | refine lH S ?_))))
  refine lk S (.there (.there (.there (.there .here)))) (fun y hy => ?_) (fun hy => ?_)
  · simp only [okV]
    (refine mv ?_; refine vl ?_; refine vl ?_; refine mv ?_; refine mv ?_; refine KO_nil ?_)
    rw [q2] at hy
    cases hq : gat r.us n with
    | none => rw [hq] at hy; cases hy
    | some i =>
      rw [hq] at hy; cases hy
      obtain ⟨z1, z2, z3⟩ := gat_some hq
      have hil : i < gs.length := by omega
      all_goals (repeat' (first | refine K_seq ?_ | refine k_cond rfl ?_ | refine K_skip ?_ | refine K_exit ?_ | refine k_block ?_ | refine K_scope ?_ | refine K_label ?_ | (refine K_region (id := 4) ?_; refine mv ?_; refine vl ?_; refine KO_nil ?_) | (refine K_region (id := 6) ?_; refine mv ?_; refine mv ?_; refine vl ?_; (first | refine vl ?_ | refine fB S ?_ | refine fS S rfl rfl ?_ | refine fA ?_); (first | refine vl ?_ | refine fB S ?_ | refine fS S rfl rfl ?_ | refine fA ?_); (first | refine lB S rfl rfl ?_ | refine lES2 S rfl rfl ?_ | refine lEB S ?_ | refine lH S ?_); refine mv ?_; refine mv ?_; (first | refine ad ?_ | refine vl ?_))))
      replace S : Hs h0 h (.blk b3 [str n] 9 :: _) := S
      have S := (show Hs h0 h (.sl vg.val 24 9 eG gs :: .blk b3 [str n] 9 :: .blk p [vg.val, vt.val, .map (some m)] 86 :: .sl vt.val 111 3 eTi r.ts :: .mp m (.int .i64) mp :: tgR gs :: rs) from S.pick)
      (refine KO_fn rfl rfl rfl rfl rfl ((delG_ok i hil (by omega) S).mono ?_); rintro v h S) <;> (obtain ⟨vg', rfl⟩ := S.sV v; refine vl ?_; (first | refine vl ?_ | refine fB S ?_ | refine fS S rfl rfl ?_ | refine fA ?_); (first | refine vl ?_ | refine fB S ?_ | refine fS S rfl rfl ?_ | refine fA ?_); (first | (refine sB S rfl rfl ?_; clear S; intro h S) | (refine sE2 S rfl rfl ?_; clear S; intro h S)); refine KO_nil ?_)
      all_goals (repeat' (first | refine K_seq ?_ | refine k_cond rfl ?_ | refine K_skip ?_ | refine K_exit ?_ | refine k_block ?_ | refine K_scope ?_ | refine K_label ?_ | (refine K_region (id := 7) ?_; refine mv ?_; refine vl ?_; (first | refine vl ?_ | refine fB S ?_ | refine fS S rfl rfl ?_ | refine fA ?_); (first | refine vl ?_ | refine fB S ?_ | refine fS S rfl rfl ?_ | refine fA ?_); (first | refine lB S rfl rfl ?_ | refine lES2 S rfl rfl ?_ | refine lEB S ?_ | refine lH S ?_); (first | refine lnB S ?_ | refine lnS S rfl rfl ?_); refine mv ?_; refine KO_nil ?_)))
      all_goals (repeat' (first | refine K_seq ?_ | refine k_cond rfl ?_ | refine K_skip ?_ | refine K_exit ?_ | refine k_block ?_ | refine K_scope ?_ | refine K_label ?_ | (refine K_region (id := 8) ?_; refine mv ?_; refine mv ?_; refine vl ?_; (first | refine vl ?_ | refine fB S ?_ | refine fS S rfl rfl ?_ | refine fA ?_); (first | refine vl ?_ | refine fB S ?_ | refine fS S rfl rfl ?_ | refine fA ?_); (first | refine lB S rfl rfl ?_ | refine lES2 S rfl rfl ?_ | refine lEB S ?_ | refine lH S ?_); refine vl ?_)))
      replace S : Hs h0 h (.sl vg'.val 24 9 eG (gs.take i ++ gs.drop (i + 1)) :: .blk b3 [str n] 9 :: .blk p [vg'.val, vt.val, .map (some m)] 86 :: .sl vt.val 111 3 eTi r.ts :: .mp m (.int .i64) mp :: tgR gs :: rs) := S
      have S := (show Hs h0 h (.sl vt.val 111 3 eTi r.ts :: .blk b3 [str n] 9 :: .sl vg'.val 24 9 eG (gs.take i ++ gs.drop (i + 1)) :: .blk p [vg'.val, vt.val, .map (some m)] 86 :: .mp m (.int .i64) mp :: tgR gs :: rs) from S.pick)
      (refine KO_fn rfl rfl rfl rfl rfl ((delF_ok (n := n) (by omega) S).mono ?_); rintro v h S) <;> (obtain ⟨vt', rfl⟩ := S.sV v; refine vl ?_; (first | refine vl ?_ | refine fB S ?_ | refine fS S rfl rfl ?_ | refine fA ?_); (first | refine vl ?_ | refine fB S ?_ | refine fS S rfl rfl ?_ | refine fA ?_); (first | (refine sB S rfl rfl ?_; clear S; intro h S) | (refine sE2 S rfl rfl ?_; clear S; intro h S)); refine KO_nil ?_)
      all_goals (repeat' (first | refine K_seq ?_ | refine k_cond rfl ?_ | refine K_skip ?_ | refine K_exit ?_ | refine k_block ?_ | refine K_scope ?_ | refine K_label ?_ | (refine K_region (id := 9) ?_; refine mv ?_)))
      replace S : Hs h0 h (.sl vt'.val 111 3 eTi (r.ts.filter (keepT n)) :: .blk b3 [str n] 9 :: .sl vg'.val 24 9 eG (gs.take i ++ gs.drop (i + 1)) :: .blk p [vg'.val, vt'.val, .map (some m)] 86 :: .mp m (.int .i64) mp :: tgR gs :: rs) := S
      have S := (show Hs h0 h (.mp m (.int .i64) mp :: .blk p [vg'.val, vt'.val, .map (some m)] 86 :: .sl vg'.val 24 9 eG (gs.take i ++ gs.drop (i + 1)) :: .sl vt'.val 111 3 eTi (r.ts.filter (keepT n)) :: tgR gs :: rs) from S.pick)
      have hlen : (gs.take i ++ gs.drop (i + 1)).length = gs.length - 1 := by rw [List.length_append, List.length_take, List.length_drop]; omega
      have hget : ∀ j, (gs.take i ++ gs.drop (i + 1)).getD j default = gs.getD (if j < i then j else j + 1) default := fun j => by
        split
        · rw [gA1 (by rw [List.length_take]; omega), getD_take (by assumption)]
        · rw [gA2 (by rw [List.length_take]; omega), List.length_take, List.getD_eq_getElem?_getD, List.getD_eq_getElem?_getD, List.getElem?_drop]
          congr 2; omega
      have hnm : ∀ j, j < gs.length → (gs.getD j default).name = (r.us.getD j default).name := fun j hj => by
        rw [← q1, map_getD (f := fun g : Gst => g.toGu) hj]
      have hnd : ∀ a b, a < b → b < (gs.take i ++ gs.drop (i + 1)).length → ((gs.take i ++ gs.drop (i + 1)).getD a default).name ≠ ((gs.take i ++ gs.drop (i + 1)).getD b default).name := fun a b hab hb => by
        rw [hlen] at hb
        rw [hget, hget, hnm _ (by split <;> omega), hnm _ (by split <;> omega)]
        exact H.nd _ _ (by split <;> split <;> omega) (by split <;> omega)
      have hl64 : (gs.take i ++ gs.drop (i + 1)).length ≤ 64 := by rw [hlen]; omega
      (refine KO_fn rfl rfl rfl rfl rfl ((index_ok S hl64 hnd).mono ?_); rintro _ h ⟨mp', a1, S⟩) <;> (refine KO_nil ?_)
      have hfl := List.length_filter_le (keepT n) r.ts
      all_goals (repeat' (first | refine K_seq ?_ | refine k_cond rfl ?_ | refine K_skip ?_ | refine K_exit ?_ | refine k_block ?_ | refine K_scope ?_ | refine K_label ?_ | (refine K_region (id := 4) ?_; refine mv ?_; refine vl ?_; refine KO_nil ?_) | (refine K_region (id := 5) ?_; refine mv ?_; refine mv ?_; refine KO_nil ?_) | (refine K_region (id := 6) ?_; refine mv ?_; refine mv ?_; refine vl ?_; (first | refine vl ?_ | refine fB S ?_ | refine fS S rfl rfl ?_ | refine fA ?_); (first | refine vl ?_ | refine fB S ?_ | refine fS S rfl rfl ?_ | refine fA ?_); (first | refine lB S rfl rfl ?_ | refine lES2 S rfl rfl ?_ | refine lEB S ?_ | refine lH S ?_); refine mv ?_; refine mv ?_; (first | refine ad ?_ | refine vl ?_)) | (refine K_region (id := 7) ?_; refine mv ?_; refine vl ?_; (first | refine vl ?_ | refine fB S ?_ | refine fS S rfl rfl ?_ | refine fA ?_); (first | refine vl ?_ | refine fB S ?_ | refine fS S rfl rfl ?_ | refine fA ?_); (first | refine lB S rfl rfl ?_ | refine lES2 S rfl rfl ?_ | refine lEB S ?_ | refine lH S ?_); (first | refine lnB S ?_ | refine lnS S rfl rfl ?_); refine mv ?_; refine KO_nil ?_) | (refine K_region (id := 8) ?_; refine mv ?_; refine mv ?_; refine vl ?_; (first | refine vl ?_ | refine fB S ?_ | refine fS S rfl rfl ?_ | refine fA ?_); (first | refine vl ?_ | refine fB S ?_ | refine fS S rfl rfl ?_ | refine fA ?_); (first | refine lB S rfl rfl ?_ | refine lES2 S rfl rfl ?_ | refine lEB S ?_ | refine lH S ?_); refine vl ?_) | (refine K_region (id := 9) ?_; refine mv ?_) | (refine K_region (id := 10) ?_; refine mv ?_; refine mv ?_; refine vl ?_; (first | refine vl ?_ | refine fB S ?_ | refine fS S rfl rfl ?_ | refine fA ?_); (first | refine vl ?_ | refine fB S ?_ | refine fS S rfl rfl ?_ | refine fA ?_); (first | refine lB S rfl rfl ?_ | refine lES2 S rfl rfl ?_ | refine lEB S ?_ | refine lH S ?_); (first | refine lnB S ?_ | refine lnS S rfl rfl ?_); (first | refine sb ?_ | refine vl ?_); refine mv ?_; refine mv ?_; refine KO_nil ?_)))
      refine K_ret ⟨_, rfl, ?_⟩
      refine .inr ⟨i, rfl, rfl, ?_⟩
      have S := (show Hs h0 h (tgR gs :: .mp m (.int .i64) mp' :: .blk p [vg'.val, vt'.val, .map (some m)] 86 :: .sl vg'.val 24 9 eG (gs.take i ++ gs.drop (i + 1)) :: .sl vt'.val 111 3 eTi (r.ts.filter (keepT n)) :: rs) from S.pick)
      have S := S.tgSub (gs' := gs.take i ++ gs.drop (i + 1)) fun g hg => by
        rcases List.mem_append.1 hg with q | q
        · exact List.mem_of_mem_take q
        · exact List.mem_of_mem_drop q
      have hmap : (gs.take i ++ gs.drop (i + 1)).map (·.toGu) = r.us.take i ++ r.us.drop (i + 1) := by rw [List.map_append, List.map_take, List.map_drop, q1]
      exact S.bk (r := ⟨r.us.take i ++ r.us.drop (i + 1), r.ts.filter (keepT n)⟩) vg' vt' m mp' (gs.take i ++ gs.drop (i + 1)) hmap (by rw [← hmap]; exact a1)
  · simp only [okV]
    (refine mv ?_; refine vl ?_; refine vl ?_; refine mv ?_; refine mv ?_; refine KO_nil ?_)
    skip
    all_goals (repeat' (first | refine K_seq ?_ | refine k_cond rfl ?_ | refine K_skip ?_ | refine K_exit ?_ | refine k_block ?_ | refine K_scope ?_ | refine K_label ?_ | (refine K_region (id := 4) ?_; refine mv ?_; refine vl ?_; refine KO_nil ?_) | (refine K_region (id := 5) ?_; refine mv ?_; refine mv ?_; refine KO_nil ?_) | (refine K_region (id := 6) ?_; refine mv ?_; refine mv ?_; refine vl ?_; (first | refine vl ?_ | refine fB S ?_ | refine fS S rfl rfl ?_ | refine fA ?_); (first | refine vl ?_ | refine fB S ?_ | refine fS S rfl rfl ?_ | refine fA ?_); (first | refine lB S rfl rfl ?_ | refine lES2 S rfl rfl ?_ | refine lEB S ?_ | refine lH S ?_); refine mv ?_; refine mv ?_; (first | refine ad ?_ | refine vl ?_))))
    refine K_ret ⟨_, rfl, ?_⟩
    refine .inl ⟨?_, rfl, S.bk vg vt m mp gs q1 q2⟩
    rw [q2] at hy
    cases hq : gat r.us n with
    | none => rfl
    | some z => rw [hq] at hy; cases hy
end Go.Proofs.Xx

/-
  A guest who comes and leaves: plain laws.
-/
namespace Go.Proofs.Xx
open Go Go.Proofs
set_option linter.unusedSimpArgs false
set_option linter.unusedVariables false
set_option linter.unusedSectionVars false
set_option maxRecDepth 100000

theorem RO.add {r : Rl} (H : RO r) {g : Gu} (h : (addF r g).2 = 0) : RO (addF r g).1 := by
  obtain ⟨h1, h2, h3, h4⟩ := addF_zero h
  rw [h4]
  have hm : ∀ n, Xx.gat r.us n ≠ none → Xx.gat (r.us ++ [g]) n ≠ none := fun n q => by
    rw [gat_mem] at q ⊢
    obtain ⟨k, k1, k2⟩ := q
    exact ⟨k, by simp [k1], k2⟩
  refine ⟨fun k hk => ?_, fun i j hij hj => ?_, by simp; omega, H.ts, fun t ht => ?_, H.l256⟩
  · rcases List.mem_append.1 hk with q | q
    · exact H.chk k q
    · rw [List.mem_singleton.1 q]; exact h1
  · simp only [List.length_append, List.length_singleton] at hj
    rw [gA1 (show i < r.us.length by omega)]
    rcases Nat.lt_or_ge j r.us.length with q | q
    · rw [gA1 q]; exact H.nd i j hij q
    · rw [gA2 q, show j - r.us.length = 0 by omega]
      exact gat_none.1 h2 _ (mem_getD (by omega))
  · obtain ⟨t1, t2, t3, t4⟩ := H.tt t ht
    exact ⟨t1, t2, hm _ t3, hm _ t4⟩
/-- Putting a tie of n leaves the others. -/
theorem filter_put {ts : List Ti} {a b n : List UInt8} {k : Int} (hs : TS ts) (hn : ¬ tied ts a b) (h : hasT n (tiOf a b k)) : (putT ts (tiOf a b k)).filter (keepT n) = ts.filter (keepT n) ∧ (putT ts (tiOf a b k)).length = ts.length + 1 := by
  obtain ⟨i, hi, e, -⟩ := ts_put (k := k) hs hn
  rw [e]
  refine ⟨?_, ?_⟩
  · rw [List.filter_append, List.filter_cons, keep_no h]
    conv => rhs; rw [← List.take_append_drop i ts, List.filter_append]
    simp
  · rw [List.length_append, List.length_cons, List.length_take, List.length_drop]; omega
/-- The ties of n, by their kinds. -/
theorem wit_count {n : List UInt8} : ∀ {ts : List Ti}, (∀ t ∈ ts, t.k = 1 ∨ t.k = 2) → (ts.flatMap (witT 1 n)).length + (ts.flatMap (witT 2 n)).length + (ts.filter (keepT n)).length = ts.length
  | [], _ => rfl
  | t :: ts, h => by
    have ih := wit_count (n := n) (ts := ts) fun u hu => h u (by simp [hu])
    have hk := h t (by simp)
    have key : (witT 1 n t).length + (witT 2 n t).length + (if keepT n t then 1 else 0) = 1 := by
      by_cases hh : hasT n t
      · rw [keep_no hh]
        rcases hk with q | q
        · have e2 : witT 2 n t = [] := by unfold witT; rw [if_pos (by omega)]
          have e1 : (witT 1 n t).length = 1 := by
            unfold witT
            rw [if_neg (by omega)]
            split
            · rfl
            · rcases hh with y | y
              · exact absurd y (by assumption)
              · rw [if_pos y]; rfl
          rw [e1, e2]; rfl
        · have e2 : witT 1 n t = [] := by unfold witT; rw [if_pos (by omega)]
          have e1 : (witT 2 n t).length = 1 := by
            unfold witT
            rw [if_neg (by omega)]
            split
            · rfl
            · rcases hh with y | y
              · exact absurd y (by assumption)
              · rw [if_pos y]; rfl
          rw [e1, e2]; rfl
      · rw [keep_yes hh]
        have hz : ∀ k, witT k n t = [] := fun k => by
          unfold witT
          split
          · rfl
          · rw [if_neg (fun q => hh (.inl q)), if_neg (fun q => hh (.inr q))]
        rw [hz, hz]; rfl
    rw [List.flatMap_cons, List.flatMap_cons, List.length_append, List.length_append, List.filter_cons, List.length_cons]
    split
    · rename_i q; rw [q] at key; simp only [List.length_cons, if_true] at key ⊢; omega
    · rename_i q
      rw [Bool.not_eq_true] at q
      rw [q] at key; simp at key; omega
/-- What With tells has as many names as there are ties. -/
theorem with_len {r : Rl} (H : RO r) {k : Int} {n : List UInt8} {l : List (List UInt8)} (hs : SS l) (hm : ∀ x, x ∈ l ↔ adj r k n x) : l.length = (r.ts.flatMap (witT k n)).length := by
  have h1 := nodup_leM hs.nodup (m := r.ts.flatMap (witT k n)) fun x hx => (mem_wit H).2 ((hm x).1 hx)
  have h2 := nodup_leM (wit_nodup H.ts (fun t ht => (H.tt t ht).1) k n) (m := l) fun x hx => (hm x).2 ((mem_wit H).1 hx)
  omega
/-- The name of the newcomer. -/
def ncN : List UInt8 := [110, 101, 119, 99, 111, 109, 101, 114]
def ncG : Gst := ⟨⟨ncN, [], [], 0, 0, [], false, false, []⟩, ⟨none, 0, 0⟩⟩
theorem nc_chk : chkG ncG.toGu = 0 := by
  refine chkG_0 ⟨⟨by decide, by decide, fun i hi => ?_⟩, .inl rfl, .inl rfl, .inl rfl⟩ (by decide) (by decide) ⟨by decide, fun i hi => absurd hi (Nat.not_lt_zero _)⟩
  have : ∀ i, i < 8 → lowB (ncN.getD i default) := by unfold lowB; decide
  exact this i hi
theorem nc_num (j : Nat) : num j ≠ ncN := fun q => by
  have := congrArg List.length q
  simp [num, ncN] at this
end Go.Proofs.Xx

/-
  BookLeaves.
-/
namespace Go.Proofs.Xx
open Go Go.Proofs
set_option linter.unusedSimpArgs false
set_option linter.unusedVariables false
set_option linter.unusedSectionVars false
set_option maxRecDepth 100000
set_option maxHeartbeats 4000000

theorem kind_of {y : Nat} (hy : y < 256) : ∃ K : Int, IntKind.u8.wrap (1 + IntKind.u8.wrap ((y : Int).tdiv 128)) = K ∧ (K = 1 ∨ K = 2) := by
  have e : (y : Int).tdiv 128 = (y : Int) / 128 := Int.tdiv_eq_ediv_of_nonneg (by omega)
  rw [e, wrap_u8 (n := (y : Int) / 128) (by omega), wrap_u8 (by omega)]
  exact ⟨_, rfl, by omega⟩
variable [Flag]
theorem bookLeaves_true {h0 : AH} (w : WfH h0) (va vb vc : Value) (la lb lc : List Nat) (ra : RdL h0 va 1 e16 la) (ca : CapOk va) (rb : RdL h0 vb 1 eU lb) (rc : RdL h0 vc 1 eU lc) (hla : la.length ≤ 9223372036854775807) (hlb : lb.length ≤ 9223372036854775807) (hlc : lc.length ≤ 9223372036854775807) (h16 : ∀ i, i < la.length → la.getD i default < 65536) (h8 : ∀ i, i < lb.length → lb.getD i default < 256) (h8c : ∀ i, i < lc.length → lc.getD i default < 256) :
    Fn Tryz.prog Xh 8 [va, vb, vc] h0 (fun v _ => v = .bool true) := by
  have S := Hs.start w
  refine Fn_K rfl Tryz.func8 rfl rfl ?_
  all_goals (repeat' (first | refine K_seq ?_ | refine k_cond rfl ?_ | refine K_skip ?_ | refine K_exit ?_ | refine k_block ?_ | refine K_scope ?_ | refine K_label ?_ | (refine K_region (id := 0) ?_; refine mv ?_; refine KO_nil ?_)))
  (repeat (refine K_seq ?_)); refine K_region (id := 1) ?_; refine mv ?_; refine mv ?_; refine lnB S ?_
  refine mn ?_
  simp only [show min (la.length : Int) 11 = ((min la.length 11 : Nat) : Int) by omega]
  refine su 0 (min la.length 11) ra ca (fun va' ra' ca' => ?_)
  (refine mv ?_)
  have hla' : ((la.drop 0).take (min la.length 11 - 0)).length ≤ 9223372036854775807 := by simp; omega
  have h16' : ∀ i, i < ((la.drop 0).take (min la.length 11 - 0)).length → ((la.drop 0).take (min la.length 11 - 0)).getD i default < 65536 := fun i hi => by
    simp only [List.length_take, List.length_drop] at hi
    rw [getD_take (by omega), List.drop_zero]
    exact h16 i (by omega)
  (refine KO_fn rfl rfl rfl rfl rfl ((made_ok w va' vb ((la.drop 0).take (min la.length 11 - 0)) lb ra' rb hla' hlb h16' h8).mono ?_); rintro _ h ⟨⟨vg, vt, gs⟩, r, rfl, HR, H, hM, x⟩) <;> (replace S := S.join0 x; clear x; have rc := rc.ext w S.ext; clear w; have w := S.wf; obtain ⟨hB, hnm⟩ : ∃ x, x = h := ⟨_, rfl⟩; subst hnm; have S := Hs.start w; (refine al S ?_; clear S; intro b h S); (first | (refine sB S rfl rfl ?_; clear S; intro h S) | (refine sE2 S rfl rfl ?_; clear S; intro h S)); refine KO_nil ?_)
  obtain ⟨b7, hnm⟩ : ∃ x, x = b := ⟨_, rfl⟩; subst hnm
  all_goals (repeat' (first | refine K_seq ?_ | refine k_cond rfl ?_ | refine K_skip ?_ | refine K_exit ?_ | refine k_block ?_ | refine K_scope ?_ | refine K_label ?_ | (refine K_region (id := 0) ?_; refine mv ?_; refine KO_nil ?_) | (refine K_region (id := 1) ?_; refine mv ?_; refine mv ?_; (first | refine lnB S ?_ | refine lnS S rfl rfl ?_); refine mn ?_) | (refine K_region (id := 2) ?_; (first | refine lB S rfl rfl ?_ | refine lES2 S rfl rfl ?_ | refine lEB S ?_ | refine lH S ?_))))
  (refine KO_fn rfl rfl rfl rfl rfl ((book_ok S.wf ⟨vg, vt, gs⟩ r (HR.ext w S.ext) H).mono ?_); rintro _ h ⟨p, rfl, x⟩) <;> (replace S := S.join1 x; clear x; refine mv ?_; refine vl ?_; refine vl ?_; refine mv ?_; refine mv ?_; refine KO_nil ?_)
  have hrg := HR.rg
  have hgl := HR.len
  have hM12 := hM.1
  simp only at hrg hgl
  replace S : Hs hB h [bookR p r, .blk b7 [vg.val, vt.val] 32] := S
  have hgn : gat r.us ncN = none := gat_none.2 fun g hg => by
    obtain ⟨i, hi, rfl⟩ := mem_iff_getD.1 hg
    rw [hM.2 i hi]; exact nc_num _
  have hadd : addF r ncG.toGu = (⟨r.us ++ [ncG.toGu], r.ts⟩, 0) := addF_0 nc_chk hgn (by omega)
  have H0 : RO ⟨r.us ++ [ncG.toGu], r.ts⟩ := by have := H.add (g := ncG.toGu) (by rw [hadd]); rwa [hadd] at this
  have hadd2 := fun (h : AH) (S : Hs hB h [bookR p r, .blk b7 [vg.val, vt.val] 32]) => add_ok S ncG (fun h _ => (Rd.none_ h 1 : RdL h _ 1 eS [])) (by decide) H.l64
  rw [hadd] at hadd2
  all_goals (repeat' (first | refine K_seq ?_ | refine k_cond rfl ?_ | refine K_skip ?_ | refine K_exit ?_ | refine k_block ?_ | refine K_scope ?_ | refine K_label ?_ | (refine K_region (id := 2) ?_; (first | refine lB S rfl rfl ?_ | refine lES2 S rfl rfl ?_ | refine lEB S ?_ | refine lH S ?_)) | (refine K_region (id := 3) ?_; refine mv ?_; refine vl ?_; refine mv ?_; (first | refine off ?_ | refine mv ?_); (first | refine off ?_ | refine vl ?_); (first | (refine off ?_; (first | refine off ?_ | (first | refine cT ?_ | refine cF ?_ | (refine cS ?_ ?_ <;> intro hc))) <;> (refine vl ?_; refine KO_nil ?_)) | skip))))
  (refine KO_fn rfl rfl rfl rfl rfl ((hadd2 h S).mono ?_); rintro _ h ⟨rfl, S⟩) <;> ((first | refine off ?_ | (first | refine cT ?_ | refine cF ?_ | (refine cS ?_ ?_ <;> intro hc))) <;> (refine vl ?_; refine KO_nil ?_))
  all_goals (repeat' (first | refine K_seq ?_ | refine k_cond rfl ?_ | refine K_skip ?_ | refine K_exit ?_ | refine k_block ?_ | refine K_scope ?_ | refine K_label ?_ | (refine K_region (id := 3) ?_; refine mv ?_; refine vl ?_; refine mv ?_; (first | refine off ?_ | refine mv ?_); (first | refine off ?_ | refine vl ?_); (first | (refine off ?_; (first | refine off ?_ | (first | refine cT ?_ | refine cF ?_ | (refine cS ?_ ?_ <;> intro hc))) <;> (refine vl ?_; refine KO_nil ?_)) | skip)) | (refine K_region (id := 4) ?_; refine mv ?_; refine KO_nil ?_)))
  all_goals (repeat' (first | refine K_seq ?_ | refine k_cond rfl ?_ | refine K_skip ?_ | refine K_exit ?_ | refine K_scope ?_ | refine K_label ?_ | (refine K_region (id := 5) ?_; refine mv ?_; refine KO_nil ?_) | (refine K_region (id := 6) ?_; refine mv ?_; refine KO_nil ?_)))
  (repeat (refine K_seq ?_)); first | refine K_join1 (σ := List Ti × Nat) (fun (ts, n) h' => Hs hB h' [bookR p ⟨r.us ++ [ncG.toGu], ts⟩, .blk b7 [vg.val, vt.val] 32] ∧ RO ⟨r.us ++ [ncG.toGu], ts⟩ ∧ ts.filter (keepT ncN) = r.ts ∧ ts.length = r.ts.length + n) (fun (ts, n) => [(7, .pointer (some ⟨b7, 0, none⟩)), (8, .pointer (some ⟨p, 0, none⟩)), (10, .int .i64 n)]) ?_ ?_ | refine K_cut (σ := List Ti × Nat) (fun (ts, n) h' => Hs hB h' [bookR p ⟨r.us ++ [ncG.toGu], ts⟩, .blk b7 [vg.val, vt.val] 32] ∧ RO ⟨r.us ++ [ncG.toGu], ts⟩ ∧ ts.filter (keepT ncN) = r.ts ∧ ts.length = r.ts.length + n) (fun (ts, n) => [(7, .pointer (some ⟨b7, 0, none⟩)), (8, .pointer (some ⟨p, 0, none⟩)), (10, .int .i64 n)]) ?_ ?_
  · all_goals (repeat' (first | refine K_seq ?_ | refine k_cond rfl ?_ | refine K_skip ?_ | refine K_exit ?_ | refine k_block ?_ | refine K_scope ?_ | refine K_label ?_))
    refine k_loop (σ := Nat × List Ti × Nat) (fun (i, ts, n) h' => Hs hB h' [bookR p ⟨r.us ++ [ncG.toGu], ts⟩, .blk b7 [vg.val, vt.val] 32] ∧ i ≤ 30 ∧ i ≤ lc.length ∧ RO ⟨r.us ++ [ncG.toGu], ts⟩ ∧ ts.filter (keepT ncN) = r.ts ∧ ts.length = r.ts.length + n) (fun (i, ts, n) => 30 - i) (fun (i, ts, n) => [(2, vc), (7, .pointer (some ⟨b7, 0, none⟩)), (8, .pointer (some ⟨p, 0, none⟩)), (10, .int .i64 n), (11, .int .i64 i)]) (0, r.ts, 0) (by repeat (first | exact Ks.le_nil _ | refine Ks.le_cons rfl ?_ | refine Ks.le_int ?_)) ?_ ?_
    · refine ⟨S, by omega, by omega, H0, ?_, rfl⟩
      rw [List.filter_eq_self]
      intro t ht
      obtain ⟨-, -, g1, g2⟩ := H.tt t ht
      exact keep_yes fun q => by
        rcases q with q | q
        · rw [q] at g1; exact g1 hgn
        · rw [q] at g2; exact g2 hgn
    clear S
    rintro ⟨i, ts, n⟩ h ⟨S, k1, k2, HR1, k3, k4⟩
    have h8i := fun (q : i < lc.length) => h8c i q
    all_goals (repeat' (first | refine K_seq ?_ | refine k_cond rfl ?_ | refine K_skip ?_ | refine K_exit ?_ | refine k_block ?_ | refine K_scope ?_ | refine K_label ?_ | (refine K_region (id := 7) ?_; refine mv ?_; refine mv ?_; (first | refine lnB S ?_ | refine lnS S rfl rfl ?_); (first | refine cT ?_ | refine cF ?_ | (refine cS ?_ ?_ <;> intro hc)) <;> (refine mv ?_; (first | refine off ?_ | refine mv ?_); (first | refine off ?_ | (first | refine cT ?_ | refine cF ?_ | (refine cS ?_ ?_ <;> intro hc))) <;> (refine vl ?_; refine mv ?_; (first | refine off ?_ | (first | refine vl ?_ | refine fB S ?_ | refine fS S rfl rfl ?_ | refine fA ?_)); (first | refine off ?_ | (first | refine lB S rfl rfl ?_ | refine lES2 S rfl rfl ?_ | refine lEB S ?_ | refine lH S ?_)); (first | refine off ?_ | (first | refine lnB S ?_ | refine lnS S rfl rfl ?_)); (first | refine off ?_ | (first | refine cT ?_ | refine cF ?_ | (refine cS ?_ ?_ <;> intro hc))) <;> (refine vl ?_; refine KO_nil ?_))))))
    · have hgl0 : 0 < gs.length := by omega
      have hic : i < lc.length := by omega
      have h8i := h8c i hic
      have hmod : ∀ z : Nat, 0 ≤ (z : Int) % (gs.length : Int) ∧ (z : Int) % (gs.length : Int) < gs.length := fun z => ⟨Int.emod_nonneg _ (by omega), Int.emod_lt_of_pos _ (by omega)⟩
      have hm0 := hmod (lc.getD (i : Int).toNat default)
      all_goals (repeat' (first | refine K_seq ?_ | refine k_cond rfl ?_ | refine K_skip ?_ | refine K_exit ?_ | refine k_block ?_ | refine K_scope ?_ | refine K_label ?_ | (refine K_draw (id := 9) ?_; (first | refine vl ?_ | refine fB S ?_ | refine fS S rfl rfl ?_ | refine fA ?_); (first | refine lB S rfl rfl ?_ | refine lES2 S rfl rfl ?_ | refine lEB S ?_ | refine lH S ?_); refine mv ?_; refine mv ?_; (first | refine ixB S ?_ | refine ixS2 S rfl rfl ?_); (first | refine lB S rfl rfl ?_ | refine lES2 S rfl rfl ?_ | refine lEB S ?_ | refine lH S ?_); (first | refine cI ?_ | refine vl ?_); (first | refine vl ?_ | refine fB S ?_ | refine fS S rfl rfl ?_ | refine fA ?_); (first | refine lB S rfl rfl ?_ | refine lES2 S rfl rfl ?_ | refine lEB S ?_ | refine lH S ?_); (first | refine lnB S ?_ | refine lnS S rfl rfl ?_); (first | refine rm ?_ | refine vl ?_); (first | refine ixB S ?_ | refine ixS2 S rfl rfl ?_); (first | refine vl ?_ | refine fB S ?_ | refine fS S rfl rfl ?_ | refine fA ?_); (first | refine lB S rfl rfl ?_ | refine lES2 S rfl rfl ?_ | refine lEB S ?_ | refine lH S ?_); refine mv ?_; refine KO_nil ?_) | (refine K_region (id := 10) ?_; refine mv ?_; refine mv ?_)))
      have hkx : gat r.us (gs.getD ((lc.getD (i : Int).toNat default : Nat) % (gs.length : Int)).toNat default).name ≠ none := by
        have hi2 : ((lc.getD (i : Int).toNat default : Nat) % (gs.length : Int)).toNat < gs.length := by omega
        have e : (gs.getD ((lc.getD (i : Int).toNat default : Nat) % (gs.length : Int)).toNat default).toGu = r.us.getD _ default := HR.at_ hi2
        rw [gat_mem]
        exact ⟨_, mem_getD (show ((lc.getD (i : Int).toNat default : Nat) % (gs.length : Int)).toNat < r.us.length by omega), by rw [← e]⟩
      generalize (gs.getD ((lc.getD (i : Int).toNat default : Nat) % (gs.length : Int)).toNat default).name = xn at *
      have hne : xn ≠ ncN := fun q => by rw [q] at hkx; exact hkx hgn
      obtain ⟨K, hK, hK12⟩ := kind_of h8i
      have hkx2 : gat (r.us ++ [ncG.toGu]) xn ≠ none := by
        rw [gat_mem] at hkx ⊢
        obtain ⟨g, g1, g2⟩ := hkx
        exact ⟨g, by simp [g1], g2⟩
      have hkn : gat (r.us ++ [ncG.toGu]) ncN ≠ none := gat_mem.2 ⟨ncG.toGu, by simp, rfl⟩
      cases hq : tieOf ts ncN xn with
      | none =>
        have hnt : ¬ tied ts xn ncN := fun q => tieOf_none hq (tied_comm.1 q)
        have h256 : ¬ 256 ≤ ts.length := by
          have h1 := ts_le HR1
          have h2 : (r.us ++ [ncG.toGu]).length ≤ 13 := by simp; omega
          have h3 : (r.us ++ [ncG.toGu]).length * (r.us ++ [ncG.toGu]).length ≤ 13 * 13 := Nat.mul_le_mul h2 h2
          simp only at h1
          omega
        have ht0 := tieF_0 (r := ⟨r.us ++ [ncG.toGu], ts⟩) (a := xn) (b := ncN) (k := K) (by rintro (q | q); omega; exact hne q) (by rintro (q | q); exact hkx2 q; exact hkn q) hnt h256
        have HR2 : RO ⟨r.us ++ [ncG.toGu], putT ts (tiOf xn ncN K)⟩ := by have := HR1.tie (a := xn) (b := ncN) (k := K) (by rw [ht0]); rwa [ht0] at this
        have hh : hasT ncN (tiOf xn ncN K) := by
          rcases (sMinMax hne).2 with ⟨-, e2⟩ | ⟨e1, -⟩
          · exact .inr e2
          · exact .inl e1
        obtain ⟨f1, f2⟩ := filter_put (k := K) HR1.ts hnt hh
        (refine KO_fn rfl rfl rfl rfl rfl ((tiedO_ok S.wf S.bkRd HR1 ncN xn none hq).mono ?_); rintro _ h ⟨rfl, x1⟩) <;> (replace S := S.join0 x1; clear x1; refine mv ?_; refine vl ?_; refine vl ?_; refine mv ?_; refine mv ?_; refine KO_nil ?_)
        all_goals (repeat' (first | refine K_seq ?_ | refine k_cond rfl ?_ | refine K_skip ?_ | refine K_exit ?_ | refine k_block ?_ | refine K_scope ?_ | refine K_label ?_ | (refine K_region (id := 11) ?_; refine mv ?_; refine mv ?_; refine mv ?_; refine mv ?_; (first | refine ixB S ?_ | refine ixS2 S rfl rfl ?_); (first | refine lB S rfl rfl ?_ | refine lES2 S rfl rfl ?_ | refine lEB S ?_ | refine lH S ?_); refine vl ?_; (first | refine aU ?_ | refine vl ?_))))
        simp only [Int.toNat_natCast, hK]
        (refine KO_fn rfl rfl rfl rfl rfl ((tieE_ok S HR1 xn ncN K ⟨r.us ++ [ncG.toGu], putT ts (tiOf xn ncN K)⟩ 0 ht0).mono ?_); rintro _ h ⟨rfl, S⟩) <;> (refine mv ?_; refine KO_nil ?_)
        all_goals (repeat' (first | refine K_seq ?_ | refine k_cond rfl ?_ | refine K_skip ?_ | refine K_exit ?_ | refine k_block ?_ | refine K_scope ?_ | refine K_label ?_ | (refine K_region (id := 8) ?_; refine mv ?_; (first | refine ad ?_ | refine vl ?_); refine mv ?_; refine KO_nil ?_) | (refine K_region (id := 12) ?_; refine mv ?_; refine mv ?_; (first | refine cT ?_ | refine cF ?_ | (refine cS ?_ ?_ <;> intro hc)) <;> (refine vl ?_; refine mv ?_; (first | refine off ?_ | refine mv ?_); (first | refine off ?_ | refine vl ?_); (first | refine off ?_ | refine mv ?_); (first | refine off ?_ | refine mv ?_); (first | refine off ?_ | (first | refine cT ?_ | refine cF ?_ | (refine cS ?_ ?_ <;> intro hc))) <;> ((first | refine off ?_ | refine vl ?_); refine vl ?_; refine KO_nil ?_))) | (refine K_region (id := 13) ?_; refine mv ?_; refine KO_nil ?_) | (refine K_region (id := 14) ?_; refine mv ?_; (first | refine cT ?_ | refine cF ?_ | (refine cS ?_ ?_ <;> intro hc)) <;> (refine KO_nil ?_)) | (refine K_region (id := 15) ?_; refine mv ?_; (first | refine ad ?_ | refine vl ?_); refine mv ?_; refine KO_nil ?_)))
        refine ⟨(i + 1, putT ts (tiOf xn ncN K), n + 1), ?_, ?_, (by repeat (first | exact Ks.le_nil _ | refine Ks.le_cons rfl ?_ | refine Ks.le_int ?_))⟩
        · show 30 - (i + 1) < 30 - i; omega
        · exact ⟨S, by (try dsimp only); omega, hic, HR2, (by rw [← k3]; exact f1), (by show (putT ts (tiOf xn ncN K)).length = r.ts.length + (n + 1); rw [f2, k4]; omega)⟩
      | some t =>
        obtain ⟨t0, t1, t2⟩ := tieOf_some hq
        have htd : tied ts xn ncN := tied_comm.1 ⟨t, t0, t1, t2⟩
        have ht5 := tieF_5 (r := ⟨r.us ++ [ncG.toGu], ts⟩) (a := xn) (b := ncN) (k := K) (by rintro (q | q); omega; exact hne q) (by rintro (q | q); exact hkx2 q; exact hkn q) htd
        skip
        (refine KO_fn rfl rfl rfl rfl rfl ((tiedO_ok S.wf S.bkRd HR1 ncN xn (some t) hq).mono ?_); rintro _ h ⟨rfl, x1⟩) <;> (replace S := S.join0 x1; clear x1; refine mv ?_; refine vl ?_; refine vl ?_; refine mv ?_; refine mv ?_; refine KO_nil ?_)
        all_goals (repeat' (first | refine K_seq ?_ | refine k_cond rfl ?_ | refine K_skip ?_ | refine K_exit ?_ | refine k_block ?_ | refine K_scope ?_ | refine K_label ?_ | (refine K_region (id := 11) ?_; refine mv ?_; refine mv ?_; refine mv ?_; refine mv ?_; (first | refine ixB S ?_ | refine ixS2 S rfl rfl ?_); (first | refine lB S rfl rfl ?_ | refine lES2 S rfl rfl ?_ | refine lEB S ?_ | refine lH S ?_); refine vl ?_; (first | refine aU ?_ | refine vl ?_))))
        simp only [Int.toNat_natCast, hK]
        (refine KO_fn rfl rfl rfl rfl rfl ((tieE_ok S HR1 xn ncN K ⟨r.us ++ [ncG.toGu], ts⟩ 5 ht5).mono ?_); rintro _ h ⟨rfl, S⟩) <;> (refine mv ?_; refine KO_nil ?_)
        all_goals (repeat' (first | refine K_seq ?_ | refine k_cond rfl ?_ | refine K_skip ?_ | refine K_exit ?_ | refine k_block ?_ | refine K_scope ?_ | refine K_label ?_ | (refine K_region (id := 8) ?_; refine mv ?_; (first | refine ad ?_ | refine vl ?_); refine mv ?_; refine KO_nil ?_) | (refine K_region (id := 12) ?_; refine mv ?_; refine mv ?_; (first | refine cT ?_ | refine cF ?_ | (refine cS ?_ ?_ <;> intro hc)) <;> (refine vl ?_; refine mv ?_; (first | refine off ?_ | refine mv ?_); (first | refine off ?_ | refine vl ?_); (first | refine off ?_ | refine mv ?_); (first | refine off ?_ | refine mv ?_); (first | refine off ?_ | (first | refine cT ?_ | refine cF ?_ | (refine cS ?_ ?_ <;> intro hc))) <;> ((first | refine off ?_ | refine vl ?_); refine vl ?_; refine KO_nil ?_))) | (refine K_region (id := 13) ?_; refine mv ?_; refine KO_nil ?_) | (refine K_region (id := 14) ?_; refine mv ?_; (first | refine cT ?_ | refine cF ?_ | (refine cS ?_ ?_ <;> intro hc)) <;> (refine KO_nil ?_)) | (refine K_region (id := 15) ?_; refine mv ?_; (first | refine ad ?_ | refine vl ?_); refine mv ?_; refine KO_nil ?_)))
        refine ⟨(i + 1, ts, n), ?_, ?_, (by repeat (first | exact Ks.le_nil _ | refine Ks.le_cons rfl ?_ | refine Ks.le_int ?_))⟩
        · show 30 - (i + 1) < 30 - i; omega
        · exact ⟨S, by (try dsimp only); omega, hic, HR1, k3, k4⟩
    all_goals
      exact ⟨(ts, n), ⟨S, HR1, k3, k4⟩, ((by repeat (first | exact Ks.le_nil _ | refine Ks.le_cons rfl ?_ | refine Ks.le_int ?_)))⟩
  · clear S
    rintro ⟨ts, n⟩ h ⟨S, HR1, k3, k4⟩
    have hcnt := wit_count (n := ncN) (ts := ts) fun t ht => (HR1.tt t ht).2.1
    rw [k3] at hcnt
    have hgi : gat (r.us ++ [ncG.toGu]) ncN = some r.us.length := by rw [gat_app, hgn]; exact if_pos rfl
    have hR1 : r.us.length ≤ 9223372036854775807 := by omega
    have hR2 : r.ts.length ≤ 9223372036854775807 := Nat.le_trans H.l256 (by decide)
    have hR3 : ∀ g ∈ r.us, g.tg.length ≤ 9223372036854775807 := fun g hg => Nat.le_trans (chkG_ok (H.chk g hg)).2.2.2.1 (by decide)
    have hts256 := HR1.l256
    simp only at hts256
    skip
    all_goals (repeat' (first | refine K_seq ?_ | refine k_cond rfl ?_ | refine K_skip ?_ | refine K_exit ?_ | refine k_block ?_ | refine K_scope ?_ | refine K_label ?_ | (refine K_region (id := 16) ?_; refine mv ?_)))
    (refine KO_fn rfl rfl rfl rfl rfl ((with_ok S.wf S.bkRd HR1 ncN 1).mono ?_); rintro u1 h ⟨l1, x, a1, a2, a3⟩) <;> (replace S := S.join1 x; clear x; (first | refine lnB S ?_ | refine lnS S rfl rfl ?_); refine mv ?_)
    have S := S.tail
    have c1 := with_len HR1 a1 a2
    (refine KO_fn rfl rfl rfl rfl rfl ((with_ok S.wf S.bkRd HR1 ncN 2).mono ?_); rintro u2 h ⟨l2, x, b1, b2, b3⟩) <;> (replace S := S.join1 x; clear x; (first | refine lnB S ?_ | refine lnS S rfl rfl ?_); (first | refine ad ?_ | refine vl ?_); refine mv ?_; (first | refine cT ?_ | refine cF ?_ | (refine cS ?_ ?_ <;> intro hc)) <;> (refine KO_nil ?_))
    all_goals have c2 := with_len HR1 b1 b2
    all_goals simp only at c1 c2
    · exfalso
      apply hc
      omega
    · have S := S.tail
      skip
      all_goals (repeat' (first | refine K_seq ?_ | refine k_cond rfl ?_ | refine K_skip ?_ | refine K_exit ?_ | refine k_block ?_ | refine K_scope ?_ | refine K_label ?_ | (refine K_region (id := 17) ?_; refine mv ?_; refine KO_nil ?_) | (refine K_region (id := 18) ?_; refine mv ?_)))
      (refine KO_fn rfl rfl rfl rfl rfl ((remove_ok S HR1 ncN).mono ?_); rintro _ h (⟨z, rfl, S⟩ | ⟨i, z1, rfl, S⟩)) <;> (refine mv ?_; refine vl ?_; refine vl ?_; refine mv ?_; refine mv ?_; refine KO_nil ?_)
      · simp only at z; rw [hgi] at z; cases z
      simp only at z1
      rw [hgi] at z1
      cases z1
      have hback : (⟨(r.us ++ [ncG.toGu]).take r.us.length ++ (r.us ++ [ncG.toGu]).drop (r.us.length + 1), ts.filter (keepT ncN)⟩ : Rl) = r := by
        rw [k3, List.take_append_of_le_length (Nat.le_refl _), List.take_length, List.drop_of_length_le (by simp), List.append_nil]
      replace S : Hs hB h [bookR p r, .blk b7 [vg.val, vt.val] 32] := by
        have S2 := S
        simp only at S2
        rw [hback] at S2
        exact S2
      have k5 : (ts.filter (keepT ncN)).length = r.ts.length := by rw [k3]
      all_goals (repeat' (first | refine K_seq ?_ | refine k_cond rfl ?_ | refine K_skip ?_ | refine K_exit ?_ | refine k_block ?_ | refine K_scope ?_ | refine K_label ?_ | (refine K_region (id := 18) ?_; refine mv ?_)))
      (repeat (refine K_seq ?_)); refine K_drawX (id := 19) [(10, (0, 1))] [some (b7)] ?_; refine KX_cons ?_; (first | (refine mv ?_ <;> refine KO_nil ⟨⟨by (first | exact True.intro | exact Or.inl rfl | exact Or.inr rfl | exact Or.inr (congrArg some (blkOf_elA _ _ _ _)) | exact ⟨Or.inl rfl, rfl⟩ | exact ⟨Or.inr rfl, rfl⟩), rfl⟩, ?_⟩)); refine KX_cons ?_; (first | (refine mv ?_ <;> refine KO_nil ⟨⟨by (first | exact True.intro | exact Or.inl rfl | exact Or.inr rfl | exact Or.inr (congrArg some (blkOf_elA _ _ _ _)) | exact ⟨Or.inl rfl, rfl⟩ | exact ⟨Or.inr rfl, rfl⟩), rfl⟩, ?_⟩)); refine KX_cons ?_; (first | (refine cT ?_ <;> refine KO_nil ⟨⟨by (first | exact True.intro | exact Or.inl rfl | exact Or.inr rfl | exact Or.inr (congrArg some (blkOf_elA _ _ _ _)) | exact ⟨Or.inl rfl, rfl⟩ | exact ⟨Or.inr rfl, rfl⟩), rfl⟩, ?_⟩) | (refine cF ?_ <;> refine KO_nil ⟨⟨by (first | exact True.intro | exact Or.inl rfl | exact Or.inr rfl | exact Or.inr (congrArg some (blkOf_elA _ _ _ _)) | exact ⟨Or.inl rfl, rfl⟩ | exact ⟨Or.inr rfl, rfl⟩), rfl⟩, ?_⟩) | ((refine cS ?_ ?_ <;> intro hc) <;> refine KO_nil ⟨⟨by (first | exact True.intro | exact Or.inl rfl | exact Or.inr rfl | exact Or.inr (congrArg some (blkOf_elA _ _ _ _)) | exact ⟨Or.inl rfl, rfl⟩ | exact ⟨Or.inr rfl, rfl⟩), rfl⟩, ?_⟩)) <;> (refine KX_cons ?_; (first | (refine mv ?_ <;> refine KO_nil ⟨⟨by (first | exact True.intro | exact Or.inl rfl | exact Or.inr rfl | exact Or.inr (congrArg some (blkOf_elA _ _ _ _)) | exact ⟨Or.inl rfl, rfl⟩ | exact ⟨Or.inr rfl, rfl⟩), rfl⟩, ?_⟩)); refine KX_cons ?_; (first | (refine off ?_; refine KO_nil ⟨⟨by (first | exact True.intro | exact Or.inl rfl | exact Or.inr rfl | exact Or.inr (congrArg some (blkOf_elA _ _ _ _)) | exact ⟨Or.inl rfl, rfl⟩ | exact ⟨Or.inr rfl, rfl⟩), rfl⟩, ?_⟩) | (refine mv ?_ <;> refine KO_nil ⟨⟨by (first | exact True.intro | exact Or.inl rfl | exact Or.inr rfl | exact Or.inr (congrArg some (blkOf_elA _ _ _ _)) | exact ⟨Or.inl rfl, rfl⟩ | exact ⟨Or.inr rfl, rfl⟩), rfl⟩, ?_⟩)); refine KX_cons ?_; (first | (refine off ?_; refine KO_nil ⟨⟨by (first | exact True.intro | exact Or.inl rfl | exact Or.inr rfl | exact Or.inr (congrArg some (blkOf_elA _ _ _ _)) | exact ⟨Or.inl rfl, rfl⟩ | exact ⟨Or.inr rfl, rfl⟩), rfl⟩, ?_⟩) | (refine cT ?_ <;> refine KO_nil ⟨⟨by (first | exact True.intro | exact Or.inl rfl | exact Or.inr rfl | exact Or.inr (congrArg some (blkOf_elA _ _ _ _)) | exact ⟨Or.inl rfl, rfl⟩ | exact ⟨Or.inr rfl, rfl⟩), rfl⟩, ?_⟩) | (refine cF ?_ <;> refine KO_nil ⟨⟨by (first | exact True.intro | exact Or.inl rfl | exact Or.inr rfl | exact Or.inr (congrArg some (blkOf_elA _ _ _ _)) | exact ⟨Or.inl rfl, rfl⟩ | exact ⟨Or.inr rfl, rfl⟩), rfl⟩, ?_⟩) | ((refine cS ?_ ?_ <;> intro hc) <;> refine KO_nil ⟨⟨by (first | exact True.intro | exact Or.inl rfl | exact Or.inr rfl | exact Or.inr (congrArg some (blkOf_elA _ _ _ _)) | exact ⟨Or.inl rfl, rfl⟩ | exact ⟨Or.inr rfl, rfl⟩), rfl⟩, ?_⟩)) <;> (refine KX_cons ?_; (first | (refine vl ?_ <;> refine KO_nil ⟨⟨by (first | exact True.intro | exact Or.inl rfl | exact Or.inr rfl | exact Or.inr (congrArg some (blkOf_elA _ _ _ _)) | exact ⟨Or.inl rfl, rfl⟩ | exact ⟨Or.inr rfl, rfl⟩), rfl⟩, ?_⟩)); refine KX_cons ?_; (first | (refine mv ?_ <;> refine KO_nil ⟨⟨by (first | exact True.intro | exact Or.inl rfl | exact Or.inr rfl | exact Or.inr (congrArg some (blkOf_elA _ _ _ _)) | exact ⟨Or.inl rfl, rfl⟩ | exact ⟨Or.inr rfl, rfl⟩), rfl⟩, ?_⟩)); refine KX_cons ?_; (first | (refine off ?_; refine KO_nil ⟨⟨by (first | exact True.intro | exact Or.inl rfl | exact Or.inr rfl | exact Or.inr (congrArg some (blkOf_elA _ _ _ _)) | exact ⟨Or.inl rfl, rfl⟩ | exact ⟨Or.inr rfl, rfl⟩), rfl⟩, ?_⟩) | (refine mv ?_ <;> refine KO_nil ⟨⟨by (first | exact True.intro | exact Or.inl rfl | exact Or.inr rfl | exact Or.inr (congrArg some (blkOf_elA _ _ _ _)) | exact ⟨Or.inl rfl, rfl⟩ | exact ⟨Or.inr rfl, rfl⟩), rfl⟩, ?_⟩)); (first | (refine KX_cons ?_; refine off ?_; refine KO_nil ⟨⟨True.intro, by show keepsX _ _ _ _ _; simp [keepsX]⟩, ?_⟩; refine KX_cons ?_; (first | (refine off ?_; refine KO_nil ⟨⟨by (first | exact True.intro | exact Or.inl rfl | exact Or.inr rfl | exact Or.inr (congrArg some (blkOf_elA _ _ _ _)) | exact ⟨Or.inl rfl, rfl⟩ | exact ⟨Or.inr rfl, rfl⟩), rfl⟩, ?_⟩) | (refine lB S rfl rfl ?_ <;> refine KO_nil ⟨⟨by (first | exact True.intro | exact Or.inl rfl | exact Or.inr rfl | exact Or.inr (congrArg some (blkOf_elA _ _ _ _)) | exact ⟨Or.inl rfl, rfl⟩ | exact ⟨Or.inr rfl, rfl⟩), rfl⟩, ?_⟩) | (refine lES2 S rfl rfl ?_ <;> refine KO_nil ⟨⟨by (first | exact True.intro | exact Or.inl rfl | exact Or.inr rfl | exact Or.inr (congrArg some (blkOf_elA _ _ _ _)) | exact ⟨Or.inl rfl, rfl⟩ | exact ⟨Or.inr rfl, rfl⟩), rfl⟩, ?_⟩) | (refine lEB S ?_ <;> refine KO_nil ⟨⟨by (first | exact True.intro | exact Or.inl rfl | exact Or.inr rfl | exact Or.inr (congrArg some (blkOf_elA _ _ _ _)) | exact ⟨Or.inl rfl, rfl⟩ | exact ⟨Or.inr rfl, rfl⟩), rfl⟩, ?_⟩) | (refine lH S ?_ <;> refine KO_nil ⟨⟨by (first | exact True.intro | exact Or.inl rfl | exact Or.inr rfl | exact Or.inr (congrArg some (blkOf_elA _ _ _ _)) | exact ⟨Or.inl rfl, rfl⟩ | exact ⟨Or.inr rfl, rfl⟩), rfl⟩, ?_⟩)); (first | (refine KX_cons ?_; refine off ?_; refine KO_nil ⟨⟨True.intro, by show keepsX _ _ _ _ _; simp [keepsX]⟩, ?_⟩; refine KX_cons ?_; (first | (refine vl ?_ <;> refine KO_nil ⟨⟨by (first | exact True.intro | exact Or.inl rfl | exact Or.inr rfl | exact Or.inr (congrArg some (blkOf_elA _ _ _ _)) | exact ⟨Or.inl rfl, rfl⟩ | exact ⟨Or.inr rfl, rfl⟩), rfl⟩, ?_⟩)); refine KX_cons ?_; (first | (refine mv ?_ <;> refine KO_nil ⟨⟨by (first | exact True.intro | exact Or.inl rfl | exact Or.inr rfl | exact Or.inr (congrArg some (blkOf_elA _ _ _ _)) | exact ⟨Or.inl rfl, rfl⟩ | exact ⟨Or.inr rfl, rfl⟩), rfl⟩, ?_⟩)); (first | (refine KX_cons ?_; refine off ?_; refine KO_nil ⟨⟨True.intro, by show keepsX _ _ _ _ _; simp [keepsX]⟩, ?_⟩; refine KX_cons ?_; (first | (refine vl ?_ <;> refine KO_nil ⟨⟨by (first | exact True.intro | exact Or.inl rfl | exact Or.inr rfl | exact Or.inr (congrArg some (blkOf_elA _ _ _ _)) | exact ⟨Or.inl rfl, rfl⟩ | exact ⟨Or.inr rfl, rfl⟩), rfl⟩, ?_⟩)); refine KX_cons ?_; (first | (refine mv ?_ <;> refine KO_nil ⟨⟨by (first | exact True.intro | exact Or.inl rfl | exact Or.inr rfl | exact Or.inr (congrArg some (blkOf_elA _ _ _ _)) | exact ⟨Or.inl rfl, rfl⟩ | exact ⟨Or.inr rfl, rfl⟩), rfl⟩, ?_⟩)); refine KX_nil ?_) | skip)) | skip)) | skip)))
      ((refine KX_cons ?_; first | refine KO_fn rfl rfl rfl rfl rfl ((roll_ok S.wf S.bkRd H).mono ?_)); rintro _ h ⟨rv, rfl, hus, x⟩) <;> ((refine KO_nil ⟨⟨True.intro, ?_⟩, ?_⟩; (focus ((show keepsX _ _ _ _ _; simp only [keepsX]; (repeat' (first | exact True.intro | refine And.intro ?_ ?_)); all_goals (intro hw; first | exact True.intro | exact rfl | exact x.ext.old _ S.bB | exact x.ext.old _ (S.bR (by first | omega | grind)) | exact x.ext.old _ (S.bX (by assumption) (by assumption) (by first | omega | grind)) | exact x.ext.old _ (S.bY (by assumption) (by assumption)) | (refine x.ext.old _ ?_; assumption) | exact absurd hw (by decide +kernel)))))); replace S := S.join x; clear x; dsimp only [rolL, List.cons_append, List.nil_append] at S; refine KX_cons ?_; (first | (refine off ?_; refine KO_nil ⟨⟨by (first | exact True.intro | exact Or.inl rfl | exact Or.inr rfl | exact Or.inr (congrArg some (blkOf_elA _ _ _ _)) | exact ⟨Or.inl rfl, rfl⟩ | exact ⟨Or.inr rfl, rfl⟩), rfl⟩, ?_⟩) | (refine lB S rfl rfl ?_ <;> refine KO_nil ⟨⟨by (first | exact True.intro | exact Or.inl rfl | exact Or.inr rfl | exact Or.inr (congrArg some (blkOf_elA _ _ _ _)) | exact ⟨Or.inl rfl, rfl⟩ | exact ⟨Or.inr rfl, rfl⟩), rfl⟩, ?_⟩) | (refine lES2 S rfl rfl ?_ <;> refine KO_nil ⟨⟨by (first | exact True.intro | exact Or.inl rfl | exact Or.inr rfl | exact Or.inr (congrArg some (blkOf_elA _ _ _ _)) | exact ⟨Or.inl rfl, rfl⟩ | exact ⟨Or.inr rfl, rfl⟩), rfl⟩, ?_⟩) | (refine lEB S ?_ <;> refine KO_nil ⟨⟨by (first | exact True.intro | exact Or.inl rfl | exact Or.inr rfl | exact Or.inr (congrArg some (blkOf_elA _ _ _ _)) | exact ⟨Or.inl rfl, rfl⟩ | exact ⟨Or.inr rfl, rfl⟩), rfl⟩, ?_⟩) | (refine lH S ?_ <;> refine KO_nil ⟨⟨by (first | exact True.intro | exact Or.inl rfl | exact Or.inr rfl | exact Or.inr (congrArg some (blkOf_elA _ _ _ _)) | exact ⟨Or.inl rfl, rfl⟩ | exact ⟨Or.inr rfl, rfl⟩), rfl⟩, ?_⟩)); (first | (refine KX_cons ?_; refine off ?_; refine KO_nil ⟨⟨True.intro, by show keepsX _ _ _ _ _; simp [keepsX]⟩, ?_⟩; refine KX_cons ?_; (first | (refine vl ?_ <;> refine KO_nil ⟨⟨by (first | exact True.intro | exact Or.inl rfl | exact Or.inr rfl | exact Or.inr (congrArg some (blkOf_elA _ _ _ _)) | exact ⟨Or.inl rfl, rfl⟩ | exact ⟨Or.inr rfl, rfl⟩), rfl⟩, ?_⟩)); refine KX_cons ?_; (first | (refine mv ?_ <;> refine KO_nil ⟨⟨by (first | exact True.intro | exact Or.inl rfl | exact Or.inr rfl | exact Or.inr (congrArg some (blkOf_elA _ _ _ _)) | exact ⟨Or.inl rfl, rfl⟩ | exact ⟨Or.inr rfl, rfl⟩), rfl⟩, ?_⟩)); (first | (refine KX_cons ?_; refine off ?_; refine KO_nil ⟨⟨True.intro, by show keepsX _ _ _ _ _; simp [keepsX]⟩, ?_⟩; refine KX_cons ?_; (first | (refine vl ?_ <;> refine KO_nil ⟨⟨by (first | exact True.intro | exact Or.inl rfl | exact Or.inr rfl | exact Or.inr (congrArg some (blkOf_elA _ _ _ _)) | exact ⟨Or.inl rfl, rfl⟩ | exact ⟨Or.inr rfl, rfl⟩), rfl⟩, ?_⟩)); refine KX_cons ?_; (first | (refine mv ?_ <;> refine KO_nil ⟨⟨by (first | exact True.intro | exact Or.inl rfl | exact Or.inr rfl | exact Or.inr (congrArg some (blkOf_elA _ _ _ _)) | exact ⟨Or.inl rfl, rfl⟩ | exact ⟨Or.inr rfl, rfl⟩), rfl⟩, ?_⟩)); refine KX_nil ?_) | skip)) | skip))
      ((refine KX_cons ?_; first | refine KO_fn rfl rfl rfl rfl rfl ((sameRoll_ok S.wf rv ⟨vg, vt, gs⟩ r r (Hs.rlOk (v := rv) S hus hR1 hR2 hR3) (HR.ext w S.ext)).mono ?_)); rintro _ h ⟨⟨rfl, z⟩ | ⟨rfl, z⟩, x⟩) <;> ((refine KO_nil ⟨⟨True.intro, ?_⟩, ?_⟩; (focus ((show keepsX _ _ _ _ _; simp only [keepsX]; (repeat' (first | exact True.intro | refine And.intro ?_ ?_)); all_goals (intro hw; first | exact True.intro | exact rfl | exact x.ext.old _ S.bB | exact x.ext.old _ (S.bR (by first | omega | grind)) | exact x.ext.old _ (S.bX (by assumption) (by assumption) (by first | omega | grind)) | exact x.ext.old _ (S.bY (by assumption) (by assumption)) | (refine x.ext.old _ ?_; assumption) | exact absurd hw (by decide +kernel)))))); replace S := S.join0 x; clear x; refine KX_cons ?_; (first | (refine vl ?_ <;> refine KO_nil ⟨⟨by (first | exact True.intro | exact Or.inl rfl | exact Or.inr rfl | exact Or.inr (congrArg some (blkOf_elA _ _ _ _)) | exact ⟨Or.inl rfl, rfl⟩ | exact ⟨Or.inr rfl, rfl⟩), rfl⟩, ?_⟩)); refine KX_cons ?_; (first | (refine mv ?_ <;> refine KO_nil ⟨⟨by (first | exact True.intro | exact Or.inl rfl | exact Or.inr rfl | exact Or.inr (congrArg some (blkOf_elA _ _ _ _)) | exact ⟨Or.inl rfl, rfl⟩ | exact ⟨Or.inr rfl, rfl⟩), rfl⟩, ?_⟩)); (first | (refine KX_cons ?_; refine off ?_; refine KO_nil ⟨⟨True.intro, by show keepsX _ _ _ _ _; simp [keepsX]⟩, ?_⟩; refine KX_cons ?_; (first | (refine vl ?_ <;> refine KO_nil ⟨⟨by (first | exact True.intro | exact Or.inl rfl | exact Or.inr rfl | exact Or.inr (congrArg some (blkOf_elA _ _ _ _)) | exact ⟨Or.inl rfl, rfl⟩ | exact ⟨Or.inr rfl, rfl⟩), rfl⟩, ?_⟩)); refine KX_cons ?_; (first | (refine mv ?_ <;> refine KO_nil ⟨⟨by (first | exact True.intro | exact Or.inl rfl | exact Or.inr rfl | exact Or.inr (congrArg some (blkOf_elA _ _ _ _)) | exact ⟨Or.inl rfl, rfl⟩ | exact ⟨Or.inr rfl, rfl⟩), rfl⟩, ?_⟩)); refine KX_nil ?_) | skip))
      all_goals first | exact absurd rfl z | skip
      ((refine KX_cons ?_; first | refine KO_fn rfl rfl rfl rfl rfl ((awake_okS S.wf).mono ?_)); rintro _ h ⟨rfl, x⟩) <;> ((refine KO_nil ⟨⟨True.intro, ?_⟩, ?_⟩; (focus ((show keepsX _ _ _ _ _; simp only [keepsX]; (repeat' (first | exact True.intro | refine And.intro ?_ ?_)); all_goals (intro hw; first | exact True.intro | exact rfl | exact x.ext.old _ S.bB | exact x.ext.old _ (S.bR (by first | omega | grind)) | exact x.ext.old _ (S.bX (by assumption) (by assumption) (by first | omega | grind)) | exact x.ext.old _ (S.bY (by assumption) (by assumption)) | (refine x.ext.old _ ?_; assumption) | exact absurd hw (by decide +kernel)))))); replace S := S.join0 x; clear x; refine KX_cons ?_; (first | (refine vl ?_ <;> refine KO_nil ⟨⟨by (first | exact True.intro | exact Or.inl rfl | exact Or.inr rfl | exact Or.inr (congrArg some (blkOf_elA _ _ _ _)) | exact ⟨Or.inl rfl, rfl⟩ | exact ⟨Or.inr rfl, rfl⟩), rfl⟩, ?_⟩)); refine KX_cons ?_; (first | (refine mv ?_ <;> refine KO_nil ⟨⟨by (first | exact True.intro | exact Or.inl rfl | exact Or.inr rfl | exact Or.inr (congrArg some (blkOf_elA _ _ _ _)) | exact ⟨Or.inl rfl, rfl⟩ | exact ⟨Or.inr rfl, rfl⟩), rfl⟩, ?_⟩)); refine KX_nil ?_)
      all_goals (repeat' (first | refine K_seq ?_ | refine k_cond rfl ?_ | refine K_skip ?_ | refine K_exit ?_ | refine k_block ?_ | refine K_scope ?_ | refine K_label ?_ | (refine K_region (id := 17) ?_; refine mv ?_; refine KO_nil ?_)))
      refine K_ret ⟨_, rfl, ?_⟩
      rfl
      all_goals (exfalso; apply hc; show ((ts.length : Int) - ((ts.filter (keepT ncN)).length : Int)) = n; omega)
end Go.Proofs.Xx

/-
  The core of BookLeaves.
-/
namespace Go.Proofs.Xx
open Go Go.Proofs
set_option linter.unusedSimpArgs false
set_option linter.unusedVariables false
set_option linter.unusedSectionVars false
set_option maxRecDepth 100000

theorem bookLeaves_core [Flag] (h : AH) (us : List Value) (w : WfH h) (a : ArgsR Tryz.prog h Tryz.f8.params.toList us) : Fn Tryz.prog Xh 8 us h (fun x _ => x = .bool true) := by
  rw [show Tryz.f8.params.toList = [37, 38, 38] by kernel_rfl] at a
  obtain ⟨n0, r0, us, rfl, a0, a⟩ := a.cons_inv
  obtain ⟨n1, r1, us, rfl, a1, a⟩ := a.cons_inv
  obtain ⟨n2, r2, us, rfl, a2, a⟩ := a.cons_inv
  obtain rfl := a.nil_inv
  obtain ⟨va, la, rfl, ra, la1, ca, la2⟩ := a0.e16s
  obtain ⟨vb, lb, rfl, rb, lb1, -, lb2⟩ := a1.e8s
  obtain ⟨vc, lc, rfl, rc, lc1, -, lc2⟩ := a2.e8s
  unfold maxLen at la1 lb1 lc1
  exact bookLeaves_true w va vb vc la lb lc ra ca rb rc (by omega) (by omega) (by omega) la2 lb2 lc2
end Go.Proofs.Xx

/-
  What lies in every world that fits: a number for the longest needle of a quick search; the functions that are known.
-/
namespace Go.Proofs.Xx
open Go Go.RowKit Go.Proofs
theorem Xh_none [Flag] (f : FuncId) (h1 : f ≠ 19) (h2 : f ≠ 203) (h3 : f ≠ 182) (h4 : f ≠ 222) (h5 : f ≠ 184) (h6 : f ≠ 194) (h7 : f ≠ 135) (h8 : f ≠ 187) (h9 : f ≠ 88) (us : List Value) (h : AH) : Xh f us h = none := by
  have e : ∀ n, f ≠ n → Nat.beq f n = false := fun n q => by rw [Bool.eq_false_iff]; intro q'; exact q (Nat.eq_of_beq_eq_true q')
  unfold Xh withDigits withKnown Xd withIns X0 withIdx withOvl withCmp withBytes externNoEscape
  simp only [e _ h1, e _ h2, e _ h3, e _ h4, e _ h5, e _ h6, e _ h7, e _ h8, e _ h9]
theorem max_there {W : World} (h : W.ShapedOpen Tryz.prog) : 1 < W.heap.size ∧ ∃ m el fr, W.heap[0]? = some (.cells #[.int .i64 m] el fr) := by
  have h0 : ((begin Tryz.prog (fun _ _ => 0) default).world.heap[0]?).bind Obj.row? = some (#[.int .i64 0], 3) := by kernel_rfl
  obtain ⟨m, hm⟩ := cell_of_shapedOpen_int h (g := 0) (t := 3) (of_decide_eq_true (by kernel_rfl)) h0 rfl (by kernel_rfl) (by kernel_rfl) Tryz.underlying3
  obtain ⟨cs, hh, hs, -⟩ := h.1 0 _ 3 (of_decide_eq_true (by kernel_rfl)) h0
  refine ⟨?_, m, 3, (0, 0), ?_⟩
  · have h1 : (((begin Tryz.prog (fun _ _ => 0) default).world.heap[1]?).bind Obj.row?).isSome = true := by kernel_rfl
    obtain ⟨⟨z, t⟩, h1⟩ := Option.isSome_iff_exists.1 h1
    obtain ⟨cs, hh, -⟩ := h.1 1 z t (of_decide_eq_true (by kernel_rfl)) h1
    exact (Array.getElem?_eq_some_iff.1 hh).1
  · rw [hh]
    have : cs = #[.int .i64 m] := by
      simp only [World.cell?, hh] at hm
      obtain ⟨l⟩ := cs
      match l, hs, hm with
      | [x], _, hm => simp at hm; rw [hm]
      | [], hs, _ => cases hs
      | _ :: _ :: _, hs, _ => simp at hs
    rw [this]
theorem cells_there {W : World} (h : W.ShapedOpen Tryz.prog) : ∃ (k : Nat) (cc : Array Value) (el : TypeId) (fr : Nat × Nat), W.heap[k]? = some (.cells cc el fr) := by
  obtain ⟨-, m, el, fr, q⟩ := max_there h
  exact ⟨0, _, el, fr, q⟩
theorem glob_there [Flag] (hf : Flag.b = false) {W : World} (h : W.ShapedOpen Tryz.prog) : Glob.ok W.heap.size W.heap :=
  ⟨(max_there h).1, (max_there h).2, fun q => (by rw [hf] at q; cases q)⟩
end Go.Proofs.Xx
