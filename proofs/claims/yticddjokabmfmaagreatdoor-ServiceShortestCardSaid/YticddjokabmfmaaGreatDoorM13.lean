/-
  Rows with room, op by op; Delete; Untie.
-/
import Derived.Test.YticddjokabmfmaaGreatDoorM7
import Derived.Test.YticddjokabmfmaaGreatDoorM12
import Derived.Test.YticddjokabmfmaaGreatDoorM10
import Derived.Below
import Derived.ChangeSame
import Derived.ChangeArms
import Derived.OpenShut
import Derived.Test.YticddjokabmfmaaGreatDoorM4
import Derived.Test.YticddjokabmfmaaGreatDoorM3
import Derived.WideShapes
import Derived.ChangeShapes
import Derived.Test.YticddjokabmfmaaGreatDoorM5

namespace Go.Proofs.Xx
open Go Go.Proofs
set_option linter.unusedSimpArgs false
set_option linter.unusedVariables false
set_option linter.unusedSectionVars false
set_option maxRecDepth 100000
set_option maxHeartbeats 4000000

/-- One block is changed at most, blocks are made at most. -/
structure Chg (h h' : AH) (b : Nat) (o : AObj) : Prop where
  at_ : h'.get b = some o
  old : ∀ j, j ≠ b → j < h.next → h'.get j = h.get j
  next : h.next ≤ h'.next
  wf : WfH h'
theorem Chg.trans {h h' h'' : AH} {b : Nat} {o o' : AObj} (c : Chg h h' b o) (d : Chg h' h'' b o') : Chg h h'' b o' :=
  ⟨d.at_, fun j hj hn => (d.old j hj (Nat.lt_of_lt_of_le hn c.next)).trans (c.old j hj hn), Nat.le_trans c.next d.next, d.wf⟩
theorem splice_nil {c : List Value} {o : Nat} (h : o ≤ c.length) : splice c o [] = c := by simp [splice]
section
variable {P : Program} {X : Extern} {sz : Nat} {L L' : Ks} {h : AH} {ops : Array Oper} {os : List Oper} {o : Oper} {R : Ks → AH → Prop}
/-- v[l:r:m], which nothing looks at. -/
theorem rw3 {x lo hi mx : Operand} {vl vr vm : Value} {ty e' e : TypeId} {b o' n cap l r m z : Nat} {cc : List Value} {slk : Option Nat} {ro : Bool} (hb : h.get b = some (.cells cc e slk ro)) (wf : WfH h)
    (w : ∀ h', Chg h h' b (.cells cc e slk ro) → KO P X sz ops os L' h' R) (ho : o.op = .slice ty x (some lo) (some hi) (some mx) := by exact rfl) (hg : guardA ops L.tree o.guard = some true := by exact rfl) (hx : kA L x = some (.slice (some ⟨b, o', none⟩) n cap) := by exact rfl)
    (h1 : kA L lo = some vl := by exact rfl) (h2 : kA L hi = some vr := by exact rfl) (h3 : kA L mx = some vm := by exact rfl) (b1 : boundOf (some vl) 0 = some l := by exact rfl) (b2 : boundOf (some vr) n = some r := by exact rfl) (b3 : boundOf (some vm) cap = some m := by exact rfl)
    (hc : l ≤ r ∧ r ≤ m ∧ m ≤ cap := by omega) (hu : P.underlying ty = some (.slice e') := by exact rfl) (hz : sizeT P e' = some z := by exact rfl) (hp : putK sz L o.dst (.slice (some ⟨h.next, 0, none⟩) (r - l) (m - l)) = some L' := by exact rfl) : KO P X sz ops (o :: os) L h R := by
  refine KO_val (v := .slice (some ⟨h.next, 0, none⟩) (r - l) (m - l)) (h' := { tr := h.tr, next := h.next + 1, low := lowest h.low b }) hg ?_ hp (w _ ⟨hb, fun j _ _ => rfl, Nat.le_succ _, fun j hj => wf j (Nat.le_of_succ_le hj)⟩)
  rw [ho]
  simp only [aOp, tree_le hx, evOpt, tree_le h1, tree_le h2, tree_le h3, aSlice3, hu, hb, hz, b1, b2, b3, Nat.ble_eq_true_of_le hc.1, Nat.ble_eq_true_of_le hc.2.1, Nat.ble_eq_true_of_le hc.2.2, Bool.and_self]
/-- v[l:r], raw. -/
theorem rw2 {x : Operand} {lo hi : Option Operand} {vl vr : Option Value} {ty e' e : TypeId} {b o' n cap l r z : Nat} {cc : List Value} {slk : Option Nat} {ro : Bool} {d : Tmp} (hb : h.get b = some (.cells cc e slk ro))
    (w : ∀ o2, (l < cap → o2 = o' + l * z) → (slk ≠ none → o2 = o' + l * z) → KO P X sz ops os (L.put d (.slice (some ⟨b, o2, none⟩) (r - l) (cap - l))) h R) (ho : o.op = .slice ty x lo hi none := by exact rfl) (hg : guardA ops L.tree o.guard = some true := by exact rfl) (hx : kA L x = some (.slice (some ⟨b, o', none⟩) n cap) := by exact rfl)
    (h1 : evOpt L.tree lo = some vl := by exact rfl) (h2 : evOpt L.tree hi = some vr := by exact rfl) (b1 : boundOf vl 0 = some l := by exact rfl) (b2 : boundOf vr n = some r := by exact rfl)
    (hc : l ≤ r ∧ r ≤ cap := by omega) (hu : P.underlying ty = some (.slice e') := by exact rfl) (hz : sizeT P e' = some z := by exact rfl) (hdst : o.dst = some d := by exact rfl) (hds : Nat.blt d sz = true := by exact rfl) : KO P X sz ops (o :: os) L h R := by
  have key : ∀ o2, aSlice P ty (.slice (some ⟨b, o', none⟩) n cap) vl vr none h = some (.slice (some ⟨b, o2, none⟩) (r - l) (cap - l)) → (l < cap → o2 = o' + l * z) → (slk ≠ none → o2 = o' + l * z) → KO P X sz ops (o :: os) L h R := fun o2 q1 q2 q3 => by
    refine KO_val (v := .slice (some ⟨b, o2, none⟩) (r - l) (cap - l)) (h' := h) hg ?_ (by simp only [putK, hdst, hds]) (w o2 q2 q3)
    rw [ho]
    simp only [aOp, tree_le hx, h1, h2, show evOpt L.tree none = some none from rfl, q1, nextOf, aSlice3_none]
  cases hq : slk.isNone && Nat.beq l cap with
  | true =>
    rw [Bool.and_eq_true] at hq
    have hl := Nat.eq_of_beq_eq_true hq.2
    subst hl
    refine key o' ?_ (fun q => by omega) (fun q => by cases slk with | none => exact absurd rfl q | some k => cases hq.1)
    simp only [aSlice, hu, hb, hz, b1, b2, Nat.ble_eq_true_of_le hc.1, Nat.ble_eq_true_of_le hc.2, Bool.and_self, hq.1, show Nat.beq l l = true by simp]
  | false =>
    refine key (o' + l * z) ?_ (fun _ => rfl) (fun _ => rfl)
    simp only [aSlice, hu, hb, hz, b1, b2, Nat.ble_eq_true_of_le hc.1, Nat.ble_eq_true_of_le hc.2, Bool.and_self, hq]
/-- append where there is room. -/
theorem rwa {x y : Operand} {ts tx e e2 : TypeId} {zc new cc : List Value} {by_ b o' n cap m z : Nat} {slk : Option Nat} {u : Value} {d : Tmp} (hb : h.get b = some (.cells cc e2 slk false)) (wf : WfH h) (hr : Rd h u z m new)
    (w : ∀ h', Chg h h' b (.cells (splice cc (o' + n * z) new) e2 slk false) → KO P X sz ops os (L.put d (.slice (some ⟨b, o', none⟩) (n + m) cap)) h' R)
    (ho : o.op = .call { callee := .builtin .append, args := #[x, y], argTypes := #[ts, tx] } := by exact rfl) (hg : guardA ops L.tree o.guard = some true := by exact rfl) (hx : kA L x = some (.slice (some ⟨b, o', none⟩) n cap) := by exact rfl) (hy : kA L y = some u := by exact rfl)
    (hs : sliceElem P ts = some e := by exact rfl) (hz : zeroCellsT P e = some zc := by exact rfl) (hzl : zc.length = z := by exact rfl) (hby : bytesT P e = some (by_ + 1) := by exact rfl) (hxs : P.underlying tx = some (.slice e) := by exact rfl)
    (hc : n + m ≤ cap := by omega) (hcc : o' + cap * z ≤ cc.length := by assumption) (h1 : new.all one? = true := by assumption) (hsz : (m + 1) * (by_ + 1) ≤ 140737488355328 := by omega) (hdst : o.dst = some d := by exact rfl) (hds : Nat.blt d sz = true := by exact rfl) : KO P X sz ops (o :: os) L h R := by
  subst hzl
  have hlen := hr.length
  have hfit : o' + n * zc.length + new.length ≤ cc.length := by
    rw [hlen, Nat.add_assoc, ← Nat.add_mul]
    exact Nat.le_trans (Nat.add_le_add_left (Nat.mul_le_mul_right _ hc) _) hcc
  have k2 : Nat.beq new.length (m * zc.length) = true := by rw [hlen]; simp
  have hsrc : aSource zc.length u h = some (m, new) := hr.source
  have go : ∀ h', aAppend P [ts, tx] (.slice (some ⟨b, o', none⟩) n cap) u h = some (.slice (some ⟨b, o', none⟩) (n + m) cap, h') → Chg h h' b (.cells (splice cc (o' + n * zc.length) new) e2 slk false) → KO P X sz ops (o :: os) L h R := fun h' q1 q2 => by
    refine KO_val (v := .slice (some ⟨b, o', none⟩) (n + m) cap) (h' := h') hg ?_ (by simp only [putK, hdst, hds]) (w h' q2)
    rw [ho]
    simp [aOp, tree_le hx, tree_le hy, evAll, aBuiltin, q1, nextOf2]
  cases m with
  | zero =>
    have hn : new = [] := List.length_eq_zero_iff.1 (by omega)
    subst hn
    refine go h ?_ ⟨by rw [splice_nil (by simp at hfit; omega)]; exact hb, fun _ _ _ => rfl, Nat.le_refl _, wf⟩
    simp only [aAppend, hs, hxs, hz, hby, hsrc, Nat.ble_eq_true_of_le hsz, h1, k2, Bool.and_self, hb, Nat.ble_eq_true_of_le (show n ≤ cap from hc), Nat.add_zero]
  | succ m =>
    refine go (h.put b (.cells (splice cc (o' + n * zc.length) new) e2 slk false)) ?_ ⟨by rw [AH.get_put, if_pos rfl], fun j hj _ => by rw [AH.get_put, if_neg hj], Nat.le_refl _, wf.put (wf.lt hb) _⟩
    simp only [aAppend, hs, hxs, hz, hby, hsrc, Nat.ble_eq_true_of_le hsz, h1, k2, Bool.and_self, hb, Nat.ble_eq_true_of_le hc, putCells, Nat.ble_eq_true_of_le hfit]
/-- clear. -/
theorem zrow_len (zc : List Value) : ∀ n, (zeroRow zc n).length = n * zc.length
  | 0 => by simp [zeroRow]
  | n + 1 => by rw [zeroRow, List.length_append, zrow_len zc n, Nat.add_mul, Nat.one_mul, Nat.add_comm]
theorem zrow_one {zc : List Value} (h : zc.all one? = true) : ∀ n, (zeroRow zc n).all one? = true
  | 0 => rfl
  | n + 1 => by rw [zeroRow, List.all_append, h, zrow_one h n]; rfl
theorem rwc {x : Operand} {ty e e2 : TypeId} {zc cc : List Value} {b o' n cap : Nat} {slk : Option Nat} (hb : h.get b = some (.cells cc e2 slk false)) (wf : WfH h)
    (w : ∀ h', Chg h h' b (.cells (splice cc o' (zeroRow zc n)) e2 slk false) → KO P X sz ops os L' h' R)
    (ho : o.op = .call { callee := .builtin .clear, args := #[x], argTypes := #[ty] } := by exact rfl) (hg : guardA ops L.tree o.guard = some true := by exact rfl) (hx : kA L x = some (.slice (some ⟨b, o', none⟩) n cap) := by exact rfl)
    (hu : P.underlying ty = some (.slice e) := by exact rfl) (hz : zeroCellsT P e = some zc := by exact rfl) (h1 : zc.all one? = true := by exact rfl) (hfit : o' + n * zc.length ≤ cc.length := by omega) (hp : putK sz L o.dst (.tuple #[]) = some L' := by exact rfl) : KO P X sz ops (o :: os) L h R := by
  have go : ∀ h', aClear P ty (.slice (some ⟨b, o', none⟩) n cap) h = some h' → Chg h h' b (.cells (splice cc o' (zeroRow zc n)) e2 slk false) → KO P X sz ops (o :: os) L h R := fun h' q1 q2 => by
    refine KO_val (v := .tuple #[]) (h' := h') hg ?_ hp (w h' q2)
    rw [ho]
    simp [aOp, tree_le hx, evAll, aBuiltin, q1]
  have hfit2 : o' + (zeroRow zc n).length ≤ cc.length := by rw [zrow_len]; exact hfit
  cases n with
  | zero =>
    refine go h ?_ ⟨by show _ = some (AObj.cells (splice cc o' []) e2 slk false); rw [splice_nil (by omega)]; exact hb, fun _ _ _ => rfl, Nat.le_refl _, wf⟩
    simp only [aClear, hu]
  | succ n =>
    refine go (h.put b (.cells (splice cc o' (zeroRow zc (n + 1))) e2 slk false)) ?_ ⟨by rw [AH.get_put, if_pos rfl], fun j hj _ => by rw [AH.get_put, if_neg hj], Nat.le_refl _, wf.put (wf.lt hb) _⟩
    simp only [aClear, hu, hz, hb, putCells, zrow_one h1, Nat.ble_eq_true_of_le hfit2, Bool.and_self]
end
/-- What stands in a row when a piece is taken out and the end is cleared. -/
theorem del_get {cc old zr : List Value} {s a b z n : Nat} (ho : ∀ j, j < n → cc[s + j]? = old[j]?) (hn : old.length = n) (hab : a ≤ b ∧ b ≤ n) (hz : zr.length = b - a) (hs : s + n ≤ cc.length) :
    ∀ j, j < a + (n - b) → (splice (splice cc (s + a) (old.drop b)) (s + (a + (n - b))) zr)[s + j]? = (old.take a ++ old.drop b)[j]? := by
  intro j hj
  have l1 : s + a + (old.drop b).length ≤ cc.length := by rw [List.length_drop]; omega
  have l2 : (splice cc (s + a) (old.drop b)).length = cc.length := splice_length _ _ _ l1
  have hd : (old.drop b).length = n - b := by rw [List.length_drop, hn]
  have ht : (old.take a).length = a := by rw [List.length_take]; omega
  rw [splice_get _ _ _ (by rw [l2]; omega), splice_get _ _ _ l1, if_pos (by omega), List.getElem?_append, ht]
  by_cases h1 : j < a
  · rw [if_pos (by omega), if_pos h1, List.getElem?_take, if_pos h1, ho j (by omega)]
  · rw [if_neg (by omega), if_pos (by omega), if_neg h1]
    congr 1; omega
theorem takeAt_ext {c xs : List Value} {o n : Nat} (hl : xs.length = n) (hfit : o + n ≤ c.length) (hg : ∀ j, j < n → c[o + j]? = xs[j]?) : takeAt c o n = some xs := by
  rw [takeAt_mk hfit]
  congr 1
  apply List.ext_getElem?
  intro j
  rw [List.getElem?_take]
  split
  · rw [List.getElem?_drop]; exact hg j (by assumption)
  · rw [List.getElem?_eq_none (by omega)]
end Go.Proofs.Xx

/-
  An element of a list of numbers is deleted.
-/
namespace Go.Proofs.Xx
open Go Go.Proofs
set_option linter.unusedSimpArgs false
set_option linter.unusedVariables false
set_option linter.unusedSectionVars false
set_option maxRecDepth 100000
set_option maxHeartbeats 4000000

theorem delI_ok {h0 h : AH} {rs : List Rs} {v : SlV} {l : List Int} (i : Nat) (hi : i < l.length) (hl : l.length ≤ 1000000) (S : Hs h0 h (.sl v.val 3 1 eI l :: rs)) :
    Fn Tryz.prog Xh 50 [v.val, .int .i64 i, .int .i64 ((i : Int) + 1)] h (fun u h' => Hs h0 h' (.sl u 3 1 eI (l.take i ++ l.drop (i + 1)) :: rs)) := by
  have S0 := S
  obtain ⟨f1, k1, k2, k3⟩ := S.sep
  have hr := Rd.of_sl S .here
  rcases k1 with ⟨-, rfl⟩ | ⟨b, o, cc, slk, cap, e1, g1, fb, t1, c1, s1⟩
  · simp at hi
  rw [e1] at hr ⊢
  have hb := g1
  have w := S.wf
  have hcc : o + cap * 1 ≤ cc.length := c1.2
  replace S := Hs.start S.wf
  have hfl := flatMap_length (enc := eI) (z := 1) (by intro _; rfl) l
  have hcap := c1.1
  refine Fn_K (by first | rfl | exact KX.no _ _ _ (by decide) rfl) Tryz.func50 rfl rfl ?_
  all_goals (repeat' (first | refine K_seq ?_ | refine k_cond rfl ?_ | refine K_skip ?_ | refine K_exit ?_ | refine k_block ?_ | refine K_scope ?_ | refine K_label ?_ | (refine K_region (id := 0) ?_; refine mv ?_; refine KO_nil ?_) | (refine K_region (id := 1) ?_; refine mv ?_; refine mv ?_; refine mv ?_; refine mv ?_; (first | refine lnB S ?_ | refine lnS S rfl rfl ?_))))
  refine rw3 (l := i) (r := i + 1) (m := l.length) hb w (fun ha ca => ?_)
  have xa : Ext h ha := ⟨ca.next, fun j hj => by
    by_cases q : j = b
    · subst q; rw [ca.at_, hb]
    · exact ca.old j q hj, ca.wf⟩
  have ra := hr.ext w xa
  have wa := ca.wf
  have ba := ca.at_
  clear S
  have S := Hs.start wa
  (refine KO_nil ?_)
  skip
  all_goals (repeat' (first | refine K_seq ?_ | refine k_cond rfl ?_ | refine K_skip ?_ | refine K_exit ?_ | refine k_block ?_ | refine K_scope ?_ | refine K_label ?_ | (refine K_region (id := 2) ?_; refine mv ?_; refine mv ?_; (first | refine cT ?_ | refine cF ?_ | (refine cS ?_ ?_ <;> intro hc)) <;> (refine KO_nil ?_)) | (refine K_region (id := 3) ?_; refine mv ?_; refine mv ?_; refine KO_nil ?_) | (refine K_region (id := 4) ?_; refine mv ?_; (first | refine lnB S ?_ | refine lnS S rfl rfl ?_); refine mv ?_; refine KO_nil ?_) | (refine K_draw (id := 5) ?_; refine mv ?_; refine mv ?_)))
  refine rw2 (l := 0) (r := i) ba (fun o2 q1 _ => ?_)
  rw [show o2 = o by have := q1 (by omega); omega]
  refine mv ?_; refine mv ?_
  refine rw2 (l := i + 1) (r := l.length) ba (fun o3 q3 q4 => ?_)
  have ru : Rd ha (.slice (some ⟨b, o3, none⟩) (l.length - (i + 1)) (cap - (i + 1))) 1 (l.length - (i + 1)) ((l.drop (i + 1)).flatMap eI) := by
    refine .inr ⟨b, o3, _, cc, 3, slk, false, rfl, ba, ?_⟩
    rcases Nat.lt_or_ge (i + 1) cap with z | z
    · have z1 := q3 z
      have z2 : o3 = o + (i + 1) * 1 := z1
      have := takeAt_sub (i := (i + 1) * 1) (m := (l.length - (i + 1)) * 1) t1 (by omega)
      rw [z2, this, flatMap_drop (z := 1) (by intro _; rfl), List.take_of_length_le (by rw [List.length_drop, hfl]; omega)]
    · rw [show l.length - (i + 1) = 0 by omega, List.drop_of_length_le (by omega)]
      rfl
  have hone : ((l.drop (i + 1)).flatMap eI).all one? = true := by
    rw [List.all_eq_true]
    intro x hx
    obtain ⟨y, -, hy⟩ := List.mem_flatMap.1 hx
    simp [eI] at hy
    subst hy; rfl
  refine rwa (z := 1) ba wa ru (fun hd cd => ?_)
  (refine mv ?_; refine KO_nil ?_)
  have hln : l.length - (i - 0 + (l.length - (i + 1))) = 1 := by omega
  (repeat (refine K_seq ?_)); refine K_region (id := 6) ?_; refine mv ?_; refine mv ?_; refine vl ?_; refine mv ?_
  refine rw2 (l := i - 0 + (l.length - (i + 1))) (r := l.length) cd.at_ (fun o4 q5 _ => ?_)
  have q6 := q5 (by omega)
  have hq6 : o4 = o + (i - 0 + (l.length - (i + 1))) * 1 := q6
  have hsl : (splice cc (o + (i - 0) * 1) ((l.drop (i + 1)).flatMap eI)).length = cc.length := splice_length _ _ _ (by rw [flatMap_length (z := 1) (by intro _; rfl), List.length_drop]; omega)
  refine rwc cd.at_ cd.wf (fun he ce => ?_) (hfit := ?_)
  rotate_left
  · rw [hsl]
    show o4 + (l.length - (i - 0 + (l.length - (i + 1)))) * 1 ≤ cc.length
    omega
  (refine KO_nil ?_)
  skip
  all_goals (repeat' (first | refine K_seq ?_ | refine k_cond rfl ?_ | refine K_skip ?_ | refine K_exit ?_ | refine k_block ?_ | refine K_scope ?_ | refine K_label ?_ | (refine K_region (id := 7) ?_; refine mv ?_; refine mv ?_; refine KO_nil ?_)))
  refine K_ret ⟨_, rfl, ?_⟩
  have C := (ca.trans cd).trans ce
  have hm : ∀ a c : Nat, a - 0 + c = a + c := fun a c => by omega
  have hlen : (l.take i ++ l.drop (i + 1)).length = i - 0 + (l.length - (i + 1)) := by rw [List.length_append, List.length_take, List.length_drop]; omega
  have hzl : (zeroRow (Value.int IntKind.i64 0).cells.toList (l.length - (i - 0 + (l.length - (i + 1))))).length = (i + 1) * 1 - i * 1 := by
    rw [zrow_len, hln]; show 1 * 1 = _; omega
  have hdrop := flatMap_drop (enc := eI) (z := 1) (by intro _; rfl) l (i + 1)
  have htake := flatMap_take (enc := eI) (z := 1) (by intro _; rfl) l i
  show Hs h0 he (.sl (.slice (some ⟨b, o, none⟩) (i - 0 + (l.length - (i + 1))) (cap - 0)) 3 1 eI (l.take i ++ l.drop (i + 1)) :: rs)
  refine S0.turn .here C.next C.wf fun fp p1 p2 => ?_
  rcases p1 with ⟨p1, -⟩ | ⟨b2, o2, cc2, sl2, cap2, p1, -, p3, -⟩
  · rw [p1] at e1; cases e1
  obtain rfl : b2 = b := by rw [p1] at e1; cases e1; rfl
  refine ⟨fun j hj hf => C.old j (fun q => by subst q; exact hf p3) hj, fun j => j = b2, .inr ⟨b2, o, _, slk, cap - 0, by rw [hlen], C.at_, rfl, ?_, ⟨by rw [hlen]; omega, ?_⟩, s1⟩, fun j hj => ?_⟩
  · rw [hlen]
    have hg : ∀ j, j < l.length * 1 → cc[o + j]? = (l.flatMap eI)[j]? := fun j hj => takeAt_get t1 hj
    have D := del_get (zr := zeroRow (Value.int IntKind.i64 0).cells.toList (l.length - (i - 0 + (l.length - (i + 1))))) (a := i * 1) (b := (i + 1) * 1) (z := 1) hg hfl (by omega) hzl (by omega)
    rw [hdrop, hq6, Nat.sub_zero, show (i + (l.length - (i + 1))) * 1 = i * 1 + (l.length * 1 - (i + 1) * 1) by omega]
    have e2 : (l.take i ++ l.drop (i + 1)).flatMap eI = (l.flatMap eI).take (i * 1) ++ (l.flatMap eI).drop ((i + 1) * 1) := by rw [List.flatMap_append, htake, hdrop]
    rw [e2]
    rw [Nat.sub_zero] at D
    refine takeAt_ext ?_ ?_ D
    · rw [List.length_append, List.length_take, List.length_drop, hfl]; omega
    · rw [splice_length, splice_length]
      · omega
      · rw [List.length_drop, hfl]; omega
      · rw [splice_length _ _ _ (by rw [List.length_drop, hfl]; omega)]
        have hz2 := hzl
        simp only [Nat.sub_zero] at hz2 ⊢
        rw [hz2]; omega
  · rw [splice_length, hsl]
    · show o + (cap - 0) * 1 ≤ _; omega
    · rw [hsl, hzl]; omega
  · subst hj; exact ⟨C.wf.lt C.at_, .inl p3⟩
end Go.Proofs.Xx

/-
  The least sum of steps that joins all.
-/
namespace Go.Proofs.Xx
open Go Go.Proofs
set_option linter.unusedSimpArgs false
set_option linter.unusedVariables false
set_option linter.unusedSectionVars false
set_option maxRecDepth 100000
set_option maxHeartbeats 4000000

/-- The nearest pair so far. -/
def Bst (d : Int → Int → Int) (L J : List Int) (i k best : Nat) (least : Int) : Prop :=
  (i = 0 ∧ k = 0 ∧ best = 0 ∧ least = -1) ∨ (best < L.length ∧ 0 ≤ least ∧ (∃ u ∈ J, least = d (L.getD best default) u) ∧ (∀ j, j < i → ∀ y ∈ J, least ≤ d (L.getD j default) y) ∧ ∀ m, m < k → least ≤ d (L.getD i default) (J.getD m default))
theorem Bst.new {d : Int → Int → Int} (m : Met d) {L J : List Int} {i k best : Nat} {least : Int} (h : Bst d L J i k best least) (hi : i < L.length) (hk : k < J.length) (hx : least < 0 ∨ d (L.getD i default) (J.getD k default) < least) :
    Bst d L J i (k + 1) i (d (L.getD i default) (J.getD k default)) := by
  refine .inr ⟨hi, m.nn _ _, ⟨_, mem_getD hk, rfl⟩, ?_, ?_⟩
  · rcases h with ⟨rfl, -, -, -⟩ | ⟨-, h2, -, h4, -⟩
    · exact fun j hj => absurd hj (Nat.not_lt_zero _)
    · exact fun j hj y hy => by have := h4 j hj y hy; omega
  · rcases h with ⟨-, rfl, -, -⟩ | ⟨-, h2, -, -, h5⟩
    · intro j hj; rw [show j = 0 by omega]; exact Int.le_refl _
    · exact nxtD (fun j hj => by have := h5 j hj; omega) (Int.le_refl _)
theorem Bst.old {d : Int → Int → Int} {L J : List Int} {i k best : Nat} {least : Int} (h : Bst d L J i k best least) (hx : ¬ least < 0) (hy : ¬ d (L.getD i default) (J.getD k default) < least) : Bst d L J i (k + 1) best least := by
  rcases h with ⟨-, -, -, rfl⟩ | ⟨h1, h2, h3, h4, h5⟩
  · exact absurd (show (-1 : Int) < 0 by omega) hx
  · exact .inr ⟨h1, h2, h3, h4, nxtD h5 (by omega)⟩
theorem Bst.row {d : Int → Int → Int} {L J : List Int} {i best : Nat} {least : Int} (h : Bst d L J i J.length best least) (hJ : J ≠ []) : Bst d L J (i + 1) 0 best least := by
  rcases h with ⟨-, h, -, -⟩ | ⟨h1, h2, h3, h4, h5⟩
  · exact absurd (List.length_eq_zero_iff.1 h) hJ
  · refine .inr ⟨h1, h2, h3, nxtD h4 fun y hy => ?_, fun m hm => absurd hm (Nat.not_lt_zero _)⟩
    obtain ⟨j, hj, rfl⟩ := mem_iff_getD.1 hy
    exact h5 j hj
theorem Bst.fin {d : Int → Int → Int} {L J : List Int} {best : Nat} {least : Int} (h : Bst d L J L.length 0 best least) (hL : 0 < L.length) : best < L.length ∧ 0 ≤ least ∧ ∃ u ∈ J, least = d (L.getD best default) u ∧ ∀ x ∈ L, ∀ y ∈ J, d (L.getD best default) u ≤ d x y := by
  rcases h with ⟨h, -, -, -⟩ | ⟨h1, h2, ⟨u, h3, h4⟩, h5, -⟩
  · omega
  · refine ⟨h1, h2, u, h3, h4, fun x hx y hy => ?_⟩
    obtain ⟨j, hj, rfl⟩ := mem_iff_getD.1 hx
    rw [← h4]; exact h5 j hj y hy
theorem erase_at {l : List Int} (nd : l.Nodup) {i : Nat} (hi : i < l.length) : l.take i ++ l.drop (i + 1) = l.erase (l.getD i default) := by
  induction l generalizing i with
  | nil => cases hi
  | cons x l ih =>
    rw [List.nodup_cons] at nd
    cases i with
    | zero => simp
    | succ i =>
      have hi' : i < l.length := by simpa using hi
      have hm : l.getD i default ∈ l := mem_getD hi'
      have e : (x :: l).getD (i + 1) default = l.getD i default := rfl
      rw [e, List.erase_cons_tail (by simp only [beq_iff_eq]; intro q; rw [← q] at hm; exact nd.1 hm), ← ih nd.2 hi']
      simp
theorem span_ok {h0 : AH} (w : WfH h0) (pv : PbV) (p : Pb) (H : PbOk h0 pv p) (vq : Value) (q : List Int) (rq : RdL h0 vq 1 eI q) (hq : q.length ≤ 9223372036854775807) :
    Fn Tryz.prog Xh 31 [pv.val, vq] h0 (fun u h' => ∃ n, u = .int .i64 n ∧ ((¬ (PO p ∧ PartOk p q) ∧ n = 0) ∨ (PO p ∧ PartOk p q ∧ Prim (stp p.tabs) [-1] (srv (pltV p q)) n)) ∧ Hs h0 h' []) := by
  have S := Hs.start w
  have hr := H.tab.rd
  have hl := H.tab.len
  unfold PbV.val
  refine Fn_K (by first | rfl) Tryz.func31 rfl rfl ?_
  all_goals (repeat' (first | refine K_seq ?_ | (refine K_region (id := 0) ?_; (refine bx S ?_; clear S; intro b h S); refine mv ?_; refine KO_nil ?_)))
  obtain ⟨b2, hnm⟩ : ∃ x, x = b := ⟨_, rfl⟩; subst hnm
  all_goals (repeat' (first | (refine K_region (id := 1) ?_; refine lB S rfl rfl ?_; refine mv ?_)))
  (refine KO_fn rfl rfl rfl rfl rfl ((svalid_ok S.wf pv p (H.ext w S.ext) vq q (rq.ext w S.ext) hq).mono ?_); rintro _ h ⟨⟨rfl, hv⟩ | ⟨rfl, hv⟩, x⟩) <;> (replace S := S.join0 x; clear x; refine vl ?_; refine KO_nil ?_)
  rotate_left
  · all_goals (repeat' (first | refine K_seq ?_ | refine k_cond rfl ?_ | (refine K_region (id := 2) ?_; refine mv ?_; refine KO_nil ?_)))
    refine K_ret ⟨_, rfl, ?_⟩
    exact ⟨0, rfl, .inl ⟨hv, rfl⟩, S.drop⟩
  obtain ⟨hp, hpq⟩ := hv
  have hql := hpq.ql hp
  have hqm := hpq.qm hl
  have hsl := srv_len (pl := pltV p q)
  rw [pltV_len] at hsl
  have met := stp_met p.tabs
  all_goals (repeat' (first | refine K_seq ?_ | refine k_cond rfl ?_ | refine K_skip ?_ | (refine K_region (id := 3) ?_; refine lB S rfl rfl ?_; refine mv ?_)))
  (refine KO_fn rfl rfl rfl rfl rfl ((sserved_ok S.wf pv p (H.ext w S.ext) vq q (rq.ext w S.ext) (by omega) hqm).mono ?_); rintro vL h x) <;> (replace S := S.join1 x; clear x; refine mv ?_; refine KO_nil ?_)
  have nd0 : (srv (pltV p q)).Nodup := srv_inc.imp fun h => Int.ne_of_lt h
  have hsr := srv_in (p := p) (q := q)
  obtain ⟨stops, hst⟩ : ∃ stops, srv (pltV p q) = stops := ⟨_, rfl⟩
  rw [hst] at S hsl nd0 hsr ⊢
  all_goals (repeat' (first | refine K_seq ?_ | refine k_block ?_ | (refine K_region (id := 4) ?_; (refine one 1 S ?_; clear S; intro u h S); refine mv ?_; refine KO_nil ?_) | (refine K_region (id := 5) ?_; refine mv ?_; refine KO_nil ?_)))
  replace S := S.one eI (-1) rfl
  rename_i u0 h8
  replace S : Hs h0 h [.sl u 3 1 eI [-1], .sl vL 3 1 eI stops, .blk b2 pv.cs 33] := S
  refine k_loop (σ := Value × Value × List Int × List Int × Int) (fun (vL, vJ, L, J, n) h' => Hs h0 h' [.sl vJ 3 1 eI J, .sl vL 3 1 eI L, .blk b2 pv.cs 33] ∧ L.Nodup ∧ (∀ t ∈ L, 0 ≤ t ∧ t < p.tabs.length) ∧ (∀ t ∈ J, t < p.tabs.length) ∧ J ≠ [] ∧ L.length + J.length ≤ 1001 ∧ (0 ≤ n ∧ n ≤ 2000 * J.length) ∧ ∀ c, Prim (stp p.tabs) J.reverse L c → Prim (stp p.tabs) [-1] stops (n + c)) (fun (vL, vJ, L, J, n) => L.length) (fun (vL, vJ, L, J, n) => [(2, .pointer (some ⟨b2, 0, none⟩)), (5, vL), (6, vJ), (7, .int .i64 n)]) (vL, u, stops, [-1], 0) (by repeat (first | exact Ks.le_nil _ | refine Ks.le_cons rfl ?_)) ?_ ?_
  · exact ⟨S, nd0, hsr, fun t ht => by rw [List.mem_singleton.1 ht]; omega, by simp, by simp; omega, ⟨by omega, by omega⟩, fun c hc => by rw [Int.zero_add]; exact hc⟩
  clear S
  rintro ⟨vL, vJ, L, J, n⟩ h ⟨S, g1, g2, g3, g4, g5, g6, g7⟩
  all_goals (repeat' (first | refine K_seq ?_ | refine k_cond rfl ?_ | refine K_skip ?_ | refine K_exit ?_ | refine k_block ?_ | (refine K_region (id := 6) ?_; refine mv ?_; refine lnS S rfl rfl ?_; (first | (refine cS ?_ ?_ <;> intro hc)) <;> (refine KO_nil ?_))))
  · all_goals (repeat' (first | refine K_seq ?_ | refine k_block ?_ | (refine K_region (id := 7) ?_; refine mv ?_; refine mv ?_; refine KO_nil ?_) | (refine K_region (id := 8) ?_; refine mv ?_; refine lnS S rfl rfl ?_; refine mv ?_; refine KO_nil ?_)))
    refine k_loop (σ := Nat × Nat × Int) (fun (i, best, least) h' => Hs h0 h' [.sl vJ 3 1 eI J, .sl vL 3 1 eI L, .blk b2 pv.cs 33] ∧ i ≤ L.length ∧ Bst (stp p.tabs) L J i 0 best least) (fun (i, best, least) => L.length - i) (fun (i, best, least) => [(2, .pointer (some ⟨b2, 0, none⟩)), (5, vL), (6, vJ), (7, .int .i64 n), (8, .int .i64 best), (9, .int .i64 least), (26, vL), (27, .int .i64 L.length), (28, .int .i64 i)]) (0, 0, -1) (by repeat (first | exact Ks.le_nil _ | refine Ks.le_cons rfl ?_)) ?_ ?_
    · exact ⟨S, Nat.zero_le _, .inl ⟨rfl, rfl, rfl, rfl⟩⟩
    clear S
    rintro ⟨i, best, least⟩ h ⟨S, e1, e2⟩
    all_goals (repeat' (first | refine K_seq ?_ | refine k_cond rfl ?_ | refine K_skip ?_ | refine K_exit ?_ | refine k_block ?_ | (refine K_region (id := 9) ?_; (first | (refine cS ?_ ?_ <;> intro hc)) <;> (refine KO_nil ?_)) | (refine K_region (id := 10) ?_; refine mv ?_; refine ixS2 S rfl rfl ?_; refine lES2 S rfl rfl ?_; refine mv ?_; refine mv ?_; refine KO_nil ?_)))
    · have hi : i < L.length := by omega
      obtain ⟨t, ht⟩ : ∃ t, L.getD (i : Int).toNat default = t := ⟨_, rfl⟩
      rw [ht]
      replace ht : L.getD i default = t := ht
      have htb := g2 t (by rw [← ht]; exact mem_getD hi)
      skip
      all_goals (repeat' (first | refine k_block ?_ | (refine K_region (id := 11) ?_; refine mv ?_; refine lnS S rfl rfl ?_; refine mv ?_; refine KO_nil ?_)))
      refine k_loop (σ := Nat × Nat × Int) (fun (k, best, least) h' => Hs h0 h' [.sl vJ 3 1 eI J, .sl vL 3 1 eI L, .blk b2 pv.cs 33] ∧ k ≤ J.length ∧ Bst (stp p.tabs) L J i k best least) (fun (k, best, least) => J.length - k) (fun (k, best, least) => [(2, .pointer (some ⟨b2, 0, none⟩)), (5, vL), (6, vJ), (7, .int .i64 n), (8, .int .i64 best), (9, .int .i64 least), (10, .int .i64 i), (11, .int .i64 t), (26, vL), (27, .int .i64 L.length), (28, .int .i64 i), (33, vJ), (34, .int .i64 J.length), (35, .int .i64 k)]) (0, best, least) (by repeat (first | exact Ks.le_nil _ | refine Ks.le_cons rfl ?_)) ?_ ?_
      · exact ⟨S, Nat.zero_le _, e2⟩
      clear S e2
      rintro ⟨k, best, least⟩ h ⟨S, f1, f2⟩
      all_goals (repeat' (first | refine K_seq ?_ | refine k_cond rfl ?_ | refine K_skip ?_ | refine K_exit ?_ | refine k_block ?_ | (refine K_region (id := 12) ?_; (first | (refine cS ?_ ?_ <;> intro hc)) <;> (refine KO_nil ?_)) | (refine K_region (id := 13) ?_; refine ixS2 S rfl rfl ?_; refine lES2 S rfl rfl ?_; refine mv ?_; refine KO_nil ?_)))
      · have hk : k < J.length := by omega
        obtain ⟨z, hz⟩ : ∃ z, J.getD (k : Int).toNat default = z := ⟨_, rfl⟩
        rw [hz]
        replace hz : J.getD k default = z := hz
        have hzb := g3 z (by rw [← hz]; exact mem_getD hk)
        skip
        all_goals (repeat' (first | (refine K_region (id := 14) ?_; refine lB S rfl rfl ?_; refine mv ?_; refine mv ?_)))
        (refine KO_fn rfl rfl rfl rfl rfl ((ssteps_ok S.wf pv p (H.ext w S.ext) hp.tabs t z htb.2 hzb).mono ?_); rintro _ h ⟨rfl, x⟩) <;> (replace S := S.join0 x; clear x; refine mv ?_; refine KO_nil ?_)
        have N := f2.new met hi hk
        have O := f2.old
        rw [ht, hz] at N O
        all_goals (repeat' (first | refine K_seq ?_ | refine k_cond rfl ?_ | refine K_skip ?_ | (refine K_region (id := 15) ?_; refine mv ?_; (first | (refine cS ?_ ?_ <;> intro hc)) <;> (refine mv ?_; (first | refine off ?_ | refine mv ?_); (first | refine off ?_ | refine mv ?_); (first | refine off ?_ | (first | (refine cS ?_ ?_ <;> intro hc))) <;> (refine vl ?_; refine KO_nil ?_)))))
        · all_goals (repeat' (first | (refine K_region (id := 16) ?_; refine mv ?_; refine mv ?_; refine mv ?_; refine mv ?_; refine KO_nil ?_) | (refine K_region (id := 17) ?_; refine ad ?_; refine mv ?_; refine KO_nil ?_)))
          refine ⟨(k + 1, i, stp p.tabs t z), ?_, ?_, (by repeat (first | exact Ks.le_nil _ | refine Ks.le_cons rfl ?_))⟩
          · show J.length - (k + 1) < J.length - k; omega
          · exact ⟨S, by omega, N (.inl (by assumption))⟩
        · all_goals (repeat' (first | (refine K_region (id := 16) ?_; refine mv ?_; refine mv ?_; refine mv ?_; refine mv ?_; refine KO_nil ?_) | (refine K_region (id := 17) ?_; refine ad ?_; refine mv ?_; refine KO_nil ?_)))
          refine ⟨(k + 1, i, stp p.tabs t z), ?_, ?_, (by repeat (first | exact Ks.le_nil _ | refine Ks.le_cons rfl ?_))⟩
          · show J.length - (k + 1) < J.length - k; omega
          · exact ⟨S, by omega, N (.inr (by assumption))⟩
        · all_goals (repeat' (first | (refine K_region (id := 17) ?_; refine ad ?_; refine mv ?_; refine KO_nil ?_)))
          refine ⟨(k + 1, best, least), ?_, ?_, (by repeat (first | exact Ks.le_nil _ | refine Ks.le_cons rfl ?_))⟩
          · show J.length - (k + 1) < J.length - k; omega
          · exact ⟨S, by omega, O (by assumption) (by assumption)⟩
      · obtain rfl : k = J.length := by omega
        all_goals (repeat' (first | (refine K_region (id := 18) ?_; refine ad ?_; refine mv ?_; refine KO_nil ?_)))
        refine ⟨(i + 1, best, least), ?_, ?_, (by repeat (first | exact Ks.le_nil _ | refine Ks.le_cons rfl ?_))⟩
        · show L.length - (i + 1) < L.length - i; omega
        · exact ⟨S, by omega, f2.row g4⟩
    · obtain rfl : i = L.length := by omega
      obtain ⟨k1, k2, z, k3, k4, k5⟩ := e2.fin (by omega)
      have hm := mem_getD k1
      have k6 := g2 _ hm
      have k7 := stp_b hp.tabs k6.2 (g3 z k3)
      rw [← k4] at k7
      skip
      all_goals (repeat' (first | (refine K_region (id := 19) ?_; refine mv ?_; refine mv ?_; refine mv ?_; refine ixS2 S rfl rfl ?_; refine lES2 S rfl rfl ?_; (refine one 1 S ?_; clear S; intro u h S))))
      refine app (y0 := (L.getD best default)) S rfl rfl ?_; clear S; intro v h S; refine mv ?_; refine KO_nil ?_
      obtain ⟨sL, rfl⟩ := S.sV vL
      have S := (show Hs h0 h [.sl sL.val 3 1 eI L, .sl v 3 1 eI (J ++ [L.getD best default]), .blk b2 pv.cs 33] from S.pick)
      skip
      all_goals (repeat' (first | refine K_seq ?_ | (refine K_region (id := 20) ?_; refine mv ?_; refine mv ?_; refine mv ?_; refine ad ?_)))
      (refine KO_fn rfl rfl rfl rfl rfl ((delI_ok best k1 (by omega) S).mono ?_); rintro vn h S) <;> (refine mv ?_; refine KO_nil ?_)
      have key : L.take best ++ L.drop (best + 1) = L.erase (L.getD best default) := erase_at g1 k1
      rw [key] at S
      have hle : (L.erase (L.getD best default)).length = L.length - 1 := List.length_erase_of_mem hm
      all_goals (repeat' (first | (refine K_region (id := 21) ?_; refine mv ?_; refine mv ?_; refine ad ?_; refine mv ?_; refine KO_nil ?_)))
      refine ⟨(vn, v, L.erase (L.getD best default), J ++ [L.getD best default], n + least), ?_, ?_, (by repeat (first | exact Ks.le_nil _ | refine Ks.le_cons rfl ?_))⟩
      · show (L.erase (L.getD best default)).length < L.length; omega
      · refine ⟨S.pick, g1.erase _, fun t ht => g2 t (List.mem_of_mem_erase ht), fun t ht => ?_, by simp, by show (L.erase (L.getD best default)).length + (J ++ [L.getD best default]).length ≤ 1001; rw [List.length_append, List.length_singleton]; omega, by simp only [List.length_append, List.length_singleton]; omega, fun c hc => ?_⟩
        · rcases List.mem_append.1 ht with q | q
          · exact g3 t q
          · rw [List.mem_singleton.1 q]; exact k6.2
        · rw [List.reverse_append] at hc
          have := g7 (stp p.tabs (L.getD best default) z + c) (.step hm (List.mem_reverse.2 k3) (fun x hx y hy => k5 x hx y (List.mem_reverse.1 hy)) hc)
          rw [k4, Int.add_assoc]
          exact this
  · all_goals (repeat' (first | (refine K_region (id := 22) ?_; refine mv ?_; refine mv ?_; refine KO_nil ?_)))
    refine K_ret ⟨_, rfl, ?_⟩
    obtain rfl : L = [] := List.length_eq_zero_iff.1 (by omega)
    have := g7 0 .nil
    rw [Int.add_zero] at this
    exact ⟨n, rfl, .inr ⟨hp, hpq, this⟩, S.drop⟩
end Go.Proofs.Xx

/-
  Lists whose elements are exchanged; sums over lists; plain.
-/
namespace Go.Proofs.Xx
set_option linter.unusedSectionVars false
set_option linter.unusedSimpArgs false
set_option linter.unusedVariables false

/-- Two elements exchanged. -/
def exch (l : List Int) (a b : Nat) : List Int := (l.set a (l.getD b default)).set b (l.getD a default)
theorem exch_perm {l : List Int} {a b : Nat} (ha : a < l.length) (hb : b < l.length) : (exch l a b).Perm l := by
  have h := Array.swap_perm (xs := l.toArray) (i := a) (j := b) (by simpa using ha) (by simpa using hb)
  have e : (l.toArray.swap a b (by simpa using ha) (by simpa using hb)).toList = exch l a b := by
    unfold exch
    rw [Array.toList_swap]
    simp [List.getD_eq_getElem?_getD, ha, hb]
  rw [← e]
  exact (Array.perm_iff_toList_perm.1 h)
end Go.Proofs.Xx

/-
  Plates; tables that are served; elements exchanged.
-/
namespace Go.Proofs.Xx
open Go Go.Proofs
set_option linter.unusedSimpArgs false
set_option linter.unusedVariables false
set_option linter.unusedSectionVars false
set_option maxRecDepth 100000
set_option maxHeartbeats 4000000

theorem Plates_ok {h0 : AH} (w : WfH h0) (pv : PbV) (p : Pb) (H : PbOk h0 pv p) (vq : Value) (q : List Int) (rq : RdL h0 vq 1 eI q) (hq : q.length ≤ 9223372036854775807) :
    Fn Tryz.prog Xh 13 [pv.val, vq] h0 (fun u h' => ((¬ (PO p ∧ PartOk p q) ∧ u = .slice none 0 0 ∧ Hs h0 h' []) ∨ (PO p ∧ PartOk p q ∧ Hs h0 h' [.sl u 3 1 eI (pltV p q)]))) := by
  have S := Hs.start w
  have hl := H.tab.len
  unfold PbV.val
  refine Fn_K (by first | rfl) Tryz.func13 rfl rfl ?_
  all_goals (repeat' (first | refine K_seq ?_ | (refine K_region (id := 0) ?_; (refine bx S ?_; clear S; intro b h S); refine mv ?_; refine KO_nil ?_)))
  obtain ⟨b2, hnm⟩ : ∃ x, x = b := ⟨_, rfl⟩; subst hnm
  all_goals (repeat' (first | (refine K_region (id := 1) ?_; refine lB S rfl rfl ?_; refine mv ?_)))
  (refine KO_fn rfl rfl rfl rfl rfl ((svalid_ok S.wf pv p (H.ext w S.ext) vq q (rq.ext w S.ext) hq).mono ?_); rintro _ h ⟨⟨rfl, hv⟩ | ⟨rfl, hv⟩, x⟩) <;> (replace S := S.join0 x; clear x; refine vl ?_; refine KO_nil ?_)
  · obtain ⟨hp, hpq⟩ := hv
    have hql := hpq.ql hp
    have hqm := hpq.qm hl
    all_goals (repeat' (first | refine K_seq ?_ | refine k_cond rfl ?_ | refine K_skip ?_ | (refine K_region (id := 3) ?_; refine lB S rfl rfl ?_; refine mv ?_)))
    (refine KO_fn rfl rfl rfl rfl rfl ((splates_ok S.wf pv p (H.ext w S.ext) vq q (rq.ext w S.ext) (by omega) hqm).mono ?_); rintro vn h x) <;> (replace S := S.join1 x; clear x; refine mv ?_; refine KO_nil ?_)
    all_goals (repeat' (fail))
    refine K_ret ⟨_, rfl, ?_⟩
    exact .inr ⟨hp, hpq, S.only .here⟩
  · all_goals (repeat' (first | refine K_seq ?_ | refine k_cond rfl ?_ | (refine K_region (id := 2) ?_; refine mv ?_; refine KO_nil ?_)))
    refine K_ret ⟨_, rfl, ?_⟩
    exact .inl ⟨hv, rfl, S.drop⟩
theorem lserved_ok {h0 : AH} (w : WfH h0) (vt : Value) (pl : List Int) (rp : RdL h0 vt 1 eI pl) (hll : pl.length ≤ 1000) :
    Fn Tryz.prog Xh 15 [vt] h0 (fun u h' => Hs h0 h' [.sl u 3 1 eI (srv pl)]) := by
  have S := Hs.start w
  refine Fn_K (by first | rfl) Tryz.func15 rfl rfl ?_
  all_goals (repeat' (first | refine K_seq ?_ | (refine K_region (id := 0) ?_; refine mv ?_; refine KO_nil ?_)))
  have S := S.nilS (e := 3) (z := 1) (enc := eI)
  all_goals (repeat' (first | refine K_seq ?_ | refine k_block ?_ | (refine K_region (id := 1) ?_; refine mv ?_; refine KO_nil ?_) | (refine K_region (id := 2) ?_; refine mv ?_; refine lnB S ?_; refine mv ?_; refine KO_nil ?_)))
  refine k_loop (σ := Nat × Value) (fun (i, vo) h' => Hs h0 h' [.sl vo 3 1 eI (srvN pl i)] ∧ i ≤ pl.length) (fun (i, vo) => pl.length - i) (fun (i, vo) => [(3, vo), (6, vt), (7, .int .i64 pl.length), (8, .int .i64 i)]) (0, .slice none 0 0) (by repeat (first | exact Ks.le_nil _ | refine Ks.le_cons rfl ?_)) ?_ ?_
  · exact ⟨S, Nat.zero_le _⟩
  clear S
  rintro ⟨i, vo⟩ h ⟨S, g1⟩
  have hsl := (srvN_inc (pl := pl) (n := i)).2
  all_goals (repeat' (first | refine K_seq ?_ | refine k_cond rfl ?_ | refine K_skip ?_ | refine K_exit ?_ | refine k_block ?_ | (refine K_region (id := 3) ?_; (first | (refine cS ?_ ?_ <;> intro hc)) <;> (refine KO_nil ?_)) | (refine K_region (id := 4) ?_; refine mv ?_; refine ixB S ?_; refine lEB S ?_; refine mv ?_; refine mv ?_; refine KO_nil ?_)))
  · obtain ⟨x, hx⟩ : ∃ x, pl.getD (i : Int).toNat default = x := ⟨_, rfl⟩
    rw [hx]
    replace hx : pl.getD i default = x := hx
    skip
    all_goals (repeat' (first | refine k_cond rfl ?_ | refine K_skip ?_ | (refine K_region (id := 5) ?_; refine mv ?_; (first | (refine cS ?_ ?_ <;> intro hc)) <;> (refine KO_nil ?_))))
    · have key : srvN pl (i + 1) = srvN pl i ++ [(i : Int)] := by rw [srvN, if_pos (by omega)]
      all_goals (repeat' (first | (refine K_region (id := 6) ?_; refine mv ?_; refine mv ?_; (refine one 1 S ?_; clear S; intro u h S))))
      refine app (y0 := (i : Int)) S rfl rfl ?_; clear S; intro v h S; refine mv ?_; refine KO_nil ?_
      rw [← key] at S
      all_goals (repeat' (first | (refine K_region (id := 7) ?_; refine ad ?_; refine mv ?_; refine KO_nil ?_)))
      refine ⟨(i + 1, v), ?_, ?_, (by repeat (first | exact Ks.le_nil _ | refine Ks.le_cons rfl ?_))⟩
      · show pl.length - (i + 1) < pl.length - i; omega
      · exact ⟨S, by omega⟩
    · have key : srvN pl (i + 1) = srvN pl i := by rw [srvN, if_neg (by omega)]
      all_goals (repeat' (first | (refine K_region (id := 7) ?_; refine ad ?_; refine mv ?_; refine KO_nil ?_)))
      rw [← key] at S
      refine ⟨(i + 1, vo), ?_, ?_, (by repeat (first | exact Ks.le_nil _ | refine Ks.le_cons rfl ?_))⟩
      · show pl.length - (i + 1) < pl.length - i; omega
      · exact ⟨S, by omega⟩
  · all_goals (repeat' (first | (refine K_region (id := 8) ?_; refine mv ?_; refine mv ?_; refine KO_nil ?_)))
    refine K_ret ⟨_, rfl, ?_⟩
    obtain rfl : i = pl.length := by omega
    exact S
/-- A pair of small numbers. -/
def e82 (x : Nat × Nat) : List Value := [.int .u8 x.1, .int .u8 x.2]
theorem exchanged_ok {h0 : AH} (w : WfH h0) (vw : Value) (l : List Int) (rw_ : RdL h0 vw 1 eI l) (hl : l.length ≤ 1000) (vsw : Value) (sw : List (Nat × Nat)) (rs : RdL h0 vsw 2 e82 sw) (cs : CapOk vsw) (hs : sw.length ≤ 9223372036854775807) (hb : ∀ i, i < sw.length → (sw.getD i default).1 < 256 ∧ (sw.getD i default).2 < 256) :
    Fn Tryz.prog Xh 14 [vw, vsw] h0 (fun u h' => ∃ l' : List Int, l'.Perm l ∧ Hs h0 h' [.sl u 3 1 eI l']) := by
  have S := Hs.start w
  refine Fn_K (by first | rfl) Tryz.func14 rfl rfl ?_
  all_goals (repeat' (first | refine K_seq ?_ | (refine K_region (id := 0) ?_; refine mv ?_; refine KO_nil ?_) | (refine K_region (id := 1) ?_; refine mv ?_)))
  (refine KO_fn rfl rfl rfl rfl rfl ((cloneI_ok S.wf vw l (rw_.ext w S.ext) (by omega)).mono ?_); rintro vo h x) <;> (replace S := S.join1 x; clear x; obtain ⟨so, rfl⟩ := S.sV vo; refine mv ?_; refine KO_nil ?_)
  obtain ⟨n, hn, hn1, hn2⟩ : ∃ n : Nat, min (sw.length : Int) 12 = n ∧ n ≤ sw.length ∧ n ≤ 12 := ⟨min sw.length 12, by omega, by omega, by omega⟩
  all_goals (repeat' (first | refine K_seq ?_ | (refine K_region (id := 2) ?_; refine mv ?_; refine mv ?_; refine lnB S ?_; refine mn ?_)))
  rw [hn]
  refine su0 0 n S w rs cs ?_; intro vm hrm hcm; ((refine lnB S ?_); refine mv ?_; refine KO_nil ?_)
  have hml : ((sw.drop 0).take (n - 0)).length = n := by simp; omega
  have hmv : ∀ i, i < n → (((sw.drop 0).take (n - 0)).getD i default).1 < 256 ∧ (((sw.drop 0).take (n - 0)).getD i default).2 < 256 := fun i q => by
    rw [List.drop_zero, Nat.sub_zero, getD_take (by omega)]; exact hb i (by omega)
  generalize (sw.drop 0).take (n - 0) = mre at hrm hml hmv ⊢
  all_goals (repeat' (refine k_block ?_))
  refine k_loop (σ := Nat × List Int) (fun (i, m) h' => Hs h0 h' [.sl so.val 3 1 eI m] ∧ i ≤ n ∧ m.Perm l) (fun (i, m) => n - i) (fun (i, m) => [(5, so.val), (17, vm), (18, .int .i64 n), (19, .int .i64 i)]) (0, l) (by repeat (first | exact Ks.le_nil _ | refine Ks.le_cons rfl ?_ | refine Ks.le_int ?_)) ?_ ?_
  · exact ⟨S, Nat.zero_le _, .refl _⟩
  clear S
  rintro ⟨i, m⟩ h ⟨S, g1, g2⟩
  have hll := g2.length_eq
  all_goals (repeat' (first | refine K_seq ?_ | refine k_cond rfl ?_ | refine K_skip ?_ | refine K_exit ?_ | refine k_block ?_ | (refine K_region (id := 3) ?_; (first | (refine cS ?_ ?_ <;> intro hc)) <;> (refine KO_nil ?_)) | (refine K_region (id := 4) ?_; refine ixB S ?_; refine lEB S ?_; (refine al S ?_; clear S; intro b h S); (first | (refine sB S rfl rfl ?_; clear S; intro h S)); refine KO_nil ?_)))
  · have hi : i < n := by omega
    have hv := hmv (i : Int).toNat (by omega)
    obtain ⟨x, hx⟩ : ∃ x, mre.getD (i : Int).toNat default = x := ⟨_, rfl⟩
    rw [hx] at hv S
    obtain ⟨x1, x2⟩ := x
    simp only at hv
    obtain ⟨b7, hnm⟩ : ∃ x, x = b := ⟨_, rfl⟩; subst hnm
    replace S : Hs h0 h [.blk b7 [.int .u8 x1, .int .u8 x2] 86, .sl so.val 3 1 eI m] := S
    skip
    all_goals (repeat' (first | refine K_seq ?_ | (refine K_region (id := 5) ?_; refine mv ?_; refine lnS S rfl rfl ?_; refine mv ?_; refine KO_nil ?_)))
    all_goals (repeat' (first | refine K_seq ?_ | refine k_cond rfl ?_ | refine K_skip ?_ | (refine K_region (id := 6) ?_; refine mv ?_; (first | (refine cS ?_ ?_ <;> intro hc)) <;> (refine KO_nil ?_))))
    · have e1 := Int.emod_nonneg (x1 : Int) (show (m.length : Int) ≠ 0 by omega)
      have e2 := Int.emod_lt_of_pos (x1 : Int) (show (0 : Int) < (m.length : Int) by omega)
      have e3 := Int.emod_nonneg (x2 : Int) (show (m.length : Int) ≠ 0 by omega)
      have e4 := Int.emod_lt_of_pos (x2 : Int) (show (0 : Int) < (m.length : Int) by omega)
      all_goals (repeat' (first | (refine K_draw (id := 7) ?_; refine vl ?_; refine lB S rfl rfl ?_; refine cI ?_; refine mv ?_; refine rm ?_; refine vl ?_; refine lB S rfl rfl ?_; refine cI ?_; refine mv ?_; refine rm ?_; refine mv ?_; refine mv ?_; refine KO_nil ?_)))
      obtain ⟨A, hA⟩ : ∃ A : Nat, (x1 : Int) % (m.length : Int) = A := ⟨((x1 : Int) % (m.length : Int)).toNat, by omega⟩
      obtain ⟨B, hB⟩ : ∃ B : Nat, (x2 : Int) % (m.length : Int) = B := ⟨((x2 : Int) % (m.length : Int)).toNat, by omega⟩
      rw [hA] at e1 e2 ⊢
      rw [hB] at e3 e4 ⊢
      have hAl : A < m.length := by omega
      have hBl : B < m.length := by omega
      all_goals (repeat' (first | (refine K_draw (id := 8) ?_; refine mv ?_; refine mv ?_; refine mv ?_; refine mv ?_; refine mv ?_; refine mv ?_; refine ixS2 S rfl rfl ?_; refine lES2 S rfl rfl ?_; refine mv ?_; refine mv ?_; refine ixS2 S rfl rfl ?_; refine lES2 S rfl rfl ?_; refine ixS2 S rfl rfl ?_; (first | (refine sE2 S rfl rfl ?_; clear S; intro h S)); refine ixS2 S rfl rfl ?_; (first | (refine sE2 S rfl rfl ?_; clear S; intro h S)); refine KO_nil ?_) | (refine K_region (id := 9) ?_; refine ad ?_; refine mv ?_; refine KO_nil ?_)))
      refine ⟨(i + 1, exch m A B), ?_, ?_, (by repeat (first | exact Ks.le_nil _ | refine Ks.le_cons rfl ?_))⟩
      · show n - (i + 1) < n - i; omega
      · exact ⟨S.tail, by omega, (exch_perm hAl hBl).trans g2⟩
    · all_goals (repeat' (first | (refine K_region (id := 9) ?_; refine ad ?_; refine mv ?_; refine KO_nil ?_)))
      refine ⟨(i + 1, m), ?_, ?_, (by repeat (first | exact Ks.le_nil _ | refine Ks.le_cons rfl ?_))⟩
      · show n - (i + 1) < n - i; omega
      · exact ⟨S.tail, by omega, g2⟩
  · all_goals (repeat' (first | (refine K_region (id := 10) ?_; refine mv ?_; refine mv ?_; refine KO_nil ?_)))
    refine K_ret ⟨_, rfl, ?_⟩
    exact ⟨m, g2, S⟩
end Go.Proofs.Xx

/-
  ServiceMetric: its contract.
-/
namespace Go.Proofs.Xx
open Go Go.Proofs
set_option linter.unusedSimpArgs false
set_option linter.unusedVariables false
set_option linter.unusedSectionVars false
set_option maxRecDepth 100000
set_option maxHeartbeats 4000000

theorem LengthP_ok {h0 : AH} (w : WfH h0) (v : PbV) (p : Pb) (H : PbOk h0 v p) (hP : PO p) (wl : Value) (l : List Int) (rl : RdL h0 wl 1 eI l) (hl : l.length ≤ 1000000) (ht : ∀ t ∈ l, 0 ≤ t ∧ t < p.tabs.length) : Fn Tryz.prog Xh 10 [v.val, wl] h0 (fun u h' => u = .tuple #[.int .i64 (tour (stp p.tabs) l), .int .i64 0] ∧ Hs h0 h' []) := by
  refine (Length_ok w v p H wl l rl hl).mono ?_
  rintro u h ⟨⟨q, -⟩ | ⟨-, ⟨q, -⟩ | ⟨-, rfl⟩⟩, x⟩
  · exact absurd hP q
  · exact absurd ht q
  · exact ⟨rfl, x⟩
end Go.Proofs.Xx

/-
  ServiceShortest: its contract.
-/
namespace Go.Proofs.Xx
open Go Go.Proofs
set_option linter.unusedSimpArgs false
set_option linter.unusedVariables false
set_option linter.unusedSectionVars false
set_option maxRecDepth 100000
set_option maxHeartbeats 4000000

theorem sorted_eq : ∀ {a b : List Int}, a.Perm b → a.Pairwise (· ≤ ·) → b.Pairwise (· < ·) → a = b
  | [], b, h, _, _ => (List.nil_perm.1 h).symm ▸ rfl
  | x :: a, [], h, _, _ => by have := h.length_eq; cases this
  | x :: a, y :: b, h, h1, h2 => by
    rw [List.pairwise_cons] at h1 h2
    have hx : x ∈ y :: b := h.mem_iff.1 (by simp)
    have hy : y ∈ x :: a := h.mem_iff.2 (by simp)
    have e : x = y := by
      rcases List.mem_cons.1 hx with q | q
      · exact q
      · rcases List.mem_cons.1 hy with r | r
        · exact r.symm
        · have := h2.1 x q
          have := h1.1 y r
          omega
    subst e
    rw [sorted_eq (h.cons_inv) h1.2 h2.2]
theorem ltL_lex : ∀ {a b : List Int}, ltL a b → a.length = b.length → lexL a b
  | [], [], h, _ => h.elim
  | [], _ :: _, _, h => by cases h
  | _ :: _, [], _, h => by cases h
  | x :: a, y :: b, h, hl => by
    rcases h with h | ⟨rfl, h⟩
    · exact ⟨[], x, y, a, b, rfl, rfl, h⟩
    · exact lexL_cons.2 (ltL_lex h (by simpa using hl))
theorem cmpR_nn {d : Int} {a b : List Int} (h : CmpR d a b) (k : ¬ lexL a b) (hl : a.length = b.length) : ¬ d < 0 := fun q => by
  rcases h with ⟨-, r⟩ | ⟨r, -⟩ | ⟨r, -⟩
  · exact k (ltL_lex r hl)
  · omega
  · omega
/-- The best way's facts. -/
theorem bestW_ok {p : Pb} {q : List Int} (hp : PO p) : (bestW p q).1.Perm (srv (pltV p q)) ∧ (bestW p q).2 = tour (stp p.tabs) (bestW p q).1 ∧ ∀ c, c.Perm (srv (pltV p q)) → tour (stp p.tabs) (bestW p q).1 ≤ tour (stp p.tabs) c ∧ (tour (stp p.tabs) c = tour (stp p.tabs) (bestW p q).1 → ¬ lexL c (bestW p q).1) :=
  best_way (L := tour (stp p.tabs)) (fun c => plen_nn (stp_met p.tabs) c (-1) (-1)) srv_inc
theorem prim_le {p : Pb} {l st : List Int} {c : Int} (h : Prim (stp p.tabs) [-1] st c) (hl : l.Perm st) (nd : st.Nodup) : c ≤ tour (stp p.tabs) l := by
  obtain ⟨e, k1, k2⟩ := Cov.way (stp_met p.tabs) (-1) (-1) l
  exact Int.le_trans (h.le (stp_met p.tabs) hl nd k1) k2
theorem prim_ge {p : Pb} {st : List Int} {c : Int} (h : Prim (stp p.tabs) [-1] st c) : ∃ l, l.Perm st ∧ tour (stp p.tabs) l ≤ 2 * c := by
  obtain ⟨l, k1, k2⟩ := h.tour (stp_met p.tabs) (-1) (-1) (K := []) (fun x hx => .inl (List.mem_singleton.1 hx))
  rw [List.append_nil] at k1
  have := (stp_met p.tabs).z (-1)
  refine ⟨l, k1, ?_⟩
  unfold tour
  simp only [plen] at k2
  omega
theorem PlatesP_ok {h0 : AH} (w : WfH h0) (pv : PbV) (p : Pb) (H : PbOk h0 pv p) (hP : PO p) (vq : Value) (q : List Int) (rq : RdL h0 vq 1 eI q) (hQ : PartOk p q) :
    Fn Tryz.prog Xh 13 [pv.val, vq] h0 (fun u h' => Hs h0 h' [.sl u 3 1 eI (pltV p q)]) := by
  have := hQ.ql hP
  refine (Plates_ok w pv p H vq q rq (by omega)).mono ?_
  rintro u h (⟨hn, -, -⟩ | ⟨-, -, x⟩)
  · exact absurd ⟨hP, hQ⟩ hn
  · exact x
theorem routeP_ok {h0 : AH} (w : WfH h0) (pv : PbV) (p : Pb) (H : PbOk h0 pv p) (hP : PO p) (hl : p.tabs.length ≤ 9) (vq : Value) (q : List Int) (rq : RdL h0 vq 1 eI q) (hQ : PartOk p q) :
    Fn Tryz.prog Xh 28 [pv.val, vq] h0 (fun u h' => ∃ vw : SlV, u = .tuple #[vw.val, .int .i64 (bestW p q).2, .int .i64 0] ∧ RdL h' vw.val 1 eI (bestW p q).1 ∧ Hs h0 h' []) := by
  have := hQ.ql hP
  have hsl := srv_len (pl := pltV p q)
  rw [pltV_len] at hsl
  refine (route_ok w pv p H vq q rq (by omega)).mono ?_
  rintro u h ⟨⟨vw, way, n, e, rfl, r, (⟨hn, -⟩ | ⟨-, -, h9, -⟩ | ⟨-, -, -, rfl, hb⟩)⟩, x⟩
  · exact absurd ⟨hP, hQ⟩ hn
  · omega
  · obtain ⟨rfl, rfl⟩ : way = (bestW p q).1 ∧ n = (bestW p q).2 := ⟨congrArg Prod.fst hb, congrArg Prod.snd hb⟩
    exact ⟨vw, rfl, r, x⟩
theorem spanP_ok {h0 : AH} (w : WfH h0) (pv : PbV) (p : Pb) (H : PbOk h0 pv p) (hP : PO p) (vq : Value) (q : List Int) (rq : RdL h0 vq 1 eI q) (hQ : PartOk p q) :
    Fn Tryz.prog Xh 31 [pv.val, vq] h0 (fun u h' => ∃ n, u = .int .i64 n ∧ Prim (stp p.tabs) [-1] (srv (pltV p q)) n ∧ Hs h0 h' []) := by
  have := hQ.ql hP
  refine (span_ok w pv p H vq q rq (by omega)).mono ?_
  rintro u h ⟨n, rfl, (⟨hn, -⟩ | ⟨-, -, hb⟩), x⟩
  · exact absurd ⟨hP, hQ⟩ hn
  · exact ⟨n, rfl, hb, x⟩
theorem serviceShortest_true {h0 : AH} (w : WfH h0) (v : NuV) (na nb nc nd : List Nat) (H : NuR h0 v na nb nc nd) (va : Value) (mo : List Nat) (rmo : RdL h0 va 1 e16 mo) (cmo : CapOk va) (hmo : mo.length ≤ 9223372036854775807) (hm16 : ∀ i, i < mo.length → mo.getD i default < 65536)
    (vs : Value) (ls : List Int) (rsl : RdL h0 vs 1 eI ls) (hls : ls.length ≤ 9223372036854775807) (vsw : Value) (sw : List (Nat × Nat)) (rs : RdL h0 vsw 2 e82 sw) (cs : CapOk vsw) (hs : sw.length ≤ 9223372036854775807) (hb : ∀ i, i < sw.length → (sw.getD i default).1 < 256 ∧ (sw.getD i default).2 < 256) :
    Fn Tryz.prog Xh 7 [.agg #[v.vt.val, v.vg.val, v.vi.val, v.vr.val], va, vs, vsw] h0 (fun u _ => u = .bool true) := by
  have S := Hs.start w
  refine Fn_K (by first | rfl) Tryz.func7 rfl rfl ?_
  all_goals (repeat' (first | refine K_seq ?_ | (refine K_region (id := 0) ?_; (refine bx S ?_; clear S; intro b h S); refine mv ?_; refine KO_nil ?_) | (refine K_region (id := 1) ?_; refine lB S rfl rfl ?_; refine mv ?_; refine mv ?_)))
  (refine KO_fn rfl rfl rfl rfl rfl ((made11_ok S.wf v na nb nc nd (H.ext w S.ext) va mo (rmo.ext w S.ext) cmo hmo hm16 vs ls (rsl.ext w S.ext) hls).mono ?_); rintro _ h ⟨pv, p, q, vq, rfl, hP, hl9, hO, hQ, rq, s⟩) <;> (replace S := S.join0 s; clear s; have w1 := S.wf; have rs' := rs.ext w S.ext; replace S := Hs.start w1; obtain ⟨hB0, hnm⟩ : ∃ x, x = h := ⟨_, rfl⟩; subst hnm; refine mv ?_; refine vl ?_; refine vl ?_; (refine al S ?_; clear S; intro b h S); (first | (refine sB S rfl rfl ?_; clear S; intro h S)); refine mv ?_; refine KO_nil ?_)
  obtain ⟨b9, hnm⟩ : ∃ x, x = b := ⟨_, rfl⟩; subst hnm
  replace S : Hs hB0 h [.blk b9 pv.cs 33] := S
  have hq64 := hQ.ql hP
  have hsl := srv_len (pl := pltV p q)
  rw [pltV_len] at hsl
  have hpl : (pltV p q).length ≤ 1000 := by rw [pltV_len]; omega
  obtain ⟨k1, k2, k3⟩ := bestW_ok (q := q) hP
  have hsr := srv_in (p := p) (q := q)
  have nd0 : (srv (pltV p q)).Nodup := srv_inc.imp fun h => Int.ne_of_lt h
  have inc0 := srv_inc (pl := pltV p q)
  all_goals (repeat' (first | refine K_seq ?_ | (refine K_region (id := 2) ?_; refine lB S rfl rfl ?_; refine mv ?_)))
  (refine KO_fn rfl rfl rfl rfl rfl ((PlatesP_ok S.wf pv p (hO.ext w1 S.ext) hP vq q (rq.ext w1 S.ext) hQ).mono ?_); rintro vp h x) <;> (replace S := S.join1 x; clear x)
  (refine KO_fn rfl rfl rfl rfl rfl ((lserved_ok S.wf vp (pltV p q) (Rd.of_sl S .here) hpl).mono ?_); rintro vst h x) <;> (replace S := S.join1 x; clear x; refine mv ?_; refine KO_nil ?_)
  all_goals (repeat' (first | refine K_seq ?_ | (refine K_region (id := 3) ?_; refine lB S rfl rfl ?_; refine mv ?_)))
  (refine KO_fn rfl rfl rfl rfl rfl ((routeP_ok S.wf pv p (hO.ext w1 S.ext) hP hl9 vq q (rq.ext w1 S.ext) hQ).mono ?_); rintro _ h ⟨sw1, rfl, r0, x⟩) <;> (replace S := S.join0 x; clear x; refine mv ?_; refine vl ?_; refine vl ?_; refine vl ?_; refine mv ?_; refine mv ?_; refine mv ?_; refine KO_nil ?_)
  have w2 := S.wf
  have rst := Rd.of_sl S .here
  have hO2 := hO.ext w1 S.ext
  have rq2 := rq.ext w1 S.ext
  have rs2 := rs'.ext w1 S.ext
  have g9 := Hs.gB (b := b9) S
  clear S hO rq rs'
  have S := Hs.start w2
  generalize (bestW p q).1 = way at k1 k2 k3 r0
  generalize (bestW p q).2 = n at k2 ⊢
  subst k2
  obtain ⟨stops, hst⟩ : ∃ stops, srv (pltV p q) = stops := ⟨_, rfl⟩
  rw [hst] at k1 k3 hsr nd0 inc0 hsl rst
  have hwl : way.length ≤ 9 := by have := k1.length_eq; omega
  have hwr : ∀ t ∈ way, 0 ≤ t ∧ t < p.tabs.length := fun t ht => hsr t (k1.mem_iff.1 ht)
  have hb1 := tour_b hP.tabs (l := way) fun t ht => (hwr t ht).2
  all_goals (repeat' (first | refine K_seq ?_ | (refine K_region (id := 4) ?_; refine lH S ?_; refine mv ?_)))
  (refine KO_fn rfl rfl rfl rfl rfl ((LengthP_ok S.wf pv p (hO2.ext w2 S.ext) hP sw1.val way (r0.ext w2 S.ext) (by omega) hwr).mono ?_); rintro _ h2 ⟨rfl, x⟩) <;> (replace S := S.join0 x; clear x; refine mv ?_; refine vl ?_; refine vl ?_; refine mv ?_; refine mv ?_; refine KO_nil ?_)
  all_goals (repeat' (first | refine K_seq ?_ | refine k_cond rfl ?_ | refine K_skip ?_ | (refine K_region (id := 5) ?_; refine mv ?_; (refine cF ?_) <;> (refine mv ?_; refine mv ?_; (first | (refine cF ?_)) <;> (refine vl ?_; refine mv ?_; refine mv ?_; refine mv ?_; (first | (refine cF ?_)) <;> (refine vl ?_; refine KO_nil ?_))))))
  skip
  all_goals (repeat' (first | (refine K_region (id := 7) ?_; refine mv ?_)))
  (refine KO_fn rfl rfl rfl rfl rfl ((cloneI_ok S.wf sw1.val way (r0.ext w2 S.ext) (by omega)).mono ?_); rintro vc h2 x) <;> (replace S := S.join1 x; clear x; refine mv ?_; refine KO_nil ?_)
  all_goals (repeat' (first | refine K_seq ?_ | (refine K_region (id := 8) ?_; refine mv ?_)))
  (refine KO_fn rfl rfl rfl rfl rfl ((sortI_ok S (by omega)).mono ?_); rintro _ h2 ⟨l', s1, s2, S⟩) <;> (refine KO_nil ?_)
  obtain rfl := sorted_eq (s1.trans k1) s2 inc0
  all_goals (repeat' (first | refine K_seq ?_ | (refine K_region (id := 9) ?_; refine mv ?_; refine mv ?_)))
  (refine KO_fn rfl rfl rfl rfl rfl ((equalI_ok S.wf vc vst l' l' (Rd.of_sl S .here) (rst.ext w2 S.ext) (by omega)).mono ?_); rintro _ h2 ⟨⟨rfl, -⟩ | ⟨rfl, hn⟩, x⟩) <;> (replace S := S.join0 x; clear x; refine vl ?_; refine KO_nil ?_)
  rotate_left
  · exact absurd rfl hn
  all_goals (repeat' (first | refine K_seq ?_ | refine k_cond rfl ?_ | refine K_skip ?_ | (refine K_region (id := 11) ?_; refine mv ?_; refine mv ?_)))
  (refine KO_fn rfl rfl rfl rfl rfl ((exchanged_ok S.wf sw1.val way (r0.ext w2 S.ext) (by omega) vsw sw (rs2.ext w2 S.ext) cs hs hb).mono ?_); rintro vo h2 ⟨ot, o1, x⟩) <;> (replace S := S.join1 x; clear x; refine mv ?_; refine KO_nil ?_)
  have o2 := o1.trans k1
  have o3 := k3 ot o2
  have hol : ot.length = way.length := o1.length_eq
  have hor : ∀ t ∈ ot, 0 ≤ t ∧ t < p.tabs.length := fun t ht => hsr t (o2.mem_iff.1 ht)
  have hb2 := tour_b hP.tabs (l := ot) fun t ht => (hor t ht).2
  all_goals (repeat' (first | refine K_seq ?_ | (refine K_region (id := 12) ?_; refine lH S ?_; refine mv ?_)))
  (refine KO_fn rfl rfl rfl rfl rfl ((LengthP_ok S.wf pv p (hO2.ext w2 S.ext) hP vo ot (Rd.of_sl S .here) (by omega) hor).mono ?_); rintro _ h2 ⟨rfl, x⟩) <;> (replace S := S.join0 x; clear x; refine mv ?_; refine vl ?_; refine vl ?_; refine mv ?_; refine mv ?_; refine KO_nil ?_)
  all_goals (repeat' (first | refine K_seq ?_ | refine k_cond rfl ?_ | refine K_skip ?_ | (refine K_region (id := 13) ?_; refine mv ?_; (refine cF ?_) <;> (refine mv ?_; refine mv ?_; refine mv ?_; (first | (refine cF ?_)) <;> (refine vl ?_; refine mv ?_; refine mv ?_; refine mv ?_; (first | (first | (refine cS ?_ ?_ <;> intro hc))) <;> ((refine mv ?_); (first | refine off ?_ | refine mv ?_); (first | refine off ?_ | refine mv ?_); (first | (refine off ?_; (refine off ?_) <;> ((refine vl ?_); refine vl ?_; refine KO_nil ?_)) | skip)))))))
  (refine KO_fn rfl rfl rfl rfl rfl ((compareI_ok S.wf vo sw1.val ot way (Rd.of_sl S .here) (r0.ext w2 S.ext) (by omega) (by omega)).mono ?_); rintro _ h2 ⟨d, rfl, hd, x⟩) <;> (replace S := S.join0 x; clear x; have hd0 := cmpR_nn hd (o3.2 hc) hol; (first | (refine cF ?_)) <;> ((refine vl ?_); refine vl ?_; refine KO_nil ?_))
  all_goals
    all_goals (repeat' (first | refine K_seq ?_ | refine k_cond rfl ?_ | refine K_skip ?_ | (refine K_region (id := 15) ?_; refine lH S ?_; refine mv ?_)))
    (refine KO_fn rfl rfl rfl rfl rfl ((spanP_ok S.wf pv p (hO2.ext w2 S.ext) hP vq q (rq2.ext w2 S.ext) hQ).mono ?_); rintro _ h2 ⟨c, rfl, hc2, x⟩) <;> (replace S := S.join0 x; clear x; refine mv ?_; refine KO_nil ?_)
    rw [hst] at hc2
    have c1 := prim_le hc2 k1 nd0
    obtain ⟨l, l1, l2⟩ := prim_ge hc2
    have c2 := (k3 l l1).1
    have c3 : 0 ≤ c ∧ c ≤ 100000 := by omega
    all_goals (repeat' (first | refine K_seq ?_ | (refine K_region (id := 16) ?_; refine mv ?_; refine mv ?_; (refine cT ?_) <;> (refine mv ?_; refine mv ?_; refine mv ?_; (first | (refine ml ?_)); (first | (refine cT ?_)) <;> (refine vl ?_; refine mv ?_; (skip))))))
    (refine KO_fn rfl rfl rfl rfl rfl ((awake_ok).mono ?_); rintro _ _ ⟨rfl, rfl⟩) <;> (refine vl ?_; refine mv ?_; refine KO_nil ?_)
    all_goals (repeat' (fail))
    refine K_ret ⟨_, rfl, ?_⟩
    rfl
end Go.Proofs.Xx

/-
  What the arguments read as is kept in every world whose old blocks are the same.
-/
namespace Go.Proofs.Xx
set_option linter.unusedSectionVars false
open Go Go.RowKit
set_option linter.unusedSimpArgs false
set_option linter.unusedVariables false

section
variable {H : Type} {enc : TypeId × Value → H} {P : Program} {W W' : World}

theorem mapM_keep {α β : Type} {f g : α → Option β} : ∀ {l : List α} {r : List β}, l.mapM f = some r → (∀ a b, a ∈ l → b ∈ r → f a = some b → g a = some b) → l.mapM g = some r := by
  intro l
  induction l with
  | nil => intro r h _; simpa using h
  | cons a l ih =>
    intro r h hk
    rw [List.mapM_cons] at h ⊢
    cases hf : f a with
    | none => rw [hf] at h; cases h
    | some b =>
      rw [hf] at h
      cases hm : l.mapM f with
      | none => rw [hm] at h; cases h
      | some r' =>
        rw [hm] at h
        simp at h
        subst h
        rw [hk a b (by simp) (by simp) hf, ih hm fun x y hx hy => hk x y (by simp [hx]) (by simp [hy])]
        rfl

theorem cells_keep (hb : ∀ k, k < W.heap.size → W'.heap[k]? = W.heap[k]?) {base n : Nat} {a : Addr} {cs : List Value} (h : W.cells? base a n = some cs) : W'.cells? base a n = some cs := by
  unfold World.cells? at h ⊢
  split at h
  · rename_i hba
    rw [if_pos hba]
    refine mapM_keep h fun i v _ _ hv => ?_
    have hlt : (a.add i).block < W.heap.size := by
      rcases Nat.lt_or_ge (a.add i).block W.heap.size with q | q
      · exact q
      · have : W.cell? (a.add i) = none := by
          unfold World.cell?
          rw [Array.getElem?_eq_none q]
        rw [this] at hv; cases hv
    rw [← hv]
    exact World.cell?_of_block (w := W) (hb _ hlt)
  · cases h

/-! ### arguments of any plain type -/
def tiles (P : Program) : List Field → Nat → Nat → Bool
  | [], at_, n => Nat.beq at_ n
  | f :: r, at_, n => Nat.beq f.offset at_ && tiles P r (at_ + P.cellsOf f.type) n
def plainT (P : Program) : Nat → TypeId → Bool
  | 0, _ => false
  | m + 1, t => match P.underlying t with
    | some .bool | some .string => Nat.beq (P.cellsOf t) 1
    | some (.int _) => Nat.beq (P.cellsOf t) 1
    | some (.slice e) => Nat.beq (P.cellsOf t) 1 && (plainT P m e && !Nat.beq (P.cellsOf e) 0)
    | some (.struct fs) => fs.toList.all (fun f => plainT P m f.type) && tiles P fs.toList 0 (P.cellsOf t)
    | some (.array n e) => plainT P m e && Nat.beq (P.cellsOf t) (n * P.cellsOf e)
    | _ => false


theorem trod_keep (hb : ∀ k, k < W.heap.size → W'.heap[k]? = W.heap[k]?) {base : Nat} {sp : Nat → Bool} {held : Bool} : ∀ (fuel m : Nat) (t : TypeId) (cs : List Value) (x : DataW H × List MemPlace), plainT P m t = true →
    DataW.trod enc P W base (fun _ => true) held fuel t cs = some x → (∀ p ∈ x.2, sp p.block = true) → DataW.trod enc P W' base sp held fuel t cs = some x := by
  intro fuel
  induction fuel with
  | zero => intro m t cs x _ h _; cases h
  | succ fuel ih =>
    intro m t cs x hp h hsp
    cases m with
    | zero => cases hp
    | succ m =>
    unfold plainT at hp
    cases hu : P.underlying t with
    | none => rw [hu] at hp; cases hp
    | some u =>
      rw [hu] at hp
      cases u with
      | bool => obtain ⟨b, rfl, rfl⟩ := DataW.trod_bool hu h; unfold DataW.trod; rw [hu]
      | int k =>
        obtain ⟨b, rfl, rfl, hwf⟩ := DataW.trod_int hu h
        unfold DataW.trod; rw [hu]
        simp [hwf]
      | string =>
        obtain ⟨b, rfl, rfl, hs⟩ := DataW.trod_string hu h
        unfold DataW.trod; rw [hu]
        simp [hs]
      | struct fs =>
        simp only [Bool.and_eq_true, List.all_eq_true] at hp
        unfold DataW.trod at h ⊢
        rw [hu] at h ⊢
        simp only at h ⊢
        split at h
        · rename_i hc
          rw [if_pos hc]
          simp only [Option.map_eq_some_iff] at h ⊢
          obtain ⟨xs, h1, rfl⟩ := h
          refine ⟨xs, mapM_keep h1 fun f y hf hy hq => ih m _ _ _ (hp.1 f hf) hq fun p hp => hsp p ?_, rfl⟩
          simp only [List.mem_flatMap]
          exact ⟨y, hy, hp⟩
        · cases h
      | array n e =>
        simp only [Bool.and_eq_true] at hp
        unfold DataW.trod at h ⊢
        rw [hu] at h ⊢
        simp only at h ⊢
        split at h
        · rename_i hc
          rw [if_pos hc]
          simp only [Option.map_eq_some_iff] at h ⊢
          obtain ⟨xs, h1, rfl⟩ := h
          refine ⟨xs, mapM_keep h1 fun f y hf hy hq => ih m _ _ _ hp.1 hq fun p hp => hsp p ?_, rfl⟩
          simp only [List.mem_flatMap]
          exact ⟨y, hy, hp⟩
        · cases h
      | slice e =>
        simp only [Bool.and_eq_true, Bool.not_eq_true'] at hp
        have hz : P.cellsOf e ≠ 0 := fun q => by have := hp.2.2; rw [q] at this; simp at this
        rcases DataW.trod_slice hu h with ⟨rfl, rfl⟩ | ⟨a, len, cap, -, -, -, -, rfl, -⟩
        · unfold DataW.trod; rw [hu]; rfl
        · unfold DataW.trod at h ⊢
          rw [hu] at h ⊢
          simp only at h ⊢
          split at h
          · rename_i hc
            rw [if_pos hc]
            simp only [if_true, Option.map_eq_some_iff, Option.bind_eq_some_iff] at h ⊢
            obtain ⟨elems, h1, rest, h2, rfl⟩ := h
            have key : ∀ i y, y ∈ elems ++ rest → (W.cells? base (a.add (i * P.cellsOf e)) (P.cellsOf e)).bind (DataW.trod enc P W base (fun _ => true) held fuel e) = some y →
                (W'.cells? base (a.add (i * P.cellsOf e)) (P.cellsOf e)).bind (DataW.trod enc P W' base sp held fuel e) = some y := by
              intro i y hy hq
              rw [Option.bind_eq_some_iff] at hq ⊢
              obtain ⟨cs', q1, q2⟩ := hq
              refine ⟨cs', cells_keep hb q1, ih m _ _ _ hp.2.1 q2 fun p hp => hsp p ?_⟩
              simp only [List.mem_append, List.mem_flatMap]
              exact .inr ⟨y, by simpa using hy, hp⟩
            refine ⟨elems, mapM_keep h1 fun i y _ hy hq => key i y (by simp [hy]) hq, rest, ?_, rfl⟩
            cases hs : sp a.block with
            | true =>
              simp only [if_true]
              exact mapM_keep h2 fun i y _ hy hq => key (len + i) y (by simp [hy]) hq
            | false =>
              simp only [Bool.false_eq_true, if_false]
              cases rest with
              | nil => rfl
              | cons y rest =>
                have hp' : sp a.block = true := by
                  refine hsp (.cell a.block (a.off + 0)) ?_
                  simp only [List.mem_append]
                  refine .inl ?_
                  unfold MemPlace.row
                  rw [List.mem_map]
                  exact ⟨0, List.mem_range.2 (Nat.mul_pos (by simp only [List.length_cons]; omega) (by omega)), rfl⟩
                rw [hs] at hp'; cases hp'
          · cases h
      | _ => cases hp
theorem trodAll_keep (hb : ∀ k, k < W.heap.size → W'.heap[k]? = W.heap[k]?) {base : Nat} {sp : Nat → Bool} {held : Bool} : ∀ (ts : List TypeId) (vs : List Value) (ds : List (DataW H)) (ps : List MemPlace), ts.all (plainT P 20) = true →
    DataW.TrodAll enc P W base (fun _ => true) held ts vs ds ps → (∀ p ∈ ps, sp p.block = true) → DataW.TrodAll enc P W' base sp held ts vs ds ps
  | [], [], [], ps, _, h, _ => h
  | t :: ts, v :: vs, d :: ds, ps, hp, h, hsp => by
    simp only [List.all_cons, Bool.and_eq_true] at hp
    obtain ⟨p, q, ⟨fuel, h1⟩, h2, rfl⟩ := h
    exact ⟨p, q, ⟨fuel, trod_keep hb fuel 20 t _ _ hp.1 h1 fun x hx => hsp x (by simp [hx])⟩, trodAll_keep hb ts vs ds q hp.2 h2 fun x hx => hsp x (by simp [hx]), rfl⟩
  | [], [], _ :: _, _, _, h, _ => h.elim
  | [], _ :: _, _, _, _, h, _ => h.elim
  | _ :: _, [], _, _, _, h, _ => h.elim
  | _ :: _, _ :: _, [], _, _, h, _ => h.elim
end
end Go.Proofs.Xx

/-
  The arguments of a call, as read-only blocks of the abstract memory.
-/
namespace Go.Proofs.Xx
set_option linter.unusedSectionVars false
open Go Go.RowKit
set_option linter.unusedSimpArgs false
set_option linter.unusedVariables false

section
variable {P : Program}

/-- A window of a block, to be read alone. -/
theorem Rel.addRo [Glob] {B : Bs} {e : Emb} {h : AH} {w : World} (r : Rel B e h w) {k sh : Nat} {cc : Array Value} {el : TypeId} {fr : Nat × Nat} {c : List Value} (hkB : k < B.lo) (hk : w.heap[k]? = some (.cells cc el fr)) (hsz : sh + c.length ≤ cc.size)
    (hc : ∀ i v, c[i]? = some v → ∃ v', cc[sh + i]? = some v' ∧ VR (e.put h.next ⟨k, sh, 0⟩) v v') :
    Rel B (e.put h.next ⟨k, sh, 0⟩) (h.add (.cells c el none true)) w ∧ e.le (e.put h.next ⟨k, sh, 0⟩) := by
  have hle := r.le_put ⟨k, sh, 0⟩
  have hlt : k < w.heap.size := (Array.getElem?_eq_some_iff.1 hk).1
  refine ⟨⟨fun b M q => ?_, fun b hb => ?_, fun b M q => ?_, fun b M p q1 q2 => ?_, fun b M p b' M' p' e1 e2 e3 e4 e5 e6 e7 => ?_, fun b M p q1 q2 q3 => ?_, r.base, r.keep, r.glob⟩, hle⟩
  · by_cases hb : b = h.next
    · subst hb; exact Nat.lt_succ_self _
    · rw [Emb.put_ne _ _ hb] at q; exact Nat.lt_succ_of_lt (r.dom b M q)
  · have hb' : h.next + 1 ≤ b := hb
    rw [AH.get_add, if_neg (by omega)]; exact r.wf b (by omega)
  · by_cases hb : b = h.next
    · subst hb; rw [Emb.put_same] at q; cases q; exact hlt
    · rw [Emb.put_ne _ _ hb] at q; exact r.rng b M q
  · rw [AH.get_add] at q2
    by_cases hb : b = h.next
    · subst hb; rw [Emb.put_same] at q1; cases q1; rw [if_pos rfl] at q2; cases q2
      exact ⟨cc, fr, hk, hsz, hc, (fun _ => ⟨rfl, fun q => by cases q⟩), (fun _ q => by cases q), (fun q => by cases q)⟩
    · rw [Emb.put_ne _ _ hb] at q1; rw [if_neg hb] at q2
      exact (r.obj b M p q1 q2).mono hle
  · rw [AH.get_add] at e2 e4
    by_cases hb' : b' = h.next
    · subst hb'; rw [if_pos rfl] at e4; cases e4; cases e7
    · rw [Emb.put_ne _ _ hb'] at e3; rw [if_neg hb'] at e4
      by_cases hb : b = h.next
      · subst hb
        rw [Emb.put_same] at e1; cases e1
        rw [if_pos rfl] at e2; cases e2
        have := r.own b' M' p' e3 e4 e7
        simp only at e5; omega
      · rw [Emb.put_ne _ _ hb] at e1; rw [if_neg hb] at e2
        exact r.inj b M p b' M' p' e1 e2 e3 e4 e5 e6 e7
  · rw [AH.get_add] at q2
    by_cases hb : b = h.next
    · subst hb; rw [if_pos rfl] at q2; cases q2; cases q3
    · rw [Emb.put_ne _ _ hb] at q1; rw [if_neg hb] at q2
      exact r.own b M p q1 q2 q3


/-- The world's own blocks stay as they are. -/
def Bs.of (w : World) : Bs := ⟨w.heap.size, w.heap⟩
def RoH (h : AH) : Prop := ∀ b o, h.get b = some o → writable o = false
/-- h is made of windows of w's blocks, to be read alone. -/
structure WRel [Glob] (w : World) (e : Emb) (h : AH) : Prop where
  rel : Rel (Bs.of w) e h w
  ro : RoH h
theorem WRel.empty [Glob] {w : World} (hg : Glob.ok w.heap.size w.heap) : WRel w (fun _ => none) ⟨.e, 0, 0⟩ :=
  ⟨⟨fun b L q => (by cases q), fun b _ => Tr.get_e b, fun b L q => (by cases q), fun b L o q => (by cases q), fun b L o b' L' o' q => (by cases q), fun b L o q => (by cases q), Nat.le_refl _, fun _ _ => rfl, hg⟩,
    fun b o q => by rw [show (⟨.e, 0, 0⟩ : AH).get b = none from Tr.get_e b] at q; cases q⟩
theorem WRel.wfH [Glob] {w : World} {e : Emb} {h : AH} (r : WRel w e h) : WfH h := r.rel.wf

theorem WRel.addRo [Glob] {e : Emb} {h : AH} {w : World} (r : WRel w e h) {k sh : Nat} {cc : Array Value} {el : TypeId} {fr : Nat × Nat} {c : List Value} (hk : w.heap[k]? = some (.cells cc el fr)) (hsz : sh + c.length ≤ cc.size)
    (hc : ∀ i v, c[i]? = some v → ∃ v', cc[sh + i]? = some v' ∧ VR e v v') :
    ∃ e', WRel w e' (h.add (.cells c el none true)) ∧ e.le e' ∧ Ext h (h.add (.cells c el none true)) ∧ e' h.next = some ⟨k, sh, 0⟩ := by
  have hle := r.rel.le_put ⟨k, sh, 0⟩
  obtain ⟨r1, r2⟩ := Rel.addRo (sh := sh) (c := c) r.rel (show k < w.heap.size from (Array.getElem?_eq_some_iff.1 hk).1) hk hsz (fun i v hi => by obtain ⟨v', h1, h2⟩ := hc i v hi; exact ⟨v', h1, h2.mono hle⟩)
  refine ⟨_, ⟨r1, fun b o q => ?_⟩, r2, (Ext.refl r.wfH).add _, Emb.put_same _ _ _⟩
  rw [AH.get_add] at q
  split at q
  · cases q; rfl
  · exact r.ro b o q

/-- The cells cs, of type t, read well in h. -/
def AR (P : Program) (h : AH) : Nat → TypeId → List Value → Prop
  | 0, _, _ => False
  | f + 1, t, cs =>
    match P.underlying t, cs with
    | some .bool, [.bool _] => True
    | some (.int k), [.int k' n] => k' = k ∧ (Lit.int k n).wf = true
    | some .string, [.string s] => s.size ≤ maxLen
    | some (.slice e), [v] => ∃ n c, Rd h v (P.cellsOf e) n c ∧ (n ≤ maxLen ∧ n * P.bytesOf e ≤ reachBytes) ∧ CapOk v ∧ ∀ i, i < n → AR P h f e ((c.drop (i * P.cellsOf e)).take (P.cellsOf e))
    | some (.struct fs), cs => cs.length = P.cellsOf t ∧ ∀ fd ∈ fs.toList, AR P h f fd.type ((cs.drop fd.offset).take (P.cellsOf fd.type))
    | some (.array n e), cs => cs.length = P.cellsOf t ∧ ∀ i, i < n → AR P h f e ((cs.drop (i * P.cellsOf e)).take (P.cellsOf e))
    | _, _ => False
theorem AR.ext {h h' : AH} (w : WfH h) (x : Ext h h') : ∀ (f : Nat) (t : TypeId) (cs : List Value), AR P h f t cs → AR P h' f t cs
  | 0, _, _, q => q
  | f + 1, t, cs, q => by
    unfold AR at q ⊢
    split at q
    · exact q
    · exact q
    · exact q
    · obtain ⟨n, c, h1, h2, hc, h3⟩ := q
      exact ⟨n, c, h1.ext w x, h2, hc, fun i hi => AR.ext w x f _ _ (h3 i hi)⟩
    · exact ⟨q.1, fun fd hf => AR.ext w x f _ _ (q.2 fd hf)⟩
    · exact ⟨q.1, fun i hi => AR.ext w x f _ _ (q.2 i hi)⟩
    · exact q


section
variable {H : Type} {enc : TypeId × Value → H}
/-- Each weight of d, as one of type t, is within reach. -/
def Light (P : Program) (t : TypeId) (d : DataW H) : Prop := ∀ n ∈ DataW.weights P t d, n ≤ reachBytes
theorem weightsEach_mem : ∀ (ts : List TypeId) (ds : List (DataW H)) (j : Nat) (t : TypeId) (d : DataW H), ts[j]? = some t → ds[j]? = some d → ∀ n ∈ DataW.weights P t d, n ∈ DataW.weightsEach P ts ds
  | [], _, _, _, _, q, _ => by simp at q
  | _ :: _, [], _, _, _, _, q => by simp at q
  | t :: ts, d :: ds, 0, _, _, q1, q2 => by
    simp only [List.getElem?_cons_zero, Option.some.injEq] at q1 q2
    subst q1; subst q2
    intro n hn; rw [DataW.weightsEach]; exact List.mem_append_left _ hn
  | t :: ts, d :: ds, j + 1, _, _, q1, q2 => by
    intro n hn; rw [DataW.weightsEach]; exact List.mem_append_right _ (weightsEach_mem ts ds j _ _ (by simpa using q1) (by simpa using q2) n hn)
theorem weightsAll_mem (e : TypeId) : ∀ (ds : List (DataW H)) (j : Nat) (d : DataW H), ds[j]? = some d → ∀ n ∈ DataW.weights P e d, n ∈ DataW.weightsAll P e ds
  | [], _, _, q => by simp at q
  | d :: ds, 0, _, q => by
    simp only [List.getElem?_cons_zero, Option.some.injEq] at q
    subst q
    intro n hn; rw [DataW.weightsAll]; exact List.mem_append_left _ hn
  | d :: ds, j + 1, _, q => by
    intro n hn; rw [DataW.weightsAll]; exact List.mem_append_right _ (weightsAll_mem e ds j _ (by simpa using q) n hn)
theorem Light.field {t : TypeId} {fs : Array Field} {ds : List (DataW H)} (hu : P.underlying t = some (.struct fs)) (hl : Light P t (.agg ds)) {i : Nat} {f : Field} {d : DataW H} (hf : fs[i]? = some f) (hd : ds[i]? = some d) : Light P f.type d := fun n hn => by
  refine hl n ?_
  rw [DataW.weights, hu]
  exact weightsEach_mem _ _ i _ _ (by simp [hf]) hd n hn
theorem Light.item {t e : TypeId} {k : Nat} {ds : List (DataW H)} (hu : P.underlying t = some (.array k e)) (hl : Light P t (.agg ds)) {i : Nat} {d : DataW H} (hd : ds[i]? = some d) : Light P e d := fun n hn => by
  refine hl n ?_
  rw [DataW.weights, hu]
  exact weightsAll_mem e _ i _ hd n hn
theorem Light.elem {t e : TypeId} {ds rs : List (DataW H)} (hu : P.underlying t = some (.slice e)) (hl : Light P t (.slice ds rs)) {i : Nat} {d : DataW H} (hd : ds[i]? = some d) : Light P e d := fun n hn => by
  refine hl n ?_
  rw [DataW.weights, hu]
  exact List.mem_cons_of_mem _ (List.mem_append_left _ (weightsAll_mem e _ i _ hd n hn))
theorem Light.slice {t e : TypeId} {ds rs : List (DataW H)} (hu : P.underlying t = some (.slice e)) (hl : Light P t (.slice ds rs)) : ds.length * P.bytesOf e ≤ reachBytes := by
  have h1 := hl ((ds.length + rs.length) * P.bytesOf e) (by rw [DataW.weights, hu]; exact List.mem_cons_self)
  exact Nat.le_trans (Nat.mul_le_mul_right _ (Nat.le_add_right _ _)) h1
theorem tiles_le : ∀ (fs : List Field) (a n : Nat), tiles P fs a n = true → a ≤ n
  | [], a, n, h => by have := Nat.eq_of_beq_eq_true h; omega
  | f :: r, a, n, h => by
    simp only [tiles, Bool.and_eq_true] at h
    have := tiles_le r _ n h.2
    omega
/-- cells of type t that read in w may be taken into h. -/
def Takes [Glob] (enc : TypeId × Value → H) (P : Program) (w : World) (base : Nat) (sp : Nat → Bool) (held : Bool) (n : Nat) (t : TypeId) (cs : List Value) : Prop := ∀ e h, WRel w e h → ∃ e' h' r, WRel w e' h' ∧ e.le e' ∧ Ext h h' ∧ VRs e' r cs ∧ AR P h' n t r

theorem embedFields [Glob] {w : World} {base n : Nat} {sp : Nat → Bool} {held : Bool} {cs : List Value} : ∀ (fs : List Field) (a : Nat), tiles P fs a cs.length = true →
    (∀ fd ∈ fs, Takes enc P w base sp held n fd.type ((cs.drop fd.offset).take (P.cellsOf fd.type))) → ∀ e h, WRel w e h →
    ∃ e' h' r, WRel w e' h' ∧ e.le e' ∧ Ext h h' ∧ VRs e' r (cs.drop a) ∧ ∀ fd ∈ fs, a ≤ fd.offset ∧ AR P h' n fd.type ((r.drop (fd.offset - a)).take (P.cellsOf fd.type))
  | [], a, ht, _, e, h, r => by
    have := Nat.eq_of_beq_eq_true ht
    exact ⟨e, h, [], r, e.le_refl, Ext.refl r.wfH, by rw [this, List.drop_length]; exact .nil, fun fd q => by cases q⟩
  | f :: fs, a, ht, hk, e, h, r => by
    simp only [tiles, Bool.and_eq_true] at ht
    have hoff := Nat.eq_of_beq_eq_true ht.1
    have hle := tiles_le fs _ _ ht.2
    obtain ⟨e1, h1, c1, r1, l1, x1, v1, a1⟩ := hk f (by simp) e h r
    obtain ⟨e2, h2, c2, r2, l2, x2, v2, a2⟩ := embedFields fs _ ht.2 (fun fd q => hk fd (by simp [q])) e1 h1 r1
    have hc1 : c1.length = P.cellsOf f.type := by
      have := v1.length
      rw [List.length_take, List.length_drop, hoff] at this
      omega
    refine ⟨e2, h2, c1 ++ c2, r2, Emb.le_trans l1 l2, x1.trans x2, ?_, ?_⟩
    · have := (v1.mono l2).append v2
      rw [hoff, ← List.drop_drop, List.take_append_drop] at this
      exact this
    · intro fd q
      rcases List.mem_cons.1 q with rfl | q
      · refine ⟨by omega, ?_⟩
        rw [hoff, Nat.sub_self, List.drop_zero, List.take_append_of_le_length (by omega), List.take_of_length_le (by omega)]
        exact a1.ext r1.wfH x2 _ _ _
      · obtain ⟨q1, q2⟩ := a2 fd q
        refine ⟨by omega, ?_⟩
        rw [show fd.offset - a = c1.length + (fd.offset - (a + P.cellsOf f.type)) by omega, ← List.drop_drop, List.drop_left]
        exact q2
theorem embedRow [Glob] {w : World} {base n : Nat} {sp : Nat → Bool} {held : Bool} {ty : TypeId} {z : Nat} {cs : List Value} : ∀ (k : Nat), k * z ≤ cs.length →
    (∀ i, i < k → Takes enc P w base sp held n ty ((cs.drop (i * z)).take z)) → ∀ e h, WRel w e h →
    ∃ e' h' r, WRel w e' h' ∧ e.le e' ∧ Ext h h' ∧ VRs e' r (cs.take (k * z)) ∧ ∀ i, i < k → AR P h' n ty ((r.drop (i * z)).take z)
  | 0, _, _, e, h, r => ⟨e, h, [], r, e.le_refl, Ext.refl r.wfH, by simp; exact .nil, fun i q => by omega⟩
  | k + 1, hk, ht, e, h, r => by
    rw [Nat.add_mul, Nat.one_mul] at hk
    obtain ⟨e1, h1, c1, r1, l1, x1, v1, a1⟩ := embedRow k (by omega) (fun i q => ht i (by omega)) e h r
    obtain ⟨e2, h2, c2, r2, l2, x2, v2, a2⟩ := ht k (by omega) e1 h1 r1
    have hc1 : c1.length = k * z := by
      have := v1.length
      rw [List.length_take] at this; omega
    have hc2 : c2.length = z := by
      have := v2.length
      rw [List.length_take, List.length_drop] at this; omega
    refine ⟨e2, h2, c1 ++ c2, r2, Emb.le_trans l1 l2, x1.trans x2, ?_, fun i hi => ?_⟩
    · have := (v1.mono l2).append v2
      rw [Nat.add_mul, Nat.one_mul, List.take_add]
      exact this
    · by_cases hik : i < k
      · have : (i + 1) * z ≤ k * z := Nat.mul_le_mul_right z hik
        rw [Nat.add_mul, Nat.one_mul] at this
        rw [List.drop_append_of_le_length (by omega), List.take_append_of_le_length (by rw [List.length_drop]; omega)]
        exact (a1 i hik).ext r1.wfH x2 _ _ _
      · obtain rfl : i = k := by omega
        rw [← hc1, List.drop_left, List.take_of_length_le (by omega)]
        exact a2

theorem embed [Glob] {w : World} {base : Nat} {sp : Nat → Bool} (hsp : ∀ b, sp b = true) {held : Bool} (hw : ∃ (k : Nat) (cc : Array Value) (el : TypeId) (fr : Nat × Nat), w.heap[k]? = some (.cells cc el fr)) : ∀ (n m : Nat) (t : TypeId) (cs : List Value) (x : DataW H × List MemPlace), plainT P m t = true →
    DataW.trod enc P w base sp held n t cs = some x → Light P t x.1 → Takes enc P w base sp held n t cs
  | 0, _, _, _, _, _, h, _ => by simp [DataW.trod] at h
  | _ + 1, 0, _, _, _, h, _, _ => by cases h
  | n + 1, m + 1, t, cs, x, hp, h, hlt => by
    intro e h0 r
    unfold plainT at hp
    cases hu : P.underlying t with
    | none => rw [hu] at hp; cases hp
    | some u =>
      rw [hu] at hp
      cases u with
      | bool =>
        obtain ⟨b, rfl, -⟩ := DataW.trod_bool hu h
        exact ⟨e, h0, [.bool b], r, e.le_refl, Ext.refl r.wfH, .one (.bool b), by unfold AR; rw [hu]; trivial⟩
      | int k =>
        obtain ⟨b, rfl, -, hwf⟩ := DataW.trod_int hu h
        exact ⟨e, h0, [.int k b], r, e.le_refl, Ext.refl r.wfH, .one (.int k b), by unfold AR; rw [hu]; exact ⟨rfl, hwf⟩⟩
      | string =>
        obtain ⟨s, rfl, -, hs⟩ := DataW.trod_string hu h
        exact ⟨e, h0, [.string s], r, e.le_refl, Ext.refl r.wfH, .one (.string s), by unfold AR; rw [hu]; exact hs⟩
      | struct fs =>
        simp only [Bool.and_eq_true, List.all_eq_true] at hp
        obtain ⟨xs, n', hn, hxe, hlen, hxl, hf⟩ := DataW.trod_struct hu h
        rw [hxe] at hlt
        obtain rfl : n' = n := by omega
        obtain ⟨e1, h1, c1, r1, l1, x1, v1, a1⟩ := embedFields fs.toList 0 (by rw [hlen]; exact hp.2) (fun fd hfd => by
          obtain ⟨i, hi, rfl⟩ := List.getElem_of_mem hfd
          have hg : fs[i]? = some fs.toList[i] := by rw [← Array.getElem?_toList]; exact List.getElem?_eq_getElem hi
          have h2 := hf i _ hg
          have hix : i < xs.length := by rw [hxl]; simpa using hi
          rw [List.getElem?_eq_getElem hix] at h2
          exact embed hsp hw n' m _ _ _ (hp.1 _ (List.getElem_mem hi)) h2 (hlt.field hu hg (by rw [List.getElem?_map, List.getElem?_eq_getElem hix]; rfl))) e h0 r
        refine ⟨e1, h1, c1, r1, l1, x1, by simpa using v1, ?_⟩
        unfold AR; rw [hu]
        have hl1 := v1.length
        simp only [List.drop_zero] at hl1
        exact ⟨by omega, fun fd hfd => by have := (a1 fd hfd).2; simpa using this⟩
      | array k el =>
        simp only [Bool.and_eq_true] at hp
        have hsz := Nat.eq_of_beq_eq_true hp.2
        obtain ⟨xs, n', hn, hxe, hlen, hxl, hf⟩ := DataW.trod_array hu h
        rw [hxe] at hlt
        obtain rfl : n' = n := by omega
        obtain ⟨e1, h1, c1, r1, l1, x1, v1, a1⟩ := embedRow (z := P.cellsOf el) (ty := el) (cs := cs) k (by omega) (fun i hi => by
          have h2 := hf i hi
          have hix : i < xs.length := by omega
          rw [List.getElem?_eq_getElem hix] at h2
          exact embed hsp hw n' m _ _ _ hp.1 h2 (hlt.item hu (by rw [List.getElem?_map, List.getElem?_eq_getElem hix]; rfl))) e h0 r
        rw [List.take_of_length_le (by omega)] at v1
        refine ⟨e1, h1, c1, r1, l1, x1, v1, ?_⟩
        unfold AR; rw [hu]
        exact ⟨by have := v1.length; omega, a1⟩
      | slice el =>
        simp only [Bool.and_eq_true, Bool.not_eq_true'] at hp
        have hz : P.cellsOf el ≠ 0 := fun q => by have := hp.2.2; rw [q] at this; simp at this
        rcases DataW.trod_slice hu h with ⟨rfl, -⟩ | ⟨a, len, cap, elems, rest, n', hn, rfl, hxe, hb, hl, hm, hlen, hel, hrest, -⟩
        · refine ⟨e, h0, [.slice none 0 0], r, e.le_refl, Ext.refl r.wfH, .one .nilSlice, ?_⟩
          unfold AR; rw [hu]
          exact ⟨0, [], Rd.none_ _ _, ⟨Nat.zero_le _, by rw [Nat.zero_mul]; exact Nat.zero_le _⟩, Nat.le_refl _, fun i hi => by omega⟩
        · obtain rfl : n' = n := by omega
          rw [hxe] at hlt
          have hwt : len * P.bytesOf el ≤ reachBytes := by have := hlt.slice hu; rwa [List.length_map, hlen] at this
          obtain ⟨hr1, hr2⟩ := hrest (hsp _)
          rcases Nat.eq_zero_or_pos cap with hc0 | hc0
          · subst hc0
            obtain rfl : len = 0 := by omega
            obtain ⟨k, cc, el0, fr, hk⟩ := hw
            obtain ⟨e1, r1, l1, x1, q1⟩ := r.addRo (sh := 0) (c := []) hk (by simp) (fun i v hi => by simp at hi)
            refine ⟨e1, _, [.slice (some ⟨h0.next, 0, none⟩) 0 0], r1, l1, x1, .one (.slice h0.next 0 a 0 0 ⟨k, 0, 0⟩ q1 (Nat.le_refl _) (.inr ⟨rfl, rfl⟩)), ?_⟩
            unfold AR; rw [hu]
            exact ⟨0, [], .inr ⟨h0.next, 0, 0, [], el0, none, true, rfl, by rw [AH.get_add, if_pos rfl], by simp [takeAt]⟩, ⟨Nat.zero_le _, by rw [Nat.zero_mul]; exact Nat.zero_le _⟩, Nat.le_refl _, fun i hi => by omega⟩
          · -- the first cell is there
            have hfirst : ∃ cs0 y, w.cells? base a (P.cellsOf el) = some cs0 ∧ DataW.trod enc P w base sp held n' el cs0 = some y := by
              rcases Nat.eq_zero_or_pos len with h0' | h0'
              · have h2 := hr2 0 (by omega)
                have hix : 0 < rest.length := by omega
                rw [List.getElem?_eq_getElem hix, h0', Option.bind_eq_some_iff] at h2
                obtain ⟨cs0, q1, q2⟩ := h2
                exact ⟨cs0, _, by simpa [Addr.add] using q1, q2⟩
              · have h2 := hel 0 h0'
                have hix : 0 < elems.length := by omega
                rw [List.getElem?_eq_getElem hix, Option.bind_eq_some_iff] at h2
                obtain ⟨cs0, q1, q2⟩ := h2
                exact ⟨cs0, _, by simpa [Addr.add] using q1, q2⟩
            obtain ⟨cs0, y0, g1, -⟩ := hfirst
            obtain ⟨-, g2, g3⟩ := World.cells?_some g1
            have g4 := g3 0 (by omega)
            rw [List.getElem?_eq_getElem (by omega)] at g4
            obtain ⟨ab, ao, asp⟩ := a
            simp only [Addr.add, if_true] at g4
            unfold World.cell? at g4
            simp only at g4
            cases hblk : w.heap[ab]? with
            | none => rw [hblk] at g4; cases g4
            | some ob =>
              rw [hblk] at g4
              cases ob with
              | cells cc el0 fr =>
                simp only at g4
                cases asp with
                | some s => simp at g4
                | none =>
                  simp only [Option.isSome_none, Bool.false_eq_true, if_false] at g4
                  have hao : ao < cc.size := (Array.getElem?_eq_some_iff.1 g4).1
                  have hcell : ∀ (i : Nat) (v : Value), w.cell? ⟨ab, ao + i, none⟩ = some v ↔ cc[ao + i]? = some v := fun i v => by
                    unfold World.cell?
                    simp [hblk]
                  -- each element's cells
                  have helem : ∀ i, i < len → ∃ y, DataW.trod enc P w base sp held n' el (((cc.toList.drop ao).drop (i * P.cellsOf el)).take (P.cellsOf el)) = some y ∧ Light P el y.1 ∧ ao + i * P.cellsOf el + P.cellsOf el ≤ cc.size := by
                    intro i hi
                    have h2 := hel i hi
                    have hix : i < elems.length := by omega
                    rw [List.getElem?_eq_getElem hix, Option.bind_eq_some_iff] at h2
                    obtain ⟨ci, q1, q2⟩ := h2
                    obtain ⟨-, q3, q4⟩ := World.cells?_some q1
                    have hadd : ∀ j, ((⟨ab, ao, none⟩ : Addr).add (i * P.cellsOf el)).add j = ⟨ab, ao + (i * P.cellsOf el + j), none⟩ := fun j => by rw [add_none, add_none, Nat.add_assoc]
                    have hlast : ao + i * P.cellsOf el + P.cellsOf el ≤ cc.size := by
                      have q5 := q4 (P.cellsOf el - 1) (by omega)
                      rw [List.getElem?_eq_getElem (by omega), hadd, hcell] at q5
                      have := (Array.getElem?_eq_some_iff.1 q5).1
                      omega
                    refine ⟨elems[i], ?_, hlt.elem hu (i := i) (by rw [List.getElem?_map, List.getElem?_eq_getElem hix]; rfl), hlast⟩
                    rw [← q2]
                    congr 1
                    refine List.ext_getElem? fun j => ?_
                    by_cases hj : j < P.cellsOf el
                    · rw [List.getElem?_take, if_pos hj, List.getElem?_drop, List.getElem?_drop]
                      have q5 := q4 j hj
                      have e2 : ci[j]? = some (ci[j]'(by omega)) := List.getElem?_eq_getElem (by omega)
                      rw [e2, hadd, hcell] at q5
                      rw [e2, Array.getElem?_toList]
                      exact q5
                    · rw [List.getElem?_eq_none (by rw [List.length_take]; omega), List.getElem?_eq_none (by omega)]
                  have hfit : ao + len * P.cellsOf el ≤ cc.size := by
                    rcases Nat.eq_zero_or_pos len with h0' | h0'
                    · rw [h0', Nat.zero_mul]; omega
                    · obtain ⟨-, -, -, q⟩ := helem (len - 1) (by omega)
                      have : (len - 1) * P.cellsOf el + P.cellsOf el = len * P.cellsOf el := by
                        rw [← Nat.succ_mul]; congr 1; omega
                      omega
                  obtain ⟨e1, h1, c1, r1, l1, x1, v1, a1⟩ := embedRow (z := P.cellsOf el) (ty := el) (cs := cc.toList.drop ao) len (by simp; omega) (fun i hi => by
                    obtain ⟨y, q1, q2, -⟩ := helem i hi
                    exact embed hsp hw n' m _ _ _ hp.2.1 q1 q2) e h0 r
                  have hc1 : c1.length = len * P.cellsOf el := by
                    have := v1.length
                    rw [List.length_take, List.length_drop, Array.length_toList] at this; omega
                  obtain ⟨e2, r2, l2, x2, q2⟩ := r1.addRo (sh := ao) (c := c1) hblk (by omega) (fun i v hi => by
                    obtain ⟨v', q1, q2⟩ := v1.get i v hi
                    refine ⟨v', ?_, q2⟩
                    rw [List.getElem?_take, List.getElem?_drop, Array.getElem?_toList] at q1
                    split at q1
                    · exact q1
                    · cases q1)
                  refine ⟨e2, _, [.slice (some ⟨h1.next, 0, none⟩) len cap], r2, Emb.le_trans l1 l2, x1.trans x2, .one (.slice h1.next 0 ⟨ab, ao, none⟩ len cap ⟨ab, ao, 0⟩ q2 hl (.inl rfl)), ?_⟩
                  unfold AR; rw [hu]
                  refine ⟨len, c1, .inr ⟨h1.next, 0, cap, c1, el0, none, true, rfl, by rw [AH.get_add, if_pos rfl], by rw [← hc1]; exact takeAt_all c1⟩, ⟨by omega, hwt⟩, hl, fun i hi => (a1 i hi).ext r1.wfH x2 _ _ _⟩
              | _ => cases g4
      | _ => cases hp
end
end
end Go.Proofs.Xx

/-
  From a law's contract over the checked run to the machine's call.
-/
namespace Go.Proofs.Xx
set_option linter.unusedSectionVars false
open Go Go.RowKit Go.WideShapes Go.ChangeShapes
set_option linter.unusedSimpArgs false
set_option linter.unusedVariables false

theorem VRs.one_inv {e : Emb} {r : List Value} {v : Value} (h : VRs e r [v]) : ∃ u, r = [u] ∧ VR e u v := by
  cases h with
  | cons u v' s s' h1 h2 => cases h2; exact ⟨u, rfl, h1⟩
section
variable {P : Program}
/-- A value of type t, by its cells. -/
def absV (P : Program) (t : TypeId) (r : List Value) : Value :=
  match P.underlying t with
  | some (.struct _) | some (.array _ _) => .agg r.toArray
  | _ => r.headD .nilFunc
theorem absV_ok {w : World} {rc : Reach} {b0 m : Nat} {t : TypeId} {v : Value} {e : Emb} {r : List Value} (hp : plainT P m t = true) (hval : Value.okWide P w rc b0 t v) (hv : VRs e r v.cells.toList) : VR e (absV P t r) v := by
  cases m with
  | zero => cases hp
  | succ m =>
    unfold plainT at hp
    unfold absV
    unfold Value.okWide at hval
    cases hu : P.underlying t with
    | none => rw [hu] at hp; cases hp
    | some u =>
      rw [hu] at hp hval
      cases u with
      | struct fs =>
        obtain ⟨cs, rfl, -⟩ := hval
        exact VR.agg (f := e) r cs.toList (by simpa [Value.cells] using hv)
      | array n el =>
        obtain ⟨cs, rfl, -⟩ := hval
        exact VR.agg (f := e) r cs.toList (by simpa [Value.cells] using hv)
      | bool =>
        have : ∃ b, v = .bool b := by cases v <;> simp_all [Cell.okWide, Cell.ok]
        obtain ⟨b, rfl⟩ := this
        obtain ⟨x, rfl, h1⟩ := VRs.one_inv (show VRs e r [.bool b] from hv)
        exact h1
      | int k =>
        have : ∃ k' b, v = .int k' b := by cases v <;> simp_all [Cell.okWide, Cell.ok]
        obtain ⟨k', b, rfl⟩ := this
        obtain ⟨x, rfl, h1⟩ := VRs.one_inv (show VRs e r [.int k' b] from hv)
        exact h1
      | string =>
        have : ∃ b, v = .string b := by cases v <;> simp_all [Cell.okWide, Cell.ok]
        obtain ⟨b, rfl⟩ := this
        obtain ⟨x, rfl, h1⟩ := VRs.one_inv (show VRs e r [.string b] from hv)
        exact h1
      | slice el =>
        have : ∃ a l c, v = .slice a l c := by cases v <;> simp_all [Cell.okWide, Cell.ok]
        obtain ⟨a, l, c, rfl⟩ := this
        obtain ⟨x, rfl, h1⟩ := VRs.one_inv (show VRs e r [.slice a l c] from hv)
        exact h1
      | _ => cases hp

/-- The values us, of types ts, read well in h. -/
def ArgsR (P : Program) (h : AH) : List TypeId → List Value → Prop
  | [], [] => True
  | t :: ts, u :: us => (∃ n r, AR P h n t r ∧ u = absV P t r) ∧ ArgsR P h ts us
  | _, _ => False
theorem ArgsR.ext {h h' : AH} (w : WfH h) (x : Ext h h') : ∀ (ts : List TypeId) (us : List Value), ArgsR P h ts us → ArgsR P h' ts us
  | [], [], q => q
  | t :: ts, u :: us, q => ⟨let ⟨n, r, h1, h2⟩ := q.1; ⟨n, r, h1.ext w x _ _ _, h2⟩, ArgsR.ext w x ts us q.2⟩
  | [], _ :: _, q => q.elim
  | _ :: _, [], q => q.elim

theorem ArgsR.cons_inv {h : AH} {t : TypeId} {ts : List TypeId} {us : List Value} (a : ArgsR P h (t :: ts) us) : ∃ n r us', us = absV P t r :: us' ∧ AR P h n t r ∧ ArgsR P h ts us' := by
  cases us with
  | nil => exact a.elim
  | cons u us =>
    obtain ⟨⟨n, r, h1, rfl⟩, h2⟩ := a
    exact ⟨n, r, us, rfl, h1, h2⟩
theorem ArgsR.nil_inv {h : AH} {us : List Value} (a : ArgsR P h [] us) : us = [] := by
  cases us with
  | nil => rfl
  | cons u us => exact a.elim

section
variable {H : Type} {enc : TypeId × Value → H}
theorem embedArgs [Glob] {w : World} {rc : Reach} {b0 base : Nat} {held : Bool} (hw : ∃ (k : Nat) (cc : Array Value) (el : TypeId) (fr : Nat × Nat), w.heap[k]? = some (.cells cc el fr)) : ∀ (ts : List TypeId) (vs : List Value) (ds : List (DataW H)) (ps : List MemPlace),
    ts.all (plainT P 20) = true → (∀ (j : Nat) t v, ts[j]? = some t → vs[j]? = some v → Value.okWide P w rc b0 t v) → DataW.TrodAll enc P w base (fun _ => true) held ts vs ds ps → (∀ n ∈ DataW.weightsEach P ts ds, n ≤ reachBytes) → ∀ e h, WRel w e h →
    ∃ e' h' us, WRel w e' h' ∧ e.le e' ∧ Ext h h' ∧ VRs e' us vs ∧ ArgsR P h' ts us
  | [], [], [], _, _, _, _, _, e, h, r => ⟨e, h, [], r, e.le_refl, Ext.refl r.wfH, .nil, trivial⟩
  | t :: ts, v :: vs, d :: ds, ps, hp, hval, hA, hz, e, h, r => by
    rw [DataW.weightsEach] at hz
    simp only [List.all_cons, Bool.and_eq_true] at hp
    obtain ⟨p, q, ⟨fuel, h1⟩, h2, rfl⟩ := hA
    obtain ⟨e1, g1, r1, w1, l1, x1, v1, a1⟩ := embed (fun _ => rfl) hw fuel 20 t _ _ hp.1 h1 (fun n hn => hz n (List.mem_append_left _ hn)) e h r
    obtain ⟨e2, g2, us, w2, l2, x2, v2, a2⟩ := embedArgs hw ts vs ds q hp.2 (fun j t v q1 q2 => hval (j + 1) t v (by simpa using q1) (by simpa using q2)) h2 (fun n hn => hz n (List.mem_append_right _ hn)) e1 g1 w1
    exact ⟨e2, g2, absV P t r1 :: us, w2, Emb.le_trans l1 l2, x1.trans x2, .cons _ _ _ _ (absV_ok hp.1 (hval 0 t v rfl rfl) (v1.mono l2)) v2, ⟨fuel, r1, a1.ext w1.wfH x2 _ _ _, rfl⟩, a2⟩
  | [], [], _ :: _, _, _, _, h, _, _, _, _ => h.elim
  | [], _ :: _, _, _, _, _, h, _, _, _, _ => h.elim
  | _ :: _, [], _, _, _, _, h, _, _, _, _ => h.elim
  | _ :: _, _ :: _, [], _, _, _, h, _, _, _, _ => h.elim

theorem light_app : ∀ {ts us : List TypeId} {ds gs : List (DataW H)}, (DataW.weightsEach P (ts ++ us) (ds ++ gs)).all (· ≤ reachBytes) = true → ∀ n ∈ DataW.weightsEach P ts ds, n ≤ reachBytes
  | [], _, _, _, _ => fun n hn => by simp [DataW.weightsEach] at hn
  | _ :: _, _, [], _, _ => fun n hn => by simp [DataW.weightsEach] at hn
  | t :: ts, us, d :: ds, gs, hz => fun n hn => by
    rw [List.cons_append, List.cons_append, DataW.weightsEach, List.all_append, Bool.and_eq_true] at hz
    rw [DataW.weightsEach] at hn
    rcases List.mem_append.1 hn with q | q
    · exact of_decide_eq_true (List.all_eq_true.1 hz.1 n q)
    · exact light_app hz.2 n q
/-- A LAW'S CALL: what its contract gives. -/
theorem law_calls [Glob] {X : Extern} (hm : P.follows .mixedOrders = true) (hX : XOk P X) (hN : ∀ (f : FuncId) (fn : Func), P.funcs[f]? = some fn → fn.body.isSome = true → (fn.name == "runtime.NumGoroutine") = false)
    {f : FuncId} {fn : Func} {body : Code} (hfn : P.funcs[f]? = some fn) (hb : fn.body = some body) (hXn : ∀ us h, X f us h = none) (hpl : fn.params.toList.all (plainT P 20) = true)
    (core : ∀ h us, WfH h → ArgsR P h fn.params.toList us → Fn P X f us h (fun x _ => x = .bool true))
    {w : World} {rc : Reach} {b0 : Nat} {args : Array Value} {ds : List (DataW H)} {ps : List MemPlace} (hg : Glob.ok w.heap.size w.heap) (hw : ∃ (k : Nat) (cc : Array Value) (el : TypeId) (fr : Nat × Nat), w.heap[k]? = some (.cells cc el fr))
    (hval : ∀ (j : Nat) t v, fn.params[j]? = some t → args[j]? = some v → Value.okWide P w rc b0 t v) (hA : DataW.TrodAll enc P w 0 (fun _ => true) true fn.params.toList args.toList ds ps) (hz : ∀ n ∈ DataW.weightsEach P fn.params.toList ds, n ≤ reachBytes) :
    Calls P f args w fun e w' => e = .returned (.bool true) ∧ Below w.heap.size w w' := by
  obtain ⟨e, h, us, r, -, -, v1, a1⟩ := embedArgs (P := P) hw fn.params.toList args.toList ds ps hpl (fun j t v q1 q2 => hval j t v (by simpa using q1) (by simpa using q2)) hA hz _ _ (WRel.empty hg)
  obtain ⟨n, v, h', hc, rfl⟩ := core h us r.wfH a1
  obtain ⟨e', v', w', r1, t1, hv, hcalls⟩ := callA_calls (exec_sound hm hX hN n) hc (hXn us h) hfn hb r.rel v1
  cases hv
  rw [Array.toArray_toList] at hcalls
  refine hcalls.mono fun en w'' ⟨q1, q2⟩ => ?_
  subst q2
  exact ⟨q1, t1.os, t1.tape, t1.output, t1.size, fun k hk => r1.keep k hk⟩
end
end
end Go.Proofs.Xx

/-
  Small lemmas for the rows.
-/
namespace Go.Proofs.Xx
set_option linter.unusedSectionVars false
open Go Go.RowKit Go.WideShapes Go.ChangeShapes
set_option linter.unusedSimpArgs false
set_option linter.unusedVariables false

section
variable {H : Type} {enc : TypeId × Value → H} {P : Program}
theorem trodAll_length {W : World} {base : Nat} {sp : Nat → Bool} {held : Bool} : ∀ {ts : List TypeId} {vs : List Value} {ds : List (DataW H)} {ps : List MemPlace}, DataW.TrodAll enc P W base sp held ts vs ds ps → ds.length = ts.length
  | [], [], [], _, _ => rfl
  | t :: ts, v :: vs, d :: ds, ps, h => by
    obtain ⟨p, q, _, h2, _⟩ := h
    simp [trodAll_length h2]
  | [], [], _ :: _, _, h => h.elim
  | [], _ :: _, _, _, h => h.elim
  | _ :: _, [], _, _, h => h.elim
  | _ :: _, _ :: _, [], _, h => h.elim

theorem post_of_below {f : Func} {s : ChangeSpec} {apart fresh handsOn again : Bool} {W W' : World} {args : Array Value} {v : Value} {ds gs : List (DataW H)} {before pa pv : List MemPlace}
    (hW : DataW.Whole enc P f.params.toList s.vars apart W args.toList ds gs before)
    (hres : ∀ (b : Nat) (sp : Nat → Bool) (hd : Bool), DataW.TrodAll enc P W' b sp hd f.resultTypes.toList (v.resultList f.resultTypes.size) (s.fn H (ds ++ gs)).results [])
    (hargs : ∀ sp : Nat → Bool, (∀ p ∈ before, sp p.block = true) → DataW.TrodAll enc P W' 0 sp true f.params.toList args.toList (s.fn H (ds ++ gs)).args pa)
    (hvars : ∀ sp : Nat → Bool, (∀ p ∈ before, sp p.block = true) → DataW.TrodVars enc P W' sp s.vars (s.fn H (ds ++ gs)).vars pv)
    (hps : before = pa ++ pv) (hb : Below W.heap.size W W')
    (hok : ∀ (j : Nat) (t : TypeId) (r : Value), f.resultTypes[j]? = some t → (v.resultList f.resultTypes.size)[j]? = some r → Value.okWide P W' .any 0 t r) :
    s.post enc P f apart fresh handsOn again W args v W' := by
  have hlt : ∀ p ∈ before, p.block < W.heap.size := fun p hp => hW.lt p hp
  have hold : ∀ p ∈ before, (fun b => decide (b < W.heap.size)) p.block = true := fun p hp => by simpa using hlt p hp
  refine ⟨ds, gs, before, [], pa, pv, hW, hres _ _ _, hargs _ hold, hvars _ hold, World.keptBut_mono (fun p hp => ⟨hp, ?_⟩) (hb.frame (· ∈ before)), fun _ => ?_⟩
  · rw [hps, List.mem_append] at hp
    exact Or.inr hp
  · obtain ⟨_, _, _, _, _, hz, hn⟩ := hW
    refine ⟨hok, _, _, ([] ++ pa) ++ pv, ⟨[] ++ pa, pv, trodAll_append (hargs _ (fun _ _ => rfl)) (hres _ _ _), hvars _ (fun _ _ => rfl), rfl, ?_, ?_⟩, ?_⟩
    · intro b off hp
      have hin : MemPlace.cell b off ∈ before := by rw [hps]; simpa using hp
      rw [hb.frozen (hlt _ hin)]
      exact hz b off hin
    · intro ha
      have := hn ha
      rw [hps] at this
      simpa using this
    · intro p hp _
      rw [hps]
      simpa using hp
end
end Go.Proofs.Xx

/-
  Arguments of a law, opened by their types.
-/
namespace Go.Proofs.Xx
set_option linter.unusedSectionVars false
open Go
set_option linter.unusedSimpArgs false
set_option linter.unusedVariables false

section
variable {P : Program} {h : AH}
theorem AR.int1 {n : Nat} {t : TypeId} {r : List Value} {k : IntKind} (a : AR P h n t r) (hu : P.underlying t = some (.int k)) : ∃ x : Int, r = [.int k x] ∧ (Lit.int k x).wf = true := by
  cases n with
  | zero => exact a.elim
  | succ n =>
    unfold AR at a
    rw [hu] at a
    split at a
    all_goals (first | exact a.elim | (rename_i q _; cases q; done) | (rename_i q; cases q; done) | skip)
    rename_i k0 k' x q
    cases q
    obtain ⟨rfl, h2⟩ := a
    exact ⟨x, rfl, h2⟩
theorem AR.struct1 {n : Nat} {t : TypeId} {r : List Value} {fs : Array Field} {m : List (Nat × TypeId)} {z : Nat} (a : AR P h n t r) (hu : P.underlying t = some (.struct fs)) (hm : fs.toList.map (fun f => (f.offset, f.type)) = m) (hz : P.cellsOf t = z) :
    ∃ n', r.length = z ∧ ∀ p ∈ m, AR P h n' p.2 ((r.drop p.1).take (P.cellsOf p.2)) := by
  cases n with
  | zero => exact a.elim
  | succ n =>
    unfold AR at a
    rw [hu] at a
    replace a : r.length = P.cellsOf t ∧ ∀ fd ∈ fs.toList, AR P h n fd.type ((r.drop fd.offset).take (P.cellsOf fd.type)) := a
    refine ⟨n, by rw [a.1, hz], fun p hp => ?_⟩
    rw [← hm, List.mem_map] at hp
    obtain ⟨fd, hf, rfl⟩ := hp
    exact a.2 fd hf
theorem AR.array1 {n : Nat} {t e : TypeId} {k z : Nat} {r : List Value} (a : AR P h n t r) (hu : P.underlying t = some (.array k e)) (hz : P.cellsOf t = z) : ∃ n', r.length = z ∧ ∀ i, i < k → AR P h n' e ((r.drop (i * P.cellsOf e)).take (P.cellsOf e)) := by
  cases n with
  | zero => exact a.elim
  | succ n =>
    unfold AR at a
    rw [hu] at a
    replace a : r.length = P.cellsOf t ∧ ∀ i, i < k → AR P h n e ((r.drop (i * P.cellsOf e)).take (P.cellsOf e)) := a
    exact ⟨n, by rw [a.1, hz], a.2⟩
theorem pieces {α : Type} {z : Nat} {enc : α → List Value} {good : α → Prop} : ∀ (n : Nat) (c : List Value), c.length = n * z → (∀ i, i < n → ∃ y, (c.drop (i * z)).take z = enc y ∧ good y) → ∃ l : List α, l.length = n ∧ c = l.flatMap enc ∧ ∀ y ∈ l, good y
  | 0, c, hc, _ => ⟨[], rfl, by rw [Nat.zero_mul] at hc; rw [List.length_eq_zero_iff.1 hc]; rfl, fun y q => by cases q⟩
  | n + 1, c, hc, hk => by
    rw [Nat.add_mul, Nat.one_mul] at hc
    obtain ⟨y, h1, h2⟩ := hk 0 (by omega)
    obtain ⟨l, l1, l2, l3⟩ := pieces (z := z) (enc := enc) (good := good) n (c.drop z) (by rw [List.length_drop, hc]; omega) (fun i hi => by
      obtain ⟨y, q1, q2⟩ := hk (i + 1) (by omega)
      refine ⟨y, ?_, q2⟩
      rw [List.drop_drop, ← q1, Nat.add_mul, Nat.one_mul, Nat.add_comm z])
    rw [Nat.zero_mul, List.drop_zero] at h1
    refine ⟨y :: l, by simp [l1], ?_, fun x q => ?_⟩
    · rw [List.flatMap_cons, ← h1, ← l2, List.take_append_drop]
    · rcases List.mem_cons.1 q with rfl | q
      · exact h2
      · exact l3 x q
theorem AR.slice1w {α : Type} [Inhabited α] {n : Nat} {t e : TypeId} {r : List Value} {z : Nat} (enc : α → List Value) (good : α → Prop) (a : AR P h n t r) (hu : P.underlying t = some (.slice e)) (hz : P.cellsOf e = z) (hk : ∀ n cs, AR P h n e cs → ∃ y, cs = enc y ∧ good y) :
    ∃ v l, r = [v] ∧ RdL h v z enc l ∧ (l.length ≤ maxLen ∧ l.length * P.bytesOf e ≤ reachBytes) ∧ CapOk v ∧ ∀ i, i < l.length → good (l.getD i default) := by
  cases n with
  | zero => exact a.elim
  | succ n =>
    unfold AR at a
    rw [hu] at a
    split at a
    all_goals (first | exact a.elim | (rename_i q _; cases q; done) | (rename_i q; cases q; done) | skip)
    rename_i e' v q
    cases q
    obtain ⟨k, c, h1, h2, hc, h3⟩ := a
    rw [hz] at h1 h3
    obtain ⟨l, l1, l2, l3⟩ := pieces (enc := enc) (good := good) k c h1.length (fun i hi => hk n _ (h3 i hi))
    subst l1 l2
    refine ⟨v, l, rfl, h1, h2, hc, fun i hi => ?_⟩
    rw [List.getD_eq_getElem?_getD, List.getElem?_eq_getElem hi]
    exact l3 _ (List.getElem_mem hi)
theorem AR.slice1 {α : Type} [Inhabited α] {n : Nat} {t e : TypeId} {r : List Value} {z : Nat} (enc : α → List Value) (good : α → Prop) (a : AR P h n t r) (hu : P.underlying t = some (.slice e)) (hz : P.cellsOf e = z) (hk : ∀ n cs, AR P h n e cs → ∃ y, cs = enc y ∧ good y) :
    ∃ v l, r = [v] ∧ RdL h v z enc l ∧ l.length ≤ maxLen ∧ CapOk v ∧ ∀ i, i < l.length → good (l.getD i default) := by
  obtain ⟨v, l, h1, h2, h3, h4, h5⟩ := AR.slice1w enc good a hu hz hk
  exact ⟨v, l, h1, h2, h3.1, h4, h5⟩
theorem AR.ints1 {n : Nat} {t e : TypeId} {r : List Value} (a : AR P h n t r) (hu : P.underlying t = some (.slice e)) (he : P.underlying e = some (.int .i64)) (hc : P.cellsOf e = 1) :
    ∃ v l, r = [v] ∧ RdL h v 1 eI l ∧ l.length ≤ maxLen ∧ CapOk v := by
  obtain ⟨v, l, h1, h2, h3, h4, -⟩ := AR.slice1 eI (fun _ => True) a hu hc (fun n cs q => by
    obtain ⟨x, hx, -⟩ := q.int1 he
    exact ⟨x, hx, trivial⟩)
  exact ⟨v, l, h1, h2, h3, h4⟩
theorem AR.bytes1 {n : Nat} {t e : TypeId} {r : List Value} (a : AR P h n t r) (hu : P.underlying t = some (.slice e)) (he : P.underlying e = some (.int .u8)) (hc : P.cellsOf e = 1) :
    ∃ v l, r = [v] ∧ RdL h v 1 eU l ∧ l.length ≤ maxLen ∧ CapOk v ∧ ∀ i, i < l.length → l.getD i default < 256 :=
  AR.slice1 eU (fun x => x < 256) a hu hc (fun n cs q => by
    obtain ⟨x, hx, hw⟩ := q.int1 he
    have : 0 ≤ x ∧ x < 256 := by
      simp [Lit.wf, IntKind.min, IntKind.max, IntKind.signed, IntKind.bits] at hw
      omega
    refine ⟨x.toNat, ?_, by omega⟩
    rw [hx]; unfold eU; rw [Int.toNat_of_nonneg this.1])
end
end Go.Proofs.Xx

/-
  Numbers that a problem is made of, among the arguments; the core of ServiceMetric.
-/
namespace Go.Proofs.Xx
open Go Go.RowKit Go.Proofs
set_option linter.unusedSimpArgs false
set_option linter.unusedVariables false
set_option linter.unusedSectionVars false
set_option maxRecDepth 100000
theorem AR.e16s {h : AH} {n : Nat} {r : List Value} (a : AR Tryz.prog h n 23 r) : ∃ v l, r = [v] ∧ RdL h v 1 e16 l ∧ l.length ≤ maxLen ∧ CapOk v ∧ ∀ i, i < l.length → l.getD i default < 65536 :=
  AR.slice1 (e := 45) (z := 1) e16 (fun x => x < 65536) a (by kernel_rfl) (by kernel_rfl) (fun n cs q => by
    obtain ⟨x, hx, hw⟩ := q.int1 (k := .u16) (by kernel_rfl)
    have : 0 ≤ x ∧ x < 65536 := by
      simp [Lit.wf, IntKind.min, IntKind.max, IntKind.signed, IntKind.bits] at hw
      omega
    refine ⟨x.toNat, ?_, by omega⟩
    rw [hx]; unfold e16; rw [Int.toNat_of_nonneg this.1])
theorem AR.e32s {h : AH} {n : Nat} {r : List Value} (a : AR Tryz.prog h n 24 r) : ∃ v l, r = [v] ∧ RdL h v 1 e32 l ∧ l.length ≤ maxLen ∧ CapOk v ∧ ∀ i, i < l.length → l.getD i default < 4294967296 :=
  AR.slice1 (e := 111) (z := 1) e32 (fun x => x < 4294967296) a (by kernel_rfl) (by kernel_rfl) (fun n cs q => by
    obtain ⟨x, hx, hw⟩ := q.int1 (k := .u32) (by kernel_rfl)
    have : 0 ≤ x ∧ x < 4294967296 := by
      simp [Lit.wf, IntKind.min, IntKind.max, IntKind.signed, IntKind.bits] at hw
      omega
    refine ⟨x.toNat, ?_, by omega⟩
    rw [hx]; unfold e32; rw [Int.toNat_of_nonneg this.1])
theorem AR.e8s {h : AH} {n : Nat} {r : List Value} (a : AR Tryz.prog h n 22 r) : ∃ v l, r = [v] ∧ RdL h v 1 eU l ∧ l.length ≤ maxLen ∧ CapOk v ∧ ∀ i, i < l.length → l.getD i default < 256 :=
  AR.bytes1 (e := 5) a (by kernel_rfl) (by kernel_rfl) (by kernel_rfl)
theorem AR.u8n {h : AH} {n : Nat} {r : List Value} (a : AR Tryz.prog h n 5 r) : ∃ x : Nat, r = [.int .u8 x] ∧ x < 256 := by
  obtain ⟨x, hx, hw⟩ := a.int1 (k := .u8) (by kernel_rfl)
  have : 0 ≤ x ∧ x < 256 := by
    simp [Lit.wf, IntKind.min, IntKind.max, IntKind.signed, IntKind.bits] at hw
    omega
  exact ⟨x.toNat, by rw [hx, Int.toNat_of_nonneg this.1], by omega⟩
theorem AR.nums1 {h : AH} {n : Nat} {r : List Value} (a : AR Tryz.prog h n 26 r) : ∃ (v : NuV) (na nb nc nd : List Nat), r = v.cs ∧ NuR h v na nb nc nd := by
  obtain ⟨n', hl, hk⟩ := a.struct1 (m := [(0, 22), (1, 23), (2, 22), (3, 24)]) (z := 4) rfl (by kernel_rfl) (by kernel_rfl)
  match r, hl with
  | [x0, x1, x2, x3], _ =>
    obtain ⟨v0, l0, e0, r0, m0, c0, b0⟩ := AR.e8s (show AR Tryz.prog h n' 22 [x0] from hk (0, 22) (by simp))
    obtain ⟨v1, l1, e1, r1, m1, c1, b1⟩ := AR.e16s (show AR Tryz.prog h n' 23 [x1] from hk (1, 23) (by simp))
    obtain ⟨v2, l2, e2, r2, m2, c2, b2⟩ := AR.e8s (show AR Tryz.prog h n' 22 [x2] from hk (2, 22) (by simp))
    obtain ⟨v3, l3, e3, r3, m3, c3, b3⟩ := AR.e32s (show AR Tryz.prog h n' 24 [x3] from hk (3, 24) (by simp))
    obtain ⟨s0, rfl⟩ := r0.isSl
    obtain ⟨s1, rfl⟩ := r1.isSl
    obtain ⟨s2, rfl⟩ := r2.isSl
    obtain ⟨s3, rfl⟩ := r3.isSl
    cases e0; cases e1; cases e2; cases e3
    unfold maxLen at m0 m1 m2 m3
    exact ⟨⟨s0, s1, s2, s3⟩, l0, l1, l2, l3, rfl, ⟨r0, r1, c1, r2, r3, by omega, by omega, by omega, by omega, b0, b1, b2, b3⟩⟩
end Go.Proofs.Xx
