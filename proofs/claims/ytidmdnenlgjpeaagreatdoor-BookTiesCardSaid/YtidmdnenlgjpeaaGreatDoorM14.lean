/-
  Rows with room, op by op; Delete; Untie.
-/
import Derived.Test.YtidmdnenlgjpeaaGreatDoorM13

namespace Go.Proofs.Xx
open Go Go.Proofs
set_option linter.unusedSimpArgs false
set_option linter.unusedVariables false
set_option linter.unusedSectionVars false
set_option maxRecDepth 100000
set_option maxHeartbeats 4000000

/-- One block is changed at most, blocks are made at most. -/
structure Chg (h h' : AH) (b : Nat) (o : AObj) : Prop where
  at_ : h'.get b = some o
  old : ∀ j, j ≠ b → j < h.next → h'.get j = h.get j
  next : h.next ≤ h'.next
  wf : WfH h'
theorem Chg.trans {h h' h'' : AH} {b : Nat} {o o' : AObj} (c : Chg h h' b o) (d : Chg h' h'' b o') : Chg h h'' b o' :=
  ⟨d.at_, fun j hj hn => (d.old j hj (Nat.lt_of_lt_of_le hn c.next)).trans (c.old j hj hn), Nat.le_trans c.next d.next, d.wf⟩
theorem splice_nil {c : List Value} {o : Nat} (h : o ≤ c.length) : splice c o [] = c := by simp [splice]
section
variable {P : Program} {X : Extern} {sz : Nat} {L L' : Ks} {h : AH} {ops : Array Oper} {os : List Oper} {o : Oper} {R : Ks → AH → Prop}
/-- v[l:r:m], which nothing looks at. -/
theorem rw3 {x lo hi mx : Operand} {vl vr vm : Value} {ty e' e : TypeId} {b o' n cap l r m z : Nat} {cc : List Value} {slk : Option Nat} {ro : Bool} (hb : h.get b = some (.cells cc e slk ro)) (wf : WfH h)
    (w : ∀ h', Chg h h' b (.cells cc e slk ro) → KO P X sz ops os L' h' R) (ho : o.op = .slice ty x (some lo) (some hi) (some mx) := by exact rfl) (hg : guardA ops L.tree o.guard = some true := by exact rfl) (hx : kA L x = some (.slice (some ⟨b, o', none⟩) n cap) := by exact rfl)
    (h1 : kA L lo = some vl := by exact rfl) (h2 : kA L hi = some vr := by exact rfl) (h3 : kA L mx = some vm := by exact rfl) (b1 : boundOf (some vl) 0 = some l := by exact rfl) (b2 : boundOf (some vr) n = some r := by exact rfl) (b3 : boundOf (some vm) cap = some m := by exact rfl)
    (hc : l ≤ r ∧ r ≤ m ∧ m ≤ cap := by omega) (hu : P.underlying ty = some (.slice e') := by exact rfl) (hz : sizeT P e' = some z := by exact rfl) (hp : putK sz L o.dst (.slice (some ⟨h.next, 0, none⟩) (r - l) (m - l)) = some L' := by exact rfl) : KO P X sz ops (o :: os) L h R := by
  refine KO_val (v := .slice (some ⟨h.next, 0, none⟩) (r - l) (m - l)) (h' := { tr := h.tr, next := h.next + 1, low := lowest h.low b }) hg ?_ hp (w _ ⟨hb, fun j _ _ => rfl, Nat.le_succ _, fun j hj => wf j (Nat.le_of_succ_le hj)⟩)
  rw [ho]
  simp only [aOp, tree_le hx, evOpt, tree_le h1, tree_le h2, tree_le h3, aSlice3, hu, hb, hz, b1, b2, b3, Nat.ble_eq_true_of_le hc.1, Nat.ble_eq_true_of_le hc.2.1, Nat.ble_eq_true_of_le hc.2.2, Bool.and_self]
/-- v[l:r], raw. -/
theorem rw2 {x : Operand} {lo hi : Option Operand} {vl vr : Option Value} {ty e' e : TypeId} {b o' n cap l r z : Nat} {cc : List Value} {slk : Option Nat} {ro : Bool} {d : Tmp} (hb : h.get b = some (.cells cc e slk ro))
    (w : ∀ o2, (l < cap → o2 = o' + l * z) → (slk ≠ none → o2 = o' + l * z) → KO P X sz ops os (L.put d (.slice (some ⟨b, o2, none⟩) (r - l) (cap - l))) h R) (ho : o.op = .slice ty x lo hi none := by exact rfl) (hg : guardA ops L.tree o.guard = some true := by exact rfl) (hx : kA L x = some (.slice (some ⟨b, o', none⟩) n cap) := by exact rfl)
    (h1 : evOpt L.tree lo = some vl := by exact rfl) (h2 : evOpt L.tree hi = some vr := by exact rfl) (b1 : boundOf vl 0 = some l := by exact rfl) (b2 : boundOf vr n = some r := by exact rfl)
    (hc : l ≤ r ∧ r ≤ cap := by omega) (hu : P.underlying ty = some (.slice e') := by exact rfl) (hz : sizeT P e' = some z := by exact rfl) (hdst : o.dst = some d := by exact rfl) (hds : Nat.blt d sz = true := by exact rfl) : KO P X sz ops (o :: os) L h R := by
  have key : ∀ o2, aSlice P ty (.slice (some ⟨b, o', none⟩) n cap) vl vr none h = some (.slice (some ⟨b, o2, none⟩) (r - l) (cap - l)) → (l < cap → o2 = o' + l * z) → (slk ≠ none → o2 = o' + l * z) → KO P X sz ops (o :: os) L h R := fun o2 q1 q2 q3 => by
    refine KO_val (v := .slice (some ⟨b, o2, none⟩) (r - l) (cap - l)) (h' := h) hg ?_ (by simp only [putK, hdst, hds]) (w o2 q2 q3)
    rw [ho]
    simp only [aOp, tree_le hx, h1, h2, show evOpt L.tree none = some none from rfl, q1, nextOf, aSlice3_none]
  cases hq : slk.isNone && Nat.beq l cap with
  | true =>
    rw [Bool.and_eq_true] at hq
    have hl := Nat.eq_of_beq_eq_true hq.2
    subst hl
    refine key o' ?_ (fun q => by omega) (fun q => by cases slk with | none => exact absurd rfl q | some k => cases hq.1)
    simp only [aSlice, hu, hb, hz, b1, b2, Nat.ble_eq_true_of_le hc.1, Nat.ble_eq_true_of_le hc.2, Bool.and_self, hq.1, show Nat.beq l l = true by simp]
  | false =>
    refine key (o' + l * z) ?_ (fun _ => rfl) (fun _ => rfl)
    simp only [aSlice, hu, hb, hz, b1, b2, Nat.ble_eq_true_of_le hc.1, Nat.ble_eq_true_of_le hc.2, Bool.and_self, hq]
/-- append where there is room. -/
theorem rwa {x y : Operand} {ts tx e e2 : TypeId} {zc new cc : List Value} {by_ b o' n cap m z : Nat} {slk : Option Nat} {u : Value} {d : Tmp} (hb : h.get b = some (.cells cc e2 slk false)) (wf : WfH h) (hr : Rd h u z m new)
    (w : ∀ h', Chg h h' b (.cells (splice cc (o' + n * z) new) e2 slk false) → KO P X sz ops os (L.put d (.slice (some ⟨b, o', none⟩) (n + m) cap)) h' R)
    (ho : o.op = .call { callee := .builtin .append, args := #[x, y], argTypes := #[ts, tx] } := by exact rfl) (hg : guardA ops L.tree o.guard = some true := by exact rfl) (hx : kA L x = some (.slice (some ⟨b, o', none⟩) n cap) := by exact rfl) (hy : kA L y = some u := by exact rfl)
    (hs : sliceElem P ts = some e := by exact rfl) (hz : zeroCellsT P e = some zc := by exact rfl) (hzl : zc.length = z := by exact rfl) (hby : bytesT P e = some (by_ + 1) := by exact rfl) (hxs : P.underlying tx = some (.slice e) := by exact rfl)
    (hc : n + m ≤ cap := by omega) (hcc : o' + cap * z ≤ cc.length := by assumption) (h1 : new.all one? = true := by assumption) (hsz : (m + 1) * (by_ + 1) ≤ 1099511627776 := by omega) (hdst : o.dst = some d := by exact rfl) (hds : Nat.blt d sz = true := by exact rfl) : KO P X sz ops (o :: os) L h R := by
  subst hzl
  have hlen := hr.length
  have hfit : o' + n * zc.length + new.length ≤ cc.length := by
    rw [hlen, Nat.add_assoc, ← Nat.add_mul]
    exact Nat.le_trans (Nat.add_le_add_left (Nat.mul_le_mul_right _ hc) _) hcc
  have k2 : Nat.beq new.length (m * zc.length) = true := by rw [hlen]; simp
  have hsrc : aSource zc.length u h = some (m, new) := hr.source
  have go : ∀ h', aAppend P [ts, tx] (.slice (some ⟨b, o', none⟩) n cap) u h = some (.slice (some ⟨b, o', none⟩) (n + m) cap, h') → Chg h h' b (.cells (splice cc (o' + n * zc.length) new) e2 slk false) → KO P X sz ops (o :: os) L h R := fun h' q1 q2 => by
    refine KO_val (v := .slice (some ⟨b, o', none⟩) (n + m) cap) (h' := h') hg ?_ (by simp only [putK, hdst, hds]) (w h' q2)
    rw [ho]
    simp [aOp, tree_le hx, tree_le hy, evAll, aBuiltin, q1, nextOf2]
  cases m with
  | zero =>
    have hn : new = [] := List.length_eq_zero_iff.1 (by omega)
    subst hn
    refine go h ?_ ⟨by rw [splice_nil (by simp at hfit; omega)]; exact hb, fun _ _ _ => rfl, Nat.le_refl _, wf⟩
    simp only [aAppend, hs, hxs, hz, hby, hsrc, Nat.ble_eq_true_of_le hsz, h1, k2, Bool.and_self, hb, Nat.ble_eq_true_of_le (show n ≤ cap from hc), Nat.add_zero]
  | succ m =>
    refine go (h.put b (.cells (splice cc (o' + n * zc.length) new) e2 slk false)) ?_ ⟨by rw [AH.get_put, if_pos rfl], fun j hj _ => by rw [AH.get_put, if_neg hj], Nat.le_refl _, wf.put (wf.lt hb) _⟩
    simp only [aAppend, hs, hxs, hz, hby, hsrc, Nat.ble_eq_true_of_le hsz, h1, k2, Bool.and_self, hb, Nat.ble_eq_true_of_le hc, putCells, Nat.ble_eq_true_of_le hfit]
/-- clear. -/
theorem zrow_len (zc : List Value) : ∀ n, (zeroRow zc n).length = n * zc.length
  | 0 => by simp [zeroRow]
  | n + 1 => by rw [zeroRow, List.length_append, zrow_len zc n, Nat.add_mul, Nat.one_mul, Nat.add_comm]
theorem zrow_one {zc : List Value} (h : zc.all one? = true) : ∀ n, (zeroRow zc n).all one? = true
  | 0 => rfl
  | n + 1 => by rw [zeroRow, List.all_append, h, zrow_one h n]; rfl
theorem rwc {x : Operand} {ty e e2 : TypeId} {zc cc : List Value} {b o' n cap : Nat} {slk : Option Nat} (hb : h.get b = some (.cells cc e2 slk false)) (wf : WfH h)
    (w : ∀ h', Chg h h' b (.cells (splice cc o' (zeroRow zc n)) e2 slk false) → KO P X sz ops os L' h' R)
    (ho : o.op = .call { callee := .builtin .clear, args := #[x], argTypes := #[ty] } := by exact rfl) (hg : guardA ops L.tree o.guard = some true := by exact rfl) (hx : kA L x = some (.slice (some ⟨b, o', none⟩) n cap) := by exact rfl)
    (hu : P.underlying ty = some (.slice e) := by exact rfl) (hz : zeroCellsT P e = some zc := by exact rfl) (h1 : zc.all one? = true := by exact rfl) (hfit : o' + n * zc.length ≤ cc.length := by omega) (hp : putK sz L o.dst (.tuple #[]) = some L' := by exact rfl) : KO P X sz ops (o :: os) L h R := by
  have go : ∀ h', aClear P ty (.slice (some ⟨b, o', none⟩) n cap) h = some h' → Chg h h' b (.cells (splice cc o' (zeroRow zc n)) e2 slk false) → KO P X sz ops (o :: os) L h R := fun h' q1 q2 => by
    refine KO_val (v := .tuple #[]) (h' := h') hg ?_ hp (w h' q2)
    rw [ho]
    simp [aOp, tree_le hx, evAll, aBuiltin, q1]
  have hfit2 : o' + (zeroRow zc n).length ≤ cc.length := by rw [zrow_len]; exact hfit
  cases n with
  | zero =>
    refine go h ?_ ⟨by show _ = some (AObj.cells (splice cc o' []) e2 slk false); rw [splice_nil (by omega)]; exact hb, fun _ _ _ => rfl, Nat.le_refl _, wf⟩
    simp only [aClear, hu]
  | succ n =>
    refine go (h.put b (.cells (splice cc o' (zeroRow zc (n + 1))) e2 slk false)) ?_ ⟨by rw [AH.get_put, if_pos rfl], fun j hj _ => by rw [AH.get_put, if_neg hj], Nat.le_refl _, wf.put (wf.lt hb) _⟩
    simp only [aClear, hu, hz, hb, putCells, zrow_one h1, Nat.ble_eq_true_of_le hfit2, Bool.and_self]
end
/-- What stands in a row when a piece is taken out and the end is cleared. -/
theorem del_get {cc old zr : List Value} {s a b z n : Nat} (ho : ∀ j, j < n → cc[s + j]? = old[j]?) (hn : old.length = n) (hab : a ≤ b ∧ b ≤ n) (hz : zr.length = b - a) (hs : s + n ≤ cc.length) :
    ∀ j, j < a + (n - b) → (splice (splice cc (s + a) (old.drop b)) (s + (a + (n - b))) zr)[s + j]? = (old.take a ++ old.drop b)[j]? := by
  intro j hj
  have l1 : s + a + (old.drop b).length ≤ cc.length := by rw [List.length_drop]; omega
  have l2 : (splice cc (s + a) (old.drop b)).length = cc.length := splice_length _ _ _ l1
  have hd : (old.drop b).length = n - b := by rw [List.length_drop, hn]
  have ht : (old.take a).length = a := by rw [List.length_take]; omega
  rw [splice_get _ _ _ (by rw [l2]; omega), splice_get _ _ _ l1, if_pos (by omega), List.getElem?_append, ht]
  by_cases h1 : j < a
  · rw [if_pos (by omega), if_pos h1, List.getElem?_take, if_pos h1, ho j (by omega)]
  · rw [if_neg (by omega), if_pos (by omega), if_neg h1]
    congr 1; omega
theorem takeAt_ext {c xs : List Value} {o n : Nat} (hl : xs.length = n) (hfit : o + n ≤ c.length) (hg : ∀ j, j < n → c[o + j]? = xs[j]?) : takeAt c o n = some xs := by
  rw [takeAt_mk hfit]
  congr 1
  apply List.ext_getElem?
  intro j
  rw [List.getElem?_take]
  split
  · rw [List.getElem?_drop]; exact hg j (by assumption)
  · rw [List.getElem?_eq_none (by omega)]
variable [Flag]
theorem delT_ok {h0 h : AH} {rs : List Rs} {v : SlV} {l : List Ti} (i : Nat) (hi : i < l.length) (hl : l.length ≤ 1000000) (S : Hs h0 h (.sl v.val 111 3 eTi l :: rs)) :
    Fn Tryz.prog Xh 97 [v.val, .int .i64 i, .int .i64 ((i : Int) + 1)] h (fun u h' => Hs h0 h' (.sl u 111 3 eTi (l.take i ++ l.drop (i + 1)) :: rs)) := by
  have S0 := S
  obtain ⟨f1, k1, k2, k3⟩ := S.sep
  have hr := Rd.of_sl S .here
  rcases k1 with ⟨-, rfl⟩ | ⟨b, o, cc, slk, cap, e1, g1, fb, t1, c1, s1⟩
  · simp at hi
  rw [e1] at hr ⊢
  have hb := g1
  have w := S.wf
  have hcc : o + cap * 3 ≤ cc.length := c1.2
  replace S := Hs.start S.wf
  have hfl := flatMap_length (enc := eTi) (z := 3) (by intro _; rfl) l
  have hcap := c1.1
  refine Fn_K rfl Tryz.func97 rfl rfl ?_
  all_goals (repeat' (first | refine K_seq ?_ | refine k_cond rfl ?_ | refine K_skip ?_ | refine K_exit ?_ | refine k_block ?_ | refine K_scope ?_ | refine K_label ?_ | (refine K_region (id := 0) ?_; refine mv ?_; refine KO_nil ?_) | (refine K_region (id := 1) ?_; refine mv ?_; refine mv ?_; refine mv ?_; refine mv ?_; (first | refine lnB S ?_ | refine lnS S rfl rfl ?_))))
  refine rw3 (l := i) (r := i + 1) (m := l.length) hb w (fun ha ca => ?_)
  have xa : Ext h ha := ⟨ca.next, fun j hj => by
    by_cases q : j = b
    · subst q; rw [ca.at_, hb]
    · exact ca.old j q hj, ca.wf⟩
  have ra := hr.ext w xa
  have wa := ca.wf
  have ba := ca.at_
  clear S
  have S := Hs.start wa
  (refine KO_nil ?_)
  skip
  all_goals (repeat' (first | refine K_seq ?_ | refine k_cond rfl ?_ | refine K_skip ?_ | refine K_exit ?_ | refine k_block ?_ | refine K_scope ?_ | refine K_label ?_ | (refine K_region (id := 2) ?_; refine mv ?_; refine mv ?_; (first | refine cT ?_ | refine cF ?_ | (refine cS ?_ ?_ <;> intro hc)) <;> (refine KO_nil ?_)) | (refine K_region (id := 3) ?_; refine mv ?_; refine mv ?_; refine KO_nil ?_) | (refine K_region (id := 4) ?_; refine mv ?_; (first | refine lnB S ?_ | refine lnS S rfl rfl ?_); refine mv ?_; refine KO_nil ?_) | (refine K_draw (id := 5) ?_; refine mv ?_; refine mv ?_)))
  refine rw2 (l := 0) (r := i) ba (fun o2 q1 _ => ?_)
  rw [show o2 = o by have := q1 (by omega); omega]
  refine mv ?_; refine mv ?_
  refine rw2 (l := i + 1) (r := l.length) ba (fun o3 q3 q4 => ?_)
  have ru : Rd ha (.slice (some ⟨b, o3, none⟩) (l.length - (i + 1)) (cap - (i + 1))) 3 (l.length - (i + 1)) ((l.drop (i + 1)).flatMap eTi) := by
    refine .inr ⟨b, o3, _, cc, 111, slk, false, rfl, ba, ?_⟩
    rcases Nat.lt_or_ge (i + 1) cap with z | z
    · have z1 := q3 z
      have z2 : o3 = o + (i + 1) * 3 := z1
      have := takeAt_sub (i := (i + 1) * 3) (m := (l.length - (i + 1)) * 3) t1 (by omega)
      rw [z2, this, flatMap_drop (z := 3) (by intro _; rfl), List.take_of_length_le (by rw [List.length_drop, hfl]; omega)]
    · rw [show l.length - (i + 1) = 0 by omega, List.drop_of_length_le (by omega)]
      rfl
  have hone : ((l.drop (i + 1)).flatMap eTi).all one? = true := by
    rw [List.all_eq_true]
    intro x hx
    obtain ⟨y, -, hy⟩ := List.mem_flatMap.1 hx
    simp [eTi] at hy
    rcases hy with rfl | rfl | rfl <;> rfl
  refine rwa (z := 3) ba wa ru (fun hd cd => ?_)
  (refine mv ?_; refine KO_nil ?_)
  have hln : l.length - (i - 0 + (l.length - (i + 1))) = 1 := by omega
  (repeat (refine K_seq ?_)); refine K_region (id := 6) ?_; refine mv ?_; refine mv ?_; refine vl ?_; refine mv ?_
  refine rw2 (l := i - 0 + (l.length - (i + 1))) (r := l.length) cd.at_ (fun o4 q5 _ => ?_)
  have q6 := q5 (by omega)
  have hq6 : o4 = o + (i - 0 + (l.length - (i + 1))) * 3 := q6
  have hsl : (splice cc (o + (i - 0) * 3) ((l.drop (i + 1)).flatMap eTi)).length = cc.length := splice_length _ _ _ (by rw [flatMap_length (z := 3) (by intro _; rfl), List.length_drop]; omega)
  refine rwc cd.at_ cd.wf (fun he ce => ?_) (hfit := ?_)
  rotate_left
  · rw [hsl]
    show o4 + (l.length - (i - 0 + (l.length - (i + 1)))) * 3 ≤ cc.length
    omega
  (refine KO_nil ?_)
  skip
  all_goals (repeat' (first | refine K_seq ?_ | refine k_cond rfl ?_ | refine K_skip ?_ | refine K_exit ?_ | refine k_block ?_ | refine K_scope ?_ | refine K_label ?_ | (refine K_region (id := 7) ?_; refine mv ?_; refine mv ?_; refine KO_nil ?_)))
  refine K_ret ⟨_, rfl, ?_⟩
  have C := (ca.trans cd).trans ce
  have hm : ∀ a c : Nat, a - 0 + c = a + c := fun a c => by omega
  have hlen : (l.take i ++ l.drop (i + 1)).length = i - 0 + (l.length - (i + 1)) := by rw [List.length_append, List.length_take, List.length_drop]; omega
  have hzl : (zeroRow (Value.agg #[Value.string { data := #[] }, Value.string { data := #[] }, Value.int IntKind.u8 0]).cells.toList (l.length - (i - 0 + (l.length - (i + 1))))).length = (i + 1) * 3 - i * 3 := by
    rw [zrow_len, hln]; show 1 * 3 = _; omega
  have hdrop := flatMap_drop (enc := eTi) (z := 3) (by intro _; rfl) l (i + 1)
  have htake := flatMap_take (enc := eTi) (z := 3) (by intro _; rfl) l i
  show Hs h0 he (.sl (.slice (some ⟨b, o, none⟩) (i - 0 + (l.length - (i + 1))) (cap - 0)) 111 3 eTi (l.take i ++ l.drop (i + 1)) :: rs)
  refine S0.turn .here C.next C.wf fun fp p1 p2 => ?_
  rcases p1 with ⟨p1, -⟩ | ⟨b2, o2, cc2, sl2, cap2, p1, -, p3, -⟩
  · rw [p1] at e1; cases e1
  obtain rfl : b2 = b := by rw [p1] at e1; cases e1; rfl
  refine ⟨fun j hj hf => C.old j (fun q => by subst q; exact hf p3) hj, fun j => j = b2, .inr ⟨b2, o, _, slk, cap - 0, by rw [hlen], C.at_, rfl, ?_, ⟨by rw [hlen]; omega, ?_⟩, s1⟩, fun j hj => ?_⟩
  · rw [hlen]
    have hg : ∀ j, j < l.length * 3 → cc[o + j]? = (l.flatMap eTi)[j]? := fun j hj => takeAt_get t1 hj
    have D := del_get (zr := zeroRow (Value.agg #[Value.string { data := #[] }, Value.string { data := #[] }, Value.int IntKind.u8 0]).cells.toList (l.length - (i - 0 + (l.length - (i + 1))))) (a := i * 3) (b := (i + 1) * 3) (z := 3) hg hfl (by omega) hzl (by omega)
    rw [hdrop, hq6, Nat.sub_zero, show (i + (l.length - (i + 1))) * 3 = i * 3 + (l.length * 3 - (i + 1) * 3) by omega]
    have e2 : (l.take i ++ l.drop (i + 1)).flatMap eTi = (l.flatMap eTi).take (i * 3) ++ (l.flatMap eTi).drop ((i + 1) * 3) := by rw [List.flatMap_append, htake, hdrop]
    rw [e2]
    rw [Nat.sub_zero] at D
    refine takeAt_ext ?_ ?_ D
    · rw [List.length_append, List.length_take, List.length_drop, hfl]; omega
    · rw [splice_length, splice_length]
      · omega
      · rw [List.length_drop, hfl]; omega
      · rw [splice_length _ _ _ (by rw [List.length_drop, hfl]; omega)]
        have hz2 := hzl
        simp only [Nat.sub_zero] at hz2 ⊢
        rw [hz2]; omega
  · rw [splice_length, hsl]
    · show o + (cap - 0) * 3 ≤ _; omega
    · rw [hsl, hzl]; omega
  · subst hj; exact ⟨C.wf.lt C.at_, .inl p3⟩
end Go.Proofs.Xx

/-
  Untie.
-/
namespace Go.Proofs.Xx
open Go Go.Proofs
set_option linter.unusedSimpArgs false
set_option linter.unusedVariables false
set_option linter.unusedSectionVars false
set_option maxRecDepth 100000
set_option maxHeartbeats 4000000

/-- The ties but for a pair's. -/
def untT (ts : List Ti) (a b : List UInt8) : List Ti := ts.filter fun t => !decide (t.a = sMin a b ∧ t.b = sMax a b)
open Classical in
noncomputable def untieF (r : Rl) (a b : List UInt8) : Rl × Int := if tied r.ts a b then (⟨r.us, untT r.ts a b⟩, 0) else (r, 6)
theorem untT_at {ts : List Ti} {a b : List UInt8} {i : Nat} (hs : TS ts) (hi : i < ts.length) (h1 : (ts.getD i default).a = sMin a b) (h2 : (ts.getD i default).b = sMax a b) : untT ts a b = ts.take i ++ ts.drop (i + 1) := by
  have hne : ∀ j, j < ts.length → j ≠ i → ¬ ((ts.getD j default).a = sMin a b ∧ (ts.getD j default).b = sMax a b) := fun j hj hji q => by
    rcases Nat.lt_or_ge j i with z | z
    · rcases hs.lt z hi with y | y
      · rw [q.1, h1] at y; exact sLt_irr _ y
      · rw [q.2, h2] at y; exact sLt_irr _ y.2
    · rcases hs.lt (show i < j by omega) hj with y | y
      · rw [q.1, h1] at y; exact sLt_irr _ y
      · rw [q.2, h2] at y; exact sLt_irr _ y.2
  have e : ts = ts.take i ++ (ts.getD i default :: ts.drop (i + 1)) := by
    conv => lhs; rw [← List.take_append_drop i ts]
    rw [List.drop_eq_getElem_cons hi]
    congr 2
    rw [List.getD_eq_getElem?_getD, List.getElem?_eq_getElem hi]; rfl
  unfold untT
  conv => lhs; rw [e]
  rw [List.filter_append, List.filter_cons, if_neg (by rw [decide_eq_true ⟨h1, h2⟩]; decide)]
  congr 1
  · rw [List.filter_eq_self]
    intro t ht
    obtain ⟨j, hj, rfl⟩ := mem_iff_getD.1 ht
    simp only [List.length_take] at hj
    rw [getD_take (by omega)]
    have := hne j (by omega) (by omega)
    rw [Bool.not_eq_true', decide_eq_false this]
  · rw [List.filter_eq_self]
    intro t ht
    obtain ⟨j, hj, rfl⟩ := mem_iff_getD.1 ht
    simp only [List.length_drop] at hj
    have ej : (ts.drop (i + 1)).getD j default = ts.getD (i + 1 + j) default := by
      rw [List.getD_eq_getElem?_getD, List.getD_eq_getElem?_getD, List.getElem?_drop]
    rw [ej]
    have := hne (i + 1 + j) (by omega) (by omega)
    rw [Bool.not_eq_true', decide_eq_false this]
variable [Flag]
theorem untie_ok {h0 h : AH} {rs : List Rs} {p : Nat} {r : Rl} (S : Hs h0 h (bookR p r :: rs)) (a b : List UInt8) (hl : r.ts.length ≤ 256) (hs : TS r.ts) :
    Fn Tryz.prog Xh 42 [.pointer (some ⟨p, 0, none⟩), str a, str b] h (fun v h' => v = .int .i64 (untieF r a b).2 ∧ Hs h0 h' (bookR p (untieF r a b).1 :: rs)) := by
  obtain ⟨⟨vg, vt, m, mp, gs⟩, ⟨q1, q2⟩, S⟩ := S.unpack
  dsimp only [bkL, List.cons_append, List.nil_append] at q1 q2 S
  refine Fn_K rfl Tryz.func42 rfl rfl ?_
  all_goals (repeat' (first | refine K_seq ?_ | refine k_cond rfl ?_ | refine K_skip ?_ | refine K_exit ?_ | refine k_block ?_ | refine K_scope ?_ | refine K_label ?_ | (refine K_region (id := 0) ?_; refine mv ?_; refine KO_nil ?_) | (refine K_region (id := 1) ?_; refine mv ?_)))
  (refine KO_fn rfl rfl rfl rfl rfl ((bnone_ok S.wf (blk_get S .here)).mono ?_); rintro _ h ⟨rfl, x⟩) <;> (replace S := S.join0 x; clear x; refine KO_nil ?_)
  all_goals (repeat' (first | refine K_seq ?_ | refine k_cond rfl ?_ | refine K_skip ?_ | refine K_exit ?_ | refine k_block ?_ | refine K_scope ?_ | refine K_label ?_ | (refine K_region (id := 2) ?_; refine mv ?_; refine KO_nil ?_) | (refine K_region (id := 3) ?_; refine mv ?_; refine mv ?_; refine mv ?_; skip)))
  (refine KO_fn rfl rfl rfl rfl rfl ((place_ok S.wf (blk_get S .here) (Rd.of_sl S (.there (.there .here))) (by omega) hs a b).mono ?_); rintro _ h ⟨⟨j, _ | _, rfl, p1, p2⟩, x⟩) <;> (replace S := S.join0 x; clear x; refine mv ?_; refine vl ?_; refine vl ?_; refine mv ?_; refine mv ?_; refine KO_nil ?_)
  · have hk3 : ¬ tied r.ts a b := fun q => by have := p2.2 ((p1.tied hs).1 q); cases this
    all_goals (repeat' (first | refine K_seq ?_ | refine k_cond rfl ?_ | refine K_skip ?_ | refine K_exit ?_ | refine k_block ?_ | refine K_scope ?_ | refine K_label ?_ | (refine K_region (id := 4) ?_; refine mv ?_; refine vl ?_; refine KO_nil ?_) | (refine K_region (id := 5) ?_; refine mv ?_; refine KO_nil ?_) | (refine K_region (id := 6) ?_; refine mv ?_; refine mv ?_; refine vl ?_; (first | refine vl ?_ | refine fB S ?_ | refine fS S rfl rfl ?_ | refine fA ?_); (first | refine vl ?_ | refine fB S ?_ | refine fS S rfl rfl ?_ | refine fA ?_); (first | refine lB S rfl rfl ?_ | refine lES2 S rfl rfl ?_ | refine lEB S ?_ | refine lH S ?_); refine mv ?_; refine mv ?_; (first | refine ad ?_ | refine vl ?_))))
    refine K_ret ⟨_, rfl, ?_⟩
    rw [show untieF r a b = (r, 6) by unfold untieF; rw [if_neg hk3]]
    exact ⟨rfl, S.bk vg vt m mp gs q1 q2⟩
  · obtain ⟨z1, z2, z3⟩ := p2.1 rfl
    have hk3 : tied r.ts a b := (p1.tied hs).2 ⟨z1, z2, z3⟩
    skip
    all_goals (repeat' (first | refine K_seq ?_ | refine k_cond rfl ?_ | refine K_skip ?_ | refine K_exit ?_ | refine k_block ?_ | refine K_scope ?_ | refine K_label ?_ | (refine K_region (id := 4) ?_; refine mv ?_; refine vl ?_; refine KO_nil ?_) | (refine K_region (id := 5) ?_; refine mv ?_; refine KO_nil ?_) | (refine K_region (id := 6) ?_; refine mv ?_; refine mv ?_; refine vl ?_; (first | refine vl ?_ | refine fB S ?_ | refine fS S rfl rfl ?_ | refine fA ?_); (first | refine vl ?_ | refine fB S ?_ | refine fS S rfl rfl ?_ | refine fA ?_); (first | refine lB S rfl rfl ?_ | refine lES2 S rfl rfl ?_ | refine lEB S ?_ | refine lH S ?_); refine mv ?_; refine mv ?_; (first | refine ad ?_ | refine vl ?_))))
    have S := (show Hs h0 h (.sl vt.val 111 3 eTi r.ts :: .blk p [vg.val, vt.val, .map (some m)] 86 :: .sl vg.val 24 9 eG gs :: .mp m (.int .i64) mp :: tgR gs :: rs) from S.pick)
    (refine KO_fn rfl rfl rfl rfl rfl ((delT_ok j z1 (by omega) S).mono ?_); rintro v h S) <;> (obtain ⟨vt', rfl⟩ := S.sV v; refine vl ?_; (first | refine vl ?_ | refine fB S ?_ | refine fS S rfl rfl ?_ | refine fA ?_); (first | refine vl ?_ | refine fB S ?_ | refine fS S rfl rfl ?_ | refine fA ?_); (first | (refine sB S rfl rfl ?_; clear S; intro h S) | (refine sE2 S rfl rfl ?_; clear S; intro h S)); refine KO_nil ?_)
    all_goals (repeat' (first | refine K_seq ?_ | refine k_cond rfl ?_ | refine K_skip ?_ | refine K_exit ?_ | refine k_block ?_ | refine K_scope ?_ | refine K_label ?_ | (refine K_region (id := 7) ?_; refine mv ?_; refine KO_nil ?_)))
    refine K_ret ⟨_, rfl, ?_⟩
    rw [show untieF r a b = (⟨r.us, untT r.ts a b⟩, 0) by unfold untieF; rw [if_pos hk3], untT_at hs z1 z2 z3]
    replace S : Hs h0 h (.sl vt'.val 111 3 eTi (r.ts.take j ++ r.ts.drop (j + 1)) :: .blk p [vg.val, vt'.val, .map (some m)] 86 :: _) := S
    exact ⟨rfl, S.bk vg vt' m mp gs q1 q2⟩
end Go.Proofs.Xx

/-
  Ties tied and untied: plain laws.
-/
namespace Go.Proofs.Xx
open Go Go.Proofs
set_option linter.unusedSimpArgs false
set_option linter.unusedVariables false
set_option linter.unusedSectionVars false
set_option maxRecDepth 100000

theorem sMin_comm (a b : List UInt8) : sMin a b = sMin b a := by
  unfold sMin
  rcases sLt_tri a b with h | h | h
  · rw [if_neg (sLt_asymm h), if_pos h]
  · subst h; rfl
  · rw [if_pos h, if_neg (sLt_asymm h)]
theorem sMax_comm (a b : List UInt8) : sMax a b = sMax b a := by
  unfold sMax
  rcases sLt_tri a b with h | h | h
  · rw [if_pos h, if_neg (sLt_asymm h)]
  · subst h; rfl
  · rw [if_neg (sLt_asymm h), if_pos h]
theorem tied_comm {ts : List Ti} {a b : List UInt8} : tied ts a b ↔ tied ts b a := by unfold tied; rw [sMin_comm a b, sMax_comm a b]
theorem sMinMax {a b : List UInt8} (h : a ≠ b) : sLt (sMin a b) (sMax a b) ∧ ((sMin a b = a ∧ sMax a b = b) ∨ (sMin a b = b ∧ sMax a b = a)) := by
  rcases sLt_tri a b with q | q | q
  · rw [sMin_lt q, sMax_lt q]; exact ⟨q, .inl ⟨rfl, rfl⟩⟩
  · exact absurd q h
  · rw [sMin_comm, sMax_comm, sMin_lt q, sMax_lt q]; exact ⟨q, .inr ⟨rfl, rfl⟩⟩
/-- Every pair has its place. -/
theorem plc_ex {ts : List Ti} (hs : TS ts) (y : Ti) : ∃ i, Plc ts y i := by
  induction ts with
  | nil => exact ⟨0, Nat.le_refl _, fun j hj => absurd hj (Nat.not_lt_zero _), fun j _ hj => absurd hj (Nat.not_lt_zero _)⟩
  | cons x r ih =>
    by_cases h : bef x y
    · obtain ⟨i, i1, i2, i3⟩ := ih (List.pairwise_cons.1 hs).2
      refine ⟨i + 1, by simp; exact i1, fun j hj => ?_, fun j h1 h2 => ?_⟩
      · cases j with
        | zero => exact h
        | succ j => exact i2 j (by omega)
      · cases j with
        | zero => omega
        | succ j => exact i3 j (by omega) (by simp at h2; omega)
    · refine ⟨0, Nat.zero_le _, fun j hj => absurd hj (Nat.not_lt_zero _), fun j _ hj q => h ?_⟩
      rcases Nat.eq_zero_or_pos j with z | z
      · subst z; exact q
      · exact bef_trans (hs.lt z hj) q
theorem Plc.kind {ts : List Ti} {a b : List UInt8} {k k' : Int} {i : Nat} (h : Plc ts ⟨a, b, k⟩ i) : Plc ts ⟨a, b, k'⟩ i := ⟨h.1, h.2.1, h.2.2⟩
theorem ts_put {ts : List Ti} {a b : List UInt8} {k : Int} (hs : TS ts) (hn : ¬ tied ts a b) : ∃ i, i ≤ ts.length ∧ putT ts (tiOf a b k) = ts.take i ++ tiOf a b k :: ts.drop i ∧ TS (putT ts (tiOf a b k)) := by
  obtain ⟨i, hi⟩ := plc_ex hs ⟨sMin a b, sMax a b, 0⟩
  have e := putT_plc (t := tiOf a b k) (hi.kind (k' := k))
  refine ⟨i, hi.1, e, ?_⟩
  rw [e, TS, List.pairwise_append]
  refine ⟨List.Pairwise.sublist (List.take_sublist i ts) hs, List.pairwise_cons.2 ⟨fun y hy => ?_, List.Pairwise.sublist (List.drop_sublist i ts) hs⟩, fun x hx y hy => ?_⟩
  · obtain ⟨j, hj, rfl⟩ := mem_iff_getD.1 hy
    simp only [List.length_drop] at hj
    have ej : (ts.drop i).getD j default = ts.getD (i + j) default := by
      rw [List.getD_eq_getElem?_getD, List.getD_eq_getElem?_getD, List.getElem?_drop]
    rw [ej]
    rcases bef_tri (ts.getD (i + j) default) (tiOf a b k) with q | q | q
    · exact absurd q (hi.2.2 (i + j) (by omega) (by omega))
    · exact absurd ⟨_, mem_getD (show i + j < ts.length by omega), q⟩ hn
    · exact q
  · obtain ⟨j, hj, rfl⟩ := mem_iff_getD.1 hx
    simp only [List.length_take] at hj
    rw [getD_take (by omega)]
    have h1 := hi.2.1 j (by omega)
    rcases List.mem_cons.1 hy with rfl | hy
    · exact h1
    · obtain ⟨m, hm, rfl⟩ := mem_iff_getD.1 hy
      simp only [List.length_drop] at hm
      have ej : (ts.drop i).getD m default = ts.getD (i + m) default := by
        rw [List.getD_eq_getElem?_getD, List.getD_eq_getElem?_getD, List.getElem?_drop]
      rw [ej]
      exact hs.lt (by omega) (by omega)
theorem RO.tie {r : Rl} (H : RO r) {a b : List UInt8} {k : Int} (h : (tieF r a b k).2 = 0) : RO (tieF r a b k).1 := by
  obtain ⟨h1, h2, h3, h4, h5, h6, h7⟩ := tieF_zero h
  rw [h7]
  obtain ⟨i, hi, e, hs⟩ := ts_put (k := k) H.ts h5
  obtain ⟨m1, m2⟩ := sMinMax h2
  refine ⟨H.chk, H.nd, H.l64, hs, fun t ht => ?_, ?_⟩
  · simp only at ht
    rw [e] at ht
    have : t ∈ r.ts ∨ t = tiOf a b k := by
      rcases List.mem_append.1 ht with q | q
      · exact .inl (List.mem_of_mem_take q)
      · rcases List.mem_cons.1 q with q | q
        · exact .inr q
        · exact .inl (List.mem_of_mem_drop q)
    rcases this with q | rfl
    · exact H.tt t q
    · refine ⟨m1, h1, ?_⟩
      rcases m2 with ⟨e1, e2⟩ | ⟨e1, e2⟩
      · show Xx.gat r.us (sMin a b) ≠ none ∧ Xx.gat r.us (sMax a b) ≠ none
        rw [e1, e2]; exact ⟨h3, h4⟩
      · show Xx.gat r.us (sMin a b) ≠ none ∧ Xx.gat r.us (sMax a b) ≠ none
        rw [e1, e2]; exact ⟨h4, h3⟩
  · simp only
    rw [e]; simp; omega
theorem RO.untie {r : Rl} (H : RO r) (a b : List UInt8) : RO (untieF r a b).1 := by
  unfold untieF
  split
  · refine ⟨H.chk, H.nd, H.l64, List.Pairwise.sublist List.filter_sublist H.ts, fun t ht => H.tt t (List.mem_filter.1 ht).1, ?_⟩
    have := List.length_filter_le (fun t : Ti => !decide (t.a = sMin a b ∧ t.b = sMax a b)) r.ts
    have := H.l256
    show (untT r.ts a b).length ≤ 256
    unfold untT; omega
  · exact H
theorem unt_put {ts : List Ti} {a b : List UInt8} {k : Int} (hs : TS ts) (hn : ¬ tied ts a b) : untT (putT ts (tiOf a b k)) a b = ts := by
  obtain ⟨i, hi, e, hs2⟩ := ts_put (k := k) hs hn
  have hl : (ts.take i).length = i := by simp; omega
  have eg : (putT ts (tiOf a b k)).getD i default = tiOf a b k := by
    rw [e, gA2 (by omega), hl, Nat.sub_self]; rfl
  rw [untT_at (i := i) hs2 (by rw [e]; simp; omega) (by rw [eg]; rfl) (by rw [eg]; rfl), e]
  rw [List.take_append_of_le_length (by omega), List.take_of_length_le (by omega), List.drop_append, List.drop_of_length_le (by omega), hl, show i + 1 - i = 1 by omega]
  simp
theorem put_unt {ts : List Ti} {a b : List UInt8} {t : Ti} (hs : TS ts) (ht : t ∈ ts) (h1 : t.a = sMin a b) (h2 : t.b = sMax a b) : putT (untT ts a b) (tiOf a b t.k) = ts := by
  obtain ⟨i, hi, rfl⟩ := mem_iff_getD.1 ht
  have e := untT_at hs hi h1 h2
  have hl : (ts.take i).length = i := by simp; omega
  have et : tiOf a b (ts.getD i default).k = ts.getD i default := by
    unfold tiOf; rw [← h1, ← h2]
  rw [et, e, putT_plc (i := i)]
  · rw [List.take_append_of_le_length (by omega), List.take_of_length_le (by omega), List.drop_append, List.drop_of_length_le (by omega), hl, Nat.sub_self, List.nil_append, List.drop_zero]
    conv => rhs; rw [← List.take_append_drop i ts]
    rw [List.drop_eq_getElem_cons hi]
    congr 2
    rw [List.getD_eq_getElem?_getD, List.getElem?_eq_getElem hi]; rfl
  · refine ⟨by simp; omega, fun j hj => ?_, fun j h1 h2 q => ?_⟩
    · rw [gA1 (by omega), getD_take hj]; exact hs.lt hj hi
    · simp only [List.length_append, List.length_take, List.length_drop] at h2
      rw [gA2 (by omega), hl] at q
      have ej : (ts.drop (i + 1)).getD (j - i) default = ts.getD (i + 1 + (j - i)) default := by
        rw [List.getD_eq_getElem?_getD, List.getD_eq_getElem?_getD, List.getElem?_drop]
      rw [ej] at q
      exact bef_irr _ (bef_trans q (hs.lt (by omega) (by omega)))
theorem not_tied_unt {ts : List Ti} (a b : List UInt8) : ¬ tied (untT ts a b) a b := by
  rintro ⟨t, ht, h1, h2⟩
  have := (List.mem_filter.1 ht).2
  simp [h1, h2] at this
end Go.Proofs.Xx
