/-
  The back of a slice of one's own, seen beside it; clear; bytes.
-/
import Derived.Test.YtnopenpheaihmaaGreatDoorM5

namespace Go.Proofs.Xx
open Go
set_option linter.unusedSimpArgs false
set_option linter.unusedVariables false

/-- v2 is v[k:], of length n - k. -/
def IsView (v v2 : Value) (z k n : Nat) : Prop := ∃ b o c2, v = .slice (some ⟨b, o, none⟩) n n ∧ v2 = .slice (some ⟨b, o + k * z, none⟩) (n - k) c2
theorem IsView.el {v v2 : Value} {z k n : Nat} (V : IsView v v2 z k n) (j off : Nat) : elA v2 z j off = elA v z (k + j) off := by
  obtain ⟨b, o, c2, rfl, rfl⟩ := V
  simp only [elA]
  rw [show o + k * z + j * z + off = o + (k + j) * z + off by rw [Nat.add_mul]; omega]
theorem IsView.rd {α : Type} {v v2 : Value} {z k : Nat} {h : AH} {enc : α → List Value} {l : List α} (V : IsView v v2 z k l.length) (r : RdL h v z enc l) (hz : ∀ x, (enc x).length = z) (hk : k ≤ l.length) : RdL h v2 z enc (l.drop k) := by
  obtain ⟨b, o, c2, rfl, rfl⟩ := V
  rcases r with ⟨q, -⟩ | ⟨b', o', cap, cc, e, s, q, e1, h1, h2⟩
  · cases q
  · cases e1
    have hkz : k * z ≤ l.length * z := Nat.mul_le_mul_right z hk
    have hsub : k * z + (l.length - k) * z = l.length * z := by rw [← Nat.add_mul]; congr 1; omega
    refine .inr ⟨b, o + k * z, c2, cc, e, s, q, by rw [List.length_drop], h1, ?_⟩
    rw [List.length_drop, flatMap_drop hz, takeAt_sub h2 (by omega), List.take_of_length_le]
    rw [List.length_drop, flatMap_length hz]; omega

section
variable {P : Program} {X : Extern} {inR : Bool} {sz : Nat} {L : Ks} {h h0 : AH} {rs : List Rs} {ops : Array Oper} {os : List Oper} {o : Oper} {R : Ks → AH → Prop} {Q : KQ}

/-- v[lo:] of a slice of one's own, beside it. -/
theorem dv {α : Type} {x lo : Operand} {ty e : TypeId} {v : Value} {z : Nat} {enc : α → List Value} {l : List α} {f : Rs → List Rs} {dd : List Rs} {ik : IntKind} {a : Int} {d : Tmp} (S : Hs h0 h rs) (ho : o.op = .slice ty x (some lo) none none) (hx : kA L x = some v) [i : HasS rs v α e z enc l f dd]
    (w : ∀ v', IsView v v' z a.toNat l.length → KO P X sz ops os (L.put d v') h R) (hg : guardA ops L.tree o.guard = some true := by exact rfl) (hlo : kA L lo = some (.int ik a) := by exact rfl) (hu : elemZ P ty = some z := by exact rfl) (ha : 0 ≤ a ∧ a < l.length := by first | omega | grind)
    (hdst : o.dst = some d := by exact rfl) (hds : Nat.blt d sz = true := by exact rfl) : KO P X sz ops (o :: os) L h R := by
  obtain ⟨k, rfl⟩ := Int.eq_ofNat_of_zero_le ha.1
  have hk : k < l.length := by omega
  obtain ⟨fp, k1, k2, -⟩ := (i.ut (.sl v e z enc l)).ok (h' := h) S.ext.next (Nat.le_refl _) S.sep
  have hue : ∃ e', P.underlying ty = some (.slice e') ∧ sizeT P e' = some z := by
    unfold elemZ at hu
    split at hu
    · exact ⟨_, by assumption, hu⟩
    · cases hu
  obtain ⟨e', hu1, hu2⟩ := hue
  have hlo' : evA L.tree lo = some (.int ik (Int.ofNat k)) := tree_le hlo
  rcases k1 with ⟨rfl, rfl⟩ | ⟨b, o', cc, slk, g1, g2, g3, g4, g5, g6⟩
  · simp at hk
  · subst g1
    have hle : Nat.ble k l.length = true := Nat.ble_eq_true_of_le (Nat.le_of_lt hk)
    have hnn : Nat.ble l.length l.length = true := Nat.ble_eq_true_of_le (Nat.le_refl _)
    have hq : (slk.isNone && Nat.beq k l.length) = false := by
      have : Nat.beq k l.length = false := by
        rw [Bool.eq_false_iff]; intro q; have := Nat.eq_of_beq_eq_true q; omega
      rw [this, Bool.and_false]
    refine KO_val (v := .slice (some ⟨b, o' + k * z, none⟩) (l.length - k) (l.length - k)) (h' := h) hg ?_ (by simp only [putK, hdst, hds]; rfl) (w _ ⟨b, o', l.length - k, rfl, by rw [Int.toNat_natCast]⟩)
    rw [ho]
    have e1 : aSlice P ty (.slice (some ⟨b, o', none⟩) l.length l.length) (some (.int ik (Int.ofNat k))) none none h = some (.slice (some ⟨b, o' + k * z, none⟩) (l.length - k) (l.length - k)) := by
      simp only [aSlice, hu1, g2, hu2, boundOf, hle, hnn, Bool.and_self, hq]
    simp only [aOp, tree_le hx, evOpt, hlo', e1, nextOf]
/-- clear of the back of a slice of one's own. -/
theorem cl {α : Type} {x : Operand} {ty e e' : TypeId} {v v2 : Value} {z k : Nat} {enc : α → List Value} {l : List α} {f : Rs → List Rs} {dd : List Rs} (y0 : α) (S : Hs h0 h rs) (V : IsView v v2 z k l.length) (ho : o.op = .call { callee := .builtin .clear, args := #[x], argTypes := #[ty] }) (hx : kA L x = some v2) [i : HasS rs v α e z enc l f dd]
    (w : ∀ h', Hs h0 h' (f (.sl v e z enc (l.take k ++ List.replicate (l.length - k) y0))) → KO P X sz ops os L h' R) (hu : P.underlying ty = some (.slice e') := by exact rfl) (hz0 : zeroCellsT P e' = some (enc y0) := by exact rfl) (h1 : (enc y0).all one? = true := by exact rfl)
    (hz : ∀ x, (enc x).length = z := by intro _; rfl) (hk : k < l.length := by omega) (hzz : 0 < z := by decide) (hg : guardA ops L.tree o.guard = some true := by exact rfl) (hdst : o.dst = none := by exact rfl) : KO P X sz ops (o :: os) L h R := by
  obtain ⟨b, o', c2, rfl, rfl⟩ := V
  obtain ⟨fp, k1, k2, -⟩ := (i.ut (.sl (.slice (some ⟨b, o', none⟩) l.length l.length) e z enc l)).ok (h' := h) S.ext.next (Nat.le_refl _) S.sep
  rcases k1 with ⟨q, -⟩ | ⟨b', o2, cc, slk, g1, g2, g3, g4, g5, g6⟩
  · cases q
  cases g1
  have hrow : zeroRow (enc y0) (l.length - k) = (List.replicate (l.length - k) y0).flatMap enc := zeroRow_enc rfl _
  have hrl : ((List.replicate (l.length - k) y0).flatMap enc).length = (l.length - k) * z := by rw [flatMap_length hz]; simp
  have hkz : k * z + (l.length - k) * z = l.length * z := by rw [← Nat.add_mul]; congr 1; omega
  obtain ⟨he, hlen⟩ : l.flatMap enc = (cc.drop o').take (l.length * z) ∧ o' + l.length * z ≤ cc.length := by
    rcases takeAt_eqs g4 with q | ⟨q1, q2⟩
    · exact q
    · exfalso
      have : l.length * z = 0 := q1
      have := Nat.mul_pos (show 0 < l.length by omega) hzz
      omega
  have hall : ((List.replicate (l.length - k) y0).flatMap enc).all one? = true := by
    rw [List.all_eq_true]
    intro u hu
    rw [List.mem_flatMap] at hu
    obtain ⟨y, hy, hu⟩ := hu
    rw [List.mem_replicate] at hy
    rw [hy.2] at hu
    exact List.all_eq_true.1 h1 u hu
  have hput : putCells h b (o' + k * z) cc e slk (zeroRow (enc y0) (l.length - k)) = some (h.put b (.cells (splice cc (o' + k * z) ((List.replicate (l.length - k) y0).flatMap enc)) e slk false)) := by
    rw [hrow]
    unfold putCells
    rw [hall, Nat.ble_eq_true_of_le (by rw [hrl]; omega)]
    rfl
  obtain ⟨m, hm⟩ : ∃ m, l.length - k = m + 1 := ⟨l.length - k - 1, by omega⟩
  have hclear : aClear P ty (.slice (some ⟨b, o' + k * z, none⟩) (l.length - k) c2) h = some (h.put b (.cells (splice cc (o' + k * z) ((List.replicate (l.length - k) y0).flatMap enc)) e slk false)) := by
    rw [hm] at hput ⊢
    simp only [aClear, hu, hz0, g2, hput]
  refine KO_val (v := .tuple #[]) (h' := h.put b (.cells (splice cc (o' + k * z) ((List.replicate (l.length - k) y0).flatMap enc)) e slk false)) hg ?_ (by simp only [putK, hdst]) (w _ ?_)
  · rw [ho]
    simp only [aOp, evAll, tree_le hx, aBuiltin, hclear]
  · have hsp : splice cc (o' + k * z) ((List.replicate (l.length - k) y0).flatMap enc) = splice cc (o' + k * z + 0) ((List.replicate (l.length - k) y0).flatMap enc) := rfl
    have hin := splice_in (cc := cc) (uc := (List.replicate (l.length - k) y0).flatMap enc) (o := o') (n := l.length * z) (a := k * z) (z := (l.length - k) * z) (off := 0) hlen (by omega) (by rw [hrl]; omega)
    have hfl : ((l.take k ++ List.replicate (l.length - k) y0).flatMap enc) = splice ((cc.drop o').take (l.length * z)) (k * z) (splice ((((cc.drop o').take (l.length * z)).drop (k * z)).take ((l.length - k) * z)) 0 ((List.replicate (l.length - k) y0).flatMap enc)) := by
      rw [← he]
      have hll : (l.flatMap enc).length = l.length * z := flatMap_length hz l
      rw [List.flatMap_append, flatMap_take hz]
      simp only [splice, List.take_zero, List.nil_append, Nat.zero_add]
      rw [hrl, List.drop_of_length_le (l := (((l.flatMap enc).drop (k * z)).take ((l.length - k) * z))) (by rw [List.length_take]; omega), List.append_nil, hrl, List.drop_of_length_le (by omega), List.append_nil]
    refine S.turn (i.ut _) (Nat.le_refl _) (S.wf.put (k2 b g3).2.1 _) fun fq q1 q2 => ?_
    have hb : fq b := by
      rcases q1 with ⟨q, -⟩ | ⟨b', o2, cc2, sl2, q3, q4, q5, -⟩
      · cases q
      · cases q3; exact q5
    have hnl : (l.take k ++ List.replicate (l.length - k) y0).length = l.length := by simp; omega
    refine ⟨fun j _ hj => by rw [AH.get_put, if_neg]; intro q; subst q; exact hj hb, fun j => j = b, .inr ⟨b, o', _, slk, by rw [hnl], by rw [AH.get_put, if_pos rfl], rfl, ?_, ?_, g6⟩, fun j hj => by subst hj; exact ⟨(k2 _ g3).2.1, .inl hb⟩⟩
    · rw [hnl, hfl]; exact hin
    · left
      rw [hnl, spl_len (by rw [hrl]; omega)]
      rcases g5 with g5 | ⟨g5, -⟩
      · exact g5
      · subst g5; simp at hk
/-- A remainder of bytes. -/
theorem rmU {L' : Ks} {x y : Operand} {ty ty2 : TypeId} {a b : Int} (w : KO P X sz ops os L' h R) (ho : o.op = .binOp .rem ty x y ty2 := by exact rfl) (hg : guardA ops L.tree o.guard = some true := by exact rfl) (hx : kA L x = some (.int .u8 a) := by exact rfl) (hy : kA L y = some (.int .u8 b) := by exact rfl)
    (hb : 0 ≤ a ∧ 0 < b := by omega) (hp : putK sz L o.dst (.int .u8 (a % b)) = some L' := by exact rfl) : KO P X sz ops (o :: os) L h R :=
  KO_bin ho hg hx hy (by
    have h1 : ¬ b = 0 := by omega
    have h2 : a.tmod b = a % b := Int.tmod_eq_emod_of_nonneg hb.1
    simp only [aBin, decide_true, decide_eq_false h1, h2]) hp w
/-- v[lo:hi] of a slice that was there before. -/
theorem su0 {α : Type} {x : Operand} {lo hi : Option Operand} {vlo vhi : Option Value} {ty : TypeId} {v : Value} {z : Nat} {enc : α → List Value} {l : List α} {d : Tmp} (a b : Nat) (S : Hs h0 h rs) (w0 : WfH h0) (hr : RdL h0 v z enc l) (hc : CapOk v)
    (w : ∀ v', RdL h0 v' z enc ((l.drop a).take (b - a)) → CapOk v' → KO P X sz ops os (L.put d v') h R) (ho : o.op = .slice ty x lo hi none := by exact rfl) (hx : kA L x = some v := by exact rfl) (hg : guardA ops L.tree o.guard = some true := by exact rfl)
    (hlo : evOpt L.tree lo = some vlo := by exact rfl) (hhi : evOpt L.tree hi = some vhi := by exact rfl) (hz : ∀ x, (enc x).length = z := by intro _; rfl) (hu : elemZ P ty = some z := by exact rfl)
    (h1 : boundOf vlo 0 = some a := by exact rfl) (h2 : boundOf vhi l.length = some b := by exact rfl) (hab : a ≤ b ∧ b ≤ l.length := by first | omega | grind) (hdst : o.dst = some d := by exact rfl) (hds : Nat.blt d sz = true := by exact rfl) : KO P X sz ops (o :: os) L h R := by
  obtain ⟨v', e1, e2, e3⟩ := slice_rd hr hc hz hu h1 h2 hab
  have hue : ∃ e', P.underlying ty = some (.slice e') ∧ sizeT P e' = some z := by
    unfold elemZ at hu
    split at hu
    · exact ⟨_, by assumption, hu⟩
    · cases hu
  obtain ⟨e', hu1, hu2⟩ := hue
  have e4 : aSlice P ty v vlo vhi none h = aSlice P ty v vlo vhi none h0 := by
    rcases hr with ⟨rfl, g1, g2⟩ | ⟨b', o', cap, cc, e, s, q, rfl, g1, g2⟩
    · simp only [aSlice, hu1]
    · simp only [aSlice, hu1, S.ext.get w0 g1, g1]
  refine KO_val (v := v') (h' := h) hg ?_ (by simp only [putK, hdst, hds]) (w v' e2 e3)
  rw [ho]
  simp only [aOp, tree_le hx, hlo, hhi, show evOpt L.tree none = some none from rfl, e4, e1, nextOf]
theorem bytesOf_eU : ∀ l : List Nat, bytesOf? (l.flatMap eU) = some (l.map UInt8.ofNat)
  | [] => rfl
  | x :: l => by
    rw [List.flatMap_cons]
    show (match byteOf? (.int .u8 (Int.ofNat x)), bytesOf? (l.flatMap eU) with | some b, some s => some (b :: s) | _, _ => none) = _
    rw [bytesOf_eU l]; rfl
/-- Bytes as a string. -/
theorem bS {L' : Ks} {x : Operand} {s dt e : TypeId} {v : Value} {l : List Nat} (hr : RdL h v 1 eU l) (w : KO P X sz ops os L' h R) (ho : o.op = .convert s dt x := by exact rfl) (hg : guardA ops L.tree o.guard = some true := by exact rfl) (hx : kA L x = some v := by exact rfl)
    (hs : P.underlying s = some (.slice e) := by exact rfl) (he : P.underlying e = some (.int .u8) := by exact rfl) (hd : P.underlying dt = some .string := by exact rfl) (hp : putK sz L o.dst (str (l.map UInt8.ofNat)) = some L' := by exact rfl) : KO P X sz ops (o :: os) L h R := by
  refine KO_val hg ?_ hp w
  rw [ho]
  have e1 : aToString P s dt v h = some (str (l.map UInt8.ofNat)) := by
    rcases hr with ⟨rfl, g1, g2⟩ | ⟨b', o', cap, cc, e0, s0, q, rfl, g1, g2⟩
    · have : l = [] := List.length_eq_zero_iff.1 g1
      subst this
      simp only [aToString, hs, hd, he]; rfl
    · rw [Nat.mul_one] at g2
      simp only [aToString, hs, hd, he, g1, g2, bytesOf_eU]; rfl
  have e2 : aConvert P s dt v = none := by
    unfold aConvert
    rw [hs]
  simp only [aOp, tree_le hx, e2, e1]
end
end Go.Proofs.Xx

/-
  Elements of arrays in blocks.
-/
namespace Go.Proofs.Xx
open Go
set_option linter.unusedSimpArgs false
set_option linter.unusedVariables false

section
variable {P : Program} {X : Extern} {inR : Bool} {sz : Nat} {L : Ks} {h h0 : AH} {rs : List Rs} {ops : Array Oper} {os : List Oper} {o : Oper} {R : Ks → AH → Prop} {Q : KQ}
def arrOf (P : Program) (ty : TypeId) : Option (Nat × Nat) := match P.underlying ty with | some (.array n e) => (match sizeT P e with | some z => some (n, z) | none => none) | _ => none
end
end Go.Proofs.Xx

/-
  Strings built out of bytes: append of a string, the bytes seen as a string.
-/
namespace Go.Proofs.Xx
open Go
set_option linter.unusedSimpArgs false
set_option linter.unusedVariables false

section
variable {P : Program} {X : Extern} {inR : Bool} {sz : Nat} {L : Ks} {h h0 : AH} {rs : List Rs} {ops : Array Oper} {os : List Oper} {o : Oper} {R : Ks → AH → Prop} {Q : KQ}
theorem eU_str (s : List UInt8) : (s.map UInt8.toNat).flatMap eU = s.map fun b => Value.int .u8 (b.toNat : Int) := by
  induction s with
  | nil => rfl
  | cons a s ih => rw [List.map_cons, List.flatMap_cons, ih]; rfl
/-- append of a string to a slice of bytes of one's own. -/
theorem st_append {rs' : List Rs} {ts tx e : TypeId} {by_ : Nat} {l : List Nat} {s : List UInt8} {v : Value} (S : Hs h0 h rs) (hs : sliceElem P ts = some e) (hz : zeroCellsT P e = some [.int .u8 0]) (hb : bytesT P e = some (by_ + 1)) (hx' : P.underlying tx = some .string)
    (hd : Dt rs (.sl v e 1 eU l) rs') (hsz : (l.length + s.length + 1) * (by_ + 1) ≤ 1099511627776) :
    ∃ v' h', aAppend P [ts, tx] v (str s) h = some (v', h') ∧ Hs h0 h' (.sl v' e 1 eU (l ++ s.map UInt8.toNat) :: rs') := by
  have hlen : ∀ y, (eU y).length = 1 := fun _ => rfl
  obtain ⟨l2, hl2⟩ : ∃ l2, s.map UInt8.toNat = l2 := ⟨_, rfl⟩
  have hsl : s.length = l2.length := by rw [← hl2]; simp
  have hall : (l2.flatMap eU).all one? = true := by
    rw [List.all_eq_true]
    intro u hu
    rw [List.mem_flatMap] at hu
    obtain ⟨y, hy, hu⟩ := hu
    simp only [eU, List.mem_singleton] at hu
    subst hu; rfl
  have hsrc : aSource ([Value.int .u8 0] : List Value).length (str s) h = some (l2.length, l2.flatMap eU) := by
    subst hl2
    unfold str
    simp only [aSource, List.toList_toArray, eU_str, List.length_map]
  rw [hl2]
  rw [hsl] at hsz
  have hnl : (l2.flatMap eU).length = l2.length * ([Value.int .u8 0] : List Value).length := flatMap_length hlen l2
  have k1 : Nat.ble ((l2.length + 1) * (by_ + 1)) 1099511627776 = true := Nat.ble_eq_true_of_le (Nat.le_trans (Nat.mul_le_mul_right _ (by omega)) hsz)
  have k2 : Nat.beq (l2.flatMap eU).length (l2.length * ([Value.int .u8 0] : List Value).length) = true := by rw [hnl]; simp
  have k3 : Nat.ble ((l.length + l2.length) * (by_ + 1)) 1099511627776 = true := Nat.ble_eq_true_of_le (Nat.le_trans (Nat.mul_le_mul_right _ (by omega)) hsz)
  obtain ⟨fp, q1, q2, q3⟩ := hd.sep S.sep
  have S' : Hs h0 h rs' := S.del hd
  have front : Hs h0 h (.sl v e 1 eU l :: rs') := S.front hd
  have fresh : ∀ (c : List Value) (l3 : List Nat), c = l3.flatMap eU → Hs h0 (h.add (.cells c e (some 1) false)) (.sl (.slice (some ⟨h.next, 0, none⟩) l3.length l3.length) e 1 eU l3 :: rs') := by
    intro c l3 hc
    have hcl : c.length = l3.length * 1 := by rw [hc]; exact flatMap_length hlen l3
    refine S'.grow (fp := fun b => b = h.next) ((Ext.refl S.wf).add _) (.inr ⟨h.next, 0, c, some 1, rfl, by rw [AH.get_add, if_pos rfl], rfl, ?_, .inl (by omega), .inr rfl⟩) fun b hb => by subst hb; exact ⟨Nat.le_refl _, Nat.lt_succ_self _⟩
    rw [← hcl, takeAt_all, hc]
  obtain ⟨n2, hn2⟩ : ∃ n2, l2.length = n2 := ⟨_, rfl⟩
  rcases q1 with ⟨rfl, rfl⟩ | ⟨b, o, cc, slk, g1, g2, g3, g4, g5, g6⟩
  · rw [hn2] at hsrc k1 k2
    cases n2 with
    | zero =>
      have hl2 : l2 = [] := List.length_eq_zero_iff.1 hn2
      subst hl2
      refine ⟨_, _, ?_, front⟩
      simp only [aAppend, hs, hx', hz, hb, hsrc, k1, hall, k2, Bool.and_self]
    | succ m =>
      refine ⟨.slice (some ⟨h.next, 0, none⟩) (m + 1) (m + 1), h.add (.cells (l2.flatMap eU) e (some 1) false), ?_, ?_⟩
      · simp only [aAppend, hs, hx', hz, hb, hsrc, k1, hall, k2, Bool.and_self]; rfl
      · have := fresh _ l2 rfl
        rw [hn2] at this
        exact this
  · subst g1
    rw [hn2] at hsrc k1 k2 k3
    have hoc : o + l.length * 1 ≤ cc.length := by
      rcases g5 with g5 | ⟨g5, g7⟩
      · omega
      · rw [g5]; simpa using g7
    cases n2 with
    | zero =>
      have hl2 : l2 = [] := List.length_eq_zero_iff.1 hn2
      subst hl2
      refine ⟨_, _, ?_, by rw [List.append_nil]; exact front⟩
      have : Nat.ble (l.length + 0) l.length = true := Nat.ble_eq_true_of_le (Nat.le_refl _)
      simp only [aAppend, hs, hx', hz, hb, hsrc, k1, hall, k2, Bool.and_self, g2, this]
    | succ m =>
      have k4 : Nat.ble (l.length + (m + 1)) l.length = false := by
        cases hq : Nat.ble (l.length + (m + 1)) l.length with
        | false => rfl
        | true => have := Nat.le_of_ble_eq_true hq; omega
      have hcat : l.flatMap eU ++ l2.flatMap eU = (l ++ l2).flatMap eU := by rw [List.flatMap_append]
      have g4' : takeAt cc o (l.length * ([Value.int .u8 0] : List Value).length) = some (l.flatMap eU) := g4
      rcases g6 with rfl | rfl
      · have hfr := fresh _ (l ++ l2) hcat
        rw [List.length_append, hn2] at hfr
        refine ⟨_, _, ?_, hfr⟩
        simp only [aAppend, hs, hx', hz, hb, hsrc, k1, hall, k2, Bool.and_self, g2, k4, g4', k3]; rfl
      · have hbl : b < h.next := (q2 b g3).2.1
        refine ⟨.slice (some ⟨h.next, 0, none⟩) (l.length + (m + 1)) (l.length + (m + 1)), (h.put b .dead).add (.cells (l.flatMap eU ++ l2.flatMap eU) e (some 1) false), ?_, ?_⟩
        · have k6 : (Nat.beq 1 ([Value.int .u8 0] : List Value).length && Nat.beq e e && Nat.ble (o + l.length * 1) cc.length) = true := by
            simp [Nat.ble_eq_true_of_le (show o + l.length ≤ cc.length by omega)]
          simp only [aAppend, hs, hx', hz, hb, hsrc, k1, hall, k2, Bool.and_self, g2, k4, g4', k3, k6]; rfl
        · have hln : (l ++ l2).length = l.length + (m + 1) := by rw [List.length_append, hn2]
          have hcl : (l.flatMap eU ++ l2.flatMap eU).length = (l ++ l2).length * 1 := by rw [hcat]; exact flatMap_length hlen _
          refine front.turn .here (Nat.le_succ _) ((S.wf.put hbl _).add _) fun fq r1 r2 => ?_
          have hb' : fq b := by
            rcases r1 with ⟨q, -⟩ | ⟨b', o2, cc2, sl2, q3, q4, q5, -⟩
            · cases q
            · cases q3; exact q5
          refine ⟨fun j hj hn => ?_, fun j => j = h.next, .inr ⟨h.next, 0, l.flatMap eU ++ l2.flatMap eU, some 1, by rw [hln], ?_, rfl, ?_, .inl (by omega), .inr rfl⟩, fun j hj => by subst hj; exact ⟨Nat.lt_succ_self _, .inr (Nat.le_refl _)⟩⟩
          · rw [AH.get_add, if_neg (by simp only [AH.put]; omega), AH.get_put, if_neg]; intro q; subst q; exact hn hb'
          · rw [AH.get_add]; exact if_pos rfl
          · rw [← hcl, takeAt_all, hcat]
theorem apS {x y : Operand} {ts tx e : TypeId} {by_ : Nat} {l : List Nat} {s : List UInt8} {f : Rs → List Rs} {dd : List Rs} {v : Value} {d : Tmp} (S : Hs h0 h rs) (ho : o.op = .call { callee := .builtin .append, args := #[x, y], argTypes := #[ts, tx] }) (hx : kA L x = some v) [i : HasS rs v Nat e 1 eU l f dd]
    (w : ∀ v' h', Hs h0 h' (.sl v' e 1 eU (l ++ s.map UInt8.toNat) :: dd) → KO P X sz ops os (L.put d v') h' R) (hg : guardA ops L.tree o.guard = some true := by exact rfl) (hy : kA L y = some (str s) := by exact rfl) (hs : sliceElem P ts = some e := by exact rfl) (hz : zeroCellsT P e = some [.int .u8 0] := by exact rfl) (hb : bytesT P e = some (by_ + 1) := by exact rfl) (hxs : P.underlying tx = some .string := by exact rfl)
    (hsz : (l.length + s.length + 1) * (by_ + 1) ≤ 1099511627776 := by first | omega | (simp only [List.length_nil]; omega) | grind) (hdst : o.dst = some d := by exact rfl) (hds : Nat.blt d sz = true := by exact rfl) : KO P X sz ops (o :: os) L h R := by
  obtain ⟨v', h', q1, q2⟩ := st_append S hs hz hb hxs i.dt hsz
  exact KO_append ho hg hx hy q1 (by simp only [putK, hdst, hds]) (w v' h' q2)
/-- The address of the first of one's own bytes. -/
theorem usd {x : Operand} {ty e : TypeId} {l : List Nat} {f : Rs → List Rs} {dd : List Rs} {v : Value} {d : Tmp} (S : Hs h0 h rs) (hl : 0 < l.length) (ho : o.op = .call { callee := .builtin .unsafeSliceData, args := #[x], argTypes := #[ty] }) (hx : kA L x = some v) [i : HasS rs v Nat e 1 eU l f dd]
    (w : ∀ b o, v = .slice (some ⟨b, o, none⟩) l.length l.length → KO P X sz ops os (L.put d (.pointer (some ⟨b, o, none⟩))) h R) (hg : guardA ops L.tree o.guard = some true := by exact rfl) (hdst : o.dst = some d := by exact rfl) (hds : Nat.blt d sz = true := by exact rfl) : KO P X sz ops (o :: os) L h R := by
  obtain ⟨fp, q1, q2, q3⟩ := i.dt.sep S.sep
  rcases q1 with ⟨rfl, rfl⟩ | ⟨b, o', cc, slk, g1, g2, g3, g4, g5, g6⟩
  · simp at hl
  refine KO_val (v := .pointer (some ⟨b, o', none⟩)) (h' := h) hg ?_ (by simp only [putK, hdst, hds]) (w b o' g1)
  rw [ho]
  obtain ⟨m, hm⟩ : ∃ m, l.length = m + 1 := ⟨l.length - 1, by omega⟩
  subst g1
  have e1 : aSliceData (.slice (some ⟨b, o', none⟩) l.length l.length) = some (.pointer (some ⟨b, o', none⟩)) := by rw [hm]; rfl
  simp only [aOp, evAll, tree_le hx, aBuiltin, e1, nextOf]
/-- One's own bytes seen as a string. -/
theorem uns {x y : Operand} {pt nt e : TypeId} {l : List Nat} {f : Rs → List Rs} {dd : List Rs} {b o' : Nat} {d : Tmp} (S : Hs h0 h rs) (hl : 0 < l.length ∧ l.length ≤ 4611686018427387904) (ho : o.op = .call { callee := .builtin .unsafeString, args := #[x, y], argTypes := #[pt, nt] }) (hx : kA L x = some (.pointer (some ⟨b, o', none⟩))) [i : HasS rs (.slice (some ⟨b, o', none⟩) l.length l.length) Nat e 1 eU l f dd]
    (w : ∀ h', Hs h0 h' dd → KO P X sz ops os (L.put d (str (l.map UInt8.ofNat))) h' R) (hy : kA L y = some (.int .i64 l.length) := by exact rfl) (hp : P.underlying pt = some (.pointer e) := by exact rfl) (he : P.underlying e = some (.int .u8) := by exact rfl) (hz : sizeT P e = some 1 := by exact rfl) (hg : guardA ops L.tree o.guard = some true := by exact rfl) (hdst : o.dst = some d := by exact rfl) (hds : Nat.blt d sz = true := by exact rfl) : KO P X sz ops (o :: os) L h R := by
  obtain ⟨fp, q1, q2, q3⟩ := i.dt.sep S.sep
  rcases q1 with ⟨q, -⟩ | ⟨b', o2, cc, slk, g1, g2, g3, g4, g5, g6⟩
  · cases q
  cases g1
  have hbl : b < h.next := (q2 b g3).2.1
  obtain ⟨m, hm⟩ : ∃ m, l.length = m + 1 := ⟨l.length - 1, by omega⟩
  have front : Hs h0 h (.sl (.slice (some ⟨b, o', none⟩) l.length l.length) e 1 eU l :: dd) := S.front i.dt
  have S2 : Hs h0 (h.put b (.cells cc e slk true)) (.any (fun _ _ => True) :: dd) := by
    refine front.turn .here (Nat.le_refl _) (S.wf.put hbl _) fun fq r1 r2 => ?_
    have hb' : fq b := by
      rcases r1 with ⟨q, -⟩ | ⟨b', o2, cc2, sl2, q3, q4, q5, -⟩
      · cases q
      · cases q3; exact q5
    exact ⟨fun j hj hn => by rw [AH.get_put, if_neg]; intro q; subst q; exact hn hb', fun _ => False, fun _ _ => trivial, fun _ q => q.elim⟩
  refine KO_val (v := str (l.map UInt8.ofNat)) (h' := h.put b (.cells cc e slk true)) hg ?_ (by simp only [putK, hdst, hds]) (w _ S2.tail)
  rw [ho]
  rw [Nat.mul_one] at g4
  have k1 : Nat.ble l.length 4611686018427387904 = true := Nat.ble_eq_true_of_le hl.2
  have k2 : Nat.beq e e = true := by simp
  have e1 : aUnsafeString P [pt, nt] (.pointer (some ⟨b, o', none⟩)) (.int .i64 l.length) h = some (str (l.map UInt8.ofNat), h.put b (.cells cc e slk true)) := by
    have hcast : ((l.length : Nat) : Int) = Int.ofNat l.length := rfl
    rw [hcast]
    simp only [aUnsafeString, hp, g2, he, hz, k1, k2, Bool.and_self, g4, bytesOf_eU]
    rw [hm]
    rfl
  have e2 : evA L.tree y = some (.int .i64 l.length) := tree_le hy
  simp only [aOp, evAll, tree_le hx, e2, aBuiltin, e1, nextOf2]
end
end Go.Proofs.Xx

/-
  Ranges over functions: the yield is called, the body runs.
-/
namespace Go.Proofs.Xx
open Go
set_option linter.unusedSimpArgs false
set_option linter.unusedVariables false

/-- The block of a range over a function. -/
abbrev lpR (l : Nat) (o : AObj) : Rs := .any (fun h fp => h.get l = some o ∧ fp l)
def yv (l : Nat) : Value := .func (.yield l) #[] #[]
section
variable {h h0 : AH} {rs : List Rs} {l : Nat} {o : AObj}
end

section
variable {P : Program} {X : Extern} {inR : Bool} {sz : Nat} {L : Ks} {h h0 : AH} {rs : List Rs} {ops : Array Oper} {os : List Oper} {o : Oper} {R : Ks → AH → Prop} {Q : KQ}
/-- What a call of the yield of block l gives. -/
def Yd (P : Program) (X : Extern) (l : Nat) (args : List Value) (h : AH) (Q : Value → AH → Prop) : Prop := ∃ n v h', yieldA (exec P X n) l args h = some (v, h') ∧ Q v h'
theorem Yd.mono {l : Nat} {args : List Value} {Q Q' : Value → AH → Prop} (w : Yd P X l args h Q) (hq : ∀ v h', Q v h' → Q' v h') : Yd P X l args h Q' := by
  obtain ⟨n, v, h', h1, h2⟩ := w
  exact ⟨n, v, h', h1, hq _ _ h2⟩
end
end Go.Proofs.Xx

/-
  Blocks that a store leaves as they were; a slice's block is none of the other blocks of one's own.
-/
namespace Go.Proofs.Xx
open Go
set_option linter.unusedSimpArgs false
set_option linter.unusedVariables false

section
variable {P : Program} {X : Extern} {sz : Nat} {L : Ks} {h h0 : AH} {rs : List Rs} {ops : Array Oper} {os : List Oper} {o : Oper} {R : Ks → AH → Prop}
/-- A store into a block of one's own; the other blocks are as they were. -/
theorem sBk {L' : Ks} {x y : Operand} {ty e : TypeId} {b k : Nat} {c c' : List Value} {v : Value} {f : Rs → List Rs} (S : Hs h0 h rs) (ho : o.op = .store ty x y) (hx : kA L x = some (.pointer (some ⟨b, k, none⟩))) [i : HasB rs b c e f] (w : ∀ h', Hs h0 h' (f (.blk b c' e)) → (∀ j, j ≠ b → h'.get j = h.get j) → KO P X sz ops os L' h' R)
    (hg : guardA ops L.tree o.guard = some true := by exact rfl) (hy : kA L y = some v := by exact rfl) (hv : storeC P ty c k v = some c' := by exact rfl) (hp : putK sz L o.dst (.tuple #[]) = some L' := by exact rfl) : KO P X sz ops (o :: os) L h R :=
  KO_store ho hg hx hy (aStore_storeC S.gB hv) hp (w _ (S.put (i.ut _)) fun j hj => by rw [AH.get_put, if_neg hj])
end
/-- v is a slice of rs that is not nil. -/
class HasV (rs : List Rs) (v : Value) : Prop where
  fp : ∀ {lo : Nat} {h : AH} {U : Fp}, Sep lo h rs U → v ≠ .slice none 0 0 → U (blkS v)
instance HasV.there {rs : List Rs} {v : Value} {s : Rs} [k : HasV rs v] : HasV (s :: rs) v := ⟨fun S hv => by
  obtain ⟨f, -, -, h3⟩ := S
  exact (k.fp h3 hv).1⟩
instance HasV.sl {rs : List Rs} {v : Value} {α : Type} {e : TypeId} {z : Nat} {enc : α → List Value} {l : List α} : HasV (.sl v e z enc l :: rs) v := ⟨fun S hv => by
  obtain ⟨f, h1, h2, -⟩ := S
  rcases h1 with ⟨q, -⟩ | ⟨b, o, cc, slk, rfl, -, q, -⟩
  · exact absurd q hv
  · exact (h2 b q).2.2⟩
instance HasV.rd {rs : List Rs} {v : Value} {α : Type} {z : Nat} {enc : α → List Value} {l : List α} : HasV (.rd v z enc l :: rs) v := ⟨fun S hv => by
  obtain ⟨f, h1, h2, -⟩ := S
  rcases h1 with ⟨q, -⟩ | ⟨b, o, cap, cc, e, s, r, rfl, -, q, -⟩
  · exact absurd q hv
  · exact (h2 b q).2.2⟩
class HasK (rs : List Rs) (b : Nat) : Prop where
  fp : ∀ {lo : Nat} {h : AH} {U : Fp}, Sep lo h rs U → U b
instance HasK.there {rs : List Rs} {b : Nat} {s : Rs} [k : HasK rs b] : HasK (s :: rs) b := ⟨fun S => by
  obtain ⟨f, -, -, h3⟩ := S
  exact (k.fp h3).1⟩
instance HasK.here {rs : List Rs} {b : Nat} {c : List Value} {e : TypeId} : HasK (.blk b c e :: rs) b := ⟨fun S => by
  obtain ⟨f, h1, h2, -⟩ := S
  exact (h2 b h1.2).2.2⟩
/-- The slice's block is not b. -/
class NeB (rs : List Rs) (b : Nat) (v : Value) : Prop where
  ne : ∀ {lo : Nat} {h : AH} {U : Fp}, Sep lo h rs U → v ≠ .slice none 0 0 → blkS v ≠ b
instance NeB.there {rs : List Rs} {b : Nat} {v : Value} {s : Rs} [k : NeB rs b v] : NeB (s :: rs) b v := ⟨fun S hv => by
  obtain ⟨f, -, -, h3⟩ := S
  exact k.ne h3 hv⟩
instance NeB.blk {rs : List Rs} {b : Nat} {v : Value} {c : List Value} {e : TypeId} [k : HasV rs v] : NeB (.blk b c e :: rs) b v := ⟨fun S hv q => by
  obtain ⟨f, h1, h2, h3⟩ := S
  have := (k.fp h3 hv).2
  rw [q] at this
  exact this h1.2⟩
instance NeB.sl {rs : List Rs} {b : Nat} {v : Value} {α : Type} {e : TypeId} {z : Nat} {enc : α → List Value} {l : List α} [k : HasK rs b] : NeB (.sl v e z enc l :: rs) b v := ⟨fun S hv q => by
  obtain ⟨f, h1, h2, h3⟩ := S
  rcases h1 with ⟨q', -⟩ | ⟨b', o, cc, slk, rfl, -, q', -⟩
  · exact absurd q' hv
  · have := (k.fp h3).2
    exact this (by rw [← q]; exact q')⟩
theorem Hs.neB {h0 h : AH} {rs : List Rs} {b : Nat} {v : Value} (S : Hs h0 h rs) [k : NeB rs b v] (hv : v ≠ .slice none 0 0) : blkS v ≠ b := k.ne S.sep hv
theorem Hs.slNe {h0 h : AH} {rs : List Rs} {v : Value} {α : Type} {e : TypeId} {z : Nat} {enc : α → List Value} {l : List α} (S : Hs h0 h rs) (a : At rs (.sl v e z enc l)) (hl : 0 < l.length) : v ≠ .slice none 0 0 := by
  obtain ⟨fp, k, -⟩ := a.ok S.sep
  rcases k with ⟨-, rfl⟩ | ⟨b, o, cc, slk, rfl, -⟩
  · simp at hl
  · intro q; cases q
section
variable {P : Program} {X : Extern} {sz : Nat} {L : Ks} {h h0 : AH} {rs : List Rs} {ops : Array Oper} {os : List Oper} {o : Oper} {R : Ks → AH → Prop}
/-- v[lo:], of a slice of one's own that is not used any more; it lies in the same block. -/
theorem drB {α : Type} {x lo : Operand} {ty e : TypeId} {v : Value} {z : Nat} {enc : α → List Value} {l : List α} {f : Rs → List Rs} {dd : List Rs} {ik : IntKind} {a : Int} {d : Tmp} (S : Hs h0 h rs) (ho : o.op = .slice ty x (some lo) none none) (hx : kA L x = some v) [i : HasS rs v α e z enc l f dd]
    (w : ∀ v', Hs h0 h (f (.sl v' e z enc (l.drop a.toNat))) → (blkS v' = blkS v ∧ (v ≠ .slice none 0 0 → v' ≠ .slice none 0 0)) → KO P X sz ops os (L.put d v') h R) (hg : guardA ops L.tree o.guard = some true := by exact rfl) (hlo : kA L lo = some (.int ik a) := by exact rfl) (hz : ∀ x, (enc x).length = z := by intro _; rfl) (hu : elemZ P ty = some z := by exact rfl) (ha : 0 ≤ a ∧ a ≤ l.length := by first | omega | grind)
    (hdst : o.dst = some d := by exact rfl) (hds : Nat.blt d sz = true := by exact rfl) : KO P X sz ops (o :: os) L h R := by
  obtain ⟨k, rfl⟩ := Int.eq_ofNat_of_zero_le ha.1
  have hk : k ≤ l.length := by omega
  obtain ⟨fp, k1, k2, -⟩ := (i.ut (.sl v e z enc l)).ok (h' := h) S.ext.next (Nat.le_refl _) S.sep
  have hue : ∃ e', P.underlying ty = some (.slice e') ∧ sizeT P e' = some z := by
    unfold elemZ at hu
    split at hu
    · exact ⟨_, by assumption, hu⟩
    · cases hu
  obtain ⟨e', hu1, hu2⟩ := hue
  have hlo' : evA L.tree lo = some (.int ik (Int.ofNat k)) := tree_le hlo
  have go : ∀ v', aSlice P ty v (some (.int ik (Int.ofNat k))) none none h = some v' → Hs h0 h (f (.sl v' e z enc (l.drop k))) → (blkS v' = blkS v ∧ (v ≠ .slice none 0 0 → v' ≠ .slice none 0 0)) → KO P X sz ops (o :: os) L h R := fun v' q1 q2 q3 => by
    refine KO_val (v := v') (h' := h) hg ?_ (by simp only [putK, hdst, hds]) (w v' (by simpa using q2) q3)
    rw [ho]
    simp only [aOp, tree_le hx, evOpt, hlo', q1, nextOf]
  rcases k1 with ⟨rfl, rfl⟩ | ⟨b, o', cc, slk, g1, g2, g3, g4, g5, g6⟩
  · obtain rfl : k = 0 := by simpa using hk
    refine go (.slice none 0 0) ?_ (S.same (i.ut _) fun fq q => by simpa using q) ⟨rfl, id⟩
    simp only [aSlice, hu1, boundOf, hu2]
  · subst g1
    have hle : Nat.ble k l.length = true := Nat.ble_eq_true_of_le hk
    have hnn : Nat.ble l.length l.length = true := Nat.ble_eq_true_of_le (Nat.le_refl _)
    have hoc : o' + l.length * z ≤ cc.length := by
      rcases g5 with g5 | ⟨g5, g7⟩
      · omega
      · rw [g5]; simpa using g7
    have hkz : k * z ≤ l.length * z := Nat.mul_le_mul_right z hk
    cases hq : slk.isNone && Nat.beq k l.length with
    | true =>
      rw [Bool.and_eq_true] at hq
      have hkl := Nat.eq_of_beq_eq_true hq.2
      refine go (.slice (some ⟨b, o', none⟩) (l.length - k) (l.length - k)) ?_ (S.same (i.ut _) fun fq q => ?_) ⟨rfl, fun _ q => by cases q⟩
      · simp only [aSlice, hu1, g2, hu2, boundOf, hle, hnn, Bool.and_self, hq.1, hq.2]
      · rcases q with ⟨q1, -⟩ | ⟨b', o2, cc2, sl2, q1, q2, q3, -⟩
        · cases q1
        · cases q1
          have : l.drop k = [] := by rw [hkl, List.drop_length]
          exact .inr ⟨b, o', cc, slk, by rw [List.length_drop], g2, q3, by rw [this]; simp [takeAt], .inr ⟨this, by omega⟩, g6⟩
    | false =>
      refine go (.slice (some ⟨b, o' + k * z, none⟩) (l.length - k) (l.length - k)) ?_ (S.same (i.ut _) fun fq q => ?_) ⟨rfl, fun _ q => by cases q⟩
      · simp only [aSlice, hu1, g2, hu2, boundOf, hle, hnn, Bool.and_self, hq]
      · rcases q with ⟨q1, -⟩ | ⟨b', o2, cc2, sl2, q1, q2, q3, -⟩
        · cases q1
        · cases q1
          have hsub : k * z + (l.length - k) * z = l.length * z := by rw [← Nat.add_mul]; congr 1; omega
          refine .inr ⟨b, o' + k * z, cc, slk, by rw [List.length_drop], g2, q3, ?_, ?_, g6⟩
          · rw [List.length_drop, flatMap_drop hz, takeAt_sub g4 (by omega), List.take_of_length_le]
            rw [List.length_drop, flatMap_length hz]; omega
          · rcases g5 with g5 | ⟨g5, g7⟩
            · left; rw [List.length_drop]; omega
            · right; subst g5; simp at hk ⊢; subst hk; omega
end
theorem blkOf_slc (p : Option Addr) (n c : Nat) : blkOf (.slice p n c) = blkS (.slice p n c) := by cases p <;> rfl
end Go.Proofs.Xx
