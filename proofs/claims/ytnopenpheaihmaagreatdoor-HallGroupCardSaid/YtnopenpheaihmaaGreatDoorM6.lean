/-
  The back of a slice of one's own, seen beside it; clear; bytes.
-/
import Derived.Test.YtnopenpheaihmaaGreatDoorM5

namespace Go.Proofs.Xx
open Go
set_option linter.unusedSimpArgs false
set_option linter.unusedVariables false

/-- v2 is v[k:], of length n - k. -/
def IsView (v v2 : Value) (z k n : Nat) : Prop := ∃ b o c2, v = .slice (some ⟨b, o, none⟩) n n ∧ v2 = .slice (some ⟨b, o + k * z, none⟩) (n - k) c2
theorem IsView.el {v v2 : Value} {z k n : Nat} (V : IsView v v2 z k n) (j off : Nat) : elA v2 z j off = elA v z (k + j) off := by
  obtain ⟨b, o, c2, rfl, rfl⟩ := V
  simp only [elA]
  rw [show o + k * z + j * z + off = o + (k + j) * z + off by rw [Nat.add_mul]; omega]
theorem IsView.rd {α : Type} {v v2 : Value} {z k : Nat} {h : AH} {enc : α → List Value} {l : List α} (V : IsView v v2 z k l.length) (r : RdL h v z enc l) (hz : ∀ x, (enc x).length = z) (hk : k ≤ l.length) : RdL h v2 z enc (l.drop k) := by
  obtain ⟨b, o, c2, rfl, rfl⟩ := V
  rcases r with ⟨q, -⟩ | ⟨b', o', cap, cc, e, s, q, e1, h1, h2⟩
  · cases q
  · cases e1
    have hkz : k * z ≤ l.length * z := Nat.mul_le_mul_right z hk
    have hsub : k * z + (l.length - k) * z = l.length * z := by rw [← Nat.add_mul]; congr 1; omega
    refine .inr ⟨b, o + k * z, c2, cc, e, s, q, by rw [List.length_drop], h1, ?_⟩
    rw [List.length_drop, flatMap_drop hz, takeAt_sub h2 (by omega), List.take_of_length_le]
    rw [List.length_drop, flatMap_length hz]; omega

section
variable {P : Program} {X : Extern} {inR : Bool} {sz : Nat} {L : Ks} {h h0 : AH} {rs : List Rs} {ops : Array Oper} {os : List Oper} {o : Oper} {R : Ks → AH → Prop} {Q : KQ}

/-- v[lo:] of a slice of one's own, beside it. -/
theorem dv {α : Type} {x lo : Operand} {ty e : TypeId} {v : Value} {z : Nat} {enc : α → List Value} {l : List α} {f : Rs → List Rs} {dd : List Rs} {ik : IntKind} {a : Int} {d : Tmp} (S : Hs h0 h rs) (ho : o.op = .slice ty x (some lo) none none) (hx : kA L x = some v) [i : HasS rs v α e z enc l f dd]
    (w : ∀ v', IsView v v' z a.toNat l.length → KO P X sz ops os (L.put d v') h R) (hg : guardA ops L.tree o.guard = some true := by exact rfl) (hlo : kA L lo = some (.int ik a) := by exact rfl) (hu : elemZ P ty = some z := by exact rfl) (ha : 0 ≤ a ∧ a < l.length := by first | omega | grind)
    (hdst : o.dst = some d := by exact rfl) (hds : Nat.blt d sz = true := by exact rfl) : KO P X sz ops (o :: os) L h R := by
  obtain ⟨k, rfl⟩ := Int.eq_ofNat_of_zero_le ha.1
  have hk : k < l.length := by omega
  obtain ⟨fp, k1, k2, -⟩ := (i.ut (.sl v e z enc l)).ok (h' := h) S.ext.next (Nat.le_refl _) S.sep
  have hue : ∃ e', P.underlying ty = some (.slice e') ∧ sizeT P e' = some z := by
    unfold elemZ at hu
    split at hu
    · exact ⟨_, by assumption, hu⟩
    · cases hu
  obtain ⟨e', hu1, hu2⟩ := hue
  have hlo' : evA L.tree lo = some (.int ik (Int.ofNat k)) := tree_le hlo
  rcases k1 with ⟨rfl, rfl⟩ | ⟨b, o', cc, slk, g1, g2, g3, g4, g5, g6⟩
  · simp at hk
  · subst g1
    have hle : Nat.ble k l.length = true := Nat.ble_eq_true_of_le (Nat.le_of_lt hk)
    have hnn : Nat.ble l.length l.length = true := Nat.ble_eq_true_of_le (Nat.le_refl _)
    have hq : (slk.isNone && Nat.beq k l.length) = false := by
      have : Nat.beq k l.length = false := by
        rw [Bool.eq_false_iff]; intro q; have := Nat.eq_of_beq_eq_true q; omega
      rw [this, Bool.and_false]
    refine KO_val (v := .slice (some ⟨b, o' + k * z, none⟩) (l.length - k) (l.length - k)) (h' := h) hg ?_ (by simp only [putK, hdst, hds]; rfl) (w _ ⟨b, o', l.length - k, rfl, by rw [Int.toNat_natCast]⟩)
    rw [ho]
    have e1 : aSlice P ty (.slice (some ⟨b, o', none⟩) l.length l.length) (some (.int ik (Int.ofNat k))) none none h = some (.slice (some ⟨b, o' + k * z, none⟩) (l.length - k) (l.length - k)) := by
      simp only [aSlice, hu1, g2, hu2, boundOf, hle, hnn, Bool.and_self, hq]
    simp only [aOp, tree_le hx, evOpt, hlo', e1, nextOf]
/-- clear of the back of a slice of one's own. -/
theorem cl {α : Type} {x : Operand} {ty e e' : TypeId} {v v2 : Value} {z k : Nat} {enc : α → List Value} {l : List α} {f : Rs → List Rs} {dd : List Rs} (y0 : α) (S : Hs h0 h rs) (V : IsView v v2 z k l.length) (ho : o.op = .call { callee := .builtin .clear, args := #[x], argTypes := #[ty] }) (hx : kA L x = some v2) [i : HasS rs v α e z enc l f dd]
    (w : ∀ h', Hs h0 h' (f (.sl v e z enc (l.take k ++ List.replicate (l.length - k) y0))) → KO P X sz ops os L h' R) (hu : P.underlying ty = some (.slice e') := by exact rfl) (hz0 : zeroCellsT P e' = some (enc y0) := by exact rfl) (h1 : (enc y0).all one? = true := by exact rfl)
    (hz : ∀ x, (enc x).length = z := by intro _; rfl) (hk : k < l.length := by omega) (hzz : 0 < z := by decide) (hg : guardA ops L.tree o.guard = some true := by exact rfl) (hdst : o.dst = none := by exact rfl) : KO P X sz ops (o :: os) L h R := by
  obtain ⟨b, o', c2, rfl, rfl⟩ := V
  obtain ⟨fp, k1, k2, -⟩ := (i.ut (.sl (.slice (some ⟨b, o', none⟩) l.length l.length) e z enc l)).ok (h' := h) S.ext.next (Nat.le_refl _) S.sep
  rcases k1 with ⟨q, -⟩ | ⟨b', o2, cc, slk, g1, g2, g3, g4, g5, g6⟩
  · cases q
  cases g1
  have hrow : zeroRow (enc y0) (l.length - k) = (List.replicate (l.length - k) y0).flatMap enc := zeroRow_enc rfl _
  have hrl : ((List.replicate (l.length - k) y0).flatMap enc).length = (l.length - k) * z := by rw [flatMap_length hz]; simp
  have hkz : k * z + (l.length - k) * z = l.length * z := by rw [← Nat.add_mul]; congr 1; omega
  obtain ⟨he, hlen⟩ : l.flatMap enc = (cc.drop o').take (l.length * z) ∧ o' + l.length * z ≤ cc.length := by
    rcases takeAt_eqs g4 with q | ⟨q1, q2⟩
    · exact q
    · exfalso
      have : l.length * z = 0 := q1
      have := Nat.mul_pos (show 0 < l.length by omega) hzz
      omega
  have hall : ((List.replicate (l.length - k) y0).flatMap enc).all one? = true := by
    rw [List.all_eq_true]
    intro u hu
    rw [List.mem_flatMap] at hu
    obtain ⟨y, hy, hu⟩ := hu
    rw [List.mem_replicate] at hy
    rw [hy.2] at hu
    exact List.all_eq_true.1 h1 u hu
  have hput : putCells h b (o' + k * z) cc e slk (zeroRow (enc y0) (l.length - k)) = some (h.put b (.cells (splice cc (o' + k * z) ((List.replicate (l.length - k) y0).flatMap enc)) e slk false)) := by
    rw [hrow]
    unfold putCells
    rw [hall, Nat.ble_eq_true_of_le (by rw [hrl]; omega)]
    rfl
  obtain ⟨m, hm⟩ : ∃ m, l.length - k = m + 1 := ⟨l.length - k - 1, by omega⟩
  have hclear : aClear P ty (.slice (some ⟨b, o' + k * z, none⟩) (l.length - k) c2) h = some (h.put b (.cells (splice cc (o' + k * z) ((List.replicate (l.length - k) y0).flatMap enc)) e slk false)) := by
    rw [hm] at hput ⊢
    simp only [aClear, hu, hz0, g2, hput]
  refine KO_val (v := .tuple #[]) (h' := h.put b (.cells (splice cc (o' + k * z) ((List.replicate (l.length - k) y0).flatMap enc)) e slk false)) hg ?_ (by simp only [putK, hdst]) (w _ ?_)
  · rw [ho]
    simp only [aOp, evAll, tree_le hx, aBuiltin, hclear]
  · have hsp : splice cc (o' + k * z) ((List.replicate (l.length - k) y0).flatMap enc) = splice cc (o' + k * z + 0) ((List.replicate (l.length - k) y0).flatMap enc) := rfl
    have hin := splice_in (cc := cc) (uc := (List.replicate (l.length - k) y0).flatMap enc) (o := o') (n := l.length * z) (a := k * z) (z := (l.length - k) * z) (off := 0) hlen (by omega) (by rw [hrl]; omega)
    have hfl : ((l.take k ++ List.replicate (l.length - k) y0).flatMap enc) = splice ((cc.drop o').take (l.length * z)) (k * z) (splice ((((cc.drop o').take (l.length * z)).drop (k * z)).take ((l.length - k) * z)) 0 ((List.replicate (l.length - k) y0).flatMap enc)) := by
      rw [← he]
      have hll : (l.flatMap enc).length = l.length * z := flatMap_length hz l
      rw [List.flatMap_append, flatMap_take hz]
      simp only [splice, List.take_zero, List.nil_append, Nat.zero_add]
      rw [hrl, List.drop_of_length_le (l := (((l.flatMap enc).drop (k * z)).take ((l.length - k) * z))) (by rw [List.length_take]; omega), List.append_nil, hrl, List.drop_of_length_le (by omega), List.append_nil]
    refine S.turn (i.ut _) (Nat.le_refl _) (S.wf.put (k2 b g3).2.1 _) fun fq q1 q2 => ?_
    have hb : fq b := by
      rcases q1 with ⟨q, -⟩ | ⟨b', o2, cc2, sl2, q3, q4, q5, -⟩
      · cases q
      · cases q3; exact q5
    have hnl : (l.take k ++ List.replicate (l.length - k) y0).length = l.length := by simp; omega
    refine ⟨fun j _ hj => by rw [AH.get_put, if_neg]; intro q; subst q; exact hj hb, fun j => j = b, .inr ⟨b, o', _, slk, by rw [hnl], by rw [AH.get_put, if_pos rfl], rfl, ?_, ?_, g6⟩, fun j hj => by subst hj; exact ⟨(k2 _ g3).2.1, .inl hb⟩⟩
    · rw [hnl, hfl]; exact hin
    · left
      rw [hnl, spl_len (by rw [hrl]; omega)]
      rcases g5 with g5 | ⟨g5, -⟩
      · exact g5
      · subst g5; simp at hk
/-- A remainder of bytes. -/
theorem rmU {L' : Ks} {x y : Operand} {ty ty2 : TypeId} {a b : Int} (w : KO P X sz ops os L' h R) (ho : o.op = .binOp .rem ty x y ty2 := by exact rfl) (hg : guardA ops L.tree o.guard = some true := by exact rfl) (hx : kA L x = some (.int .u8 a) := by exact rfl) (hy : kA L y = some (.int .u8 b) := by exact rfl)
    (hb : 0 ≤ a ∧ 0 < b := by omega) (hp : putK sz L o.dst (.int .u8 (a % b)) = some L' := by exact rfl) : KO P X sz ops (o :: os) L h R :=
  KO_bin ho hg hx hy (by
    have h1 : ¬ b = 0 := by omega
    have h2 : a.tmod b = a % b := Int.tmod_eq_emod_of_nonneg hb.1
    simp only [aBin, decide_true, decide_eq_false h1, h2]) hp w
/-- v[lo:hi] of a slice that was there before. -/
theorem su0 {α : Type} {x : Operand} {lo hi : Option Operand} {vlo vhi : Option Value} {ty : TypeId} {v : Value} {z : Nat} {enc : α → List Value} {l : List α} {d : Tmp} (a b : Nat) (S : Hs h0 h rs) (w0 : WfH h0) (hr : RdL h0 v z enc l) (hc : CapOk v)
    (w : ∀ v', RdL h0 v' z enc ((l.drop a).take (b - a)) → CapOk v' → KO P X sz ops os (L.put d v') h R) (ho : o.op = .slice ty x lo hi none := by exact rfl) (hx : kA L x = some v := by exact rfl) (hg : guardA ops L.tree o.guard = some true := by exact rfl)
    (hlo : evOpt L.tree lo = some vlo := by exact rfl) (hhi : evOpt L.tree hi = some vhi := by exact rfl) (hz : ∀ x, (enc x).length = z := by intro _; rfl) (hu : elemZ P ty = some z := by exact rfl)
    (h1 : boundOf vlo 0 = some a := by exact rfl) (h2 : boundOf vhi l.length = some b := by exact rfl) (hab : a ≤ b ∧ b ≤ l.length := by first | omega | grind) (hdst : o.dst = some d := by exact rfl) (hds : Nat.blt d sz = true := by exact rfl) : KO P X sz ops (o :: os) L h R := by
  obtain ⟨v', e1, e2, e3⟩ := slice_rd hr hc hz hu h1 h2 hab
  have hue : ∃ e', P.underlying ty = some (.slice e') ∧ sizeT P e' = some z := by
    unfold elemZ at hu
    split at hu
    · exact ⟨_, by assumption, hu⟩
    · cases hu
  obtain ⟨e', hu1, hu2⟩ := hue
  have e4 : aSlice P ty v vlo vhi none h = aSlice P ty v vlo vhi none h0 := by
    rcases hr with ⟨rfl, g1, g2⟩ | ⟨b', o', cap, cc, e, s, q, rfl, g1, g2⟩
    · simp only [aSlice, hu1]
    · simp only [aSlice, hu1, S.ext.get w0 g1, g1]
  refine KO_val (v := v') (h' := h) hg ?_ (by simp only [putK, hdst, hds]) (w v' e2 e3)
  rw [ho]
  simp only [aOp, tree_le hx, hlo, hhi, show evOpt L.tree none = some none from rfl, e4, e1, nextOf]
theorem bytesOf_eU : ∀ l : List Nat, bytesOf? (l.flatMap eU) = some (l.map UInt8.ofNat)
  | [] => rfl
  | x :: l => by
    rw [List.flatMap_cons]
    show (match byteOf? (.int .u8 (Int.ofNat x)), bytesOf? (l.flatMap eU) with | some b, some s => some (b :: s) | _, _ => none) = _
    rw [bytesOf_eU l]; rfl
/-- Bytes as a string. -/
theorem bS {L' : Ks} {x : Operand} {s dt e : TypeId} {v : Value} {l : List Nat} (hr : RdL h v 1 eU l) (w : KO P X sz ops os L' h R) (ho : o.op = .convert s dt x := by exact rfl) (hg : guardA ops L.tree o.guard = some true := by exact rfl) (hx : kA L x = some v := by exact rfl)
    (hs : P.underlying s = some (.slice e) := by exact rfl) (he : P.underlying e = some (.int .u8) := by exact rfl) (hd : P.underlying dt = some .string := by exact rfl) (hp : putK sz L o.dst (str (l.map UInt8.ofNat)) = some L' := by exact rfl) : KO P X sz ops (o :: os) L h R := by
  refine KO_val hg ?_ hp w
  rw [ho]
  have e1 : aToString P s dt v h = some (str (l.map UInt8.ofNat)) := by
    rcases hr with ⟨rfl, g1, g2⟩ | ⟨b', o', cap, cc, e0, s0, q, rfl, g1, g2⟩
    · have : l = [] := List.length_eq_zero_iff.1 g1
      subst this
      simp only [aToString, hs, hd, he]; rfl
    · rw [Nat.mul_one] at g2
      simp only [aToString, hs, hd, he, g1, g2, bytesOf_eU]; rfl
  have e2 : aConvert P s dt v = none := by
    unfold aConvert
    rw [hs]
  simp only [aOp, tree_le hx, e2, e1]
end
end Go.Proofs.Xx

/-
  Elements of arrays in blocks.
-/
namespace Go.Proofs.Xx
open Go
set_option linter.unusedSimpArgs false
set_option linter.unusedVariables false

section
variable {P : Program} {X : Extern} {inR : Bool} {sz : Nat} {L : Ks} {h h0 : AH} {rs : List Rs} {ops : Array Oper} {os : List Oper} {o : Oper} {R : Ks → AH → Prop} {Q : KQ}
def arrOf (P : Program) (ty : TypeId) : Option (Nat × Nat) := match P.underlying ty with | some (.array n e) => (match sizeT P e with | some z => some (n, z) | none => none) | _ => none
end
end Go.Proofs.Xx

/-
  Strings built out of bytes: append of a string, the bytes seen as a string.
-/
namespace Go.Proofs.Xx
open Go
set_option linter.unusedSimpArgs false
set_option linter.unusedVariables false

section
variable {P : Program} {X : Extern} {inR : Bool} {sz : Nat} {L : Ks} {h h0 : AH} {rs : List Rs} {ops : Array Oper} {os : List Oper} {o : Oper} {R : Ks → AH → Prop} {Q : KQ}
end
end Go.Proofs.Xx

/-
  Ranges over functions: the yield is called, the body runs.
-/
namespace Go.Proofs.Xx
open Go
set_option linter.unusedSimpArgs false
set_option linter.unusedVariables false

/-- The block of a range over a function. -/
abbrev lpR (l : Nat) (o : AObj) : Rs := .any (fun h fp => h.get l = some o ∧ fp l)
def yv (l : Nat) : Value := .func (.yield l) #[] #[]
section
variable {h h0 : AH} {rs : List Rs} {l : Nat} {o : AObj}
theorem Hs.bY (S : Hs h0 h rs) {b : Nat} {o : AObj} (hb : h0.get b = some o) (w : WfH h0) : b < h.next :=
  Nat.lt_of_lt_of_le (Nat.lt_of_not_le fun q => by have := w b q; rw [hb] at this; cases this) S.ext.next
theorem Hs.lpGet (S : Hs h0 h (lpR l o :: rs)) : h.get l = some o := by
  obtain ⟨fp, k, -⟩ := S.sep
  exact (k h fun _ _ => rfl).1
theorem Hs.lpAdd (S : Hs h0 h rs) (o : AObj) : Hs h0 (h.add o) (lpR h.next o :: rs) :=
  S.grow (fp := fun b => b = h.next) ((Ext.refl S.wf).add _) (fun h' q => ⟨(q _ rfl).trans (by rw [AH.get_add, if_pos rfl]), rfl⟩) fun b hb => by subst hb; exact ⟨Nat.le_refl _, Nat.lt_succ_self _⟩
theorem Hs.lpPut (S : Hs h0 h (lpR l o :: rs)) (o' : AObj) : Hs h0 (h.put l o') (lpR l o' :: rs) := by
  have hl : l < h.next := by
    obtain ⟨fp, k, k2, -⟩ := S.sep
    exact (k2 l (k h fun _ _ => rfl).2).2.1
  refine S.turn .here (Nat.le_refl _) (S.wf.put hl _) fun fp r1 r2 => ?_
  have hf := (r1 h fun _ _ => rfl).2
  exact ⟨fun j hj hn => by rw [AH.get_put, if_neg]; intro q; subst q; exact hn hf, fun b => b = l, fun h' q => ⟨(q _ rfl).trans (by rw [AH.get_put, if_pos rfl]), rfl⟩, fun b hb => by subst hb; exact ⟨hl, .inl hf⟩⟩
end

section
variable {P : Program} {X : Extern} {inR : Bool} {sz : Nat} {L : Ks} {h h0 : AH} {rs : List Rs} {ops : Array Oper} {os : List Oper} {o : Oper} {R : Ks → AH → Prop} {Q : KQ}
/-- What a call of the yield of block l gives. -/
def Yd (P : Program) (X : Extern) (l : Nat) (args : List Value) (h : AH) (Q : Value → AH → Prop) : Prop := ∃ n v h', yieldA (exec P X n) l args h = some (v, h') ∧ Q v h'
theorem Yd.mono {l : Nat} {args : List Value} {Q Q' : Value → AH → Prop} (w : Yd P X l args h Q) (hq : ∀ v h', Q v h' → Q' v h') : Yd P X l args h Q' := by
  obtain ⟨n, v, h', h1, h2⟩ := w
  exact ⟨n, v, h', h1, hq _ _ h2⟩
theorem WO_yield {t : Tr Value} {R : Tr Value → AH → Prop} {l : Nat} {args : List Value} {d : Tmp} (hg : guardA ops t o.guard = some true) (ha : aOp P t h o.op = some (.yield l args)) (hd : o.dst = some d) (hs : Nat.blt d sz = true)
    (w : Yd P X l args h (fun v h' => WO P X sz ops os (t.set d v) h' R)) : WO P X sz ops (o :: os) t h R := by
  obtain ⟨n, v, h1, hc, n2, t2, h2, h3, h4⟩ := w
  refine ⟨max n n2, t2, h2, ?_, h4⟩
  simp only [opsA, hg, opA, ha, hd, putD, hs, yieldA_mono (exec_le (Nat.le_max_left n n2)) hc]
  exact opsA_mono (exec_le (Nat.le_max_right n n2)) _ _ _ _ h3
theorem KO_yield {l : Nat} {args : List Value} {d : Tmp} (hg : guardA ops L.tree o.guard = some true) (ha : aOp P L.tree h o.op = some (.yield l args)) (hd : o.dst = some d) (hs : Nat.blt d sz = true)
    (w : Yd P X l args h (fun v h' => KO P X sz ops os (L.put d v) h' R)) : KO P X sz ops (o :: os) L h R := fun t hk =>
  WO_yield (guardA_le hk.tle hg) (aOp_le hk.tle ha) hd hs (w.mono fun v h' q => q _ (hk.put d v))
/-- A yield: the assignment, then the body. -/
theorem Yd_S {l sz : Nat} {t : Tr Value} {p : Tmp} {a b : Code} {v : Value} {R : Value → AH → Prop} (hk : Kn t L) (S : Hs h0 h (lpR l (.loop .ready none sz t [p] a b) :: rs)) (hp : Nat.blt p sz = true)
    (w : K P X true sz a (L.put p v) h (fun x L1 h1 => x = .norm ∧ ∃ rs1, Hs h0 h1 (lpR l (.loop .ready none sz t [p] a b) :: rs1) ∧ ∀ h2, Hs h0 h2 (lpR l (.loop .busy none sz t [p] a b) :: rs1) →
      K P X true sz b L1 h2 (fun x2 _ h3 => x2 = .norm ∧ ∃ rs3, Hs h0 h3 (lpR l (.loop .busy none sz t [p] a b) :: rs3) ∧ ∀ h4, Hs h0 h4 (lpR l (.loop .ready none sz t [p] a b) :: rs3) → R (.bool true) h4))) : Yd P X l [v] h R := by
  obtain ⟨n, x, t1, h1, e1, L1, k1, rfl, rs1, S1, w1⟩ := w (t.set p v) (hk.put p v)
  obtain ⟨m, x2, t2, h3, e2, L2, k2, rfl, rs3, S3, w3⟩ := w1 _ (S1.lpPut _) t1 k1
  refine ⟨max n m, .bool true, _, ?_, w3 _ (S3.lpPut _)⟩
  unfold yieldA
  have hall : ([p] : List Tmp).all (fun p => Nat.blt p sz) = true := by simp only [List.all_cons, hp, List.all_nil, Bool.and_self]
  simp only [S.lpGet, hall, setParams, exec_le (Nat.le_max_left n m) _ _ _ _ _ _ e1, S1.lpGet, exec_le (Nat.le_max_right n m) _ _ _ _ _ _ e2, S3.lpGet]
/-- A range over a function whose body never leaves it. -/
theorem K_range {f : Operand} {g : FuncId} {first captured : Array Value} {ps : Array Tmp} {a b : Code} (S : Hs h0 h rs) (hf : kA L f = some (.func (.func g) first captured))
    (w : ∀ l t h1, Kn t L → Hs h0 h1 (lpR l (.loop .ready none sz t ps.toList a b) :: rs) → Fn P X g (first.toList ++ (yv l :: captured.toList)) h1 (fun _ h2 => ∃ rs2, Hs h0 h2 (lpR l (.loop .ready none sz t ps.toList a b) :: rs2) ∧ ∀ h3, Hs h0 h3 rs2 → Q .norm L h3)) : K P X false sz (.rangeFunc f ps a b) L h Q := fun t hk => by
  obtain ⟨n, v, h2, e, rs2, S2, q⟩ := w h.next t _ hk (S.lpAdd _)
  refine ⟨n + 1, .norm, t, _, ?_, L, hk, q _ (S2.lpPut (.loop .exhausted none sz t ps.toList a b)).tail⟩
  rw [exec_S]
  have e0 : evA t f = some (.func (.func g) first captured) := kA_ok hk hf
  have e' : callA P X (exec P X n) g (first.toList ++ (.func (.yield h.next) #[] #[] :: captured.toList)) (h.add (.loop .ready none sz t ps.toList a b)) = some (v, h2) := e
  simp only [execStep, e0, e', S2.lpGet]
end
end Go.Proofs.Xx
