/-
  append and slices that are built, in proofs.
-/
import Derived.Test.YtnopenpheaihmaaGreatDoorB7
namespace Go.Proofs.Xx
open Go
set_option linter.unusedSimpArgs false
set_option linter.unusedVariables false

/-- A slice of one's own that append has made (or nil): all of its block, made after h0. -/
def Gr (h0 h : AH) (v : Value) (e : TypeId) (z n : Nat) (c : List Value) : Prop :=
  (v = .slice none 0 0 ∧ n = 0 ∧ c = []) ∨ ∃ b slk, v = .slice (some ⟨b, 0, none⟩) n n ∧ h.get b = some (.cells c e slk false) ∧ c.length = n * z ∧ h0.next ≤ b ∧ (slk = none ∨ slk = some z)
theorem Gr.rd {h0 h : AH} {v : Value} {e : TypeId} {z n : Nat} {c : List Value} (g : Gr h0 h v e z n c) : Rd h v z n c := by
  rcases g with ⟨rfl, rfl, rfl⟩ | ⟨b, slk, rfl, h1, h2, h3, h4⟩
  · exact Rd.none_ h z
  · exact .inr ⟨b, 0, n, c, e, slk, false, rfl, h1, by rw [← h2]; exact takeAt_all c⟩
theorem Gr.nil (h0 h : AH) (e : TypeId) (z : Nat) : Gr h0 h (.slice none 0 0) e z 0 [] := .inl ⟨rfl, rfl, rfl⟩
theorem Gr.ext {h0 h h' : AH} {v : Value} {e : TypeId} {z n : Nat} {c : List Value} (g : Gr h0 h v e z n c) (w : WfH h) (x : Ext h h') : Gr h0 h' v e z n c := by
  rcases g with ⟨rfl, rfl, rfl⟩ | ⟨b, slk, rfl, h1, h2⟩
  · exact Gr.nil h0 h' e z
  · exact .inr ⟨b, slk, rfl, x.get w h1, h2⟩
theorem Own.gr {h0 h : AH} {v : Value} {b : Nat} {e : TypeId} {z n : Nat} {c : List Value} (o : Own h v b e z n c) (hb : h0.next ≤ b) : Gr h0 h v e z n c := .inr ⟨b, none, o.val, o.obj, o.len, hb, .inl rfl⟩

theorem Rd.source {h : AH} {v : Value} {z n : Nat} {c : List Value} (r : Rd h v z n c) : aSource z v h = some (n, c) := by
  rcases r with ⟨rfl, rfl, rfl⟩ | ⟨b, o, cap, cc, e, s, q, rfl, h1, h2⟩
  · rfl
  · simp only [aSource, h1, h2]

theorem append_gr {P : Program} {ts tx e : TypeId} {zc : List Value} {by_ : Nat} (hs : sliceElem P ts = some e) (hz : zeroCellsT P e = some zc) (hb : bytesT P e = some (by_ + 1)) (hx : P.underlying tx = some (.slice e))
    {h0 h : AH} {v x : Value} {n m : Nat} {c new : List Value} (g : Gr h0 h v e zc.length n c) (ext : Ext h0 h) (r : Rd h x zc.length m new) (h1 : new.all one? = true) (hsz : (n + m + 1) * (by_ + 1) ≤ 1099511627776) :
    ∃ v' h', aAppend P [ts, tx] v x h = some (v', h') ∧ Gr h0 h' v' e zc.length (n + m) (c ++ new) ∧ Ext h0 h' := by
  have hlen := r.length
  have k1 : Nat.ble ((m + 1) * (by_ + 1)) 1099511627776 = true := Nat.ble_eq_true_of_le (Nat.le_trans (Nat.mul_le_mul_right _ (by omega)) hsz)
  have k2 : Nat.beq new.length (m * zc.length) = true := by rw [hlen]; simp
  have k3 : Nat.ble ((n + m) * (by_ + 1)) 1099511627776 = true := Nat.ble_eq_true_of_le (Nat.le_trans (Nat.mul_le_mul_right _ (by omega)) hsz)
  rcases g with ⟨rfl, rfl, rfl⟩ | ⟨b, slk, rfl, g1, g2, g3, g4⟩
  · cases m with
    | zero =>
      have : new = [] := List.length_eq_zero_iff.1 (by omega)
      subst this
      refine ⟨_, _, ?_, Gr.nil h0 h e zc.length, ext⟩
      simp only [aAppend, hs, hx, hz, hb, r.source, k1, h1, k2, Bool.and_self]
    | succ m =>
      refine ⟨.slice (some ⟨h.next, 0, none⟩) (m + 1) (m + 1), h.add (.cells new e (some zc.length) false), ?_, .inr ⟨h.next, some zc.length, by simp, by rw [AH.get_add, if_pos rfl]; rfl, by simp [hlen], ext.next, .inr rfl⟩, ext.add _⟩
      simp only [aAppend, hs, hx, hz, hb, r.source, k1, h1, k2, Bool.and_self]
  · cases m with
    | zero =>
      have : new = [] := List.length_eq_zero_iff.1 (by omega)
      subst this
      refine ⟨_, _, ?_, .inr ⟨b, slk, rfl, by simpa using g1, by simpa using g2, g3, g4⟩, ext⟩
      have : Nat.ble n n = true := Nat.ble_eq_true_of_le (Nat.le_refl _)
      simp only [aAppend, hs, hx, hz, hb, r.source, k1, h1, k2, Bool.and_self, g1, this, Nat.add_zero]
    | succ m =>
      have k4 : Nat.ble (n + (m + 1)) n = false := by
        cases hq : Nat.ble (n + (m + 1)) n with
        | false => rfl
        | true => have := Nat.le_of_ble_eq_true hq; omega
      have k5 : takeAt c 0 (n * zc.length) = some c := by rw [← g2]; exact takeAt_all c
      rcases g4 with rfl | rfl
      · refine ⟨.slice (some ⟨h.next, 0, none⟩) (n + (m + 1)) (n + (m + 1)), h.add (.cells (c ++ new) e (some zc.length) false), ?_,
          .inr ⟨h.next, some zc.length, rfl, by rw [AH.get_add, if_pos rfl], by rw [List.length_append, g2, hlen, ← Nat.add_mul], ext.next, .inr rfl⟩, ext.add _⟩
        simp only [aAppend, hs, hx, hz, hb, r.source, k1, h1, k2, Bool.and_self, g1, k4, k5, k3]
      · have hbl : b < h.next := ext.wf.lt g1
        refine ⟨.slice (some ⟨h.next, 0, none⟩) (n + (m + 1)) (n + (m + 1)), (h.put b .dead).add (.cells (c ++ new) e (some zc.length) false), ?_,
          .inr ⟨h.next, some zc.length, rfl, (by rw [AH.get_add]; exact if_pos rfl), by rw [List.length_append, g2, hlen, ← Nat.add_mul], ext.next, .inr rfl⟩, (ext.put g3 hbl _).add _⟩
        have k6 : (Nat.beq zc.length zc.length && Nat.beq e e && Nat.ble (0 + n * zc.length) c.length) = true := by
          rw [Nat.zero_add, g2]; simp
        simp only [aAppend, hs, hx, hz, hb, r.source, k1, h1, k2, Bool.and_self, g1, k4, k5, k3, k6]

theorem build1 {P : Program} {ty e : TypeId} {zc : List Value} (hs : sliceElem P ty = some e) (hz : zeroCellsT P e = some zc) {x : Value} (hx : x.cells.toList.length = zc.length) (hzl : zc.length ≤ 1000) (h : AH) :
    aBuildSlice P ty 1 [(0, x)] h = some (.slice (some ⟨h.next, 0, none⟩) 1 1, h.add (.cells x.cells.toList e none false)) := by
  have k1 : Nat.ble (1 * zc.length) 16777216 = true := Nat.ble_eq_true_of_le (by omega)
  have k3 : zeroRow zc 1 = zc := by simp [zeroRow]
  have k2 : (Nat.beq x.cells.toList.length zc.length && Nat.ble (0 * zc.length + zc.length) zc.length) = true := by
    rw [hx]; simp
  have k4 : splice zc (0 * zc.length) x.cells.toList = x.cells.toList := by
    simp only [splice, Nat.zero_mul, List.take_zero, List.nil_append, Nat.zero_add]
    rw [hx, List.drop_length, List.append_nil]
  simp only [aBuildSlice, hs, hz, k1, k3, fillL, k2, k4]
theorem build0 {P : Program} {ty e : TypeId} {zc : List Value} (hs : sliceElem P ty = some e) (hz : zeroCellsT P e = some zc) (h : AH) :
    aBuildSlice P ty 0 [] h = some (.slice (some ⟨h.next, 0, none⟩) 0 0, h.add (.cells [] e none false)) := by
  have k1 : Nat.ble (0 * zc.length) 16777216 = true := Nat.ble_eq_true_of_le (by omega)
  simp only [aBuildSlice, hs, hz, k1, fillL, zeroRow]

section
variable {P : Program} {X : Extern} {inR : Bool} {sz : Nat} {L : Ks} {h : AH} {ops : Array Oper} {os : List Oper} {o : Oper} {R : Ks → AH → Prop}
def kParts (L : Ks) : List (Nat × Operand) → Option (List (Nat × Value))
  | [] => some []
  | (i, o) :: r => match kA L o, kParts L r with
    | some v, some vs => some ((i, v) :: vs)
    | _, _ => none
theorem kParts_ok {L : Ks} : ∀ {os : List (Nat × Operand)} {vs : List (Nat × Value)}, kParts L os = some vs → evParts L.tree os = some vs
  | [], vs, h => h
  | (i, o) :: r, vs, h => by
    simp only [kParts] at h
    simp only [evParts]
    split at h
    · rename_i e1 e2; rw [tree_le e1, kParts_ok e2]; exact h
    · cases h
theorem KO_bslice {h' : AH} {L' : Ks} {ty : TypeId} {n : Nat} {ps : Array (Nat × Operand)} {vs : List (Nat × Value)} {v : Value} (ho : o.op = .buildSlice ty n ps) (hg : guardA ops L.tree o.guard = some true) (hx : kParts L ps.toList = some vs)
    (hv : aBuildSlice P ty n vs h = some (v, h')) (hp : putK sz L o.dst v = some L') (w : KO P X sz ops os L' h' R) : KO P X sz ops (o :: os) L h R :=
  KO_val hg (by rw [ho]; simp only [aOp, kParts_ok hx, hv, nextOf2]) hp w
end
theorem ints_one (l : List Int) : (ints l).all one? = true := by simp [ints, one?]
end Go.Proofs.Xx
