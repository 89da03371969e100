/-
  Rules for unsigned words: shifts, masks, conversions.
-/
import Derived.Test.YtnopenpheaihmaaGreatDoorM5

namespace Go.Proofs.Xx
open Go
set_option linter.unusedSimpArgs false
set_option linter.unusedVariables false

section
variable {P : Program} {X : Extern} {inR : Bool} {sz : Nat} {L : Ks} {h h0 : AH} {rs : List Rs} {ops : Array Oper} {os : List Oper} {o : Oper} {R : Ks → AH → Prop} {Q : KQ}

theorem wrap_u64 {n : Int} (h : 0 ≤ n ∧ n ≤ 18446744073709551615) : IntKind.u64.wrap n = n := conv_in (by simpa [IntKind.min, IntKind.max, IntKind.signed, IntKind.bits] using h)
theorem wrap_u64_in (n : Int) : 0 ≤ IntKind.u64.wrap n ∧ IntKind.u64.wrap n ≤ 18446744073709551615 := by
  simp only [IntKind.wrap, IntKind.signed, IntKind.bits]
  simp
  omega
/-- To an unsigned word. -/
theorem cW {L' : Ks} {x : Operand} {s d : TypeId} {k k2 : IntKind} {a : Int} (w : KO P X sz ops os L' h R) (ho : o.op = .convert s d x := by exact rfl) (hg : guardA ops L.tree o.guard = some true := by exact rfl) (hx : kA L x = some (.int k a) := by exact rfl) (hs : P.underlying s = some (.int k2) := by exact rfl) (hd : P.underlying d = some (.int .u64) := by exact rfl)
    (hb : 0 ≤ a ∧ a ≤ 18446744073709551615 := by first | omega | grind) (hp : putK sz L o.dst (.int .u64 a) = some L' := by exact rfl) : KO P X sz ops (o :: os) L h R :=
  KO_val hg (by rw [ho]; simp only [aOp, tree_le hx, aConvert, hs, hd, wrap_u64 hb]) hp w
/-- A shift to the right. -/
theorem sR {L' : Ks} {x y : Operand} {ty ty2 : TypeId} {k k2 : IntKind} {a b : Int} (w : KO P X sz ops os L' h R) (ho : o.op = .binOp .shr ty x y ty2 := by exact rfl) (hg : guardA ops L.tree o.guard = some true := by exact rfl) (hx : kA L x = some (.int k a) := by exact rfl) (hy : kA L y = some (.int k2 b) := by exact rfl)
    (hb : decide (b < 0) = false := by exact rfl) (hp : putK sz L o.dst (.int k (a / (2 ^ (min b.toNat k.bits) : Nat))) = some L' := by exact rfl) : KO P X sz ops (o :: os) L h R :=
  KO_bin ho hg hx hy (by
    simp only [aBin, hb]
    rw [Int.fdiv_eq_ediv_of_nonneg _ (by exact_mod_cast Nat.zero_le _)]
    norm_cast) hp w
/-- A shift to the left. -/
theorem sL {L' : Ks} {x y : Operand} {ty ty2 : TypeId} {k2 : IntKind} {a b : Int} (w : KO P X sz ops os L' h R) (ho : o.op = .binOp .shl ty x y ty2 := by exact rfl) (hg : guardA ops L.tree o.guard = some true := by exact rfl) (hx : kA L x = some (.int .u64 a) := by exact rfl) (hy : kA L y = some (.int k2 b) := by exact rfl)
    (hb : 0 ≤ b ∧ b ≤ 62 := by omega) (ha : 0 ≤ a ∧ a ≤ 1 := by omega) (hp : putK sz L o.dst (.int .u64 (a * 2 ^ b.toNat)) = some L' := by exact rfl) : KO P X sz ops (o :: os) L h R :=
  KO_bin ho hg hx hy (by
    have e1 : decide (b < 0) = false := decide_eq_false (by omega)
    have e2 : min b.toNat (IntKind.bits .u64) = b.toNat := Nat.min_eq_left (by show b.toNat ≤ 64; omega)
    have e3 : (2 : Int) ^ b.toNat ≤ 2 ^ 62 := by
      have : (2 : Nat) ^ b.toNat ≤ 2 ^ 62 := Nat.pow_le_pow_right (by omega) (by omega)
      exact_mod_cast this
    have e4 : (0 : Int) < 2 ^ b.toNat := by
      have : 0 < (2 : Nat) ^ b.toNat := Nat.pos_of_ne_zero (by simp)
      exact_mod_cast this
    simp only [aBin, e1, e2]
    rw [wrap_u64]
    have : a = 0 ∨ a = 1 := by omega
    rcases this with rfl | rfl
    · omega
    · omega) hp w
/-- Any word that an operation on words gives. -/
theorem aW {op : BinOp} {x y : Operand} {ty ty2 : TypeId} {k2 : IntKind} {a b : Int} {d : Tmp} (w : ∀ r : Int, 0 ≤ r → r ≤ 18446744073709551615 → KO P X sz ops os (L.put d (.int .u64 r)) h R) (ho : o.op = .binOp op ty x y ty2 := by exact rfl) (hg : guardA ops L.tree o.guard = some true := by exact rfl) (hx : kA L x = some (.int .u64 a) := by exact rfl) (hy : kA L y = some (.int k2 b) := by exact rfl)
    (hop : (match op, k2 with | .shl, _ => decide (b < 0) = false | .xor, .u64 => true = true | .add, .u64 => true = true | .sub, .u64 => true = true | .mul, .u64 => true = true | _, _ => False) := by exact rfl) (hd : o.dst = some d := by exact rfl) (hs : Nat.blt d sz = true := by exact rfl) : KO P X sz ops (o :: os) L h R := by
  have go : ∀ n, aBin P op ty (.int .u64 a) (.int k2 b) = some (.int .u64 (IntKind.u64.wrap n)) → KO P X sz ops (o :: os) L h R := fun n e =>
    KO_bin ho hg hx hy e (by simp only [putK, hd, hs]) (w _ (wrap_u64_in n).1 (wrap_u64_in n).2)
  cases op <;> cases k2 <;> first | (exact go _ (by simp only [aBin, hop]; rfl)) | (exact go _ (by simp only [aBin, decide_true]; rfl)) | (exact hop.elim)
/-- A right shift of any word. -/
theorem aR {x y : Operand} {ty ty2 : TypeId} {k2 : IntKind} {a b : Int} {d : Tmp} (w : ∀ r : Int, 0 ≤ r → r ≤ 18446744073709551615 → KO P X sz ops os (L.put d (.int .u64 r)) h R) (ho : o.op = .binOp .shr ty x y ty2 := by exact rfl) (hg : guardA ops L.tree o.guard = some true := by exact rfl) (hx : kA L x = some (.int .u64 a) := by exact rfl) (hy : kA L y = some (.int k2 b) := by exact rfl)
    (ha : 0 ≤ a ∧ a ≤ 18446744073709551615 := by omega) (hb : decide (b < 0) = false := by exact rfl) (hd : o.dst = some d := by exact rfl) (hs : Nat.blt d sz = true := by exact rfl) : KO P X sz ops (o :: os) L h R := by
  refine sR (a := a) (b := b) (k := .u64) (k2 := k2) (w (a / (2 ^ (min b.toNat 64) : Nat)) ?_ ?_) ho hg hx hy hb (by simp only [putK, hd, hs]; rfl)
  · exact Int.ediv_nonneg ha.1 (by exact_mod_cast Nat.zero_le _)
  · exact Int.le_trans (Int.ediv_le_self _ ha.1) ha.2
/-- A masked word. -/
theorem aM {x y : Operand} {ty ty2 : TypeId} {a b : Int} {d : Tmp} (w : ∀ r : Int, 0 ≤ r → r ≤ b → KO P X sz ops os (L.put d (.int .u64 r)) h R) (ho : o.op = .binOp .and ty x y ty2 := by exact rfl) (hg : guardA ops L.tree o.guard = some true := by exact rfl) (hx : kA L x = some (.int .u64 a) := by exact rfl) (hy : kA L y = some (.int .u64 b) := by exact rfl)
    (hb : 0 ≤ b ∧ b ≤ 18446744073709551615 := by omega) (hd : o.dst = some d := by exact rfl) (hs : Nat.blt d sz = true := by exact rfl) : KO P X sz ops (o :: os) L h R := by
  obtain ⟨m, rfl⟩ := Int.eq_ofNat_of_zero_le hb.1
  have hm : m < 2 ^ 64 := by omega
  have e1 : (BitVec.ofInt 64 (m : Int)).toNat = m := by
    rw [BitVec.ofInt_natCast, BitVec.toNat_ofNat, Nat.mod_eq_of_lt hm]
  have e2 : ((BitVec.ofInt 64 a &&& BitVec.ofInt 64 (m : Int)).toNat) ≤ m := by
    rw [BitVec.toNat_and, e1]; exact Nat.and_le_right
  generalize hr : (BitVec.ofInt 64 a &&& BitVec.ofInt 64 (m : Int)).toNat = r at e2
  refine KO_bin ho hg hx hy (v := .int .u64 (r : Int)) ?_ (by simp only [putK, hd, hs]; rfl) (w _ (by omega) (by omega))
  simp only [aBin, decide_true]
  show some (Value.int .u64 (IntKind.u64.wrap ((BitVec.ofInt 64 a &&& BitVec.ofInt 64 (m : Int)).toNat : Int))) = _
  rw [hr, wrap_u64 (by constructor <;> omega)]
/-- Words added and subtracted within their bounds. -/
theorem sW {L' : Ks} {x y : Operand} {ty ty2 : TypeId} {a b : Int} (w : KO P X sz ops os L' h R) (ho : o.op = .binOp .sub ty x y ty2 := by exact rfl) (hg : guardA ops L.tree o.guard = some true := by exact rfl) (hx : kA L x = some (.int .u64 a) := by exact rfl) (hy : kA L y = some (.int .u64 b) := by exact rfl)
    (hb : 0 ≤ a - b ∧ a - b ≤ 18446744073709551615 := by omega) (hp : putK sz L o.dst (.int .u64 (a - b)) = some L' := by exact rfl) : KO P X sz ops (o :: os) L h R :=
  KO_bin ho hg hx hy (by simp only [aBin, decide_true, wrap_u64 hb]) hp w
/-! ### two pieces of code taken together -/
theorem W_seq_inv {a b : Code} {t : Tr Value} {Q : AX → Tr Value → AH → Prop} (w : W P X inR sz (.seq a b) t h Q) : W P X inR sz a t h (thenW P X inR sz b Q) := by
  obtain ⟨n, x, t', h', h1, h2⟩ := w
  cases n with
  | zero => cases h1
  | succ n =>
    rw [exec_S] at h1
    simp only [execStep] at h1
    split at h1
    · rename_i t1 h3 e
      exact ⟨n, _, _, _, e, n, x, t', h', h1, h2⟩
    · rename_i r hr
      refine ⟨n, x, t', h', h1, ?_⟩
      cases x with
      | norm => exact absurd h1 (by intro q; exact hr _ _ q)
      | exit id => exact h2
      | ret => exact h2
theorem K_assoc {a b c : Code} (w : K P X inR sz (.seq (.seq a b) c) L h Q) : K P X inR sz (.seq a (.seq b c)) L h Q := fun t hk =>
  W_seq ((W_seq_inv (W_seq_inv (w t hk))).mono fun x t' h' q => by
    cases x with
    | norm => exact W_seq q
    | exit id => exact q
    | ret => exact q)
/-- What holds behind a piece of code. -/
def cutB {σ : Type} (I : σ → AH → Prop) (sl : σ → Ks) (Q : KQ) : KQ
  | .norm, L', h' => ∃ s, I s h' ∧ Ks.le (sl s) L'
  | x, L', h' => Q x L' h'
theorem K_cut {σ : Type} {a b : Code} (I : σ → AH → Prop) (sl : σ → Ks) (w1 : K P X inR sz a L h (cutB I sl Q)) (w2 : ∀ s h', I s h' → K P X inR sz b (sl s) h' Q) : K P X inR sz (.seq a b) L h Q :=
  K_seq (w1.mono fun x L' h' q => by
    cases x with
    | norm => obtain ⟨s, q1, q2⟩ := q; exact (w2 s h' q1).le q2
    | exit id => exact q
    | ret => exact q)
/-- Half of a word. -/
theorem sR1 {L' : Ks} {x y : Operand} {ty ty2 : TypeId} {k2 : IntKind} {a : Int} (w : KO P X sz ops os L' h R) (ho : o.op = .binOp .shr ty x y ty2 := by exact rfl) (hg : guardA ops L.tree o.guard = some true := by exact rfl) (hx : kA L x = some (.int .u64 a) := by exact rfl) (hy : kA L y = some (.int k2 1) := by exact rfl)
    (hp : putK sz L o.dst (.int .u64 (a / 2)) = some L' := by exact rfl) : KO P X sz ops (o :: os) L h R := sR (b := 1) w ho hg hx hy rfl (by rw [show (2 ^ (min (1 : Int).toNat (IntKind.bits .u64)) : Nat) = 2 by rfl]; exact hp)
/-! ### the rules of elements, after stores -/
theorem ixS2 {L' : Ks} {x i : Operand} {ty : TypeId} {v : Value} {ik : IntKind} {a : Int} {α : Type} {z : Nat} {enc : α → List Value} {l : List α} (S : Hs h0 h rs) (ho : o.op = .indexAddr ty x i) (hx : kA L x = some v) [k : HasR rs v α z enc l] (w : KO P X sz ops os L' h R) (hg : guardA ops L.tree o.guard = some true := by exact rfl) (hi : kA L i = some (.int ik a) := by exact rfl) (hu : elemZ P ty = some z := by exact rfl)
    (ha : 0 ≤ a ∧ a < l.length := by first | omega | (simp only [List.length_set, List.length_append, List.length_cons, List.length_nil]; omega) | grind) (hp : putK sz L o.dst (elA v z a.toNat 0) = some L' := by exact rfl) : KO P X sz ops (o :: os) L h R := m_idx ho hg hx hi hu (k.rd S) ha hp w
theorem lES2 {α : Type} [Inhabited α] {L' : Ks} {x : Operand} {ty : TypeId} {v u : Value} {z' z k off : Nat} {enc : α → List Value} {l : List α} (S : Hs h0 h rs) (ho : o.op = .load ty x) (hx : kA L x = some (elA v z' k off)) [i : HasR rs v α z enc l] (w : KO P X sz ops os L' h R) (hzz : z' = z := by exact rfl) (hg : guardA ops L.tree o.guard = some true := by exact rfl)
    (hz : ∀ x, (enc x).length = z := by intro _; rfl) (hk : k < l.length := by first | omega | (simp only [List.length_set, List.length_append, List.length_cons, List.length_nil]; omega) | grind) (hv : loadC P ty (enc (l.getD k default)) off = some u := by exact rfl) (hp : putK sz L o.dst u = some L' := by exact rfl) : KO P X sz ops (o :: os) L h R := by
  subst hzz
  exact m_ldE ho hg hx (i.rd S) hz hk hv hp w
theorem sE2 {α : Type} [Inhabited α] {L' : Ks} {x yo : Operand} {ty e : TypeId} {v u : Value} {z' z k off : Nat} {enc : α → List Value} {l : List α} {f : Rs → List Rs} {d : List Rs} {y : α} (S : Hs h0 h rs) (ho : o.op = .store ty x yo) (hx : kA L x = some (elA v z' k off)) [i : HasS rs v α e z enc l f d] (w : ∀ h', Hs h0 h' (f (.sl v e z enc (l.set k y))) → KO P X sz ops os L' h' R)
    (hzz : z' = z := by exact rfl) (hg : guardA ops L.tree o.guard = some true := by exact rfl) (hy : kA L yo = some u := by exact rfl) (hz : ∀ x, (enc x).length = z := by intro _; rfl) (hk : k < l.length := by first | omega | (simp only [List.length_set, List.length_append, List.length_cons, List.length_nil]; omega) | grind) (hv : storeC P ty (enc (l.getD k default)) off u = some (enc y) := by exact rfl) (hp : putK sz L o.dst (.tuple #[]) = some L' := by exact rfl) : KO P X sz ops (o :: os) L h R := by
  subst hzz
  exact m_stE S ho hg hx hy (i.ut _) hz hk hv hp w
end
end Go.Proofs.Xx

/-
  The back of a slice of one's own, seen beside it; clear; bytes.
-/
namespace Go.Proofs.Xx
open Go
set_option linter.unusedSimpArgs false
set_option linter.unusedVariables false

/-- v2 is v[k:], of length n - k. -/
def IsView (v v2 : Value) (z k n : Nat) : Prop := ∃ b o c2, v = .slice (some ⟨b, o, none⟩) n n ∧ v2 = .slice (some ⟨b, o + k * z, none⟩) (n - k) c2
theorem IsView.el {v v2 : Value} {z k n : Nat} (V : IsView v v2 z k n) (j off : Nat) : elA v2 z j off = elA v z (k + j) off := by
  obtain ⟨b, o, c2, rfl, rfl⟩ := V
  simp only [elA]
  rw [show o + k * z + j * z + off = o + (k + j) * z + off by rw [Nat.add_mul]; omega]
theorem IsView.rd {α : Type} {v v2 : Value} {z k : Nat} {h : AH} {enc : α → List Value} {l : List α} (V : IsView v v2 z k l.length) (r : RdL h v z enc l) (hz : ∀ x, (enc x).length = z) (hk : k ≤ l.length) : RdL h v2 z enc (l.drop k) := by
  obtain ⟨b, o, c2, rfl, rfl⟩ := V
  rcases r with ⟨q, -⟩ | ⟨b', o', cap, cc, e, s, q, e1, h1, h2⟩
  · cases q
  · cases e1
    have hkz : k * z ≤ l.length * z := Nat.mul_le_mul_right z hk
    have hsub : k * z + (l.length - k) * z = l.length * z := by rw [← Nat.add_mul]; congr 1; omega
    refine .inr ⟨b, o + k * z, c2, cc, e, s, q, by rw [List.length_drop], h1, ?_⟩
    rw [List.length_drop, flatMap_drop hz, takeAt_sub h2 (by omega), List.take_of_length_le]
    rw [List.length_drop, flatMap_length hz]; omega

section
variable {P : Program} {X : Extern} {inR : Bool} {sz : Nat} {L : Ks} {h h0 : AH} {rs : List Rs} {ops : Array Oper} {os : List Oper} {o : Oper} {R : Ks → AH → Prop} {Q : KQ}

/-- v[lo:] of a slice of one's own, beside it. -/
theorem dv {α : Type} {x lo : Operand} {ty e : TypeId} {v : Value} {z : Nat} {enc : α → List Value} {l : List α} {f : Rs → List Rs} {dd : List Rs} {ik : IntKind} {a : Int} {d : Tmp} (S : Hs h0 h rs) (ho : o.op = .slice ty x (some lo) none none) (hx : kA L x = some v) [i : HasS rs v α e z enc l f dd]
    (w : ∀ v', IsView v v' z a.toNat l.length → KO P X sz ops os (L.put d v') h R) (hg : guardA ops L.tree o.guard = some true := by exact rfl) (hlo : kA L lo = some (.int ik a) := by exact rfl) (hu : elemZ P ty = some z := by exact rfl) (ha : 0 ≤ a ∧ a < l.length := by first | omega | grind)
    (hdst : o.dst = some d := by exact rfl) (hds : Nat.blt d sz = true := by exact rfl) : KO P X sz ops (o :: os) L h R := by
  obtain ⟨k, rfl⟩ := Int.eq_ofNat_of_zero_le ha.1
  have hk : k < l.length := by omega
  obtain ⟨fp, k1, k2, -⟩ := (i.ut (.sl v e z enc l)).ok (h' := h) S.ext.next (Nat.le_refl _) S.sep
  have hue : ∃ e', P.underlying ty = some (.slice e') ∧ sizeT P e' = some z := by
    unfold elemZ at hu
    split at hu
    · exact ⟨_, by assumption, hu⟩
    · cases hu
  obtain ⟨e', hu1, hu2⟩ := hue
  have hlo' : evA L.tree lo = some (.int ik (Int.ofNat k)) := tree_le hlo
  rcases k1 with ⟨rfl, rfl⟩ | ⟨b, o', cc, slk, g1, g2, g3, g4, g5, g6⟩
  · simp at hk
  · subst g1
    have hle : Nat.ble k l.length = true := Nat.ble_eq_true_of_le (Nat.le_of_lt hk)
    have hnn : Nat.ble l.length l.length = true := Nat.ble_eq_true_of_le (Nat.le_refl _)
    have hq : (slk.isNone && Nat.beq k l.length) = false := by
      have : Nat.beq k l.length = false := by
        rw [Bool.eq_false_iff]; intro q; have := Nat.eq_of_beq_eq_true q; omega
      rw [this, Bool.and_false]
    refine KO_val (v := .slice (some ⟨b, o' + k * z, none⟩) (l.length - k) (l.length - k)) (h' := h) hg ?_ (by simp only [putK, hdst, hds]; rfl) (w _ ⟨b, o', l.length - k, rfl, by rw [Int.toNat_natCast]⟩)
    rw [ho]
    have e1 : aSlice P ty (.slice (some ⟨b, o', none⟩) l.length l.length) (some (.int ik (Int.ofNat k))) none none h = some (.slice (some ⟨b, o' + k * z, none⟩) (l.length - k) (l.length - k)) := by
      simp only [aSlice, hu1, g2, hu2, boundOf, hle, hnn, Bool.and_self, hq]
    simp only [aOp, tree_le hx, evOpt, hlo', e1, nextOf]
/-- clear of the back of a slice of one's own. -/
theorem cl {α : Type} {x : Operand} {ty e e' : TypeId} {v v2 : Value} {z k : Nat} {enc : α → List Value} {l : List α} {f : Rs → List Rs} {dd : List Rs} (y0 : α) (S : Hs h0 h rs) (V : IsView v v2 z k l.length) (ho : o.op = .call { callee := .builtin .clear, args := #[x], argTypes := #[ty] }) (hx : kA L x = some v2) [i : HasS rs v α e z enc l f dd]
    (w : ∀ h', Hs h0 h' (f (.sl v e z enc (l.take k ++ List.replicate (l.length - k) y0))) → KO P X sz ops os L h' R) (hu : P.underlying ty = some (.slice e') := by exact rfl) (hz0 : zeroCellsT P e' = some (enc y0) := by exact rfl) (h1 : (enc y0).all one? = true := by exact rfl)
    (hz : ∀ x, (enc x).length = z := by intro _; rfl) (hk : k < l.length := by omega) (hzz : 0 < z := by decide) (hg : guardA ops L.tree o.guard = some true := by exact rfl) (hdst : o.dst = none := by exact rfl) : KO P X sz ops (o :: os) L h R := by
  obtain ⟨b, o', c2, rfl, rfl⟩ := V
  obtain ⟨fp, k1, k2, -⟩ := (i.ut (.sl (.slice (some ⟨b, o', none⟩) l.length l.length) e z enc l)).ok (h' := h) S.ext.next (Nat.le_refl _) S.sep
  rcases k1 with ⟨q, -⟩ | ⟨b', o2, cc, slk, g1, g2, g3, g4, g5, g6⟩
  · cases q
  cases g1
  have hrow : zeroRow (enc y0) (l.length - k) = (List.replicate (l.length - k) y0).flatMap enc := zeroRow_enc rfl _
  have hrl : ((List.replicate (l.length - k) y0).flatMap enc).length = (l.length - k) * z := by rw [flatMap_length hz]; simp
  have hkz : k * z + (l.length - k) * z = l.length * z := by rw [← Nat.add_mul]; congr 1; omega
  obtain ⟨he, hlen⟩ : l.flatMap enc = (cc.drop o').take (l.length * z) ∧ o' + l.length * z ≤ cc.length := by
    rcases takeAt_eqs g4 with q | ⟨q1, q2⟩
    · exact q
    · exfalso
      have : l.length * z = 0 := q1
      have := Nat.mul_pos (show 0 < l.length by omega) hzz
      omega
  have hall : ((List.replicate (l.length - k) y0).flatMap enc).all one? = true := by
    rw [List.all_eq_true]
    intro u hu
    rw [List.mem_flatMap] at hu
    obtain ⟨y, hy, hu⟩ := hu
    rw [List.mem_replicate] at hy
    rw [hy.2] at hu
    exact List.all_eq_true.1 h1 u hu
  have hput : putCells h b (o' + k * z) cc e slk (zeroRow (enc y0) (l.length - k)) = some (h.put b (.cells (splice cc (o' + k * z) ((List.replicate (l.length - k) y0).flatMap enc)) e slk false)) := by
    rw [hrow]
    unfold putCells
    rw [hall, Nat.ble_eq_true_of_le (by rw [hrl]; omega)]
    rfl
  obtain ⟨m, hm⟩ : ∃ m, l.length - k = m + 1 := ⟨l.length - k - 1, by omega⟩
  have hclear : aClear P ty (.slice (some ⟨b, o' + k * z, none⟩) (l.length - k) c2) h = some (h.put b (.cells (splice cc (o' + k * z) ((List.replicate (l.length - k) y0).flatMap enc)) e slk false)) := by
    rw [hm] at hput ⊢
    simp only [aClear, hu, hz0, g2, hput]
  refine KO_val (v := .tuple #[]) (h' := h.put b (.cells (splice cc (o' + k * z) ((List.replicate (l.length - k) y0).flatMap enc)) e slk false)) hg ?_ (by simp only [putK, hdst]) (w _ ?_)
  · rw [ho]
    simp only [aOp, evAll, tree_le hx, aBuiltin, hclear]
  · have hsp : splice cc (o' + k * z) ((List.replicate (l.length - k) y0).flatMap enc) = splice cc (o' + k * z + 0) ((List.replicate (l.length - k) y0).flatMap enc) := rfl
    have hin := splice_in (cc := cc) (uc := (List.replicate (l.length - k) y0).flatMap enc) (o := o') (n := l.length * z) (a := k * z) (z := (l.length - k) * z) (off := 0) hlen (by omega) (by rw [hrl]; omega)
    have hfl : ((l.take k ++ List.replicate (l.length - k) y0).flatMap enc) = splice ((cc.drop o').take (l.length * z)) (k * z) (splice ((((cc.drop o').take (l.length * z)).drop (k * z)).take ((l.length - k) * z)) 0 ((List.replicate (l.length - k) y0).flatMap enc)) := by
      rw [← he]
      have hll : (l.flatMap enc).length = l.length * z := flatMap_length hz l
      rw [List.flatMap_append, flatMap_take hz]
      simp only [splice, List.take_zero, List.nil_append, Nat.zero_add]
      rw [hrl, List.drop_of_length_le (l := (((l.flatMap enc).drop (k * z)).take ((l.length - k) * z))) (by rw [List.length_take]; omega), List.append_nil, hrl, List.drop_of_length_le (by omega), List.append_nil]
    refine S.turn (i.ut _) (Nat.le_refl _) (S.wf.put (k2 b g3).2.1 _) fun fq q1 q2 => ?_
    have hb : fq b := by
      rcases q1 with ⟨q, -⟩ | ⟨b', o2, cc2, sl2, q3, q4, q5, -⟩
      · cases q
      · cases q3; exact q5
    have hnl : (l.take k ++ List.replicate (l.length - k) y0).length = l.length := by simp; omega
    refine ⟨fun j _ hj => by rw [AH.get_put, if_neg]; intro q; subst q; exact hj hb, fun j => j = b, .inr ⟨b, o', _, slk, by rw [hnl], by rw [AH.get_put, if_pos rfl], rfl, ?_, ?_, g6⟩, fun j hj => by subst hj; exact ⟨(k2 _ g3).2.1, .inl hb⟩⟩
    · rw [hnl, hfl]; exact hin
    · left
      rw [hnl, spl_len (by rw [hrl]; omega)]
      rcases g5 with g5 | ⟨g5, -⟩
      · exact g5
      · subst g5; simp at hk
/-- A remainder of bytes. -/
theorem rmU {L' : Ks} {x y : Operand} {ty ty2 : TypeId} {a b : Int} (w : KO P X sz ops os L' h R) (ho : o.op = .binOp .rem ty x y ty2 := by exact rfl) (hg : guardA ops L.tree o.guard = some true := by exact rfl) (hx : kA L x = some (.int .u8 a) := by exact rfl) (hy : kA L y = some (.int .u8 b) := by exact rfl)
    (hb : 0 ≤ a ∧ 0 < b := by omega) (hp : putK sz L o.dst (.int .u8 (a % b)) = some L' := by exact rfl) : KO P X sz ops (o :: os) L h R :=
  KO_bin ho hg hx hy (by
    have h1 : ¬ b = 0 := by omega
    have h2 : a.tmod b = a % b := Int.tmod_eq_emod_of_nonneg hb.1
    simp only [aBin, decide_true, decide_eq_false h1, h2]) hp w
/-- v[lo:hi] of a slice that was there before. -/
theorem su0 {α : Type} {x : Operand} {lo hi : Option Operand} {vlo vhi : Option Value} {ty : TypeId} {v : Value} {z : Nat} {enc : α → List Value} {l : List α} {d : Tmp} (a b : Nat) (S : Hs h0 h rs) (w0 : WfH h0) (hr : RdL h0 v z enc l) (hc : CapOk v)
    (w : ∀ v', RdL h0 v' z enc ((l.drop a).take (b - a)) → CapOk v' → KO P X sz ops os (L.put d v') h R) (ho : o.op = .slice ty x lo hi none := by exact rfl) (hx : kA L x = some v := by exact rfl) (hg : guardA ops L.tree o.guard = some true := by exact rfl)
    (hlo : evOpt L.tree lo = some vlo := by exact rfl) (hhi : evOpt L.tree hi = some vhi := by exact rfl) (hz : ∀ x, (enc x).length = z := by intro _; rfl) (hu : elemZ P ty = some z := by exact rfl)
    (h1 : boundOf vlo 0 = some a := by exact rfl) (h2 : boundOf vhi l.length = some b := by exact rfl) (hab : a ≤ b ∧ b ≤ l.length := by first | omega | grind) (hdst : o.dst = some d := by exact rfl) (hds : Nat.blt d sz = true := by exact rfl) : KO P X sz ops (o :: os) L h R := by
  obtain ⟨v', e1, e2, e3⟩ := slice_rd hr hc hz hu h1 h2 hab
  have hue : ∃ e', P.underlying ty = some (.slice e') ∧ sizeT P e' = some z := by
    unfold elemZ at hu
    split at hu
    · exact ⟨_, by assumption, hu⟩
    · cases hu
  obtain ⟨e', hu1, hu2⟩ := hue
  have e4 : aSlice P ty v vlo vhi none h = aSlice P ty v vlo vhi none h0 := by
    rcases hr with ⟨rfl, g1, g2⟩ | ⟨b', o', cap, cc, e, s, q, rfl, g1, g2⟩
    · simp only [aSlice, hu1]
    · simp only [aSlice, hu1, S.ext.get w0 g1, g1]
  refine KO_val (v := v') (h' := h) hg ?_ (by simp only [putK, hdst, hds]) (w v' e2 e3)
  rw [ho]
  simp only [aOp, tree_le hx, hlo, hhi, show evOpt L.tree none = some none from rfl, e4, e1, nextOf]
theorem bytesOf_eU : ∀ l : List Nat, bytesOf? (l.flatMap eU) = some (l.map UInt8.ofNat)
  | [] => rfl
  | x :: l => by
    rw [List.flatMap_cons]
    show (match byteOf? (.int .u8 (Int.ofNat x)), bytesOf? (l.flatMap eU) with | some b, some s => some (b :: s) | _, _ => none) = _
    rw [bytesOf_eU l]; rfl
/-- Bytes as a string. -/
theorem bS {L' : Ks} {x : Operand} {s dt e : TypeId} {v : Value} {l : List Nat} (hr : RdL h v 1 eU l) (w : KO P X sz ops os L' h R) (ho : o.op = .convert s dt x := by exact rfl) (hg : guardA ops L.tree o.guard = some true := by exact rfl) (hx : kA L x = some v := by exact rfl)
    (hs : P.underlying s = some (.slice e) := by exact rfl) (he : P.underlying e = some (.int .u8) := by exact rfl) (hd : P.underlying dt = some .string := by exact rfl) (hp : putK sz L o.dst (str (l.map UInt8.ofNat)) = some L' := by exact rfl) : KO P X sz ops (o :: os) L h R := by
  refine KO_val hg ?_ hp w
  rw [ho]
  have e1 : aToString P s dt v h = some (str (l.map UInt8.ofNat)) := by
    rcases hr with ⟨rfl, g1, g2⟩ | ⟨b', o', cap, cc, e0, s0, q, rfl, g1, g2⟩
    · have : l = [] := List.length_eq_zero_iff.1 g1
      subst this
      simp only [aToString, hs, hd, he]; rfl
    · rw [Nat.mul_one] at g2
      simp only [aToString, hs, hd, he, g1, g2, bytesOf_eU]; rfl
  have e2 : aConvert P s dt v = none := by
    unfold aConvert
    rw [hs]
  simp only [aOp, tree_le hx, e2, e1]
end
end Go.Proofs.Xx

/-
  Elements of arrays in blocks.
-/
namespace Go.Proofs.Xx
open Go
set_option linter.unusedSimpArgs false
set_option linter.unusedVariables false

section
variable {P : Program} {X : Extern} {inR : Bool} {sz : Nat} {L : Ks} {h h0 : AH} {rs : List Rs} {ops : Array Oper} {os : List Oper} {o : Oper} {R : Ks → AH → Prop} {Q : KQ}
def arrOf (P : Program) (ty : TypeId) : Option (Nat × Nat) := match P.underlying ty with | some (.array n e) => (match sizeT P e with | some z => some (n, z) | none => none) | _ => none
/-- The address of an element of an array in a block. -/
theorem ixA {L' : Ks} {x i : Operand} {ty : TypeId} {b off n z k : Nat} {ik : IntKind} (w : KO P X sz ops os L' h R) (ho : o.op = .indexAddr ty x i := by exact rfl) (hg : guardA ops L.tree o.guard = some true := by exact rfl) (hx : kA L x = some (.pointer (some ⟨b, off, none⟩)) := by exact rfl) (hi : kA L i = some (.int ik (k : Nat)) := by exact rfl)
    (hu : arrOf P ty = some (n, z) := by exact rfl) (hk : k < n := by omega) (hp : putK sz L o.dst (.pointer (some ⟨b, off + k * z, none⟩)) = some L' := by exact rfl) : KO P X sz ops (o :: os) L h R := by
  refine KO_index ho hg hx hi ?_ hp w
  unfold arrOf at hu
  split at hu
  · rename_i n' e he
    split at hu
    · rename_i z' hz
      cases hu
      have : Nat.blt k n = true := by rw [Nat.blt_eq]; exact hk
      show aIndexAddr P ty _ (.int ik (Int.ofNat k)) = _
      simp only [aIndexAddr, he, this, hz]
    · cases hu
  · cases hu
/-- An array of ints in a block, as a slice of all its elements. -/
theorem elA_blk (b n c k : Nat) : elA (.slice (some ⟨b, 0, none⟩) n c) 1 k 0 = .pointer (some ⟨b, k, none⟩) := by
  simp only [elA, Nat.zero_add, Nat.mul_one, Nat.add_zero]
/-- A load of an int out of an array in a block. -/
theorem lA {L' : Ks} {x : Operand} {ty : TypeId} {b off : Nat} {l : List Int} (n c : Nat) (S : Hs h0 h rs) (ho : o.op = .load ty x) (hx : kA L x = some (.pointer (some ⟨b, off, none⟩))) [i : HasR rs (.slice (some ⟨b, 0, none⟩) n c) Int 1 eI l] (w : KO P X sz ops os L' h R) (hg : guardA ops L.tree o.guard = some true := by exact rfl)
    (hk : off < l.length := by omega) (hv : loadC P ty (eI (l.getD off default)) 0 = some (.int .i64 (l.getD off default)) := by exact rfl) (hp : putK sz L o.dst (.int .i64 (l.getD off default)) = some L' := by exact rfl) : KO P X sz ops (o :: os) L h R :=
  m_ldE (enc := eI) (v := .slice (some ⟨b, 0, none⟩) n c) (z := 1) (k := off) (off := 0) ho hg (by rw [elA_blk]; exact hx) (i.rd S) (fun _ => rfl) hk hv hp w
theorem sA {L' : Ks} {x yo : Operand} {ty e : TypeId} {b off : Nat} {l : List Int} {y : Int} {f : Rs → List Rs} {d : List Rs} (n c : Nat) (S : Hs h0 h rs) (ho : o.op = .store ty x yo) (hx : kA L x = some (.pointer (some ⟨b, off, none⟩))) [i : HasS rs (.slice (some ⟨b, 0, none⟩) n c) Int e 1 eI l f d] (w : ∀ h', Hs h0 h' (f (.sl (.slice (some ⟨b, 0, none⟩) n c) e 1 eI (l.set off y))) → KO P X sz ops os L' h' R)
    (hg : guardA ops L.tree o.guard = some true := by exact rfl) (hy : kA L yo = some (.int .i64 y) := by exact rfl) (hk : off < l.length := by omega) (hv : storeC P ty (eI (l.getD off default)) 0 (.int .i64 y) = some (eI y) := by exact rfl) (hp : putK sz L o.dst (.tuple #[]) = some L' := by exact rfl) : KO P X sz ops (o :: os) L h R :=
  m_stE (enc := eI) (v := .slice (some ⟨b, 0, none⟩) n c) (z := 1) (k := off) (off := 0) S ho hg (by rw [elA_blk]; exact hx) hy (i.ut _) (fun _ => rfl) hk hv hp w
theorem lAB {L' : Ks} {x : Operand} {ty : TypeId} {b off : Nat} {l : List Int} (n c : Nat) (S : Hs h0 h rs) (w : KO P X sz ops os L' h R) (ho : o.op = .load ty x := by exact rfl) (hx : kA L x = some (.pointer (some ⟨b, off, none⟩)) := by exact rfl) (hr : RdL h0 (.slice (some ⟨b, 0, none⟩) n c) 1 eI l := by assumption) (wf : WfH h0 := by assumption) (hg : guardA ops L.tree o.guard = some true := by exact rfl)
    (hk : off < l.length := by omega) (hv : loadC P ty (eI (l.getD off default)) 0 = some (.int .i64 (l.getD off default)) := by exact rfl) (hp : putK sz L o.dst (.int .i64 (l.getD off default)) = some L' := by exact rfl) : KO P X sz ops (o :: os) L h R :=
  m_ldE (enc := eI) (v := .slice (some ⟨b, 0, none⟩) n c) (z := 1) (k := off) (off := 0) ho hg (by rw [elA_blk]; exact hx) (Rd.of_base S hr wf) (fun _ => rfl) hk hv hp w
end
end Go.Proofs.Xx

/-
  Strings built out of bytes: append of a string, the bytes seen as a string.
-/
namespace Go.Proofs.Xx
open Go
set_option linter.unusedSimpArgs false
set_option linter.unusedVariables false

section
variable {P : Program} {X : Extern} {inR : Bool} {sz : Nat} {L : Ks} {h h0 : AH} {rs : List Rs} {ops : Array Oper} {os : List Oper} {o : Oper} {R : Ks → AH → Prop} {Q : KQ}
theorem eU_str (s : List UInt8) : (s.map UInt8.toNat).flatMap eU = s.map fun b => Value.int .u8 (b.toNat : Int) := by
  induction s with
  | nil => rfl
  | cons a s ih => rw [List.map_cons, List.flatMap_cons, ih]; rfl
/-- append of a string to a slice of bytes of one's own. -/
theorem st_append {rs' : List Rs} {ts tx e : TypeId} {by_ : Nat} {l : List Nat} {s : List UInt8} {v : Value} (S : Hs h0 h rs) (hs : sliceElem P ts = some e) (hz : zeroCellsT P e = some [.int .u8 0]) (hb : bytesT P e = some (by_ + 1)) (hx' : P.underlying tx = some .string)
    (hd : Dt rs (.sl v e 1 eU l) rs') (hsz : (l.length + s.length + 1) * (by_ + 1) ≤ 1099511627776) :
    ∃ v' h', aAppend P [ts, tx] v (str s) h = some (v', h') ∧ Hs h0 h' (.sl v' e 1 eU (l ++ s.map UInt8.toNat) :: rs') := by
  have hlen : ∀ y, (eU y).length = 1 := fun _ => rfl
  obtain ⟨l2, hl2⟩ : ∃ l2, s.map UInt8.toNat = l2 := ⟨_, rfl⟩
  have hsl : s.length = l2.length := by rw [← hl2]; simp
  have hall : (l2.flatMap eU).all one? = true := by
    rw [List.all_eq_true]
    intro u hu
    rw [List.mem_flatMap] at hu
    obtain ⟨y, hy, hu⟩ := hu
    simp only [eU, List.mem_singleton] at hu
    subst hu; rfl
  have hsrc : aSource ([Value.int .u8 0] : List Value).length (str s) h = some (l2.length, l2.flatMap eU) := by
    subst hl2
    unfold str
    simp only [aSource, List.toList_toArray, eU_str, List.length_map]
  rw [hl2]
  rw [hsl] at hsz
  have hnl : (l2.flatMap eU).length = l2.length * ([Value.int .u8 0] : List Value).length := flatMap_length hlen l2
  have k1 : Nat.ble ((l2.length + 1) * (by_ + 1)) 1099511627776 = true := Nat.ble_eq_true_of_le (Nat.le_trans (Nat.mul_le_mul_right _ (by omega)) hsz)
  have k2 : Nat.beq (l2.flatMap eU).length (l2.length * ([Value.int .u8 0] : List Value).length) = true := by rw [hnl]; simp
  have k3 : Nat.ble ((l.length + l2.length) * (by_ + 1)) 1099511627776 = true := Nat.ble_eq_true_of_le (Nat.le_trans (Nat.mul_le_mul_right _ (by omega)) hsz)
  obtain ⟨fp, q1, q2, q3⟩ := hd.sep S.sep
  have S' : Hs h0 h rs' := S.del hd
  have front : Hs h0 h (.sl v e 1 eU l :: rs') := S.front hd
  have fresh : ∀ (c : List Value) (l3 : List Nat), c = l3.flatMap eU → Hs h0 (h.add (.cells c e (some 1) false)) (.sl (.slice (some ⟨h.next, 0, none⟩) l3.length l3.length) e 1 eU l3 :: rs') := by
    intro c l3 hc
    have hcl : c.length = l3.length * 1 := by rw [hc]; exact flatMap_length hlen l3
    refine S'.grow (fp := fun b => b = h.next) ((Ext.refl S.wf).add _) (.inr ⟨h.next, 0, c, some 1, rfl, by rw [AH.get_add, if_pos rfl], rfl, ?_, .inl (by omega), .inr rfl⟩) fun b hb => by subst hb; exact ⟨Nat.le_refl _, Nat.lt_succ_self _⟩
    rw [← hcl, takeAt_all, hc]
  obtain ⟨n2, hn2⟩ : ∃ n2, l2.length = n2 := ⟨_, rfl⟩
  rcases q1 with ⟨rfl, rfl⟩ | ⟨b, o, cc, slk, g1, g2, g3, g4, g5, g6⟩
  · rw [hn2] at hsrc k1 k2
    cases n2 with
    | zero =>
      have hl2 : l2 = [] := List.length_eq_zero_iff.1 hn2
      subst hl2
      refine ⟨_, _, ?_, front⟩
      simp only [aAppend, hs, hx', hz, hb, hsrc, k1, hall, k2, Bool.and_self]
    | succ m =>
      refine ⟨.slice (some ⟨h.next, 0, none⟩) (m + 1) (m + 1), h.add (.cells (l2.flatMap eU) e (some 1) false), ?_, ?_⟩
      · simp only [aAppend, hs, hx', hz, hb, hsrc, k1, hall, k2, Bool.and_self]; rfl
      · have := fresh _ l2 rfl
        rw [hn2] at this
        exact this
  · subst g1
    rw [hn2] at hsrc k1 k2 k3
    have hoc : o + l.length * 1 ≤ cc.length := by
      rcases g5 with g5 | ⟨g5, g7⟩
      · omega
      · rw [g5]; simpa using g7
    cases n2 with
    | zero =>
      have hl2 : l2 = [] := List.length_eq_zero_iff.1 hn2
      subst hl2
      refine ⟨_, _, ?_, by rw [List.append_nil]; exact front⟩
      have : Nat.ble (l.length + 0) l.length = true := Nat.ble_eq_true_of_le (Nat.le_refl _)
      simp only [aAppend, hs, hx', hz, hb, hsrc, k1, hall, k2, Bool.and_self, g2, this]
    | succ m =>
      have k4 : Nat.ble (l.length + (m + 1)) l.length = false := by
        cases hq : Nat.ble (l.length + (m + 1)) l.length with
        | false => rfl
        | true => have := Nat.le_of_ble_eq_true hq; omega
      have hcat : l.flatMap eU ++ l2.flatMap eU = (l ++ l2).flatMap eU := by rw [List.flatMap_append]
      have g4' : takeAt cc o (l.length * ([Value.int .u8 0] : List Value).length) = some (l.flatMap eU) := g4
      rcases g6 with rfl | rfl
      · have hfr := fresh _ (l ++ l2) hcat
        rw [List.length_append, hn2] at hfr
        refine ⟨_, _, ?_, hfr⟩
        simp only [aAppend, hs, hx', hz, hb, hsrc, k1, hall, k2, Bool.and_self, g2, k4, g4', k3]; rfl
      · have hbl : b < h.next := (q2 b g3).2.1
        refine ⟨.slice (some ⟨h.next, 0, none⟩) (l.length + (m + 1)) (l.length + (m + 1)), (h.put b .dead).add (.cells (l.flatMap eU ++ l2.flatMap eU) e (some 1) false), ?_, ?_⟩
        · have k6 : (Nat.beq 1 ([Value.int .u8 0] : List Value).length && Nat.beq e e && Nat.ble (o + l.length * 1) cc.length) = true := by
            simp [Nat.ble_eq_true_of_le (show o + l.length ≤ cc.length by omega)]
          simp only [aAppend, hs, hx', hz, hb, hsrc, k1, hall, k2, Bool.and_self, g2, k4, g4', k3, k6]; rfl
        · have hln : (l ++ l2).length = l.length + (m + 1) := by rw [List.length_append, hn2]
          have hcl : (l.flatMap eU ++ l2.flatMap eU).length = (l ++ l2).length * 1 := by rw [hcat]; exact flatMap_length hlen _
          refine front.turn .here (Nat.le_succ _) ((S.wf.put hbl _).add _) fun fq r1 r2 => ?_
          have hb' : fq b := by
            rcases r1 with ⟨q, -⟩ | ⟨b', o2, cc2, sl2, q3, q4, q5, -⟩
            · cases q
            · cases q3; exact q5
          refine ⟨fun j hj hn => ?_, fun j => j = h.next, .inr ⟨h.next, 0, l.flatMap eU ++ l2.flatMap eU, some 1, by rw [hln], ?_, rfl, ?_, .inl (by omega), .inr rfl⟩, fun j hj => by subst hj; exact ⟨Nat.lt_succ_self _, .inr (Nat.le_refl _)⟩⟩
          · rw [AH.get_add, if_neg (by simp only [AH.put]; omega), AH.get_put, if_neg]; intro q; subst q; exact hn hb'
          · rw [AH.get_add]; exact if_pos rfl
          · rw [← hcl, takeAt_all, hcat]
theorem apS {x y : Operand} {ts tx e : TypeId} {by_ : Nat} {l : List Nat} {s : List UInt8} {f : Rs → List Rs} {dd : List Rs} {v : Value} {d : Tmp} (S : Hs h0 h rs) (ho : o.op = .call { callee := .builtin .append, args := #[x, y], argTypes := #[ts, tx] }) (hx : kA L x = some v) [i : HasS rs v Nat e 1 eU l f dd]
    (w : ∀ v' h', Hs h0 h' (.sl v' e 1 eU (l ++ s.map UInt8.toNat) :: dd) → KO P X sz ops os (L.put d v') h' R) (hg : guardA ops L.tree o.guard = some true := by exact rfl) (hy : kA L y = some (str s) := by exact rfl) (hs : sliceElem P ts = some e := by exact rfl) (hz : zeroCellsT P e = some [.int .u8 0] := by exact rfl) (hb : bytesT P e = some (by_ + 1) := by exact rfl) (hxs : P.underlying tx = some .string := by exact rfl)
    (hsz : (l.length + s.length + 1) * (by_ + 1) ≤ 1099511627776 := by first | omega | (simp only [List.length_nil]; omega) | grind) (hdst : o.dst = some d := by exact rfl) (hds : Nat.blt d sz = true := by exact rfl) : KO P X sz ops (o :: os) L h R := by
  obtain ⟨v', h', q1, q2⟩ := st_append S hs hz hb hxs i.dt hsz
  exact KO_append ho hg hx hy q1 (by simp only [putK, hdst, hds]) (w v' h' q2)
/-- The address of the first of one's own bytes. -/
theorem usd {x : Operand} {ty e : TypeId} {l : List Nat} {f : Rs → List Rs} {dd : List Rs} {v : Value} {d : Tmp} (S : Hs h0 h rs) (hl : 0 < l.length) (ho : o.op = .call { callee := .builtin .unsafeSliceData, args := #[x], argTypes := #[ty] }) (hx : kA L x = some v) [i : HasS rs v Nat e 1 eU l f dd]
    (w : ∀ b o, v = .slice (some ⟨b, o, none⟩) l.length l.length → KO P X sz ops os (L.put d (.pointer (some ⟨b, o, none⟩))) h R) (hg : guardA ops L.tree o.guard = some true := by exact rfl) (hdst : o.dst = some d := by exact rfl) (hds : Nat.blt d sz = true := by exact rfl) : KO P X sz ops (o :: os) L h R := by
  obtain ⟨fp, q1, q2, q3⟩ := i.dt.sep S.sep
  rcases q1 with ⟨rfl, rfl⟩ | ⟨b, o', cc, slk, g1, g2, g3, g4, g5, g6⟩
  · simp at hl
  refine KO_val (v := .pointer (some ⟨b, o', none⟩)) (h' := h) hg ?_ (by simp only [putK, hdst, hds]) (w b o' g1)
  rw [ho]
  obtain ⟨m, hm⟩ : ∃ m, l.length = m + 1 := ⟨l.length - 1, by omega⟩
  subst g1
  have e1 : aSliceData (.slice (some ⟨b, o', none⟩) l.length l.length) = some (.pointer (some ⟨b, o', none⟩)) := by rw [hm]; rfl
  simp only [aOp, evAll, tree_le hx, aBuiltin, e1, nextOf]
/-- One's own bytes seen as a string. -/
theorem uns {x y : Operand} {pt nt e : TypeId} {l : List Nat} {f : Rs → List Rs} {dd : List Rs} {b o' : Nat} {d : Tmp} (S : Hs h0 h rs) (hl : 0 < l.length ∧ l.length ≤ 4611686018427387904) (ho : o.op = .call { callee := .builtin .unsafeString, args := #[x, y], argTypes := #[pt, nt] }) (hx : kA L x = some (.pointer (some ⟨b, o', none⟩))) [i : HasS rs (.slice (some ⟨b, o', none⟩) l.length l.length) Nat e 1 eU l f dd]
    (w : ∀ h', Hs h0 h' dd → KO P X sz ops os (L.put d (str (l.map UInt8.ofNat))) h' R) (hy : kA L y = some (.int .i64 l.length) := by exact rfl) (hp : P.underlying pt = some (.pointer e) := by exact rfl) (he : P.underlying e = some (.int .u8) := by exact rfl) (hz : sizeT P e = some 1 := by exact rfl) (hg : guardA ops L.tree o.guard = some true := by exact rfl) (hdst : o.dst = some d := by exact rfl) (hds : Nat.blt d sz = true := by exact rfl) : KO P X sz ops (o :: os) L h R := by
  obtain ⟨fp, q1, q2, q3⟩ := i.dt.sep S.sep
  rcases q1 with ⟨q, -⟩ | ⟨b', o2, cc, slk, g1, g2, g3, g4, g5, g6⟩
  · cases q
  cases g1
  have hbl : b < h.next := (q2 b g3).2.1
  obtain ⟨m, hm⟩ : ∃ m, l.length = m + 1 := ⟨l.length - 1, by omega⟩
  have front : Hs h0 h (.sl (.slice (some ⟨b, o', none⟩) l.length l.length) e 1 eU l :: dd) := S.front i.dt
  have S2 : Hs h0 (h.put b (.cells cc e slk true)) (.any (fun _ _ => True) :: dd) := by
    refine front.turn .here (Nat.le_refl _) (S.wf.put hbl _) fun fq r1 r2 => ?_
    have hb' : fq b := by
      rcases r1 with ⟨q, -⟩ | ⟨b', o2, cc2, sl2, q3, q4, q5, -⟩
      · cases q
      · cases q3; exact q5
    exact ⟨fun j hj hn => by rw [AH.get_put, if_neg]; intro q; subst q; exact hn hb', fun _ => False, fun _ _ => trivial, fun _ q => q.elim⟩
  refine KO_val (v := str (l.map UInt8.ofNat)) (h' := h.put b (.cells cc e slk true)) hg ?_ (by simp only [putK, hdst, hds]) (w _ S2.tail)
  rw [ho]
  rw [Nat.mul_one] at g4
  have k1 : Nat.ble l.length 4611686018427387904 = true := Nat.ble_eq_true_of_le hl.2
  have k2 : Nat.beq e e = true := by simp
  have e1 : aUnsafeString P [pt, nt] (.pointer (some ⟨b, o', none⟩)) (.int .i64 l.length) h = some (str (l.map UInt8.ofNat), h.put b (.cells cc e slk true)) := by
    have hcast : ((l.length : Nat) : Int) = Int.ofNat l.length := rfl
    rw [hcast]
    simp only [aUnsafeString, hp, g2, he, hz, k1, k2, Bool.and_self, g4, bytesOf_eU]
    rw [hm]
    rfl
  have e2 : evA L.tree y = some (.int .i64 l.length) := tree_le hy
  simp only [aOp, evAll, tree_le hx, e2, aBuiltin, e1, nextOf2]
end
end Go.Proofs.Xx
