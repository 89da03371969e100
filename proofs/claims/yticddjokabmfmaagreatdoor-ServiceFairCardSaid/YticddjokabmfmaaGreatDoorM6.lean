/-
  The back of a slice of one's own, seen beside it; clear; bytes.
-/
import Derived.Test.YticddjokabmfmaaGreatDoorM5
import Derived.Test.YticddjokabmfmaaGreatDoorM3
import Derived.Laws.Externs
import Derived.Lib.Bytealg
import Derived.Lib.Overlaps
import Derived.Shelf.Strings.Search2
import Derived.Shelf.Strconv.Itoa1
import Derived.Test.YticddjokabmfmaaGreatDoorProg
import Derived.KernelRfl
import Derived.WalkKit
import Derived.Lib.Walk
import Derived.Lib.SliceRun
import Derived.Lib.JoinLaws
import Derived.Lib.AppendZeros
import Derived.Lib.AppendZerosOnto
import Derived.Laws.NewBlocks
import Derived.Laws.IdiomCopy
import Derived.Shelf.RegionOpenPlain
import Derived.Shelf.Strings.BuilderX
import Derived.Lib.MakeNoZero

namespace Go.Proofs.Xx
set_option linter.unusedSectionVars false
open Go
set_option linter.unusedSimpArgs false
set_option linter.unusedVariables false

/-- v2 is v[k:], of length n - k. -/
def IsView (v v2 : Value) (z k n : Nat) : Prop := ∃ b o cap c2, v = .slice (some ⟨b, o, none⟩) n cap ∧ v2 = .slice (some ⟨b, o + k * z, none⟩) (n - k) c2
theorem IsView.el {v v2 : Value} {z k n : Nat} (V : IsView v v2 z k n) (j off : Nat) : elA v2 z j off = elA v z (k + j) off := by
  obtain ⟨b, o, cap, c2, rfl, rfl⟩ := V
  simp only [elA]
  rw [show o + k * z + j * z + off = o + (k + j) * z + off by rw [Nat.add_mul]; omega]
theorem IsView.rd {α : Type} {v v2 : Value} {z k : Nat} {h : AH} {enc : α → List Value} {l : List α} (V : IsView v v2 z k l.length) (r : RdL h v z enc l) (hz : ∀ x, (enc x).length = z) (hk : k ≤ l.length) : RdL h v2 z enc (l.drop k) := by
  obtain ⟨b, o, cap, c2, rfl, rfl⟩ := V
  rcases r with ⟨q, -⟩ | ⟨b', o', cap, cc, e, s, q, e1, h1, h2⟩
  · cases q
  · cases e1
    have hkz : k * z ≤ l.length * z := Nat.mul_le_mul_right z hk
    have hsub : k * z + (l.length - k) * z = l.length * z := by rw [← Nat.add_mul]; congr 1; omega
    refine .inr ⟨b, o + k * z, c2, cc, e, s, q, by rw [List.length_drop], h1, ?_⟩
    rw [List.length_drop, flatMap_drop hz, takeAt_sub h2 (by omega), List.take_of_length_le]
    rw [List.length_drop, flatMap_length hz]; omega

section
variable {P : Program} {X : Extern} {inR : Bool} {sz : Nat} {L : Ks} {h h0 : AH} {rs : List Rs} {ops : Array Oper} {os : List Oper} {o : Oper} {R : Ks → AH → Prop} {Q : KQ}

/-- clear of the back of a slice of one's own. -/
theorem cl {α : Type} {x : Operand} {ty e e' : TypeId} {v v2 : Value} {z k : Nat} {enc : α → List Value} {l : List α} {f : Rs → List Rs} {dd : List Rs} (y0 : α) (S : Hs h0 h rs) (V : IsView v v2 z k l.length) (ho : o.op = .call { callee := .builtin .clear, args := #[x], argTypes := #[ty] }) (hx : kA L x = some v2) [i : HasS rs v α e z enc l f dd]
    (w : ∀ h', Hs h0 h' (f (.sl v e z enc (l.take k ++ List.replicate (l.length - k) y0))) → KO P X sz ops os L h' R) (hu : P.underlying ty = some (.slice e') := by exact rfl) (hz0 : zeroCellsT P e' = some (enc y0) := by exact rfl) (h1 : (enc y0).all one? = true := by exact rfl)
    (hz : ∀ x, (enc x).length = z := by intro _; rfl) (hk : k < l.length := by omega) (hzz : 0 < z := by decide) (hg : guardA ops L.tree o.guard = some true := by exact rfl) (hdst : o.dst = none := by exact rfl) : KO P X sz ops (o :: os) L h R := by
  obtain ⟨b, o', cap, c2, rfl, rfl⟩ := V
  obtain ⟨fp, k1, k2, -⟩ := (i.ut (.sl (.slice (some ⟨b, o', none⟩) l.length cap) e z enc l)).ok (h' := h) S.ext.next (Nat.le_refl _) S.sep
  rcases k1 with ⟨q, -⟩ | ⟨b', o2, cc, slk, cap2, g1, g2, g3, g4, g5, g6⟩
  · cases q
  cases g1
  have hrow : zeroRow (enc y0) (l.length - k) = (List.replicate (l.length - k) y0).flatMap enc := zeroRow_enc rfl _
  have hrl : ((List.replicate (l.length - k) y0).flatMap enc).length = (l.length - k) * z := by rw [flatMap_length hz]; simp
  have hkz : k * z + (l.length - k) * z = l.length * z := by rw [← Nat.add_mul]; congr 1; omega
  obtain ⟨he, hlen⟩ : l.flatMap enc = (cc.drop o').take (l.length * z) ∧ o' + l.length * z ≤ cc.length := by
    rcases takeAt_eqs g4 with q | ⟨q1, q2⟩
    · exact q
    · exfalso
      have : l.length * z = 0 := q1
      have := Nat.mul_pos (show 0 < l.length by omega) hzz
      omega
  have hall : ((List.replicate (l.length - k) y0).flatMap enc).all one? = true := by
    rw [List.all_eq_true]
    intro u hu
    rw [List.mem_flatMap] at hu
    obtain ⟨y, hy, hu⟩ := hu
    rw [List.mem_replicate] at hy
    rw [hy.2] at hu
    exact List.all_eq_true.1 h1 u hu
  have hput : putCells h b (o' + k * z) cc e slk (zeroRow (enc y0) (l.length - k)) = some (h.put b (.cells (splice cc (o' + k * z) ((List.replicate (l.length - k) y0).flatMap enc)) e slk false)) := by
    rw [hrow]
    unfold putCells
    rw [hall, Nat.ble_eq_true_of_le (by rw [hrl]; omega)]
    rfl
  obtain ⟨m, hm⟩ : ∃ m, l.length - k = m + 1 := ⟨l.length - k - 1, by omega⟩
  have hclear : aClear P ty (.slice (some ⟨b, o' + k * z, none⟩) (l.length - k) c2) h = some (h.put b (.cells (splice cc (o' + k * z) ((List.replicate (l.length - k) y0).flatMap enc)) e slk false)) := by
    rw [hm] at hput ⊢
    simp only [aClear, hu, hz0, g2, hput]
  refine KO_val (v := .tuple #[]) (h' := h.put b (.cells (splice cc (o' + k * z) ((List.replicate (l.length - k) y0).flatMap enc)) e slk false)) hg ?_ (by simp only [putK, hdst]) (w _ ?_)
  · rw [ho]
    simp only [aOp, evAll, tree_le hx, aBuiltin, hclear]
  · have hsp : splice cc (o' + k * z) ((List.replicate (l.length - k) y0).flatMap enc) = splice cc (o' + k * z + 0) ((List.replicate (l.length - k) y0).flatMap enc) := rfl
    have hin := splice_in (cc := cc) (uc := (List.replicate (l.length - k) y0).flatMap enc) (o := o') (n := l.length * z) (a := k * z) (z := (l.length - k) * z) (off := 0) hlen (by omega) (by rw [hrl]; omega)
    have hfl : ((l.take k ++ List.replicate (l.length - k) y0).flatMap enc) = splice ((cc.drop o').take (l.length * z)) (k * z) (splice ((((cc.drop o').take (l.length * z)).drop (k * z)).take ((l.length - k) * z)) 0 ((List.replicate (l.length - k) y0).flatMap enc)) := by
      rw [← he]
      have hll : (l.flatMap enc).length = l.length * z := flatMap_length hz l
      rw [List.flatMap_append, flatMap_take hz]
      simp only [splice, List.take_zero, List.nil_append, Nat.zero_add]
      rw [hrl, List.drop_of_length_le (l := (((l.flatMap enc).drop (k * z)).take ((l.length - k) * z))) (by rw [List.length_take]; omega), List.append_nil, hrl, List.drop_of_length_le (by omega), List.append_nil]
    refine S.turn (i.ut _) (Nat.le_refl _) (S.wf.put (k2 b g3).2.1 _) fun fq q1 q2 => ?_
    have hb : fq b := by
      rcases q1 with ⟨q, -⟩ | ⟨b', o2, cc2, sl2, cap2, q3, q4, q5, -⟩
      · cases q
      · cases q3; exact q5
    have hnl : (l.take k ++ List.replicate (l.length - k) y0).length = l.length := by simp; omega
    refine ⟨fun j _ hj => by rw [AH.get_put, if_neg]; intro q; subst q; exact hj hb, fun j => j = b, .inr ⟨b, o', _, slk, cap, by rw [hnl], by rw [AH.get_put, if_pos rfl], rfl, ?_, ?_, g6⟩, fun j hj => by subst hj; exact ⟨(k2 _ g3).2.1, .inl hb⟩⟩
    · rw [hnl, hfl]; exact hin
    · rw [hnl, spl_len (by rw [hrl]; omega)]
      exact g5
/-- A remainder of bytes. -/
theorem rmU {L' : Ks} {x y : Operand} {ty ty2 : TypeId} {a b : Int} (w : KO P X sz ops os L' h R) (ho : o.op = .binOp .rem ty x y ty2 := by exact rfl) (hg : guardA ops L.tree o.guard = some true := by exact rfl) (hx : kA L x = some (.int .u8 a) := by exact rfl) (hy : kA L y = some (.int .u8 b) := by exact rfl)
    (hb : 0 ≤ a ∧ 0 < b := by omega) (hp : putK sz L o.dst (.int .u8 (a % b)) = some L' := by exact rfl) : KO P X sz ops (o :: os) L h R :=
  KO_bin ho hg hx hy (by
    have h1 : ¬ b = 0 := by omega
    have h2 : a.tmod b = a % b := Int.tmod_eq_emod_of_nonneg hb.1
    simp only [aBin, decide_true, decide_eq_false h1, h2]) hp w
/-- v[lo:hi] of a slice that was there before. -/
theorem su0 {α : Type} {x : Operand} {lo hi : Option Operand} {vlo vhi : Option Value} {ty : TypeId} {v : Value} {z : Nat} {enc : α → List Value} {l : List α} {d : Tmp} (a b : Nat) (S : Hs h0 h rs) (w0 : WfH h0) (hr : RdL h0 v z enc l) (hc : CapOk v)
    (w : ∀ v', RdL h0 v' z enc ((l.drop a).take (b - a)) → CapOk v' → KO P X sz ops os (L.put d v') h R) (ho : o.op = .slice ty x lo hi none := by exact rfl) (hx : kA L x = some v := by exact rfl) (hg : guardA ops L.tree o.guard = some true := by exact rfl)
    (hlo : evOpt L.tree lo = some vlo := by exact rfl) (hhi : evOpt L.tree hi = some vhi := by exact rfl) (hz : ∀ x, (enc x).length = z := by intro _; rfl) (hu : elemZ P ty = some z := by exact rfl)
    (h1 : boundOf vlo 0 = some a := by exact rfl) (h2 : boundOf vhi l.length = some b := by exact rfl) (hab : a ≤ b ∧ b ≤ l.length := by first | omega | grind) (hdst : o.dst = some d := by exact rfl) (hds : Nat.blt d sz = true := by exact rfl) : KO P X sz ops (o :: os) L h R := by
  obtain ⟨v', e1, e2, e3⟩ := slice_rd hr hc hz hu h1 h2 hab
  have hue : ∃ e', P.underlying ty = some (.slice e') ∧ sizeT P e' = some z := by
    unfold elemZ at hu
    split at hu
    · exact ⟨_, by assumption, hu⟩
    · cases hu
  obtain ⟨e', hu1, hu2⟩ := hue
  have e4 : aSlice P ty v vlo vhi none h = aSlice P ty v vlo vhi none h0 := by
    rcases hr with ⟨rfl, g1, g2⟩ | ⟨b', o', cap, cc, e, s, q, rfl, g1, g2⟩
    · simp only [aSlice, hu1]
    · simp only [aSlice, hu1, S.ext.get w0 g1, g1]
  refine KO_val (v := v') (h' := h) hg ?_ (by simp only [putK, hdst, hds]) (w v' e2 e3)
  rw [ho]
  simp only [aOp, tree_le hx, hlo, hhi, show evOpt L.tree none = some none from rfl, e4, e1, nextOf, aSlice3_none]
theorem bytesOf_eU : ∀ l : List Nat, bytesOf? (l.flatMap eU) = some (l.map UInt8.ofNat)
  | [] => rfl
  | x :: l => by
    rw [List.flatMap_cons]
    show (match byteOf? (.int .u8 (Int.ofNat x)), bytesOf? (l.flatMap eU) with | some b, some s => some (b :: s) | _, _ => none) = _
    rw [bytesOf_eU l]; rfl
/-- Bytes as a string. -/
theorem bS {L' : Ks} {x : Operand} {s dt e : TypeId} {v : Value} {l : List Nat} (hr : RdL h v 1 eU l) (w : KO P X sz ops os L' h R) (ho : o.op = .convert s dt x := by exact rfl) (hg : guardA ops L.tree o.guard = some true := by exact rfl) (hx : kA L x = some v := by exact rfl)
    (hs : P.underlying s = some (.slice e) := by exact rfl) (he : P.underlying e = some (.int .u8) := by exact rfl) (hd : P.underlying dt = some .string := by exact rfl) (hp : putK sz L o.dst (str (l.map UInt8.ofNat)) = some L' := by exact rfl) : KO P X sz ops (o :: os) L h R := by
  refine KO_val hg ?_ hp w
  rw [ho]
  have e1 : aToString P s dt v h = some (str (l.map UInt8.ofNat)) := by
    rcases hr with ⟨rfl, g1, g2⟩ | ⟨b', o', cap, cc, e0, s0, q, rfl, g1, g2⟩
    · have : l = [] := List.length_eq_zero_iff.1 g1
      subst this
      simp only [aToString, hs, hd, he]; rfl
    · rw [Nat.mul_one] at g2
      simp only [aToString, hs, hd, he, g1, g2, bytesOf_eU]; rfl
  have e2 : aConvert P s dt v = none := by
    unfold aConvert
    rw [hs]
  simp only [aOp, tree_le hx, e2, e1]
end
end Go.Proofs.Xx

/-
  Elements of arrays in blocks.
-/
namespace Go.Proofs.Xx
set_option linter.unusedSectionVars false
open Go
set_option linter.unusedSimpArgs false
set_option linter.unusedVariables false

section
variable {P : Program} {X : Extern} {inR : Bool} {sz : Nat} {L : Ks} {h h0 : AH} {rs : List Rs} {ops : Array Oper} {os : List Oper} {o : Oper} {R : Ks → AH → Prop} {Q : KQ}
def arrOf (P : Program) (ty : TypeId) : Option (Nat × Nat) := match P.underlying ty with | some (.array n e) => (match sizeT P e with | some z => some (n, z) | none => none) | _ => none
end
end Go.Proofs.Xx

/-
  Strings built out of bytes: append of a string, the bytes seen as a string.
-/
namespace Go.Proofs.Xx
set_option linter.unusedSectionVars false
open Go
set_option linter.unusedSimpArgs false
set_option linter.unusedVariables false

section
variable {P : Program} {X : Extern} {inR : Bool} {sz : Nat} {L : Ks} {h h0 : AH} {rs : List Rs} {ops : Array Oper} {os : List Oper} {o : Oper} {R : Ks → AH → Prop} {Q : KQ}
end
end Go.Proofs.Xx

/-
  Ranges over functions: the yield is called, the body runs.
-/
namespace Go.Proofs.Xx
set_option linter.unusedSectionVars false
open Go
set_option linter.unusedSimpArgs false
set_option linter.unusedVariables false

/-- The block of a range over a function. -/
abbrev lpR (l : Nat) (o : AObj) : Rs := .any (fun h fp => h.get l = some o ∧ fp l)
def yv (l : Nat) : Value := .func (.yield l) #[] #[]
section
variable {h h0 : AH} {rs : List Rs} {l : Nat} {o : AObj}
theorem Hs.bY (S : Hs h0 h rs) {b : Nat} {o : AObj} (hb : h0.get b = some o) (w : WfH h0) : b < h.next :=
  Nat.lt_of_lt_of_le (Nat.lt_of_not_le fun q => by have := w b q; rw [hb] at this; cases this) S.ext.next
end

section
variable {P : Program} {X : Extern} {inR : Bool} {sz : Nat} {L : Ks} {h h0 : AH} {rs : List Rs} {ops : Array Oper} {os : List Oper} {o : Oper} {R : Ks → AH → Prop} {Q : KQ}
/-- What a call of the yield of block l gives. -/
def Yd (P : Program) (X : Extern) (l : Nat) (args : List Value) (h : AH) (Q : Value → AH → Prop) : Prop := ∃ n v h', yieldA (exec P X n) l args h = some (v, h') ∧ Q v h'
theorem Yd.mono {l : Nat} {args : List Value} {Q Q' : Value → AH → Prop} (w : Yd P X l args h Q) (hq : ∀ v h', Q v h' → Q' v h') : Yd P X l args h Q' := by
  obtain ⟨n, v, h', h1, h2⟩ := w
  exact ⟨n, v, h', h1, hq _ _ h2⟩
end
end Go.Proofs.Xx

/-
  Blocks that a store leaves as they were; a slice's block is none of the other blocks of one's own.
-/
namespace Go.Proofs.Xx
set_option linter.unusedSectionVars false
open Go
set_option linter.unusedSimpArgs false
set_option linter.unusedVariables false

section
variable {P : Program} {X : Extern} {sz : Nat} {L : Ks} {h h0 : AH} {rs : List Rs} {ops : Array Oper} {os : List Oper} {o : Oper} {R : Ks → AH → Prop}
end
/-- v is a slice of rs that is not nil. -/
class HasV (rs : List Rs) (v : Value) : Prop where
  fp : ∀ {lo : Nat} {h : AH} {U : Fp}, Sep lo h rs U → v ≠ .slice none 0 0 → U (blkS v)
instance HasV.there {rs : List Rs} {v : Value} {s : Rs} [k : HasV rs v] : HasV (s :: rs) v := ⟨fun S hv => by
  obtain ⟨f, -, -, h3⟩ := S
  exact (k.fp h3 hv).1⟩
instance HasV.sl {rs : List Rs} {v : Value} {α : Type} {e : TypeId} {z : Nat} {enc : α → List Value} {l : List α} : HasV (.sl v e z enc l :: rs) v := ⟨fun S hv => by
  obtain ⟨f, h1, h2, -⟩ := S
  rcases h1 with ⟨q, -⟩ | ⟨b, o, cc, slk, cap, rfl, -, q, -⟩
  · exact absurd q hv
  · exact (h2 b q).2.2⟩
instance HasV.rd {rs : List Rs} {v : Value} {α : Type} {z : Nat} {enc : α → List Value} {l : List α} : HasV (.rd v z enc l :: rs) v := ⟨fun S hv => by
  obtain ⟨f, h1, h2, -⟩ := S
  rcases h1 with ⟨q, -⟩ | ⟨b, o, cap, cc, e, s, r, rfl, -, q, -⟩
  · exact absurd q hv
  · exact (h2 b q).2.2⟩
class HasK (rs : List Rs) (b : Nat) : Prop where
  fp : ∀ {lo : Nat} {h : AH} {U : Fp}, Sep lo h rs U → U b
instance HasK.there {rs : List Rs} {b : Nat} {s : Rs} [k : HasK rs b] : HasK (s :: rs) b := ⟨fun S => by
  obtain ⟨f, -, -, h3⟩ := S
  exact (k.fp h3).1⟩
instance HasK.here {rs : List Rs} {b : Nat} {c : List Value} {e : TypeId} : HasK (.blk b c e :: rs) b := ⟨fun S => by
  obtain ⟨f, h1, h2, -⟩ := S
  exact (h2 b h1.2).2.2⟩
/-- The slice's block is not b. -/
class NeB (rs : List Rs) (b : Nat) (v : Value) : Prop where
  ne : ∀ {lo : Nat} {h : AH} {U : Fp}, Sep lo h rs U → v ≠ .slice none 0 0 → blkS v ≠ b
instance NeB.there {rs : List Rs} {b : Nat} {v : Value} {s : Rs} [k : NeB rs b v] : NeB (s :: rs) b v := ⟨fun S hv => by
  obtain ⟨f, -, -, h3⟩ := S
  exact k.ne h3 hv⟩
instance NeB.blk {rs : List Rs} {b : Nat} {v : Value} {c : List Value} {e : TypeId} [k : HasV rs v] : NeB (.blk b c e :: rs) b v := ⟨fun S hv q => by
  obtain ⟨f, h1, h2, h3⟩ := S
  have := (k.fp h3 hv).2
  rw [q] at this
  exact this h1.2⟩
instance NeB.sl {rs : List Rs} {b : Nat} {v : Value} {α : Type} {e : TypeId} {z : Nat} {enc : α → List Value} {l : List α} [k : HasK rs b] : NeB (.sl v e z enc l :: rs) b v := ⟨fun S hv q => by
  obtain ⟨f, h1, h2, h3⟩ := S
  rcases h1 with ⟨q', -⟩ | ⟨b', o, cc, slk, cap, rfl, -, q', -⟩
  · exact absurd q' hv
  · have := (k.fp h3).2
    exact this (by rw [← q]; exact q')⟩
section
variable {P : Program} {X : Extern} {sz : Nat} {L : Ks} {h h0 : AH} {rs : List Rs} {ops : Array Oper} {os : List Oper} {o : Oper} {R : Ks → AH → Prop}
end
end Go.Proofs.Xx

/-
  Maps with strings for keys: what a search finds.
-/
namespace Go.Proofs.Xx
set_option linter.unusedSectionVars false
open Go Go.Proofs
set_option linter.unusedSimpArgs false
set_option linter.unusedVariables false

/-- What a search gives: the value, or with what was asked, too. -/
abbrev okV (ok : Bool) (v : Value) (b : Bool) : Value := match ok with | true => .tuple #[v, .bool b] | false => v
def mIdx {α : Type} (k : List UInt8) : List (List UInt8 × α) → Nat → Option (Nat × α)
  | [], _ => none
  | p :: r, i => if p.1 = k then some (i, p.2) else mIdx k r (i + 1)
def mGet {α : Type} (l : List (List UInt8 × α)) (k : List UInt8) : Option α := (mIdx k l 0).map (·.2)
theorem beq_str (a b : List UInt8) : ((⟨a.toArray⟩ : ByteArray) == ⟨b.toArray⟩) = decide (a = b) := by
  rw [Bool.eq_iff_iff]
  constructor
  · intro h
    have h2 := ba_eq h
    have h3 : a.toArray = b.toArray := congrArg ByteArray.data h2
    simpa using h3
  · intro h
    have h2 : a = b := by simpa using h
    subst h2
    exact ba_refl _
theorem aFind_mp {α : Type} {enc : α → Value} {k : List UInt8} : ∀ {es : List (Value × Value × Nat)} {l : List (List UInt8 × α)} {i : Nat}, es.map (fun e => (e.1, e.2.1)) = l.map (fun p => (Value.string ⟨p.1.toArray⟩, enc p.2)) →
    aFind .string (str k) es i = some ((mIdx k l i).map fun q => (q.1, enc q.2))
  | [], [], i, _ => rfl
  | [], p :: r, i, h => by simp at h
  | e :: es, [], i, h => by simp at h
  | e :: es, p :: r, i, h => by
    simp only [List.map_cons, List.cons.injEq, Prod.mk.injEq] at h
    obtain ⟨⟨h1, h2⟩, h3⟩ := h
    have hs : Instr.sameNow .string (str k) e.1 = some (decide (k = p.1)) := by
      rw [h1]
      show some (((⟨k.toArray⟩ : ByteArray) == ⟨p.1.toArray⟩)) = _
      rw [beq_str]
    unfold aFind
    unfold mIdx
    by_cases hk : p.1 = k
    · rw [hs, decide_eq_true hk.symm, if_pos hk, h2]; rfl
    · rw [hs, decide_eq_false (fun q => hk q.symm), if_neg hk]
      exact aFind_mp h3
theorem mGet_none {α : Type} {l : List (List UInt8 × α)} {k : List UInt8} (h : mGet l k = none) : mIdx k l 0 = none := by
  unfold mGet at h
  cases hq : mIdx k l 0 with
  | none => rfl
  | some q => rw [hq] at h; cases h
theorem mGet_some {α : Type} {l : List (List UInt8 × α)} {k : List UInt8} {x : α} (h : mGet l k = some x) : ∃ i, mIdx k l 0 = some (i, x) := by
  unfold mGet at h
  cases hq : mIdx k l 0 with
  | none => rw [hq] at h; cases h
  | some q => rw [hq] at h; cases h; exact ⟨q.1, rfl⟩
section
variable {P : Program} {X : Extern} {inR : Bool} {sz : Nat} {L : Ks} {h h0 : AH} {rs : List Rs} {ops : Array Oper} {os : List Oper} {o : Oper} {R : Ks → AH → Prop} {Q : KQ}
theorem mp_get {α : Type} {b : Nat} {enc : α → Value} {l : List (List UInt8 × α)} (S : Hs h0 h rs) (a : At rs (.mp b enc l)) : ∃ es clock, h.get b = some (.map es clock) ∧ es.map (fun e => (e.1, e.2.1)) = l.map (fun p => (Value.string ⟨p.1.toArray⟩, enc p.2)) ∧ (∀ e ∈ es, e.2.2 < clock) ∧ (es.map (·.2.2)).Nodup := by
  obtain ⟨fp, k, _⟩ := a.ok S.sep
  obtain ⟨es, clock, h1, h2, h3⟩ := k
  exact ⟨es, clock, h1, h3⟩
theorem lookup_mp {α : Type} {b : Nat} {enc : α → Value} {l : List (List UInt8 × α)} (S : Hs h0 h rs) (a : At rs (.mp b enc l)) {ty kt et : TypeId} {key : List UInt8} {z : Value} (ok : Bool)
    (hu : P.underlying ty = some (.map kt et)) (hkt : P.underlying kt = some .string) (hz : zeroV P et = some z) :
    aLookup P ty (.map (some b)) (str key) ok h = some (match mGet l key with
      | some x => (okV ok (enc x) true)
      | none => (okV ok z false)) := by
  obtain ⟨es, clock, h1, h2, -⟩ := mp_get S a
  have hT : mapT P ty (str key) = some (.string, et) := by
    unfold mapT
    simp only [hu, hkt]; rfl
  have hM : aMapOf (.map (some b)) h = some es := by
    unfold aMapOf
    simp only [h1]
  have hF := aFind_mp (enc := enc) (k := key) (i := 0) h2
  unfold aLookup
  rw [hT, hM]
  simp only [hF]
  cases hq : mGet l key with
  | none => rw [mGet_none hq]; simp only [Option.map_none, hz]; rfl
  | some x =>
    obtain ⟨i, hi⟩ := mGet_some hq
    rw [hi]; simp only [Option.map_some]; rfl
/-- A search in a map, with and without the second value. -/
theorem lk {α : Type} {b : Nat} {enc : α → Value} {l : List (List UInt8 × α)} {m k : Operand} {ty kt et : TypeId} {key : List UInt8} {z : Value} {d : Tmp} {ok : Bool} (S : Hs h0 h rs) (a : At rs (.mp b enc l))
    (w1 : ∀ x, mGet l key = some x → KO P X sz ops os (L.put d (okV ok (enc x) true)) h R)
    (w2 : mGet l key = none → KO P X sz ops os (L.put d (okV ok z false)) h R)
    (ho : o.op = .lookup ty m k ok := by exact rfl) (hg : guardA ops L.tree o.guard = some true := by exact rfl) (hm : kA L m = some (.map (some b)) := by exact rfl) (hk : kA L k = some (str key) := by exact rfl)
    (hu : P.underlying ty = some (.map kt et) := by exact rfl) (hkt : P.underlying kt = some .string := by exact rfl) (hz : zeroV P et = some z := by exact rfl) (hdst : o.dst = some d := by exact rfl) (hds : Nat.blt d sz = true := by exact rfl) : KO P X sz ops (o :: os) L h R := by
  have e := lookup_mp (key := key) S a ok hu hkt hz
  cases hq : mGet l key with
  | none =>
    rw [hq] at e
    refine KO_val hg (v := okV ok z false) (h' := h) ?_ (show putK sz L o.dst _ = some (L.put d _) by simp only [putK, hdst, hds]) (w2 hq)
    rw [ho]; simp only [aOp, tree_le hm, tree_le hk, e, nextOf]
  | some x =>
    rw [hq] at e
    refine KO_val hg (v := okV ok (enc x) true) (h' := h) ?_ (show putK sz L o.dst _ = some (L.put d _) by simp only [putK, hdst, hds]) (w1 x hq)
    rw [ho]; simp only [aOp, tree_le hm, tree_le hk, e, nextOf]
theorem Hs.putMp {α : Type} {rs' : List Rs} {b clock2 : Nat} {enc : α → Value} {l l2 : List (List UInt8 × α)} {es2 : List (Value × Value × Nat)} (S : Hs h0 h rs) (u : Ut rs (.mp b enc l) (.mp b enc l2) rs')
    (h2 : es2.map (fun e => (e.1, e.2.1)) = l2.map (fun p => (Value.string ⟨p.1.toArray⟩, enc p.2))) (hc : ∀ e ∈ es2, e.2.2 < clock2) (hn : (es2.map (·.2.2)).Nodup) : Hs h0 (h.put b (.map es2 clock2)) rs' := by
  obtain ⟨fp, k, k2, -⟩ := u.ok (h' := h) S.ext.next (Nat.le_refl _) S.sep
  obtain ⟨es, clock, g1, g2, -⟩ := k
  refine S.turn u (Nat.le_refl _) (S.wf.put (k2 b g2).2.1 _) fun fq q1 q2 => ⟨fun j _ hj => ?_, fun j => j = b, ⟨es2, clock2, by rw [AH.get_put, if_pos rfl], rfl, h2, hc, hn⟩, fun j hj => ?_⟩
  · obtain ⟨_, _, _, g, _⟩ := q1
    rw [AH.get_put, if_neg]; intro q; subst q; exact hj g
  · obtain ⟨_, _, _, g, _⟩ := q1
    subst hj; exact ⟨(q2 _ g).2, .inl g⟩
theorem Hs.newMp {α : Type} (enc : α → Value) (S : Hs h0 h rs) : Hs h0 (h.add (.map [] 0)) (.mp h.next enc [] :: rs) :=
  S.grow (fp := fun b => b = h.next) ((Ext.refl S.wf).add _) ⟨[], 0, by rw [AH.get_add, if_pos rfl], rfl, rfl, (fun e he => by cases he), List.Pairwise.nil⟩ fun b hb => by subst hb; exact ⟨Nat.le_refl _, Nat.lt_succ_self _⟩
/-- A map is made. -/
theorem mkm {α : Type} (enc : α → Value) {ty : TypeId} {d : Tmp} (S : Hs h0 h rs) (w : ∀ b h', Hs h0 h' (.mp b enc [] :: rs) → KO P X sz ops os (L.put d (.map (some b))) h' R) (ho : o.op = .makeMap ty none := by exact rfl) (hg : guardA ops L.tree o.guard = some true := by exact rfl) (hdst : o.dst = some d := by exact rfl) (hds : Nat.blt d sz = true := by exact rfl) : KO P X sz ops (o :: os) L h R :=
  KO_val hg (v := .map (some h.next)) (h' := h.add (.map [] 0)) (by rw [ho]; rfl) (show putK sz L o.dst _ = some (L.put d _) by simp only [putK, hdst, hds]) (w _ _ (S.newMp enc))
def mPut {α : Type} (l : List (List UInt8 × α)) (k : List UInt8) (x : α) : List (List UInt8 × α) := match mIdx k l 0 with | some q => l.set q.1 (k, x) | none => l ++ [(k, x)]
theorem modify_eq_set {β : Type} {l : List β} {i : Nat} {f : β → β} {y e : β} (he : l[i]? = some e) (hf : f e = y) : l.modify i f = l.set i y := by
  apply List.ext_getElem?
  intro j
  rw [List.getElem?_modify, List.getElem?_set]
  by_cases hj : i = j
  · subst hj
    have hl : i < l.length := (List.getElem?_eq_some_iff.1 he).1
    have e2 : l[i] = e := (List.getElem?_eq_some_iff.1 he).2
    simp [hl, e2, hf]
  · simp [hj]
theorem mIdx_lt {α : Type} {k : List UInt8} : ∀ {l : List (List UInt8 × α)} {i : Nat} {q : Nat × α}, mIdx k l i = some q → i ≤ q.1 ∧ l[q.1 - i]? = some (k, q.2)
  | [], i, q, h => by cases h
  | p :: r, i, q, h => by
    unfold mIdx at h
    split at h
    · rename_i hk
      cases h
      refine ⟨Nat.le_refl _, ?_⟩
      rw [Nat.sub_self]; show some p = _
      rw [← hk]
    · obtain ⟨h1, h2⟩ := mIdx_lt h
      refine ⟨by omega, ?_⟩
      rw [show q.1 - i = (q.1 - (i + 1)) + 1 by omega]
      exact h2
theorem update_mp {α : Type} {key : List UInt8} {b : Nat} {enc : α → Value} {l : List (List UInt8 × α)} {rs' : List Rs} {x : α} (S : Hs h0 h rs) (u : Ut rs (.mp b enc l) (.mp b enc (mPut l key x)) rs') (a : At rs (.mp b enc l)) {ty kt et : TypeId}
    (hu : P.underlying ty = some (.map kt et)) (hkt : P.underlying kt = some .string) :
    ∃ h', aMapUpdate P ty (.map (some b)) (str key) (enc x) h = some h' ∧ Hs h0 h' rs' := by
  obtain ⟨es, clock, h1, h2, h3, h4⟩ := mp_get S a
  have hT : mapT P ty (str key) = some (.string, et) := by
    unfold mapT
    simp only [hu, hkt]; rfl
  have hF := aFind_mp (enc := enc) (k := key) (i := 0) h2
  unfold aMapUpdate
  simp only [hT, h1, hF]
  unfold mPut at u
  cases hq : mIdx key l 0 with
  | none =>
    rw [hq] at u
    refine ⟨_, rfl, S.putMp u ?_ ?_ ?_⟩
    · rw [List.map_append, List.map_append, h2]; rfl
    · intro e he
      rcases List.mem_append.1 he with q | q
      · have := h3 e q; omega
      · simp at q; subst q; exact Nat.lt_succ_self _
    · rw [List.map_append, List.nodup_append]
      refine ⟨h4, by simp, ?_⟩
      intro c hc d hd
      obtain ⟨e, he, rfl⟩ := List.mem_map.1 hc
      simp at hd; subst hd
      have := h3 e he; omega
  | some q =>
    rw [hq] at u
    obtain ⟨i, y⟩ := q
    obtain ⟨-, hl⟩ := mIdx_lt hq
    have hle : es.length = l.length := by simpa using congrArg List.length h2
    obtain ⟨e, he⟩ : ∃ e, es[i]? = some e := ⟨es[i]'(by have := (List.getElem?_eq_some_iff.1 hl).1; omega), by simp⟩
    have hm := modify_eq_set (f := fun e : Value × Value × Nat => (str key, enc x, e.2.2)) (y := (str key, enc x, e.2.2)) he rfl
    refine ⟨_, rfl, S.putMp u ?_ ?_ ?_⟩
    · rw [hm, List.map_set, List.map_set, h2]; rfl
    · intro e1 h1
      rw [hm] at h1
      rcases List.mem_or_eq_of_mem_set h1 with q | q
      · exact h3 e1 q
      · subst q; exact h3 e (List.mem_of_getElem? he)
    · rw [hm, List.map_set]
      have : (es.map (·.2.2)).set i e.2.2 = es.map (·.2.2) := by
        apply List.ext_getElem?
        intro j
        rw [List.getElem?_set]
        by_cases hj : i = j
        · subst hj
          have hl2 := (List.getElem?_eq_some_iff.1 he)
          obtain ⟨g1, g2⟩ := hl2
          simp [g1, g2]
        · simp [hj]
      rw [this]; exact h4
/-- A value is put into a map. -/
theorem up {α : Type} {L' : Ks} {b : Nat} {enc : α → Value} {l : List (List UInt8 × α)} {rs' : List Rs} {key : List UInt8} {y : Value} {m k v : Operand} {ty kt et : TypeId} (x : α) (S : Hs h0 h rs) (a : At rs (.mp b enc l)) (u : Ut rs (.mp b enc l) (.mp b enc (mPut l key x)) rs')
    (w : ∀ h', Hs h0 h' rs' → KO P X sz ops os L' h' R) (ho : o.op = .mapUpdate ty m k v ∨ o.op = .insert ty m k v) (hg : guardA ops L.tree o.guard = some true := by exact rfl) (hm : kA L m = some (.map (some b)) := by exact rfl) (hk : kA L k = some (str key) := by exact rfl) (hv : kA L v = some y := by exact rfl) (hy : y = enc x := by exact rfl)
    (hu : P.underlying ty = some (.map kt et) := by exact rfl) (hkt : P.underlying kt = some .string := by exact rfl) (hp : putK sz L o.dst (.tuple #[]) = some L' := by exact rfl) : KO P X sz ops (o :: os) L h R := by
  subst hy
  obtain ⟨h', e1, e2⟩ := update_mp (x := x) S u a hu hkt
  refine KO_skip hg (h' := h') ?_ hp (w h' e2)
  rcases ho with ho | ho
  · rw [ho]; simp only [aOp, tree_le hm, tree_le hk, tree_le hv, e1]
  · rw [ho]; simp only [aOp, tree_le hm, tree_le hk, tree_le hv, e1]
theorem mGet_put {α : Type} {l : List (List UInt8 × α)} {k : List UInt8} {x : α} : ∀ (j : List UInt8), mGet (mPut l k x) j = if j = k then some x else mGet l j := by
  intro j
  have key : ∀ (l : List (List UInt8 × α)) (i : Nat), (mIdx j (match mIdx k l i with | some q => l.set (q.1 - i) (k, x) | none => l ++ [(k, x)]) i).map (·.2) = if j = k then some x else (mIdx j l i).map (·.2) := by
    intro l
    induction l with
    | nil =>
      intro i
      simp only [mIdx, List.nil_append]
      by_cases h : j = k
      · subst h; simp
      · rw [if_neg (fun q => h q.symm), if_neg h]
    | cons p r ih =>
      intro i
      by_cases hk : p.1 = k
      · simp only [mIdx, if_pos hk, Nat.sub_self, List.set_cons_zero]
        by_cases hj : j = k
        · subst hj; simp
        · rw [if_neg (fun q => hj q.symm), if_neg hj, if_neg (fun q => hj (q.symm.trans hk))]
      · have e := ih (i + 1)
        simp only [mIdx, if_neg hk]
        cases hq : mIdx k r (i + 1) with
        | none =>
          rw [hq] at e
          simp only [List.cons_append, mIdx] at e ⊢
          by_cases hj : p.1 = j
          · rw [if_pos hj, if_pos hj, if_neg (fun q => hk (hj.trans q))]
          · rw [if_neg hj, if_neg hj]; exact e
        | some q =>
          rw [hq] at e
          obtain ⟨g1, -⟩ := mIdx_lt hq
          simp only at e ⊢
          rw [show q.1 - i = (q.1 - (i + 1)) + 1 by omega]
          simp only [List.set_cons_succ, mIdx]
          by_cases hj : p.1 = j
          · rw [if_pos hj, if_pos hj, if_neg (fun q => hk (hj.trans q))]
          · rw [if_neg hj, if_neg hj]; exact e
  have := key l 0
  unfold mGet mPut
  exact this
end
end Go.Proofs.Xx

/-
  Strings in order, structs compared, maps counted up and emptied: rules.
-/
namespace Go.Proofs.Xx
set_option linter.unusedSectionVars false
open Go Go.Proofs
set_option linter.unusedSimpArgs false
set_option linter.unusedVariables false

/-! ### the order of strings -/
def sLt (a b : List UInt8) : Prop := Op.bytesLess a b = true
instance (a b : List UInt8) : Decidable (sLt a b) := inferInstanceAs (Decidable (_ = true))
theorem sLt_nil (a : List UInt8) : ¬ sLt a [] := by unfold sLt; cases a <;> simp [Op.bytesLess]
theorem nil_sLt (b : UInt8) (l : List UInt8) : sLt [] (b :: l) := by unfold sLt; simp [Op.bytesLess]
theorem sLt_cons {a b : UInt8} {x y : List UInt8} : sLt (a :: x) (b :: y) ↔ a < b ∨ (a = b ∧ sLt x y) := by
  unfold sLt
  simp [Op.bytesLess]
theorem sLt_irr : ∀ a : List UInt8, ¬ sLt a a
  | [] => sLt_nil _
  | a :: x => by
    rw [sLt_cons]
    rintro (h | ⟨-, h⟩)
    · exact UInt8.lt_irrefl _ h
    · exact sLt_irr x h
theorem sLt_trans : ∀ {a b c : List UInt8}, sLt a b → sLt b c → sLt a c
  | _, [], _, h, _ => absurd h (sLt_nil _)
  | _, _ :: _, [], _, h => absurd h (sLt_nil _)
  | [], _ :: _, c :: z, _, _ => nil_sLt _ _
  | a :: x, b :: y, c :: z, h1, h2 => by
    rw [sLt_cons] at h1 h2 ⊢
    rcases h1 with h1 | ⟨rfl, h1⟩ <;> rcases h2 with h2 | ⟨rfl, h2⟩
    · exact .inl (UInt8.lt_trans h1 h2)
    · exact .inl h1
    · exact .inl h2
    · exact .inr ⟨rfl, sLt_trans h1 h2⟩
theorem sLt_tri : ∀ (a b : List UInt8), sLt a b ∨ a = b ∨ sLt b a
  | [], [] => .inr (.inl rfl)
  | [], b :: y => .inl (nil_sLt _ _)
  | a :: x, [] => .inr (.inr (nil_sLt _ _))
  | a :: x, b :: y => by
    rw [sLt_cons, sLt_cons]
    rcases Nat.lt_trichotomy a.toNat b.toNat with h | h | h
    · exact .inl (.inl (UInt8.lt_iff_toNat_lt.2 h))
    · have e : a = b := UInt8.toNat_inj.1 h
      subst e
      rcases sLt_tri x y with h | h | h
      · exact .inl (.inr ⟨rfl, h⟩)
      · exact .inr (.inl (by rw [h]))
      · exact .inr (.inr (.inr ⟨rfl, h⟩))
    · exact .inr (.inr (.inl (UInt8.lt_iff_toNat_lt.2 h)))
theorem sLt_asymm {a b : List UInt8} (h : sLt a b) : ¬ sLt b a := fun q => sLt_irr a (sLt_trans h q)
def sMin (a b : List UInt8) : List UInt8 := if sLt b a then b else a
def sMax (a b : List UInt8) : List UInt8 := if sLt a b then b else a
def ordP (op : BinOp) (a b : List UInt8) : Option Prop :=
  match op with
  | .lss => some (sLt a b)
  | .geq => some (¬ sLt a b)
  | .gtr => some (sLt b a)
  | .leq => some (¬ sLt b a)
  | _ => none
theorem less_or_eq (a b : List UInt8) : (Op.bytesLess a b || eqBytes ⟨a.toArray⟩ ⟨b.toArray⟩) = !(Op.bytesLess b a) := by
  rw [eqBytes_str]
  rcases sLt_tri a b with h | h | h
  · have h2 : Op.bytesLess b a = false := by
      have := sLt_asymm h
      unfold sLt at this; simpa using this
    unfold sLt at h
    rw [h, h2]; rfl
  · subst h
    have h2 : Op.bytesLess a a = false := by
      have := sLt_irr a
      unfold sLt at this; simpa using this
    rw [h2]; simp
  · have h2 : Op.bytesLess a b = false := by
      have := sLt_asymm h
      unfold sLt at this; simpa using this
    have h3 : decide (a = b) = false := decide_eq_false fun e => sLt_irr b (by rw [e] at h; exact h)
    unfold sLt at h
    rw [h, h2, h3]; rfl
theorem ordP_bin {P : Program} {op : BinOp} {ty : TypeId} {a b : List UInt8} {p : Prop} (h : ordP op a b = some p) (v : Bool) (hv : p ↔ v = true) : aBin P op ty (str a) (str b) = some (.bool v) := by
  have key : ∀ q : Prop, ∀ d : Bool, (q ↔ d = true) → (q ↔ v = true) → d = v := fun q d h1 h2 => by
    cases d <;> cases v <;> simp_all
  unfold str
  cases op <;> simp only [ordP, Option.some.injEq] at h <;> try (cases h; done)
  all_goals (subst h)
  all_goals (simp only [aBin, List.toList_toArray, less_or_eq, Option.some.injEq, Value.bool.injEq])
  · exact key _ _ Iff.rfl hv
  · exact key _ _ (by unfold sLt; simp) hv
  · exact key _ _ (by unfold sLt; simp) hv
  · exact key _ _ (by unfold sLt; simp) hv

section
variable {P : Program} {X : Extern} {inR : Bool} {sz : Nat} {L : Ks} {h h0 : AH} {rs : List Rs} {ops : Array Oper} {os : List Oper} {o : Oper} {R : Ks → AH → Prop} {Q : KQ}
/-- Two strings in order. -/
theorem tO {L1 L2 : Ks} {op : BinOp} {x y : Operand} {ty ty2 : TypeId} {l m : List UInt8} {p : Prop} (w1 : p → KO P X sz ops os L1 h R) (w2 : ¬ p → KO P X sz ops os L2 h R) (ho : o.op = .binOp op ty x y ty2 := by exact rfl) (hg : guardA ops L.tree o.guard = some true := by exact rfl) (hx : kA L x = some (str l) := by exact rfl) (hy : kA L y = some (str m) := by exact rfl)
    (hop : ordP op l m = some p := by exact rfl) (hp1 : putK sz L o.dst (.bool true) = some L1 := by exact rfl) (hp2 : putK sz L o.dst (.bool false) = some L2 := by exact rfl) : KO P X sz ops (o :: os) L h R := by
  by_cases q : p
  · exact KO_bin ho hg hx hy (ordP_bin hop true (by simp [q])) hp1 (w1 q)
  · exact KO_bin ho hg hx hy (ordP_bin hop false (by simp [q])) hp2 (w2 q)
/-- The lesser of two strings, the greater. -/
theorem mnS {L' : Ks} {x y : Operand} {tys : Array TypeId} {a b : List UInt8} (w : KO P X sz ops os L' h R) (ho : o.op = .call { callee := .builtin .min, args := #[x, y], argTypes := tys } := by exact rfl) (hg : guardA ops L.tree o.guard = some true := by exact rfl) (hx : kA L x = some (str a) := by exact rfl) (hy : kA L y = some (str b) := by exact rfl)
    (hp : putK sz L o.dst (str (sMin a b)) = some L' := by exact rfl) : KO P X sz ops (o :: os) L h R :=
  KO_val hg (by
    rw [ho]; unfold str
    have e : (if (Op.bytesLess a b || eqBytes ⟨a.toArray⟩ ⟨b.toArray⟩) = true then (⟨a.toArray⟩ : ByteArray) else ⟨b.toArray⟩) = ⟨(sMin a b).toArray⟩ := by
      rw [less_or_eq]
      unfold sMin sLt
      by_cases hb : Op.bytesLess b a = true <;> simp [hb]
    have hx' := tree_le hx; have hy' := tree_le hy
    unfold str at hx' hy'
    simp only [aOp, evAll, hx', hy', aBuiltin, foldV, lesser, nextOf, e]) hp w
theorem mxS {L' : Ks} {x y : Operand} {tys : Array TypeId} {a b : List UInt8} (w : KO P X sz ops os L' h R) (ho : o.op = .call { callee := .builtin .max, args := #[x, y], argTypes := tys } := by exact rfl) (hg : guardA ops L.tree o.guard = some true := by exact rfl) (hx : kA L x = some (str a) := by exact rfl) (hy : kA L y = some (str b) := by exact rfl)
    (hp : putK sz L o.dst (str (sMax a b)) = some L' := by exact rfl) : KO P X sz ops (o :: os) L h R :=
  KO_val hg (by
    rw [ho]; unfold str
    have e : (if (!Op.bytesLess a b) = true then (⟨a.toArray⟩ : ByteArray) else ⟨b.toArray⟩) = ⟨(sMax a b).toArray⟩ := by
      unfold sMax sLt
      by_cases hb : Op.bytesLess a b = true <;> simp [hb]
    have hx' := tree_le hx; have hy' := tree_le hy
    unfold str at hx' hy'
    simp only [aOp, evAll, hx', hy', aBuiltin, foldV, greater, nextOf, e]) hp w
end
end Go.Proofs.Xx

/-
  What holds behind statements; pointers to blocks; strings put together: rules.
-/
namespace Go.Proofs.Xx
set_option linter.unusedSectionVars false
open Go Go.Proofs
set_option linter.unusedSimpArgs false
set_option linter.unusedVariables false
set_option maxRecDepth 100000

section
variable {P : Program} {X : Extern} {inR : Bool} {sz : Nat} {L : Ks} {h h0 : AH} {rs : List Rs} {ops : Array Oper} {os : List Oper} {o : Oper} {R : Ks → AH → Prop} {Q : KQ}
/-- What holds behind this statement and the next one. -/
theorem K_join {σ : Type} {a b c : Code} (I : σ → AH → Prop) (sl : σ → Ks) (w1 : K P X inR sz a L h (thenK P X inR sz b (cutB I sl Q))) (w2 : ∀ s h', I s h' → K P X inR sz c (sl s) h' Q) : K P X inR sz a L h (thenK P X inR sz b (thenK P X inR sz c Q)) := by
  have key : ∀ x L' h', cutB I sl Q x L' h' → thenK P X inR sz c Q x L' h' := fun x L' h' q => by
    cases x with
    | norm => obtain ⟨s, q1, q2⟩ := q; exact (w2 s h' q1).le q2
    | exit id => exact q
    | ret => exact q
  refine w1.mono fun x L' h' q => ?_
  cases x with
  | norm => exact K.mono q key
  | exit id => exact q
  | ret => exact q
/-- The same behind this statement alone. -/
theorem K_join1 {σ : Type} {a c : Code} (I : σ → AH → Prop) (sl : σ → Ks) (w1 : K P X inR sz a L h (cutB I sl Q)) (w2 : ∀ s h', I s h' → K P X inR sz c (sl s) h' Q) : K P X inR sz a L h (thenK P X inR sz c Q) :=
  w1.mono fun x L' h' q => by
    cases x with
    | norm => obtain ⟨s, q1, q2⟩ := q; exact (w2 s h' q1).le q2
    | exit id => exact q
    | ret => exact q
end
theorem Sep.perm {lo : Nat} {h : AH} {rs rs' : List Rs} (p : rs.Perm rs') : ∀ {U : Fp}, Sep lo h rs U → Sep lo h rs' U := by
  induction p with
  | nil => intro U k; exact k
  | cons x p ih => intro U ⟨fp, h1, h2, h3⟩; exact ⟨fp, h1, h2, ih h3⟩
  | swap x y l =>
    intro U ⟨fy, h1, h2, fx, g1, g2, g3⟩
    exact ⟨fx, g1, fun b hb => ⟨(g2 b hb).1, (g2 b hb).2.1, (g2 b hb).2.2.1⟩, fy, h1, fun b hb => ⟨(h2 b hb).1, (h2 b hb).2.1, (h2 b hb).2.2, fun q => (g2 b q).2.2.2 hb⟩, g3.mono fun b hb => ⟨⟨hb.1.1, hb.2⟩, hb.1.2⟩⟩
  | trans p q ih1 ih2 => intro U k; exact ih2 (ih1 k)
theorem Hs.perm {h0 h : AH} {rs rs' : List Rs} (S : Hs h0 h rs) (p : rs.Perm rs') : Hs h0 h rs' := ⟨S.ext, S.sep.perm p⟩
/-- A slice's value. -/
structure SlV where
  p : Option Addr
  n : Nat
  c : Nat
abbrev SlV.val (s : SlV) : Value := .slice s.p s.n s.c
theorem Rd.isSl {h : AH} {v : Value} {z n : Nat} {c : List Value} (r : Rd h v z n c) : ∃ s : SlV, v = s.val := by
  rcases r with ⟨rfl, -, -⟩ | ⟨b, o, cap, cc, e, s, q, rfl, -, -⟩
  · exact ⟨⟨none, 0, 0⟩, rfl⟩
  · exact ⟨⟨some ⟨b, o, none⟩, n, cap⟩, rfl⟩
theorem Hs.nilS {h0 h : AH} {rs : List Rs} {α : Type} {e : TypeId} {z : Nat} {enc : α → List Value} (S : Hs h0 h rs) : Hs h0 h (.sl (.slice none 0 0) e z enc [] :: rs) :=
  S.grow (fp := fun _ => False) (Ext.refl S.wf) (.inl ⟨rfl, rfl⟩) fun b hb => hb.elim
theorem Hs.anyS {h0 h : AH} {rs : List Rs} {p : AH → Fp → Prop} (S : Hs h0 h rs) (k : ∀ h', p h' fun _ => False) : Hs h0 h (.any p :: rs) :=
  S.grow (fp := fun _ => False) (Ext.refl S.wf) (fun h' _ => k h') fun b hb => hb.elim
theorem Hs.anyP {h0 h : AH} {rs : List Rs} {p : AH → Fp → Prop} (S : Hs h0 h rs) (a : At rs (.any p)) : ∃ fp, p h fp := by
  obtain ⟨fp, k, -⟩ := a.ok S.sep
  exact ⟨fp, k h fun _ _ => rfl⟩
theorem Hs.capS {h0 h : AH} {rs : List Rs} {v : Value} {α : Type} {e : TypeId} {z : Nat} {enc : α → List Value} {l : List α} (S : Hs h0 h rs) (a : At rs (.sl v e z enc l)) : CapOk v := by
  obtain ⟨fp, k, -⟩ := a.ok S.sep
  rcases k with ⟨rfl, -⟩ | ⟨b, o, cc, slk, cap, rfl, -, -, -, h, -⟩
  · exact Nat.le_refl _
  · exact h.1
theorem Hs.conv {h0 h : AH} {rs : List Rs} {r r' : Rs} (S : Hs h0 h (r :: rs)) (k : ∀ fp, r.ok h fp → r'.ok h fp) : Hs h0 h (r' :: rs) := by
  obtain ⟨fp, k1, k2⟩ := S.sep
  exact ⟨S.ext, fp, k fp k1, k2⟩
theorem gA1 {α : Type} {l m : List α} {j : Nat} {d : α} (h : j < l.length) : (l ++ m).getD j d = l.getD j d := by simp [List.getD, List.getElem?_append_left h]
theorem gA2 {α : Type} {l m : List α} {j : Nat} {d : α} (h : l.length ≤ j) : (l ++ m).getD j d = m.getD (j - l.length) d := by simp [List.getD, List.getElem?_append_right h]
theorem Hs.slRd {h0 h : AH} {rs : List Rs} {α : Type} {v : Value} {e : TypeId} {z : Nat} {enc : α → List Value} {l : List α} (S : Hs h0 h (.sl v e z enc l :: rs)) : Hs h0 h (.rd v z enc l :: rs) := S.conv fun fp k => by
  rcases k with k | ⟨b, o, cc, slk, cap, h1, h2, h3, h4, -⟩
  · exact .inl k
  · exact .inr ⟨b, o, _, cc, e, slk, false, h1, h2, h3, h4⟩
theorem Hs.sV {h0 h : AH} {rs : List Rs} (S : Hs h0 h rs) (v : Value) {α : Type} {z : Nat} {enc : α → List Value} {l : List α} [i : HasR rs v α z enc l] : ∃ s : SlV, v = s.val := (i.rd S).isSl
end Go.Proofs.Xx

/-
  Bytes counted and looked for in strings: the library's CountString and IndexByteString, known.
-/
namespace Go.Proofs.Xx
set_option linter.unusedSectionVars false
open Go Go.RowKit
set_option linter.unusedSimpArgs false
set_option linter.unusedVariables false

/-- Where a byte stands first. -/
def fstIx (c : UInt8) : List UInt8 → Option Nat
  | [] => none
  | x :: s => if x = c then some 0 else (fstIx c s).map (· + 1)
def fstI (c : UInt8) (s : List UInt8) : Int := match fstIx c s with | some i => i | none => -1
def cntB (c : UInt8) (s : List UInt8) : Nat := s.countP (· == c)
theorem fstIx_lib (c : UInt8) : ∀ s : List UInt8, (fstIx c s = none ∧ Lib.indexByte s c = -1) ∨ ∃ i : Nat, fstIx c s = some i ∧ Lib.indexByte s c = i
  | [] => .inl ⟨rfl, rfl⟩
  | x :: s => by
    unfold fstIx Lib.indexByte
    by_cases e : x = c
    · rw [if_pos e, if_pos (by simpa using e)]
      exact .inr ⟨0, rfl, rfl⟩
    · rw [if_neg e, if_neg (by simpa using e)]
      rcases fstIx_lib c s with ⟨h1, h2⟩ | ⟨i, h1, h2⟩
      · rw [h1, h2]; exact .inl ⟨rfl, rfl⟩
      · rw [h1, h2]
        refine .inr ⟨i + 1, rfl, ?_⟩
        rw [if_neg (by intro q; have := eq_of_beq q; omega)]
        rfl
theorem fstI_lib (c : UInt8) (s : List UInt8) : Lib.indexByte s c = fstI c s := by
  unfold fstI
  rcases fstIx_lib c s with ⟨h1, h2⟩ | ⟨i, h1, h2⟩
  · rw [h1, h2]
  · rw [h1, h2]
/-- What X tells, and how many bytes of a kind a string has (function number cnt), where the first one stands (ix). -/
def withBytes (X : Extern) (cnt ix : Nat) : Extern := fun g args h => match Nat.beq g cnt, Nat.beq g ix, args with
  | true, _, [.string s, .int .u8 c] => some (.int .i64 (cntB c.toNat.toUInt8 s.data.toList : Nat), h)
  | _, true, [.string s, .int .u8 c] => some (.int .i64 (fstI c.toNat.toUInt8 s.data.toList), h)
  | _, _, _ => X g args h
theorem withBytes_ok [Glob] {P : Program} {X : Extern} (hX : XOk P X) {cnt ix : Nat} {f1 f2 : Func} (h1 : P.funcs[cnt]? = some f1) (h2 : P.funcs[ix]? = some f2) (n1 : (f1.name == "runtime.NumGoroutine") = false) (n2 : (f2.name == "runtime.NumGoroutine") = false)
    (b1 : f1.body.isNone = true) (b2 : f2.body.isNone = true) (m1 : Extern.findNext f1 = none) (m2 : Extern.findNext f2 = none) (e1 : Extern.find f1 = some Extern.BytealgCount.count) (e2 : Extern.find f2 = some Extern.BytealgIndexByte.indexByte) : XOk P (withBytes X cnt ix) := by
  intro f args h v h' hx B e w args' r hargs
  unfold withBytes at hx
  split at hx
  · rename_i s c hf
    cases hx
    have := Nat.eq_of_beq_eq_true hf
    subst this
    obtain ⟨x', r', rfl, hx', hr'⟩ := hargs.cons_inv
    obtain ⟨y', r2, rfl, hy', hr2⟩ := hr'.cons_inv
    have := hr2.nil_inv; subst this
    cases hx'; cases hy'
    refine ⟨e, _, w, r, Turn.refl _ _ _, .int _ _, .inl ?_⟩
    rw [run_callFunc_extern h1 n1 b1 m1 e1, Lib.run_countString]
    rfl
  · rename_i s c hg hf
    cases hx
    have := Nat.eq_of_beq_eq_true hg
    subst this
    obtain ⟨x', r', rfl, hx', hr'⟩ := hargs.cons_inv
    obtain ⟨y', r2, rfl, hy', hr2⟩ := hr'.cons_inv
    have := hr2.nil_inv; subst this
    cases hx'; cases hy'
    refine ⟨e, _, w, r, Turn.refl _ _ _, .int _ _, .inl ?_⟩
    rw [run_callFunc_extern h2 n2 b2 m2 e2, Lib.run_indexByteString, fstI_lib]
    rfl
  · exact hX _ _ _ _ _ hx B e w args' r hargs
end Go.Proofs.Xx

/-
  Known functions: strings compared, slices that lie apart.
-/
namespace Go.Proofs.Xx
set_option linter.unusedSectionVars false
open Go Go.RowKit
set_option linter.unusedSimpArgs false
set_option linter.unusedVariables false

/-- What X tells, and how two strings compare (function number n). -/
def withCmp (X : Extern) (n : Nat) : Extern := fun g args h => match Nat.beq g n, args with
  | true, [.string a, .string b] => some (.int .i64 (Lib.compareBytes a.data.toList b.data.toList), h)
  | _, _ => X g args h
theorem withCmp_ok [Glob] {P : Program} {X : Extern} (hX : XOk P X) {n : Nat} {f1 : Func} (h1 : P.funcs[n]? = some f1) (n1 : (f1.name == "runtime.NumGoroutine") = false) (b1 : f1.body.isNone = true) (m1 : Extern.findNext f1 = none) (e1 : Extern.find f1 = some Extern.BytealgCompare.compare) : XOk P (withCmp X n) := by
  intro f args h v h' hx B e w args' r hargs
  unfold withCmp at hx
  split at hx
  · rename_i s c hf
    cases hx
    have := Nat.eq_of_beq_eq_true hf
    subst this
    obtain ⟨x', r', rfl, hx', hr'⟩ := hargs.cons_inv
    obtain ⟨y', r2, rfl, hy', hr2⟩ := hr'.cons_inv
    have := hr2.nil_inv; subst this
    cases hx'; cases hy'
    refine ⟨e, _, w, r, Turn.refl _ _ _, .int _ _, .inl ?_⟩
    rw [run_callFunc_extern h1 n1 b1 m1 e1, Lib.run_compareString]
    rfl
  · exact hX _ _ _ _ _ hx B e w args' r hargs

/-- Do two slices lie apart, as far as the abstract memory tells? -/
def apartA (x y : Value) (h : AH) : Bool :=
  match x, y with
  | .slice _ 0 _, .slice _ _ _ => true
  | .slice _ _ _, .slice _ 0 _ => true
  | .slice (some ⟨b, _, none⟩) _ _, .slice (some ⟨b', _, none⟩) _ _ => match Nat.beq b b', h.get b, h.get b' with
    | false, some (.cells _ _ _ false), some (.cells (_ :: _) _ _ false) => true
    | _, _, _ => false
  | _, _ => false
/-- What X tells, and that slices that lie apart do not overlap (function number n). -/
def withOvl (X : Extern) (n : Nat) : Extern := fun g args h => match Nat.beq g n, args with
  | true, [x, y] => match apartA x y h with
    | true => some (.bool false, h)
    | false => none
  | _, _ => X g args h
theorem run_overlaps_none {P : Program} (w : World) (tS tR e : TypeId) (ht : P.underlying tS = some (.slice e)) (size : Nat) (hz : ∀ w, (Go.sizeOf e).run P w = .ok size w) (a b : Option Addr) (la ca lb cb : Nat) (h0 : la = 0 ∨ lb = 0) :
    (Extern.SlicesOverlaps.overlaps #[tS, tS] #[tR] #[.slice a la ca, .slice b lb cb]).run P w = .ok (.bool false) w := by
  change Sem.run P (α := Value) (do
    let some t := (#[tS, tS] : Array TypeId)[0]? | stuck "slices.overlaps: no parameter types"
    let .slice elem ← underlying t | stuck "slices.overlaps: slice type expected"
    let size ← sizeOf elem
    match a, b with
    | some a, some b =>
      if la = 0 ∨ lb = 0 ∨ size = 0 then pure (Value.bool false)
      else if a.block != b.block && (← frozen a) && (← frozen b) then unsupported .addressObserved
      else do
        if a.block != b.block then do
          noView a; noView b
          if ← mayBeOne a b then return Value.bool ((← choose (.extern "sameAddr.stringBytes" 2)) == 1)
        pure (Value.bool (a.block == b.block && a.off < b.off + lb * size && b.off < a.off + la * size))
    | _, _ => pure (Value.bool false)) w = _
  have h1 : la = 0 ∨ lb = 0 ∨ size = 0 := by rcases h0 with h | h; exact .inl h; exact .inr (.inl h)
  cases a with
  | none => simp [run_underlying ht, hz]
  | some a => cases b with
    | none => simp [run_underlying ht, hz]
    | some b => simp [run_underlying ht, hz, h1]
theorem withOvl_ok [Glob] {P : Program} {X : Extern} (hX : XOk P X) {n : Nat} {f1 : Func} {tS tR el : TypeId} {size : Nat} (h1 : P.funcs[n]? = some f1) (n1 : (f1.name == "runtime.NumGoroutine") = false) (b1 : f1.body.isNone = true) (m1 : Extern.findNext f1 = none)
    (e1 : Extern.find f1 = some (Extern.SlicesOverlaps.overlaps #[tS, tS] #[tR])) (ht : P.underlying tS = some (.slice el)) (hz : ∀ w, (Go.sizeOf el).run P w = .ok size w) : XOk P (withOvl X n) := by
  intro f args h v h' hx B e w args' r hargs
  unfold withOvl at hx
  split at hx
  · rename_i x y hf
    split at hx
    rotate_left
    · cases hx
    rename_i hap
    cases hx
    have := Nat.eq_of_beq_eq_true hf
    subst this
    obtain ⟨x', r', rfl, hx', hr'⟩ := hargs.cons_inv
    obtain ⟨y', r2, rfl, hy', hr2⟩ := hr'.cons_inv
    have := hr2.nil_inv; subst this
    have key : (Extern.SlicesOverlaps.overlaps #[tS, tS] #[tR] #[x', y']).run P w = .ok (.bool false) w := by
      unfold apartA at hap
      split at hap
      · cases hx' <;> cases hy' <;> exact run_overlaps_none w tS tR el ht size hz _ _ _ _ _ _ (.inl rfl)
      · cases hx' <;> cases hy' <;> exact run_overlaps_none w tS tR el ht size hz _ _ _ _ _ _ (.inr rfl)
      · rename_i b o la ca b' o' lb cb q1 q2
        split at hap
        · rename_i c1 t1 s1 x0 c2 t2 s2 hne hb1 hb2
          cases hx' with
          | slice _ _ a _ _ L hL hl ho =>
          cases hy' with
          | slice _ _ a' _ _ L' hL' hl' ho' =>
          have hla : la ≠ 0 := fun q => q1 q
          have hlb : lb ≠ 0 := fun q => q2 q
          obtain rfl : a = ⟨L.blk, L.sh + o, none⟩ := by rcases ho with ho | ho; exact ho; omega
          obtain rfl : a' = ⟨L'.blk, L'.sh + o', none⟩ := by rcases ho' with ho | ho; exact ho; omega
          have o1 := r.obj _ _ _ hL hb1
          have o2 := r.obj _ _ _ hL' hb2
          obtain ⟨cc, fr, g1, g2, g3, g4, g5, g6⟩ := o1
          obtain ⟨cc', fr', k1, k2, k3, k4, k5, k6⟩ := o2
          have hblk : L.blk ≠ L'.blk := fun q => by
            have := r.inj _ _ _ _ _ _ hL hb1 hL' hb2 q rfl rfl
            subst this; simp at hne
          refine Lib.run_overlaps_apart w tS tR el ht size hz _ _ la _ lb _ hblk t1 t2 cc.size cc'.size ?_ ?_ ?_ ?_ ?_
          · simp only [World.shape?, g1]
          · simp only [World.shape?, k1]
          · simp at k2; omega
          · have := g6 rfl (L.sh + o)
            unfold World.frozen?
            simp only [g1]
            simp only [Bool.and_eq_false_iff, decide_eq_false_iff_not]
            omega
          · have := g6 rfl cc.size
            unfold World.frozen?
            simp only [g1]
            simp only [Bool.and_eq_false_iff, decide_eq_false_iff_not]
            omega
        · cases hap
      · cases hap
    refine ⟨e, _, w, r, Turn.refl _ _ _, .bool _, .inl ?_⟩
    rw [run_callFunc_extern h1 n1 b1 m1 e1, key]
    rfl
  · exact hX _ _ _ _ _ hx B e w args' r hargs
end Go.Proofs.Xx

/-
  The book's program: what is known of its functions that are not run: strings compared and searched, slices that lie apart, numbers of digits.
-/
namespace Go.Proofs.Xx
set_option linter.unusedSectionVars false
set_option linter.unusedSimpArgs false
open Go Go.RowKit Go.Shelf
set_option linter.unusedVariables false
set_option maxRecDepth 100000

/-- Is the table of powers there? -/
class Flag where
  b : Bool
instance flagOn : Flag := ⟨true⟩

def renD : Ren where
  f x := match x with | 129 => 89 | 284 => 218 | 317 => 240 | 318 => 241 | x => x
  t x := match x with | 0 => 0 | 3 => 3 | 4 => 4 | 5 => 5 | 9 => 9 | 46 => 98 | 53 => 147 | 212 => 254 | x => x
  g x := match x with | 17 => 1 | x => x
theorem laysD : LaysM.n284 Tryz.prog renD where
  mixed := by kernel_rfl
  f129 := by kernel_rfl
  f284 := by kernel_rfl
  f317 := by kernel_rfl
  f318 := by kernel_rfl
  t0 := by kernel_rfl
  a0 := fun w => by rfl
  z0 := fun w => by rfl
  v0 := fun w => by rfl
  t3 := by kernel_rfl
  a3 := fun w => by rfl
  z3 := fun w => by rfl
  v3 := fun w => by rfl
  t4 := by kernel_rfl
  a4 := fun w => by rfl
  z4 := fun w => by rfl
  v4 := fun w => by rfl
  t5 := by kernel_rfl
  a5 := fun w => by rfl
  z5 := fun w => by rfl
  v5 := fun w => by rfl
  t9 := by kernel_rfl
  a9 := fun w => by rfl
  z9 := fun w => by rfl
  v9 := fun w => by rfl
  t46 := by kernel_rfl
  a46 := fun w => by rfl
  z46 := fun w => by rfl
  v46 := fun w => by rfl
  t53 := by kernel_rfl
  a53 := fun w => by rfl
  z53 := fun w => by rfl
  v53 := fun w => by rfl
  t212 := by kernel_rfl
  a212 := fun w => by rfl
  z212 := fun w => by rfl
  v212 := fun w => by rfl
  g17 := by kernel_rfl
  i0 := by kernel_rfl
  i3 := by kernel_rfl
  i4 := by kernel_rfl
  i5 := by kernel_rfl
  i9 := by kernel_rfl
  i46 := by kernel_rfl
  i53 := by kernel_rfl
  i212 := by kernel_rfl
  m17 := by kernel_rfl

/-- What lies below every block that is written: a number (the longest needle of a quick search), and the table of powers, where the flag says so. -/
instance globBook [Flag] : Glob := ⟨fun lo ref => 1 < lo ∧ (∃ m el fr, ref[0]? = some (.cells #[.int .i64 m] el fr)) ∧ (Flag.b = true → ∃ el fr, ref[1]? = some (.cells (Lib.pow10Tab.map fun z => Value.int .u64 z).toArray el fr))⟩
theorem gPow : Tryz.prog.globalNamed "internal/strconv.uint64pow10" = some 1 := by kernel_rfl
theorem glob_max [Flag] {B : Bs} {e : Emb} {h : AH} {w : World} (r : Rel B e h w) : ∃ m, w.cell? ⟨0, 0, none⟩ = some (.int .i64 m) := by
  obtain ⟨h1, ⟨m, el, fr, h2⟩, -⟩ := r.glob
  have h3 := (r.keep 0 (by omega)).trans h2
  refine ⟨m, ?_⟩
  unfold World.cell?
  simp only [h3]; rfl
theorem glob_tab [Flag] {B : Bs} {e : Emb} {h : AH} {w : World} (r : Rel B e h w) (hf : Flag.b = true) : Lib.TabIs Tryz.prog w "internal/strconv.uint64pow10" .u64 Lib.pow10Tab := by
  obtain ⟨h1, -, h2⟩ := r.glob
  obtain ⟨el, fr, h2⟩ := h2 hf
  have h3 := (r.keep 1 (by omega)).trans h2
  unfold Lib.TabIs World.var?
  rw [gPow]
  simp only [Option.bind_some, h3]
/-- What X tells, and the library's number of digits, as function number f, where the table is there. -/
def withDigits [Flag] (X : Extern) (f : FuncId) : Extern := fun g args h => match Nat.beq g f, args with
  | true, [.int .u64 u] => if Flag.b = true ∧ 1 ≤ u ∧ u < 18446744073709551616 then some (.int .i64 (Lib.nDigits u.toNat), h) else none
  | _, _ => X g args h
theorem withDigits_ok [Flag] {X : Extern} (hX : XOk Tryz.prog X) : XOk Tryz.prog (withDigits X 218) := by
  intro g args h u h1 hx B e w args' r hargs
  unfold withDigits at hx
  split at hx
  · rename_i z hg
    have := Nat.eq_of_beq_eq_true hg
    subst this
    split at hx
    rotate_left
    · cases hx
    rename_i hz
    cases hx
    obtain ⟨x', r', rfl, hx', hr'⟩ := hargs.cons_inv
    have := hr'.nil_inv; subst this
    cases hx'
    refine ⟨e, .int .i64 (Lib.nDigits z.toNat), w, r, Turn.refl _ _ _, .int _ _, .inr ⟨?_, fun c cs => ?_⟩⟩
    · exact Go.Proofs.enters_of laysD.f284 (by kernel_rfl) rfl _ _
    · have hc := Any.internal_strconv_numDigits laysD z.toNat (by omega) (by omega) w (glob_tab r hz.1) (c :: cs)
      rw [show ((z.toNat : Nat) : Int) = z by omega] at hc
      obtain ⟨en, w', fr, ⟨rfl, rfl⟩, hco, -, hl⟩ := hc
      exact Steps.trans hco (.one (step_leave_returned hl))
  · exact hX _ _ _ _ _ hx B e w args' r hargs
theorem noEscape_ok [Flag] : XOk Tryz.prog (externNoEscape 164) :=
  externNoEscape_ok Tryz.func164 (by kernel_rfl) (by kernel_rfl) (by kernel_rfl) (by kernel_rfl)
theorem noNumG (f : FuncId) (fn : Func) (h : Tryz.prog.funcs[f]? = some fn) (hb : fn.body.isSome = true) : (fn.name == "runtime.NumGoroutine") = false := by
  have h0 : Tryz.prog.funcs.all (fun fn => !(fn.name == "runtime.NumGoroutine")) = true := by kernel_rfl
  have := Array.all_eq_true_iff_forall_mem.1 h0 fn (Array.mem_of_getElem? h)
  simpa using this
theorem follows : Tryz.prog.follows .mixedOrders = true := by kernel_rfl
/-- What is known without the table. -/
def X0 : Extern := withOvl (withCmp (externNoEscape 164) 244) 227
theorem X0_ok [Flag] : XOk Tryz.prog X0 :=
  withOvl_ok (tS := 29) (tR := 4) (el := 152) (size := 3) (withCmp_ok noEscape_ok
    Tryz.func244 (by kernel_rfl) (by kernel_rfl) (by kernel_rfl) (by kernel_rfl)) Tryz.func227 (by kernel_rfl) (by kernel_rfl) (by kernel_rfl) (by rfl) (by kernel_rfl) (fun w => by rfl)
end Go.Proofs.Xx

/-
  slices.Insert of one tie into a list of ties, ahead of its end: with room and without, at the machine. The walks follow those of the kit's shelf at lists of strings.
-/
namespace Go.Proofs.Xx
set_option linter.unusedSectionVars false
open Go Go.RowKit Go.Lib Go.Proofs
set_option linter.unusedVariables false
set_option linter.unusedSimpArgs false

section
variable {P : Program}
theorem wp_copyI (w : World) {o : Oper} {a : Act} {K : Act → World → Prop} {Q : Exit → Act → World → Prop} (d s : Operand) (t t' : TypeId)
    (ho : o.op = .call { callee := .builtin .copy, args := #[d, s], argTypes := #[t, t'] }) (v u : Value) (hd : a.eval d = v) (hs : a.eval s = u) {v' : Value} {w' : World}
    (hr : (Builtin.copy_ #[t, t'] o.type #[v, u]).run P w = .ok v' w') (h : K (a.put o.dst v') w') : o.wp P a w K Q := by
  unfold Oper.wp execOp
  simp only [ho, resolve, invoke, builtin, Sem.run_bind, Sem.run_pure, Result.andThen_ok, List.map_toArray, List.map_cons, List.map_nil, hd, hs, hr]
  exact h
theorem wpList_copyI (w : World) {ops : Array Oper} {rest : List Oper} {o : Oper} {a : Act} {Q : Exit → Act → World → Prop} (hgd : o.guard = none) (d s : Operand) (t t' : TypeId)
    (ho : o.op = .call { callee := .builtin .copy, args := #[d, s], argTypes := #[t, t'] }) (v u : Value) (hd : a.eval d = v) (hs : a.eval s = u) {v' : Value} {w' : World}
    (hr : (Builtin.copy_ #[t, t'] o.type #[v, u]).run P w = .ok v' w') (h : wpList P ops Q rest (a.put o.dst v') w') : wpList P ops Q (o :: rest) a w :=
  wpList_plain hgd fun _ hK => wp_copyI w d s t t' ho v u hd hs hr (hK _ _ h)
theorem step_copyI {ops : Array Oper} {o : Oper} {a : Act} {w : World} {K : Act → World → Prop} {Q : Exit → Act → World → Prop} {E : Prop}
    (hg : o.guard = none) (d x : Operand) (dT sT : TypeId) (hop : o.op = Op.call { callee := Callee.builtin Builtin.copy, args := #[d, x], argTypes := #[dT, sT] })
    (v u : Value) (hd : a.eval d = v) (hx : a.eval x = u) {v' : Value} {w' : World} (hr : (Builtin.copy_ #[dT, sT] o.type #[v, u]).run P w = .ok v' w') (hK : K (a.put o.dst v') w') :
    if Region.wanted o (yielded ops a.tmps) = true then Oper.wp P o a w K Q else E := by
  have hw : Region.wanted o (yielded ops a.tmps) = true := by simp [Region.wanted, hg]
  rw [if_pos hw]
  unfold Oper.wp
  simp [execOp, hop, resolve, invoke, builtin, hd, hx, hr, Result.andThen]
  exact hK
theorem isSome_setCells (b : Nat) (vs : List Value) (o : Nat) (w : World) (h : ∀ j, j < vs.length → (w.cell? ⟨b, o + j, none⟩).isSome = true) (k : Nat) (hk : (w.cell? ⟨b, k, none⟩).isSome = true) : ((w.setCells b o vs).cell? ⟨b, k, none⟩).isSome = true := by
  by_cases hin : o ≤ k ∧ k < o + vs.length
  · have := World.cell?_setCells_in b vs o w h (k - o) (by omega)
    rw [show o + (k - o) = k by omega] at this
    rw [this]; rfl
  · rw [World.cell?_setCells_out b vs o w ⟨b, k, none⟩ (fun _ _ => by show k < o ∨ o + vs.length ≤ k; omega)]
    exact hk
theorem run_copy_many (w : World) (dT sT ty elem : TypeId) (z b o dLen dCap : Nat) (a : Addr) (sLen sCap : Nat) (cs : List Value)
    (hu : P.underlying dT = some (.slice elem)) (hs : (P.info? elem).map (·.size) = some z) (hn : cs.length = Nat.min sLen dLen * z)
    (hsrc : ∀ j v, cs[j]? = some v → w.cell? (a.add j) = some v) (hc : ∀ j, j < cs.length → (w.cell? ⟨b, o + j, none⟩).isSome = true) (hf : ∀ j, j < cs.length → w.frozen? ⟨b, o + j, none⟩ = false) (h1 : ∀ v ∈ cs, v.oneCell' = true) :
    (Builtin.copy_ #[dT, sT] ty #[.slice (some ⟨b, o, none⟩) dLen dCap, .slice (some a) sLen sCap]).run P w = .ok (goInt (Nat.min sLen dLen)) (w.setCells b o cs) := by
  have hl := run_loadCells_list (P := P) w a cs hsrc
  have hst := run_storeCells_cells (P := P) b o cs 0 w (by simpa using hc) (by simpa using hf) h1
  cases hq : P.info? elem with
  | none => simp [hq] at hs
  | some i =>
    have hi : i.size = z := by simpa [hq] using hs
    simp [Builtin.copy_, run_underlying hu, Builtin.lenOf, Builtin.firstCells, sizeOf, typeInfo, hq, hi, ← hn, hl, hst]
end

set_option maxHeartbeats 4000000 in
set_option maxRecDepth 100000 in
/-- There is room: in place. -/
theorem insert_shift (b off n c i vb voff vc : Nat) (cs vs : List Value) (w : World) (hi : i < n) (hroom : n + 1 ≤ c) (hn63 : n ≤ 140737488355328) (hvb : vb ≠ b)
    (hcl : cs.length = 3 * n) (hvl : vs.length = 3)
    (hcs : ∀ j v, cs[j]? = some v → w.cell? ⟨b, off + j, none⟩ = some v) (hsp : ∀ j, j < 3 * (n + 1) → (w.cell? ⟨b, off + j, none⟩).isSome = true) (hfz : ∀ j, j < 3 * (n + 1) → w.frozen? ⟨b, off + j, none⟩ = false)
    (hvs : ∀ j v, vs[j]? = some v → w.cell? ⟨vb, voff + j, none⟩ = some v) (h1c : ∀ v ∈ cs, v.oneCell' = true) (h1v : ∀ v ∈ vs, v.oneCell' = true)
    (tA tB : TypeId) (kA kB : Nat) (hsa : w.shape? vb = some (tA, kA)) (hsb : w.shape? b = some (tB, kB)) (hkB : kB ≠ 0) (hfa : w.frozen? ⟨vb, voff, none⟩ = false) (hfe : w.frozen? ⟨vb, kA, none⟩ = false) :
    Calls Tryz.prog 191 #[.slice (some ⟨b, off, none⟩) n c, .int .i64 i, .slice (some ⟨vb, voff, none⟩) 1 vc] w fun e w' =>
      e = .returned (.slice (some ⟨b, off, none⟩) (n + 1) c) ∧ w' = (w.drew.setCells b (off + (i + 1) * 3) (cs.drop (i * 3))).setCells b (off + i * 3) vs := by
  have u30 := Tryz.underlying29
  have mixed := follows
  have hz1 : ¬ ((1 : Int) = 0) := by omega
  have hz2 : ¬ ((i : Int) = (n : Int)) := by omega
  have hsz : (Tryz.prog.info? 152).map (·.size) = some 3 := by kernel_rfl
  have hov : ∀ lb cb, (callFunc 227 #[.slice (some ⟨vb, voff, none⟩) 1 vc, .slice (some ⟨b, off + (i + 1) * 3, none⟩) lb cb]).run Tryz.prog w = .ok (.value (.bool false)) w := fun lb cb => by
    rw [run_callFunc_extern Tryz.func227 (by kernel_rfl) (by kernel_rfl) (by kernel_rfl) (e := Extern.SlicesOverlaps.overlaps #[29, 29] #[4]) (by rfl),
      Lib.run_overlaps_apart w 29 4 152 u30 3 (fun w => by rfl) ⟨vb, voff, none⟩ ⟨b, off + (i + 1) * 3, none⟩ 1 vc lb cb hvb tA tB kA kB hsa hsb hkB hfa hfe]
    rfl
  have hdl : (cs.drop (i * 3)).length = (n - i) * 3 := by rw [List.length_drop, hcl]; omega
  have hw1 : IntKind.i64.wrap ((i : Int) + 1) = (i : Int) + 1 := by rw [IntKind.wrap_i64]; omega
  have hw2 : IntKind.i64.wrap ((n : Int) + 1) = (n : Int) + 1 := by rw [IntKind.wrap_i64]; omega
  have hcp1 : ∀ ty dc sc, (Builtin.copy_ #[29, 29] ty #[.slice (some ⟨b, off + (i + 1) * 3, none⟩) (n - i) dc, .slice (some ⟨b, off + i * 3, none⟩) (n + 1 - i) sc]).run Tryz.prog w.drew = .ok (goInt (Nat.min (n + 1 - i) (n - i))) (w.drew.setCells b (off + (i + 1) * 3) (cs.drop (i * 3))) := fun ty dc sc =>
    run_copy_many w.drew _ _ ty 152 3 b (off + (i + 1) * 3) (n - i) dc ⟨b, off + i * 3, none⟩ (n + 1 - i) sc (cs.drop (i * 3)) u30 hsz (by rw [hdl]; simp only [Nat.min_def]; split <;> omega)
      (fun j v hj => by rw [Addr.add_lit, Nat.add_assoc]; exact hcs (i * 3 + j) v (by rwa [List.getElem?_drop] at hj))
      (fun j hj => by rw [Nat.add_assoc]; exact hsp _ (by omega)) (fun j hj => by rw [Nat.add_assoc]; exact hfz _ (by omega)) (fun v hv => h1c v (List.mem_of_mem_drop hv))
  obtain ⟨W1, hW1⟩ : ∃ W1, W1 = w.drew.setCells b (off + (i + 1) * 3) (cs.drop (i * 3)) := ⟨_, rfl⟩
  have hsp1 : ∀ k, k < 3 * (n + 1) → (W1.cell? ⟨b, off + k, none⟩).isSome = true := fun k hk => by
    rw [hW1]
    exact isSome_setCells b _ _ _ (fun j hj => by rw [Nat.add_assoc]; exact hsp _ (by omega)) _ (hsp k hk)
  have hcp2 : ∀ (W : World), (∀ x, W.cell? x = W1.cell? x) → (∀ x, W.frozen? x = W1.frozen? x) → ∀ ty dc, (Builtin.copy_ #[29, 29] ty #[.slice (some ⟨b, off + i * 3, none⟩) (n + 1 - i) dc, .slice (some ⟨vb, voff, none⟩) 1 vc]).run Tryz.prog W = .ok (goInt (Nat.min 1 (n + 1 - i))) (W.setCells b (off + i * 3) vs) := fun W hWc hWf ty dc =>
    run_copy_many W _ _ ty 152 3 b (off + i * 3) (n + 1 - i) dc ⟨vb, voff, none⟩ 1 vc vs u30 hsz (by rw [hvl]; simp only [Nat.min_def]; split <;> omega)
      (fun j v hj => by
        rw [Addr.add_lit, hWc, hW1, World.cell?_setCells_out b _ _ _ _ (fun h _ => absurd h hvb)]
        exact hvs j v hj)
      (fun j hj => by rw [hWc, Nat.add_assoc]; exact hsp1 _ (by omega)) (fun j hj => by rw [hWf, hW1, World.frozen?_setCells, Nat.add_assoc]; exact hfz _ (by omega)) h1v
  rw [← hW1] at hcp1
  have hb1 : (0 : Int) ≤ (i : Int) + 1 := by omega
  have hin : i ≤ n := by omega
  have htn : ((i : Int) + 1).toNat = i + 1 := by omega
  have hb2 : ¬ (c = i + 1) := by omega
  have hb3 : (i : Int) ≤ (n : Int) + 1 := by omega
  have hb4 : ¬ (c = i) := by omega
  go_enter Tryz.func191, Tryz.ntmps191
  go_wp2_with (simp only [hov])
  go_region_law_o (refine step_copyI rfl _ _ 29 29 rfl _ _ (by simp [Act.eval, Act.put]) (by simp [Act.eval, Act.put]) (hcp1 _ _ _) ?_)
  go_wp2_with (at_builtin; refine wpList_copyI _ rfl _ _ 29 29 rfl _ _ rfl rfl (hcp2 _ (fun _ => rfl) (fun _ => rfl) _ _) ?_)
  go_ret
  first | exact ⟨rfl, rfl⟩ | exact ⟨rfl, by rw [hW1]⟩

set_option maxHeartbeats 4000000 in
set_option maxRecDepth 100000 in
/-- There is no room: a new row. -/
theorem insert_grow (b off n c i vb voff vc : Nat) (cs vs : List Value) (w : World) (hi : i < n) (hnc : n ≤ c) (hroom : c < n + 1) (hbig : (n + 1) * 40 ≤ 140737488355328)
    (hcl : cs.length = 3 * n) (hvl : vs.length = 3)
    (hcs : ∀ j v, cs[j]? = some v → w.cell? ⟨b, off + j, none⟩ = some v)
    (hvs : ∀ j v, vs[j]? = some v → w.cell? ⟨vb, voff + j, none⟩ = some v) (h1c : ∀ v ∈ cs, v.oneCell' = true) (h1v : ∀ v ∈ vs, v.oneCell' = true) :
    Calls Tryz.prog 191 #[.slice (some ⟨b, off, none⟩) n c, .int .i64 i, .slice (some ⟨vb, voff, none⟩) 1 vc] w fun e w' =>
      e = .returned (.slice (some ⟨w.heap.size, 0, none⟩) (n + 1) (grownCap w (n + 1) c 152)) ∧
      w' = (((w.alloc (.cells ((cs.take (i * 3)).toArray ++ Builtin.zeroCells #[.string ⟨#[]⟩, .string ⟨#[]⟩, .int .u8 0] (n + 1 - i) ++ Builtin.zeroCells #[.string ⟨#[]⟩, .string ⟨#[]⟩, .int .u8 0] (grownCap w (n + 1) c 152 - (n + 1))) 152)).drew.setCells w.heap.size (i * 3) vs).drew).setCells w.heap.size ((i + 1) * 3) (cs.drop (i * 3)) := by
  have u30 := Tryz.underlying29
  have u3 := Tryz.underlying3
  obtain ⟨i0, hi0, hz0, hzs, hzb⟩ : ∃ i0 : TypeInfo, Tryz.prog.info? 152 = some i0 ∧ i0.zero = some (.agg #[.string ⟨#[]⟩, .string ⟨#[]⟩, .int .u8 0]) ∧ i0.size = 3 ∧ i0.bytes = 40 := ⟨_, rfl, rfl, rfl, rfl⟩
  have hz1 : ¬ ((1 : Int) = 0) := by omega
  have hz2 : ¬ ((i : Int) = (n : Int)) := by omega
  have hz3 : (c : Int) < (n : Int) + 1 := by omega
  have hsz : (Tryz.prog.info? 152).map (·.size) = some 3 := by rw [hi0]; simp [hzs]
  have hbw : b < w.heap.size := block_lt_of_cell (hcs 0 _ (List.getElem?_eq_getElem (by omega)))
  have hvw : vb < w.heap.size := block_lt_of_cell (hvs 0 _ (List.getElem?_eq_getElem (by omega)))
  have hkk : (n : Int) + 1 - (i : Int) = ((n + 1 - i : Nat) : Int) := by omega
  have hik : i + (n + 1 - i) = n + 1 := by omega
  have hold : (Builtin.firstCells i0.size i (.slice (some ⟨b, off, none⟩) i c)).run Tryz.prog w.drew = .ok (cs.take (i * 3)).toArray w.drew := by
    rw [hzs]
    exact run_firstCells_some w.drew 3 i ⟨b, off, none⟩ i c (cs.take (i * 3)) (by rw [List.length_take]; omega) (fun j v hj => by
      rw [Addr.add_lit]
      rw [List.getElem?_take] at hj
      split at hj
      · exact hcs j v hj
      · cases hj)
  have hrz : ∀ ty, (Builtin.append_ #[29, 3] ty #[.slice (some ⟨b, off, none⟩) i c, .int .i64 ((n : Int) + 1 - (i : Int))]).run Tryz.prog w =
      .ok (.slice (some ⟨w.heap.size, 0, none⟩) (n + 1) (grownCap w (n + 1) c 152)) (w.drew.alloc (.cells ((cs.take (i * 3)).toArray ++ Builtin.zeroCells #[.string ⟨#[]⟩, .string ⟨#[]⟩, .int .u8 0] (n + 1 - i) ++ Builtin.zeroCells #[.string ⟨#[]⟩, .string ⟨#[]⟩, .int .u8 0] (grownCap w (n + 1) c 152 - (n + 1))) 152)) := fun ty => by
    have h := Lib.run_append_grow_zeros w 29 3 ty 152 i0 _ .i64 .i64 u30 u3 hi0 hz0 (some ⟨b, off, none⟩) i c (cs.take (i * 3)) hold (n + 1 - i) (by omega) (by omega) (by omega) (by omega) (by rw [hzb]; omega) (by rw [hzb, hik]; exact growslice_fits hroom hbig)
    rw [hik] at h
    rw [hkk]
    exact h
  have mixed := follows
  obtain ⟨G, hG⟩ : ∃ G, G = grownCap w (n + 1) c 152 := ⟨_, rfl⟩
  obtain ⟨ROW, hROW⟩ : ∃ ROW : Array Value, ROW = (cs.take (i * 3)).toArray ++ Builtin.zeroCells #[.string ⟨#[]⟩, .string ⟨#[]⟩, .int .u8 0] (n + 1 - i) ++ Builtin.zeroCells #[.string ⟨#[]⟩, .string ⟨#[]⟩, .int .u8 0] (G - (n + 1)) := ⟨_, rfl⟩
  rw [← hG] at hrz ⊢
  rw [← hROW] at hrz ⊢
  have hRl : 3 * (n + 1) ≤ ROW.size := by
    rw [hROW]
    simp [Builtin.zeroCells]
    omega
  obtain ⟨W1, hW1⟩ : ∃ W1, W1 = w.drew.alloc (.cells ROW 152) := ⟨_, rfl⟩
  rw [← hW1] at hrz
  have hN : ∀ j, j < 3 * (n + 1) → (W1.cell? ⟨w.heap.size, j, none⟩).isSome = true := fun j hj => by
    rw [hW1, World.cell?_alloc_at (w := w.drew) ROW _ w.heap.size j rfl, Array.getElem?_eq_getElem (by omega)]; rfl
  have hNf : ∀ j, W1.frozen? ⟨w.heap.size, j, none⟩ = false := fun j => by rw [hW1]; exact World.frozen?_alloc_at (w := w.drew) ROW _ w.heap.size j rfl
  have hOb : ∀ j v, w.cell? ⟨b, j, none⟩ = some v → W1.cell? ⟨b, j, none⟩ = some v := fun j v h => by rw [hW1, World.cell?_alloc_past (w := w.drew) _ b j hbw]; exact h
  have hOv : ∀ j v, w.cell? ⟨vb, j, none⟩ = some v → W1.cell? ⟨vb, j, none⟩ = some v := fun j v h => by rw [hW1, World.cell?_alloc_past (w := w.drew) _ vb j hvw]; exact h
  have hcpA : ∀ (W : World), (∀ x, W.cell? x = W1.cell? x) → (∀ x, W.frozen? x = W1.frozen? x) → ∀ ty dc, (Builtin.copy_ #[29, 29] ty #[.slice (some ⟨w.heap.size, i * 3, none⟩) (n + 1 - i) dc, .slice (some ⟨vb, voff, none⟩) 1 vc]).run Tryz.prog W = .ok (goInt (Nat.min 1 (n + 1 - i))) (W.setCells w.heap.size (i * 3) vs) := fun W hWc hWf ty dc =>
    run_copy_many W _ _ ty 152 3 w.heap.size (i * 3) (n + 1 - i) dc ⟨vb, voff, none⟩ 1 vc vs u30 hsz (by rw [hvl]; simp only [Nat.min_def]; split <;> omega)
      (fun j v hj => by rw [Addr.add_lit, hWc]; exact hOv _ v (hvs j v hj))
      (fun j hj => by rw [hWc]; exact hN _ (by omega)) (fun j hj => by rw [hWf]; exact hNf _) h1v
  have hGn : n + 1 ≤ G := by rw [hG]; exact grownCap_ge w _ _ _
  have hG63 : G ≤ 9223372036854775807 := by
    have := grownCap_le_maxLen w (n + 1) c 152 (by unfold maxLen; omega)
    rw [← hG] at this
    unfold maxLen at this
    omega
  have hGi : ¬ (G = i) := by omega
  have hGim : ¬ (G = i + 1) := by omega
  have hci : ¬ (c = i) := by omega
  have hbN : b ≠ w.heap.size := by omega
  have hdl : (cs.drop (i * 3)).length = (n - i) * 3 := by rw [List.length_drop, hcl]; omega
  have hcpB : ∀ (W : World), (∀ x, W.cell? x = (W1.setCells w.heap.size (i * 3) vs).cell? x) → (∀ x, W.frozen? x = (W1.setCells w.heap.size (i * 3) vs).frozen? x) → ∀ ty dc sc, (Builtin.copy_ #[29, 29] ty #[.slice (some ⟨w.heap.size, (i + 1) * 3, none⟩) (n + 1 - (i + 1)) dc, .slice (some ⟨b, off + i * 3, none⟩) (n - i) sc]).run Tryz.prog W = .ok (goInt (Nat.min (n - i) (n + 1 - (i + 1)))) (W.setCells w.heap.size ((i + 1) * 3) (cs.drop (i * 3))) := fun W hWc hWf ty dc sc =>
    run_copy_many W _ _ ty 152 3 w.heap.size ((i + 1) * 3) (n + 1 - (i + 1)) dc ⟨b, off + i * 3, none⟩ (n - i) sc (cs.drop (i * 3)) u30 hsz (by rw [hdl]; simp only [Nat.min_def]; split <;> omega)
      (fun j v hj => by
        rw [Addr.add_lit, hWc, World.cell?_setCells_out _ _ _ _ _ (fun h _ => absurd h hbN), Nat.add_assoc]
        exact hOb _ v (hcs (i * 3 + j) v (by rwa [List.getElem?_drop] at hj)))
      (fun j hj => by rw [hWc]; exact isSome_setCells _ _ _ _ (fun t ht => hN _ (by omega)) _ (hN _ (by omega)))
      (fun j hj => by rw [hWf, World.frozen?_setCells]; exact hNf _) (fun v hv => h1c v (List.mem_of_mem_drop hv))
  subst hW1
  have hE1 : ∀ x, ((w.alloc (.cells ROW 152)).drew).cell? x = (w.drew.alloc (.cells ROW 152)).cell? x := fun x => rfl
  have hE2 : ∀ x, ((w.alloc (.cells ROW 152)).drew).frozen? x = (w.drew.alloc (.cells ROW 152)).frozen? x := fun x => rfl
  have hF1 : ∀ x, (((w.alloc (.cells ROW 152)).drew.setCells w.heap.size (i * 3) vs).drew).cell? x = ((w.drew.alloc (.cells ROW 152)).setCells w.heap.size (i * 3) vs).cell? x := fun x => rfl
  have hF2 : ∀ x, (((w.alloc (.cells ROW 152)).drew.setCells w.heap.size (i * 3) vs).drew).frozen? x = ((w.drew.alloc (.cells ROW 152)).setCells w.heap.size (i * 3) vs).frozen? x := fun x => rfl
  have hw1 : IntKind.i64.wrap ((i : Int) + 1) = (i : Int) + 1 := by rw [IntKind.wrap_i64]; omega
  have hb1 : (0 : Int) ≤ (i : Int) + 1 := by omega
  have hin : i ≤ n := by omega
  have htn : ((i : Int) + 1).toNat = i + 1 := by omega
  have hb3 : (i : Int) ≤ (n : Int) := by omega
  clear hkk hik hold hROW hG hRl hi0 hz0 hzs hzb hsz
  go_enter Tryz.func191, Tryz.ntmps191
  go_wp2_with (first
    | (at_builtin; refine Lib.wpList_append_run _ rfl _ _ _ _ rfl _ _ rfl rfl _ _ (hrz _) ?_)
    | (at_builtin; refine wpList_copyI _ rfl _ _ 29 29 rfl _ _ rfl rfl (hcpA _ hE1 hE2 _ _) ?_)
    | (at_builtin; refine wpList_copyI _ rfl _ _ 29 29 rfl _ _ rfl rfl (hcpB _ (fun _ => rfl) (fun _ => rfl) _ _ _) ?_))
  go_region_law_o (refine step_copyI rfl _ _ 29 29 rfl (.slice (some ⟨w.heap.size, (i + 1) * 3, none⟩) (n + 1 - (i + 1)) (G - (i + 1))) (.slice (some ⟨b, off + i * 3, none⟩) (n - i) (c - i)) (by simp [Act.eval, Act.put]) (by simp [Act.eval, Act.put]) (hcpB _ hF1 hF2 3 (G - (i + 1)) (c - i)) ?_)
  go_wp2
  go_ret
  exact ⟨rfl, rfl⟩
end Go.Proofs.Xx

/-
  slices.Insert of one tie, known: a new row, or the old one, which is no more looked at.
-/
namespace Go.Proofs.Xx
set_option linter.unusedSectionVars false
open Go Go.RowKit Go.Lib Go.Proofs
set_option linter.unusedVariables false
set_option linter.unusedSimpArgs false

theorem wrote_setCells {P : Program} {w : World} {b o : Nat} {cc : Array Value} {e : TypeId} {fr : Nat × Nat} {vs : List Value} (hb : w.heap[b]? = some (.cells cc e fr)) (h1 : vs.all one? = true) (hl : o + vs.length ≤ cc.size) (hfr : ∀ j, ¬ (fr.1 ≤ j ∧ j < fr.2)) :
    Wrote w (w.setCells b o vs) b (.cells (Xx.splice cc.toList o vs).toArray e fr) := by
  obtain ⟨w', q1, q2⟩ := run_storeCells_seg (P := P) (o := o) vs 0 cc w hb h1 (by omega) hfr
  rw [Nat.add_zero] at q2
  have hs := run_storeCells_cells (P := P) b o vs 0 w (fun j hj => by
      simp only [World.cell?, hb]
      simp
      omega) (fun j hj => by
      unfold World.frozen?
      simp only [hb]
      have := hfr (o + 0 + j)
      simp only [Bool.and_eq_false_iff, decide_eq_false_iff_not]
      omega) (fun v hv => by rw [← one?_eq]; exact List.all_eq_true.1 h1 v hv)
  rw [hs] at q1
  cases q1
  simpa using q2
theorem Wrote.drew {w w' : World} {k : Nat} {o : Obj} (h : Wrote w.drew w' k o) : Wrote w w' k o := ⟨h.here, h.other, h.size, h.os, h.tape, h.output⟩
theorem Pushed.wrote {w w1 w2 : World} {o o2 : Obj} (p : Pushed w w1 o) (q : Wrote w1 w2 w.heap.size o2) : Pushed w w2 o2 := by
  refine ⟨?_, q.os.trans p.os, q.tape.trans p.tape, q.output.trans p.output⟩
  apply Array.ext_getElem?
  intro j
  by_cases hj : j = w.heap.size
  · subst hj
    rw [q.here]; simp
  · rw [q.other j hj, p.heap, Array.getElem?_push, Array.getElem?_push, if_neg hj, if_neg hj]
/-- What stands in a row behind two stores: one moves the tail up, one lays the new piece. -/
theorem ins_get {cc old vs : List Value} {s a z : Nat} (ho : ∀ j, j < old.length → cc[s + j]? = old[j]?) (ha : a ≤ old.length) (hv : vs.length = z) (hs : s + old.length + z ≤ cc.length) :
    ∀ j, j < old.length + z → (splice (splice cc (s + (a + z)) (old.drop a)) (s + a) vs)[s + j]? = (old.take a ++ (vs ++ old.drop a))[j]? := by
  intro j hj
  have l1 : s + (a + z) + (old.drop a).length ≤ cc.length := by rw [List.length_drop]; omega
  have l2 : (splice cc (s + (a + z)) (old.drop a)).length = cc.length := splice_length _ _ _ l1
  have hd : (old.drop a).length = old.length - a := List.length_drop
  have ht : (old.take a).length = a := by rw [List.length_take]; omega
  rw [splice_get _ _ _ (by rw [l2]; omega), splice_get _ _ _ l1]
  rw [List.getElem?_append, ht, List.getElem?_append, hv, hd]
  by_cases h1 : j < a
  · rw [if_pos (by omega), if_pos (by omega), if_pos h1, List.getElem?_take, if_pos h1, ho j (by omega)]
  · rw [if_neg (by omega : ¬ s + j < s + a), if_neg h1]
    by_cases h2 : j - a < z
    · rw [if_pos (by omega), if_pos h2]
      congr 1; omega
    · rw [if_neg (by omega), if_neg (by omega), if_pos (by omega), if_neg h2]
      congr 1; omega

/-- What X tells, and where one tie is put into a list of ties, ahead of its end (function number n): the list's row is dead behind the call. -/
def withIns (X : Extern) (f : FuncId) : Extern := fun g args h => match Nat.beq g f, args with
  | true, [.slice (some ⟨b, o, none⟩) n c, .int .i64 (.ofNat i), .slice (some ⟨vb, vo, none⟩) 1 vc] =>
    match Nat.blt i n with
    | false => X g args h
    | true => match h.get b, h.get vb with
      | some (.cells cc eb slk false), some (.cells vcc _ _ false) =>
        match takeAt cc o (n * 3), takeAt vcc vo 3 with
        | some old, some v => match (match slk with | none => true | some k => Nat.beq k 3) && (Nat.ble (o + c * 3) cc.length && (!Nat.beq b vb && (old.all one? && (v.all one? && (Nat.ble ((n + 1) * 40) 140737488355328 && Nat.beq eb 152))))) with
          | true => some (.slice (some ⟨h.next, 0, none⟩) (n + 1) (n + 1), (h.put b .dead).add (.cells (old.take (i * 3) ++ (v ++ old.drop (i * 3))) 152 (some 3) false))
          | false => none
        | _, _ => none
      | _, _ => none
  | _, _ => X g args h

set_option maxHeartbeats 1000000 in
theorem withIns_ok [Flag] {X : Extern} (hX : XOk Tryz.prog X) : XOk Tryz.prog (withIns X 191) := by
  intro g args h u h1 hx B e w args' r hargs
  unfold withIns at hx
  split at hx
  rotate_left
  · exact hX _ _ _ _ _ hx B e w args' r hargs
  rename_i b o n c i vb vo vc hg
  split at hx
  · exact hX _ _ _ _ _ hx B e w args' r hargs
  rename_i hin
  have hin : i < n := by rw [Nat.blt_eq] at hin; exact hin
  split at hx
  rotate_left
  · cases hx
  rename_i cc0 eb slk vcc t2 s2 hb hvb
  split at hx
  rotate_left
  · cases hx
  rename_i old v hold hv
  split at hx
  rotate_left
  · cases hx
  rename_i hck
  cases hx
  have := Nat.eq_of_beq_eq_true hg
  subst this
  simp only [Bool.and_eq_true, Bool.not_eq_true'] at hck
  obtain ⟨k1, k2, k3, k4, k5, k6, k7⟩ := hck
  have k7 := Nat.eq_of_beq_eq_true k7
  subst k7
  have k2 := Nat.le_of_ble_eq_true k2
  have k6 := Nat.le_of_ble_eq_true k6
  have hne : b ≠ vb := fun q => by subst q; simp at k3
  obtain ⟨s', r1, rfl, hs, hr1⟩ := hargs.cons_inv
  obtain ⟨i', r2, rfl, hi, hr2⟩ := hr1.cons_inv
  obtain ⟨v', r3, rfl, hv', hr3⟩ := hr2.cons_inv
  have := hr3.nil_inv; subst this
  obtain ⟨L, a, hL, rfl, hlc, ho⟩ := hs.slice_inv
  obtain ⟨L2, a2, hL2, rfl, hlc2, ho2⟩ := hv'.slice_inv
  cases hi
  obtain rfl : a = ⟨L.blk, L.sh + o, none⟩ := by rcases ho with ho | ho; exact ho; omega
  obtain rfl : a2 = ⟨L2.blk, L2.sh + vo, none⟩ := by rcases ho2 with ho | ho; exact ho; omega
  have hO := r.obj b L _ hL hb
  have hO2 := r.obj vb L2 _ hL2 hvb
  obtain ⟨old', o1, o2, o3⟩ := hO.seg hold
  obtain ⟨vs', v1, v2, v3⟩ := hO2.seg hv
  have hblk : L2.blk ≠ L.blk := fun q => hne (r.inj _ _ _ _ _ _ hL hb hL2 hvb q.symm rfl rfl)
  have hone1 : old'.all one? = true := by rw [o1.one?]; exact k4
  have hone2 : vs'.all one? = true := by rw [v1.one?]; exact k5
  have h1c : ∀ v ∈ old', v.oneCell' = true := fun v hv => by rw [← one?_eq]; exact List.all_eq_true.1 hone1 v hv
  have h1v : ∀ v ∈ vs', v.oneCell' = true := fun v hv => by rw [← one?_eq]; exact List.all_eq_true.1 hone2 v hv
  have hdone : (old'.drop (i * 3)).all one? = true := List.all_eq_true.2 fun x hx => List.all_eq_true.1 hone1 x (List.mem_of_mem_drop hx)
  obtain ⟨cc, fr, g1, g2, g3, g4, g5, g6⟩ := hO
  obtain ⟨cc2, fr2, f1, f2, f3, f4, f5, f6⟩ := hO2
  have hslk : L.sh + cc0.length + L.slack * 3 ≤ cc.size := by
    cases slk with
    | none => have := (g4 rfl).1; rw [this]; omega
    | some k =>
      have hk := g5 k rfl
      have := Nat.eq_of_beq_eq_true k1
      subst this; exact hk
  have hsmall : c + L.slack ≤ 9223372036854775807 → True := fun _ => trivial
  have hent : ∀ args, (callFunc 191 args).run Tryz.prog w = .ok (.enter 191 args) w := fun args => Go.Proofs.enters_of Tryz.func191 (by kernel_rfl) rfl args w
  obtain ⟨rk, tk⟩ := r.kill hL
  have hnew : ∀ f : Emb, e.le f → VRs f (old.take (i * 3) ++ (v ++ old.drop (i * 3))) (old'.take (i * 3) ++ (vs' ++ old'.drop (i * 3))) := fun f hf => ((o1.mono hf).take _).append ((v1.mono hf).append ((o1.mono hf).drop _))
  have hnl : (old.take (i * 3) ++ (v ++ old.drop (i * 3))).length = 3 * (n + 1) := by
    have := (hnew e e.le_refl).length
    rw [← this]
    simp only [List.length_append, List.length_take, List.length_drop, o2, v2]; omega
  by_cases hroom : n + 1 ≤ c + L.slack
  · -- in place
    have hsz : L.sh + o + 3 * (n + 1) ≤ cc.size := by omega
    have hfr : ∀ j, World.frozen? w ⟨L.blk, j, none⟩ = false := fun j => by
      unfold World.frozen?
      simp only [g1]
      have := g6 rfl j
      simp only [Bool.and_eq_false_iff, decide_eq_false_iff_not]
      omega
    have hfr2 : ∀ j, World.frozen? w ⟨L2.blk, j, none⟩ = false := fun j => by
      unfold World.frozen?
      simp only [f1]
      have := f6 rfl j
      simp only [Bool.and_eq_false_iff, decide_eq_false_iff_not]
      omega
    have hcs := insert_shift L.blk (L.sh + o) n (c + L.slack) i L2.blk (L2.sh + vo) (vc + L2.slack) old' vs' w hin hroom (by omega) hblk (by omega) v2 o3
      (fun j hj => by
        simp only [World.cell?, g1]
        simp
        omega) (fun j _ => hfr _) v3 h1c h1v t2 152 cc2.size cc.size (by simp only [World.shape?, f1]) (by simp only [World.shape?, g1]) (by omega) (hfr2 _) (hfr2 _)
    have hdl : (old'.drop (i * 3)).length = (n - i) * 3 := by rw [List.length_drop, o2]; omega
    have hcl : cc.toList.length = cc.size := Array.length_toList
    have hsl1 : (splice cc.toList (L.sh + o + (i + 1) * 3) (old'.drop (i * 3))).length = cc.toList.length := splice_length _ _ _ (by rw [hdl]; omega)
    have q1 : Wrote w (w.drew.setCells L.blk (L.sh + o + (i + 1) * 3) (old'.drop (i * 3))) L.blk _ := (wrote_setCells (P := Tryz.prog) (w := w.drew) (o := L.sh + o + (i + 1) * 3) g1 hdone (by rw [hdl]; omega) (g6 rfl)).drew
    have q2 := q1.trans (wrote_setCells (P := Tryz.prog) (o := L.sh + o + i * 3) q1.here hone2 (by rw [List.size_toArray, hsl1, v2]; omega) (g6 rfl))
    have hsl2 : (splice (splice cc.toList (L.sh + o + (i + 1) * 3) (old'.drop (i * 3))) (L.sh + o + i * 3) vs').length = cc.toList.length := by
      rw [splice_length _ _ _ (by rw [hsl1, v2]; omega), hsl1]
    have hB := r.own b L _ hL hb rfl
    have hle := rk.le_put ⟨L.blk, L.sh + o, c + L.slack - (n + 1)⟩
    have hold' : ∀ j, j < old'.length → cc.toList[L.sh + o + j]? = old'[j]? := fun j hj => by
      have h0 := o3 j _ (List.getElem?_eq_getElem hj)
      simp only [World.cell?, g1] at h0
      rw [List.getElem?_eq_getElem hj, Array.getElem?_toList]
      simpa using h0
    have hget := ins_get (cc := cc.toList) (old := old') (vs := vs') (s := L.sh + o) (a := i * 3) (z := 3) hold' (by omega) v2 (by rw [hcl]; omega)
    rw [show L.sh + o + (i * 3 + 3) = L.sh + o + (i + 1) * 3 by omega] at hget
    obtain ⟨r2, r3⟩ := rk.view (sh := L.sh + o) (s := c + L.slack - (n + 1)) (o := .cells (old.take (i * 3) ++ (v ++ old.drop (i * 3))) 152 (some 3) false) hL (lowest_le_right _ _) (fun b' L' p e1 e2 e3 => by
        rw [AH.get_put] at e2
        by_cases hbb : b' = b
        · rw [if_pos hbb] at e2; cases e2; cases e3
        · rw [if_neg hbb] at e2
          exact fun q => hbb (r.inj b' L' p b L _ e1 e2 hL hb q e3 rfl)) hB q2 (by
      refine ⟨_, fr, q2.here, ?_, fun j u hj => ?_, (fun q => by cases q), fun k hk => ?_, g6⟩
      · simp only [List.size_toArray, hsl2, hnl]; omega
      · have hjl : j < 3 * (n + 1) := by rw [← hnl]; exact (List.getElem?_eq_some_iff.1 hj).1
        obtain ⟨u', p1, p2⟩ := (hnew _ hle).get j u hj
        refine ⟨u', ?_, p2⟩
        rw [← p1, ← hget j (by omega)]
        simp
      · cases hk
        simp only [List.size_toArray, hsl2, hnl]; omega)
    refine ⟨_, .slice (some ⟨L.blk, L.sh + o, none⟩) (n + 1) (c + L.slack), _, r2, tk.trans r3 r.dom, ?_, .inr ⟨hent _, fun cf cs => ?_⟩⟩
    · have := VR.slice (f := e.put (h.put b .dead).next ⟨L.blk, L.sh + o, c + L.slack - (n + 1)⟩) (h.put b .dead).next 0 ⟨L.blk, L.sh + o, none⟩ (n + 1) (n + 1) ⟨L.blk, L.sh + o, c + L.slack - (n + 1)⟩ (Emb.put_same _ _ _) (Nat.le_refl _) (.inl rfl)
      rw [show n + 1 + (c + L.slack - (n + 1)) = c + L.slack by omega] at this
      exact this
    · obtain ⟨en, w', fr, ⟨rfl, rfl⟩, hco, -, hl⟩ := hcs (cf :: cs)
      exact Steps.trans hco (.one (step_leave_returned hl))
  · -- a new row
    have hcs := insert_grow L.blk (L.sh + o) n (c + L.slack) i L2.blk (L2.sh + vo) (vc + L2.slack) old' vs' w hin (by omega) (by omega) (by omega) (by omega) v2 o3 v3 h1c h1v
    obtain ⟨G, hG⟩ : ∃ G, G = grownCap w (n + 1) (c + L.slack) 152 := ⟨_, rfl⟩
    rw [← hG] at hcs
    obtain ⟨ROW, hROW⟩ : ∃ ROW : Array Value, ROW = (old'.take (i * 3)).toArray ++ Builtin.zeroCells #[.string ⟨#[]⟩, .string ⟨#[]⟩, .int .u8 0] (n + 1 - i) ++ Builtin.zeroCells #[.string ⟨#[]⟩, .string ⟨#[]⟩, .int .u8 0] (G - (n + 1)) := ⟨_, rfl⟩
    rw [← hROW] at hcs
    have hGn : n + 1 ≤ G := by rw [hG]; exact grownCap_ge w _ _ _
    have hRl : ROW.size = 3 * G := by
      rw [hROW]
      simp [Builtin.zeroCells, o2]
      omega
    have hRc : ROW.toList.length = ROW.size := Array.length_toList
    have hRt : ∀ j, j < i * 3 → ROW.toList[j]? = old'[j]? := fun j hj => by
      rw [hROW, Array.getElem?_toList, Array.getElem?_append_left (by simp; omega), Array.getElem?_append_left (by simp; omega)]
      simp [List.getElem?_take, hj]
    have hdl : (old'.drop (i * 3)).length = (n - i) * 3 := by rw [List.length_drop, o2]; omega
    obtain ⟨w1, hw1⟩ : ∃ w1, w1 = (w.alloc (.cells ROW 152)).drew := ⟨_, rfl⟩
    rw [← hw1] at hcs
    have p1 : Pushed w w1 (.cells ROW 152 (0, 0)) := by subst hw1; exact ⟨rfl, rfl, rfl, rfl⟩
    have hz : ∀ j : Nat, ¬ ((0, 0) : Nat × Nat).1 ≤ j ∨ ¬ j < ((0, 0) : Nat × Nat).2 := fun j => .inr (Nat.not_lt_zero j)
    have hz : ∀ j : Nat, ¬ (((0, 0) : Nat × Nat).1 ≤ j ∧ j < ((0, 0) : Nat × Nat).2) := fun j q => Nat.not_lt_zero j q.2
    have q1 := wrote_setCells (P := Tryz.prog) (o := i * 3) p1.new hone2 (by omega) hz
    have hsl1 : (splice ROW.toList (i * 3) vs').length = ROW.toList.length := splice_length _ _ _ (by omega)
    have q2 := q1.trans (wrote_setCells (P := Tryz.prog) (w := (w1.setCells w.heap.size (i * 3) vs').drew) (o := (i + 1) * 3) q1.here hdone (by rw [List.size_toArray, hsl1, hdl]; omega) hz).drew
    have p2 := p1.wrote q2
    have hsl2 : (splice (splice ROW.toList (i * 3) vs') ((i + 1) * 3) (old'.drop (i * 3))).length = ROW.toList.length := by
      rw [splice_length _ _ _ (by rw [hsl1, hdl]; omega), hsl1]
    have hle := rk.le_put ⟨w.heap.size, 0, G - (n + 1)⟩
    have hget : ∀ j, j < 3 * (n + 1) → (splice (splice ROW.toList (i * 3) vs') ((i + 1) * 3) (old'.drop (i * 3)))[j]? = (old'.take (i * 3) ++ (vs' ++ old'.drop (i * 3)))[j]? := fun j hj => by
      have ht : (old'.take (i * 3)).length = i * 3 := by rw [List.length_take]; omega
      rw [splice_get _ _ _ (by rw [hsl1, hdl]; omega), splice_get _ _ _ (by omega)]
      rw [List.getElem?_append, ht, List.getElem?_append, v2, hdl]
      by_cases g1 : j < i * 3
      · rw [if_pos (by omega), if_pos g1, if_pos g1, List.getElem?_take, if_pos g1, hRt j g1]
      · rw [if_neg g1, if_neg g1]
        by_cases g2 : j - i * 3 < 3
        · rw [if_pos (by omega), if_pos (by omega), if_pos g2]
        · rw [if_neg (by omega), if_pos (by omega), if_neg g2]
          congr 1; omega
    obtain ⟨r2, r3⟩ := rk.add (s := G - (n + 1)) (o := .cells (old.take (i * 3) ++ (v ++ old.drop (i * 3))) 152 (some 3) false) p2 (by
      refine ⟨_, (0, 0), p2.new, ?_, fun j u hj => ?_, (fun q => by cases q), fun k hk => ?_, (fun _ j q => by simp at q)⟩
      · simp only [List.size_toArray, hsl2, hnl]; omega
      · have hjl : j < 3 * (n + 1) := by rw [← hnl]; exact (List.getElem?_eq_some_iff.1 hj).1
        obtain ⟨u', p1, p2⟩ := (hnew _ hle).get j u hj
        refine ⟨u', ?_, p2⟩
        rw [← p1, ← hget j hjl]
        simp
      · cases hk
        simp only [List.size_toArray, hsl2, hnl]; omega)
    refine ⟨_, .slice (some ⟨w.heap.size, 0, none⟩) (n + 1) G, _, r2, tk.trans r3 r.dom, ?_, .inr ⟨hent _, fun cf cs => ?_⟩⟩
    · have := VR.slice (f := e.put (h.put b .dead).next ⟨w.heap.size, 0, G - (n + 1)⟩) (h.put b .dead).next 0 ⟨w.heap.size, 0, none⟩ (n + 1) (n + 1) ⟨w.heap.size, 0, G - (n + 1)⟩ (Emb.put_same _ _ _) (Nat.le_refl _) (.inl rfl)
      rw [show n + 1 + (G - (n + 1)) = G by omega] at this
      exact this
    · obtain ⟨en, w', fr, ⟨rfl, rfl⟩, hco, -, hl⟩ := hcs (cf :: cs)
      exact Steps.trans hco (.one (step_leave_returned hl))
/-- What is known without the table. -/
def Xd : Extern := withIns X0 191
theorem Xd_ok [Flag] : XOk Tryz.prog Xd := withIns_ok X0_ok
end Go.Proofs.Xx

/-
  A builder's room, made ahead of its first byte: known.
-/
namespace Go.Proofs.Xx
set_option linter.unusedSectionVars false
open Go Go.RowKit Go.Shelf Go.Proofs
set_option linter.unusedVariables false
set_option linter.unusedSimpArgs false
set_option maxRecDepth 1000000

def renJ : Ren where
  f x := match x with | 241 => 176 | 277 => 213 | x => x
  t x := match x with | 0 => 0 | 3 => 3 | 5 => 5 | 37 => 22 | 70 => 125 | 72 => 127 | x => x
  g x := match x with | x => x
theorem laysJ : Lays.n241 Tryz.prog renJ where
  mixed := by kernel_rfl
  f241 := by kernel_rfl
  f277 := by kernel_rfl
  t0 := by kernel_rfl
  a0 := fun w => by rfl
  z0 := fun w => by rfl
  v0 := fun w => by rfl
  t3 := by kernel_rfl
  a3 := fun w => by rfl
  z3 := fun w => by rfl
  v3 := fun w => by rfl
  t37 := by kernel_rfl
  a37 := fun w => by rfl
  z37 := fun w => by rfl
  v37 := fun w => by rfl
  t70 := by kernel_rfl
  a70 := fun w => by rfl
  z70 := fun w => by rfl
  v70 := fun w => by rfl
  t72 := by kernel_rfl
  a72 := fun w => by rfl
  z72 := fun w => by rfl
  v72 := fun w => by rfl
theorem byteT : Tryz.prog.underlying (renJ.t 5) = some (.int .u8) := by kernel_rfl
theorem byteA : ∀ w, (isAgg (renJ.t 5)).run Tryz.prog w = .ok false w := fun w => by rfl
theorem byteZ : ∀ w, (Go.sizeOf (renJ.t 5)).run Tryz.prog w = .ok 1 w := fun w => by rfl
theorem byteV : ∀ w, (zeroValue (renJ.t 5)).run Tryz.prog w = .ok (.int .u8 0) w := fun w => by rfl
theorem byteSize : (Tryz.prog.info? 5).map (·.size) = some 1 := by kernel_rfl
/-- What grow makes of the world. -/
def grownW (w : World) (b : Nat) (cs : Array Value) : World := ((w.alloc (.cells cs 5)).setCell ⟨b, 1, none⟩ (.slice (some ⟨w.heap.size, 0, none⟩) 0 cs.size)).drew.drew.drew
set_option maxHeartbeats 4000000 in
theorem grow_calls {b n : Nat} {q : Value} {fr : Nat × Nat} {w : World} (hb : w.heap[b]? = some (.cells #[q, .slice none 0 0] 127 fr)) (hfr : ∀ i, ¬ (fr.1 ≤ i ∧ i < fr.2)) (hn : n ≤ 281474976710656) :
    ∃ cs : Array Value, n ≤ cs.size ∧ Calls Tryz.prog 176 #[.pointer (some ⟨b, 0, none⟩), .int .i64 n] w fun e w' => e = .returned (.tuple #[]) ∧ w' = grownW w b cs := by
  have L := laysJ
  obtain ⟨cs, mk, hle, -⟩ := Lib.run_makeNoZero (P := Tryz.prog) w.drew #[renJ.t 3] (renJ.t 37) 5 L.t37 n hn
  refine ⟨cs, hle, ?_⟩
  have hlt : b < w.heap.size := by
    rcases Nat.lt_or_ge b w.heap.size with k | k
    · exact k
    · rw [Array.getElem?_eq_none k] at hb; cases hb
  have hb2 : (w.alloc (.cells cs 5)).heap[b]? = some (.cells #[q, .slice none 0 0] 127 fr) := (show (w.heap.push _)[b]? = _ by rw [Array.getElem?_push, if_neg (by omega)]; exact hb)
  have hz : IntKind.i64.wrap (IntKind.i64.wrap 0 + (n : Int)) = n := by
    rw [IntKind.wrap_i64, IntKind.wrap_i64]
    omega
  have call : (callFunc (renJ.f 277) #[.int .i64 (IntKind.i64.wrap (IntKind.i64.wrap 0 + (n : Int)))]).run Tryz.prog w.drew = .ok (.value (.slice (some ⟨w.drew.heap.size, 0, none⟩) n cs.size)) (w.drew.drew.drew.alloc (.cells cs 5)) := by
    rw [hz]
    rw [run_callFunc_extern L.f277 (by kernel_rfl) (by kernel_rfl) (by kernel_rfl) (e := Extern.BytealgMakeNoZero.makeNoZero #[renJ.t 3] #[renJ.t 37]) (by kernel_rfl), mk]
    rfl
  have k1 : w.drew.cell? ⟨b, 1, none⟩ = some (.slice none 0 0) := by
    show w.cell? ⟨b, 1, none⟩ = _
    unfold World.cell?
    rw [hb]; rfl
  have k2 : (w.alloc (.cells cs 5)).cell? ⟨b, 1, none⟩ = some (.slice none 0 0) := by
    unfold World.cell?
    rw [hb2]; rfl
  have k3 : (w.alloc (.cells cs 5)).frozen? ⟨b, 1, none⟩ = false := by
    unfold World.frozen?
    simp only [hb2]
    have := hfr 1
    simp only [Bool.and_eq_false_iff, decide_eq_false_iff_not]
    omega
  have cp : ∀ W : World, (Builtin.copy_ #[renJ.t 37, renJ.t 37] (renJ.t 3) #[.slice (some ⟨w.heap.size, 0, none⟩) 0 cs.size, .slice none 0 0]).run Tryz.prog W = .ok (goInt 0) W :=
    fun W => run_copy_none W (renJ.t 37) (renJ.t 37) (renJ.t 3) 5 _ _ 0 cs.size 0 0 L.t37 byteSize rfl
  clear hz hfr hb hb2
  have mixed := L.mixed
  have t72 := L.t72; have a72 := L.a72; have z72 := L.z72; have v72 := L.v72; have u72 := run_underlying L.t72
  have t70 := L.t70; have a70 := L.a70; have z70 := L.z70; have v70 := L.v70; have u70 := run_underlying L.t70
  have t37 := L.t37; have a37 := L.a37; have z37 := L.z37; have v37 := L.v37; have u37 := run_underlying L.t37
  have t3 := L.t3; have a3 := L.a3; have z3 := L.z3; have v3 := L.v3; have u3 := run_underlying L.t3
  have t5 := byteT; have a5 := byteA; have z5 := byteZ; have v5 := byteV; have u5 := run_underlying byteT
  go_enter L.f241, Body.n241_ntmps renJ
  go_wp2
  go_region_o
  all_goals (go_wp2; go_end0; exact ⟨rfl, by unfold grownW; rw [World.setCell_alloc_past _ _ _ _ hlt]⟩)

/-- What X tells, and the room for n bytes in a builder without any (function number f). -/
def withGrow (X : Extern) (f : FuncId) : Extern := fun g args h => match Nat.beq g f, args with
  | true, [.pointer (some ⟨b, 0, none⟩), .int .i64 (.ofNat n)] => match h.get b with
    | some (.cells [q, .slice none 0 0] 127 none false) => match Nat.ble n 281474976710656 with
      | true => some (.tuple #[], (h.add (.cells [] 5 (some 1) false)).put b (.cells [q, .slice (some ⟨h.next, 0, none⟩) 0 0] 127 none false))
      | false => none
    | _ => none
  | _, _ => X g args h
theorem withGrow_ok [Flag] {X : Extern} (hX : XOk Tryz.prog X) : XOk Tryz.prog (withGrow X 176) := by
  intro g args h u h1 hx B e w args' r hargs
  unfold withGrow at hx
  split at hx
  rotate_left
  · exact hX _ _ _ _ _ hx B e w args' r hargs
  rename_i b n hg
  split at hx
  rotate_left
  · cases hx
  rename_i q hb
  split at hx
  rotate_left
  · cases hx
  rename_i hn
  have hn := Nat.le_of_ble_eq_true hn
  cases hx
  have := Nat.eq_of_beq_eq_true hg
  subst this
  obtain ⟨p', r1, rfl, hp, hr1⟩ := hargs.cons_inv
  obtain ⟨n', r2, rfl, hn', hr2⟩ := hr1.cons_inv
  have := hr2.nil_inv; subst this
  obtain ⟨L, hL, rfl⟩ := hp.pointer_inv
  cases hn'
  obtain ⟨cc, fr, g1, g2, g3, g4, g5, g6⟩ := r.obj b L _ hL hb
  obtain ⟨e1, e2⟩ := (g4 rfl).2 rfl
  have e0 := (g4 rfl).1
  obtain ⟨q', c0, vq⟩ := g3 0 q rfl
  obtain ⟨s', c1, vs⟩ := g3 1 (.slice none 0 0) rfl
  cases vs
  rw [e1] at c0 c1
  have hcc : cc = #[q', .slice none 0 0] := by
    apply Array.ext_getElem?
    intro i
    match i with
    | 0 => exact c0
    | 1 => exact c1
    | i + 2 => rw [Array.getElem?_eq_none (by rw [e2]; simp), Array.getElem?_eq_none (by simp)]
  subst hcc
  obtain ⟨cs, hcs, hcall⟩ := grow_calls g1 (g6 rfl) hn
  have hbn : b < h.next := r.dom b L hL
  have p1 : Pushed w (w.alloc (.cells cs 5)) (.cells cs 5 (0, 0)) := ⟨rfl, rfl, rfl, rfl⟩
  obtain ⟨ra, ta⟩ := r.add (s := cs.size) (o := .cells [] 5 (some 1) false) p1 ⟨cs, (0, 0), p1.new, by simp, fun i v hi => by simp at hi, (fun k => by cases k), (fun k hk => by cases hk; simp), (fun _ i k => by simp at k)⟩
  have hL2 := r.le_put ⟨w.heap.size, 0, cs.size⟩ b L hL
  have gb : (w.alloc (.cells cs 5)).heap[L.blk]? = some (.cells #[q', .slice none 0 0] 127 fr) := (p1.old _ (r.rng b L hL)).trans g1
  have wr := wrote_setCells (P := Tryz.prog) (o := 1) (vs := [.slice (some ⟨w.heap.size, 0, none⟩) 0 cs.size]) gb rfl (by simp) (g6 rfl)
  have wr2 : Wrote (w.alloc (.cells cs 5)) (grownW w L.blk cs) L.blk (.cells #[q', .slice (some ⟨w.heap.size, 0, none⟩) 0 cs.size] 127 fr) := ⟨wr.here, wr.other, wr.size, wr.os, wr.tape, wr.output⟩
  have hsl : VR (e.put h.next ⟨w.heap.size, 0, cs.size⟩) (.slice (some ⟨h.next, 0, none⟩) 0 0) (.slice (some ⟨w.heap.size, 0, none⟩) 0 cs.size) := by
    have := VR.slice (f := e.put h.next ⟨w.heap.size, 0, cs.size⟩) h.next 0 ⟨w.heap.size, 0, none⟩ 0 0 ⟨w.heap.size, 0, cs.size⟩ (Emb.put_same _ _ _) (Nat.le_refl _) (.inl rfl)
    rw [Nat.zero_add] at this
    exact this
  obtain ⟨rp, tp⟩ := ra.put (o' := .cells [q, .slice (some ⟨h.next, 0, none⟩) 0 0] 127 none false) hL2 (show (h.add _).get b = some _ by rw [AH.get_add, if_neg (by omega)]; exact hb) rfl wr2 (by
    refine ⟨_, fr, wr2.here, by rw [e1]; simp, fun i v hi => ?_, fun _ => ⟨e0, fun _ => ⟨e1, by simp⟩⟩, (fun k hk => by cases hk), g6⟩
    rw [e1, Nat.zero_add]
    match i, hi with
    | 0, hi => cases hi; exact ⟨q', rfl, vq.mono (r.le_put _)⟩
    | 1, hi => cases hi; exact ⟨_, rfl, hsl⟩) (fun _ => rfl)
  refine ⟨_, .tuple #[], grownW w L.blk cs, rp, ta.trans tp r.dom, VR.tuple [] [] .nil, .inr ⟨Go.Proofs.enters_of laysJ.f241 (by kernel_rfl) rfl _ _, fun c k => ?_⟩⟩
  obtain ⟨en, w', fr', ⟨rfl, rfl⟩, hco, -, hl⟩ := hcall (c :: k)
  rw [e1]
  exact Steps.trans hco (.one (step_leave_returned hl))
end Go.Proofs.Xx

/-
  A call that leaves what was there: the memory as it was before stands to the world behind.
-/
namespace Go.Proofs.Xx
set_option linter.unusedSectionVars false
open Go
set_option linter.unusedSimpArgs false
set_option linter.unusedVariables false

mutual
theorem VR.back {f g : Emb} (hle : f.le g) : ∀ {v y v' : Value}, VR f v y → VR g v v' → VR f v v'
  | _, _, _, .bool b, h => by cases h; exact .bool b
  | _, _, _, .int k n, h => by cases h; exact .int k n
  | _, _, _, .float k n, h => by cases h; exact .float k n
  | _, _, _, .string s, h => by cases h; exact .string s
  | _, _, _, .nilPointer, h => by cases h; exact .nilPointer
  | _, _, _, .pointer b o L hb, h => by
    cases h with
    | pointer _ _ L' h' =>
      have e := (hle b L hb).symm.trans h'
      cases e
      exact .pointer b o L hb
  | _, _, _, .nilSlice, h => by cases h; exact .nilSlice
  | _, _, _, .slice b o a len cap L hb hl ho, h => by
    cases h with
    | slice _ _ a' _ _ L' h' hl' ho' =>
      have e := (hle b L hb).symm.trans h'
      cases e
      exact .slice b o a' len cap L hb hl ho'
  | _, _, _, .nilMap, h => by cases h; exact .nilMap
  | _, _, _, .map b L hb, h => by
    cases h with
    | map _ L' h' =>
      have e := (hle b L hb).symm.trans h'
      cases e
      exact .map b L hb
  | _, _, _, .func gg a a' c c' h1 h2, h => by
    cases h with
    | func _ _ a2 _ c2 k1 k2 => exact .func gg a a2 c c2 (VRs.back hle h1 k1) (VRs.back hle h2 k2)
  | _, _, _, .yield l L hb, h => by
    cases h with
    | yield _ L' h' =>
      have e := (hle l L hb).symm.trans h'
      cases e
      exact .yield l L hb
  | _, _, _, .nilFunc, h => by cases h; exact .nilFunc
  | _, _, _, .nilIface, h => by cases h; exact .nilIface
  | _, _, _, .agg c c' hc, h => by
    cases h with
    | agg _ c2 k => exact .agg c c2 (VRs.back hle hc k)
  | _, _, _, .tuple c c' hc, h => by
    cases h with
    | tuple _ c2 k => exact .tuple c c2 (VRs.back hle hc k)
theorem VRs.back {f g : Emb} (hle : f.le g) : ∀ {v y v' : List Value}, VRs f v y → VRs g v v' → VRs f v v'
  | _, _, _, .nil, h => by cases h; exact .nil
  | _, _, _, .cons v y r s hv hr, h => by
    cases h with
    | cons _ v' _ r' k kr => exact .cons v v' r r' (VR.back hle hv k) (VRs.back hle hr kr)
end
section
variable {P : Program}
theorem EsR.back {f g : Emb} (hle : f.le g) {e : List (Value × Value × Nat)} {e1 : List MapEntry} (h : EsR f e e1) : ∀ {e2 : List MapEntry}, EsR g e e2 → EsR f e e2 := by
  induction h with
  | nil => intro e2 k; cases k; exact .nil
  | cons h hr ih =>
    intro e2 k
    cases k with
    | cons k kr => exact .cons ⟨h.1.back hle k.1, h.2.1.back hle k.2.1, k.2.2⟩ (ih kr)
theorem TR.back {f g : Emb} (hle : f.le g) {sz : Nat} {t : Tr Value} {t1 t2 : Array Value} (h : TR f sz t t1) (k : TR g sz t t2) : TR f sz t t2 := by
  refine ⟨k.1, fun i v hv => ?_⟩
  obtain ⟨u, -, p⟩ := h.2 i v hv
  obtain ⟨u', q1, q2⟩ := k.2 i v hv
  exact ⟨u', q1, p.back hle q2⟩
/-- What is there, whatever was added to the embedding. -/
theorem ObjR.back {f g : Emb} (hle : f.le g) {L : Loc} {w w' : World} {o : AObj} (h1 : ObjR f L w o) (h2 : ObjR g L w' o) : ObjR f L w' o := by
  cases o with
  | cells c e slk ro =>
    obtain ⟨cc, fr, a1, a2, a3, a4, a5, a6⟩ := h1
    obtain ⟨cc', fr', b1, b2, b3, b4, b5, b6⟩ := h2
    refine ⟨cc', fr', b1, b2, fun i v hi => ?_, b4, b5, b6⟩
    obtain ⟨u, p1, p2⟩ := a3 i v hi
    obtain ⟨u', q1, q2⟩ := b3 i v hi
    exact ⟨u', q1, p2.back hle q2⟩
  | loop st pend sz t ps asg bo =>
    obtain ⟨fn, tm, D, a1, a2⟩ := h1
    obtain ⟨fn', tm', D', b1, b2⟩ := h2
    exact ⟨fn', tm', D', b1, a2.back hle b2⟩
  | map es c =>
    obtain ⟨es1, a1, a2⟩ := h1
    obtain ⟨es2, b1, b2⟩ := h2
    exact ⟨es2, b1, a2.back hle b2⟩
  | dead => trivial
/-- The memory with no block below which nothing was written. -/
def AH.lo0 (h : AH) : AH := { tr := h.tr, next := h.next, low := 0 }
/-- A call that leaves what was there: the memory as it was before stands to the world behind. -/
theorem CallOk.keep [Glob] {callf : FuncId → List Value → AH → Option (Value × AH)} (hC : CallOk P callf) {f : FuncId} {args : List Value} {h h' : AH} {v : Value} (hc : callf f args h = some (v, h')) (hx : ∀ b, b < h.next → h'.get b = h.get b)
    (hv : ∀ e v', VR e v v' → ∀ e2, VR e2 v v') : ∀ B e w args', Rel B e h w → VRs e args args' →
  ∃ e' v' w', Rel B e' h.lo0 w' ∧ Turn e h w e' h.lo0 w' ∧ VR e' v v' ∧
    ((callFunc f args'.toArray).run P w = .ok (.value v') w' ∨
      ((callFunc f args'.toArray).run P w = .ok (.enter f args'.toArray) w ∧ ∀ c cs, Steps P (lone (Frame.enter P f args'.toArray .normal) (c :: cs) w) (lone (c.finish v') cs w'))) := by
  intro B e w args' r ha
  obtain ⟨e1, v1, w1, r1, u1, k1, s1⟩ := hC _ _ _ _ _ hc B e w args' r ha
  have hg : ∀ b, h.lo0.get b = h.get b := fun b => rfl
  refine ⟨e, v1, w1, ?_, ?_, hv _ _ k1 _, s1⟩
  · refine ⟨r.dom, r.wf, fun b L q => Nat.lt_of_lt_of_le (r.rng b L q) u1.size, fun b L o q1 q2 => ?_, r.inj, r.own, Nat.le_trans r.base u1.size, r1.keep, r.glob⟩
    exact (r.obj b L o q1 q2).back u1.le (r1.obj b L o (u1.le b L q1) ((hx b (r.dom b L q1)).trans q2))
  · exact ⟨e.le_refl, Nat.le_refl _, Nat.zero_le _, fun _ _ q _ => q, fun b L q n => (by rw [n] at q; cases q), u1.size, fun k hk q => u1.keep k hk fun b L p1 p2 => absurd (q b L p1 p2) (Nat.not_lt_zero _), fun _ _ _ => rfl, u1.os, u1.tape, u1.output⟩
end
end Go.Proofs.Xx

/-
  What is known but for the examples; externs that know as much.
-/
namespace Go.Proofs.Xx
set_option linter.unusedSectionVars false
set_option linter.unusedSimpArgs false
open Go Go.RowKit
set_option linter.unusedVariables false
def Xa [Flag] : Extern := withGrow (withDigits Xd 218) 176
theorem Xa_ok [Flag] : XOk Tryz.prog Xa := withGrow_ok (withDigits_ok Xd_ok)
/-- What Xa does not know, X does not know, but for the examples. -/
class KX (X : Extern) : Prop where
  no : ∀ f args h, f ≠ 12 → Xa f args h = none → X f args h = none
instance kxA : KX Xa := ⟨fun f args h _ q => by
  exact q⟩
end Go.Proofs.Xx

/-
  Answers of yes and no; names.
-/
namespace Go.Proofs.Xx
set_option linter.unusedSectionVars false
set_option linter.unusedVariables false
set_option linter.unusedSimpArgs false
open Go Go.Proofs
def BoolIs (v : Value) (p : Prop) : Prop := (v = .bool true ∧ p) ∨ (v = .bool false ∧ ¬ p)
def lowB (x : UInt8) : Prop := 97 ≤ x.toNat ∧ x.toNat ≤ 122
def nameP (s : List UInt8) : Prop := 1 ≤ s.length ∧ s.length ≤ 12 ∧ ∀ i, i < s.length → lowB (s.getD i default)
def someP (s : List UInt8) : Prop := s = [] ∨ nameP s
theorem u8def : (default : UInt8) = 0 := rfl
theorem nxtD {p : Nat → Prop} {i : Nat} (h : ∀ j, j < i → p j) (hi : p i) : ∀ j, j < i + 1 → p j := fun j hj => by
  rcases Nat.lt_or_ge j i with q | q
  · exact h j q
  · obtain rfl : j = i := by omega
    exact hi
end Go.Proofs.Xx
