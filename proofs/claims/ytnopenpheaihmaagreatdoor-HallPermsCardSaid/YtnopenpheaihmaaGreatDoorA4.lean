/-
  Blocks made, written and put away: the abstract memory and the world go on standing to each other.
-/
import Derived.Test.YtnopenpheaihmaaGreatDoorA3
import Derived.Laws.Tables
import Derived.Laws.Cells
import Derived.Laws.NewBlocks
namespace Go.Proofs.Xx
open Go
set_option linter.unusedSimpArgs false
set_option linter.unusedVariables false

theorem lowest_le_left (a b : Nat) : lowest a b ≤ a := by
  unfold lowest
  cases h : Nat.ble a b with
  | true => exact Nat.le_refl _
  | false => simp only; have : ¬ a ≤ b := fun q => by rw [Nat.ble_eq_true_of_le q] at h; cases h
             omega
theorem lowest_le_right (a b : Nat) : lowest a b ≤ b := by
  unfold lowest
  cases h : Nat.ble a b with
  | true => exact Nat.le_of_ble_eq_true h
  | false => exact Nat.le_refl _
theorem lowest_or (a b : Nat) : lowest a b = a ∨ lowest a b = b := by unfold lowest; cases Nat.ble a b <;> simp

theorem AH.get_add (h : AH) (o : AObj) (b : Nat) : (h.add o).get b = if b = h.next then some o else h.get b := Tr.get_set _ _ _ _
theorem AH.get_put (h : AH) (c : Nat) (o : AObj) (b : Nat) : (h.put c o).get b = if b = c then some o else h.get b := Tr.get_set _ _ _ _

/-- The world w' is w but for block k. -/
structure Wrote (w w' : World) (k : Nat) (o : Obj) : Prop where
  here : w'.heap[k]? = some o
  other : ∀ j, j ≠ k → w'.heap[j]? = w.heap[j]?
  size : w'.heap.size = w.heap.size
  os : w'.os = w.os
  tape : w'.tape = w.tape
  output : w'.output = w.output

theorem Wrote.same {w : World} {k : Nat} {o : Obj} (h : w.heap[k]? = some o) : Wrote w w k o := ⟨h, fun _ _ => rfl, rfl, rfl, rfl, rfl⟩
theorem Wrote.trans {w w1 w2 : World} {k : Nat} {o o' : Obj} (a : Wrote w w1 k o) (b : Wrote w1 w2 k o') : Wrote w w2 k o' :=
  ⟨b.here, fun j hj => (b.other j hj).trans (a.other j hj), b.size.trans a.size, b.os.trans a.os, b.tape.trans a.tape, b.output.trans a.output⟩

theorem Rel.put [Glob] {B : Bs} {f : Emb} {h : AH} {w w' : World} (r : Rel B f h w) {b : Nat} {L : Loc} {o o' : AObj} {ob : Obj} (hf : f b = some L) (hg : h.get b = some o)
    (hw : writable o = true) (hwr : Wrote w w' L.blk ob) (ho : ObjR f L w' o') (hl : live o' = true → live o = true) : Rel B f (h.put b o') w' ∧ Turn f h w f (h.put b o') w' := by
  have hlv : live o = true := by cases o <;> simp_all [writable, live]
  refine ⟨⟨r.dom, fun k hk => ?_, fun k M e => by rw [hwr.size]; exact r.rng k M e, fun k M p e1 e2 => ?_, fun k M p k' M' p' e1 e2 e3 e4 e5 e6 e7 => ?_, fun k M p e1 e2 e3 => ?_, by rw [hwr.size]; exact r.base, fun k hk => (hwr.other k fun q => by have := r.own b L o hf hg hw; omega).trans (r.keep k hk), r.glob⟩, ?_⟩
  · rw [AH.get_put, if_neg (by have := r.dom b L hf; simp only [AH.put] at hk; omega)]
    exact r.wf k hk
  · rw [AH.get_put] at e2
    by_cases hk : k = b
    · subst hk
      rw [if_pos rfl] at e2; cases e2
      rw [hf] at e1; cases e1
      exact ho
    · rw [if_neg hk] at e2
      by_cases hlp : live p = true
      · refine (r.obj k M p e1 e2).world (hwr.other _ fun q => hk (r.inj k M p b L o e1 e2 hf hg q hlp hw))
      · cases p <;> simp_all [live, ObjR]
  · rw [AH.get_put] at e2 e4
    by_cases hk : k = b
    · by_cases hk' : k' = b
      · omega
      · subst hk
        rw [hf] at e1; cases e1
        rw [if_neg hk'] at e4
        exact r.inj k L o k' M' p' hf hg e3 e4 e5 hlv e7
    · rw [if_neg hk] at e2
      by_cases hk' : k' = b
      · subst hk'
        rw [hf] at e3; cases e3
        exact r.inj k M p k' L o e1 e2 hf hg e5 e6 hw
      · rw [if_neg hk'] at e4
        exact r.inj k M p k' M' p' e1 e2 e3 e4 e5 e6 e7
  · rw [AH.get_put] at e2
    by_cases hk : k = b
    · subst hk
      rw [hf] at e1; cases e1
      exact r.own k L o hf hg hw
    · rw [if_neg hk] at e2
      exact r.own k M p e1 e2 e3
  · refine ⟨f.le_refl, Nat.le_refl _, lowest_le_left _ _, fun _ _ e _ => e, fun k M e n => (by rw [n] at e; cases e), by rw [hwr.size]; exact Nat.le_refl _, fun k hk hq => ?_, fun k hk hlo => ?_, hwr.os, hwr.tape, hwr.output⟩
    · refine hwr.other k fun q => ?_
      have h1 := hq b L hf q.symm
      have h2 : (h.put b o').low ≤ b := lowest_le_right _ _
      omega
    · rw [AH.get_put, if_neg]
      have h2 : (h.put b o').low ≤ b := lowest_le_right _ _
      omega

def Emb.put (f : Emb) (n : Nat) (L : Loc) : Emb := fun k => if k = n then some L else f k
theorem Emb.put_same (f : Emb) (n : Nat) (L : Loc) : f.put n L n = some L := if_pos rfl
theorem Emb.put_ne (f : Emb) {n k : Nat} (L : Loc) (h : k ≠ n) : f.put n L k = f k := if_neg h
theorem Rel.unmapped [Glob] {B : Bs} {f : Emb} {h : AH} {w : World} (r : Rel B f h w) : f h.next = none := by
  cases e : f h.next with
  | none => rfl
  | some L => have := r.dom _ L e; omega
theorem Rel.le_put [Glob] {B : Bs} {f : Emb} {h : AH} {w : World} (r : Rel B f h w) (L : Loc) : f.le (f.put h.next L) := by
  intro b M e
  rw [Emb.put_ne]; exact e
  have := r.dom b M e; omega

/-- The world w' is w with one block more. -/
structure Pushed (w w' : World) (o : Obj) : Prop where
  heap : w'.heap = w.heap.push o
  os : w'.os = w.os
  tape : w'.tape = w.tape
  output : w'.output = w.output
theorem Pushed.size {w w' : World} {o : Obj} (p : Pushed w w' o) : w'.heap.size = w.heap.size + 1 := by rw [p.heap]; simp
theorem Pushed.old {w w' : World} {o : Obj} (p : Pushed w w' o) (k : Nat) (hk : k < w.heap.size) : w'.heap[k]? = w.heap[k]? := by
  rw [p.heap, Array.getElem?_push, if_neg (by omega)]
theorem Pushed.new {w w' : World} {o : Obj} (p : Pushed w w' o) : w'.heap[w.heap.size]? = some o := by
  rw [p.heap, Array.getElem?_push, if_pos rfl]

theorem Rel.add [Glob] {B : Bs} {f : Emb} {h : AH} {w w' : World} (r : Rel B f h w) {ob : Obj} (hp : Pushed w w' ob) {o : AObj} {s : Nat}
    (ho : ObjR (f.put h.next ⟨w.heap.size, 0, s⟩) ⟨w.heap.size, 0, s⟩ w' o) :
    Rel B (f.put h.next ⟨w.heap.size, 0, s⟩) (h.add o) w' ∧ Turn f h w (f.put h.next ⟨w.heap.size, 0, s⟩) (h.add o) w' := by
  have hle := r.le_put ⟨w.heap.size, 0, s⟩
  refine ⟨⟨fun b M e => ?_, fun k hk => ?_, fun b M e => ?_, fun b M p e1 e2 => ?_, fun k M p k' M' p' e1 e2 e3 e4 e5 e6 e7 => ?_, fun k M p e1 e2 e3 => ?_, by rw [hp.size]; have := r.base; omega, fun k hk => (hp.old k (by have := r.base; omega)).trans (r.keep k hk), r.glob⟩, ?_⟩
  · by_cases hb : b = h.next
    · subst hb; exact Nat.lt_succ_self _
    · rw [Emb.put_ne _ _ hb] at e; exact Nat.lt_succ_of_lt (r.dom b M e)
  · have hk' : h.next + 1 ≤ k := hk
    rw [AH.get_add, if_neg (by omega)]; exact r.wf k (by omega)
  · rw [hp.size]
    by_cases hb : b = h.next
    · subst hb; rw [Emb.put_same] at e; cases e; exact Nat.lt_succ_self _
    · rw [Emb.put_ne _ _ hb] at e; exact Nat.lt_succ_of_lt (r.rng b M e)
  · rw [AH.get_add] at e2
    by_cases hb : b = h.next
    · subst hb; rw [Emb.put_same] at e1; cases e1; rw [if_pos rfl] at e2; cases e2; exact ho
    · rw [Emb.put_ne _ _ hb] at e1; rw [if_neg hb] at e2
      exact ((r.obj b M p e1 e2).world (hp.old _ (r.rng b M e1))).mono hle
  · rw [AH.get_add] at e2 e4
    by_cases hk : k = h.next
    · by_cases hk' : k' = h.next
      · omega
      · subst hk; rw [Emb.put_same] at e1; cases e1
        rw [Emb.put_ne _ _ hk'] at e3
        have := r.rng k' M' e3
        simp only at e5; omega
    · rw [Emb.put_ne _ _ hk] at e1; rw [if_neg hk] at e2
      by_cases hk' : k' = h.next
      · subst hk'; rw [Emb.put_same] at e3; cases e3
        have := r.rng k M e1
        simp only at e5; omega
      · rw [Emb.put_ne _ _ hk'] at e3; rw [if_neg hk'] at e4
        exact r.inj k M p k' M' p' e1 e2 e3 e4 e5 e6 e7
  · rw [AH.get_add] at e2
    by_cases hk : k = h.next
    · subst hk; rw [Emb.put_same] at e1; cases e1; exact r.base
    · rw [Emb.put_ne _ _ hk] at e1; rw [if_neg hk] at e2
      exact r.own k M p e1 e2 e3
  · refine ⟨hle, Nat.le_succ _, Nat.le_refl _, fun b M e hb => ?_, fun b M e n => ?_, by rw [hp.size]; omega, fun k hk _ => hp.old k hk, fun b hb _ => ?_, hp.os, hp.tape, hp.output⟩
    · rw [Emb.put_ne _ _ (by omega)] at e; exact e
    · by_cases hb : b = h.next
      · subst hb; rw [Emb.put_same] at e; cases e; exact .inl (Nat.le_refl _)
      · rw [Emb.put_ne _ _ hb, n] at e; cases e
    · rw [AH.get_add, if_neg (by omega)]

theorem Rel.kill [Glob] {B : Bs} {f : Emb} {h : AH} {w : World} (r : Rel B f h w) {b : Nat} {L : Loc} (hf : f b = some L) : Rel B f (h.put b .dead) w ∧ Turn f h w f (h.put b .dead) w := by
  refine ⟨⟨r.dom, fun k hk => ?_, r.rng, fun k M p e1 e2 => ?_, fun k M p k' M' p' e1 e2 e3 e4 e5 e6 e7 => ?_, fun k M p e1 e2 e3 => ?_, r.base, r.keep, r.glob⟩, ?_⟩
  · rw [AH.get_put, if_neg (by have := r.dom b L hf; simp only [AH.put] at hk; omega)]
    exact r.wf k hk
  · rw [AH.get_put] at e2
    by_cases hk : k = b
    · rw [if_pos hk] at e2; cases e2; trivial
    · rw [if_neg hk] at e2; exact r.obj k M p e1 e2
  · rw [AH.get_put] at e2 e4
    by_cases hk : k = b
    · rw [if_pos hk] at e2; cases e2; cases e6
    · by_cases hk' : k' = b
      · rw [if_pos hk'] at e4; cases e4; cases e7
      · rw [if_neg hk] at e2; rw [if_neg hk'] at e4
        exact r.inj k M p k' M' p' e1 e2 e3 e4 e5 e6 e7
  · rw [AH.get_put] at e2
    by_cases hk : k = b
    · rw [if_pos hk] at e2; cases e2; cases e3
    · rw [if_neg hk] at e2; exact r.own k M p e1 e2 e3
  · refine ⟨f.le_refl, Nat.le_refl _, lowest_le_left _ _, fun _ _ e _ => e, fun k M e n => (by rw [n] at e; cases e), Nat.le_refl _, fun _ _ _ => rfl, fun k hk hlo => ?_, rfl, rfl, rfl⟩
    rw [AH.get_put, if_neg]
    have h2 : (h.put b .dead).low ≤ b := lowest_le_right _ _
    omega

/-- A new view of a block that no living view has. -/
theorem Rel.view [Glob] {B : Bs} {f : Emb} {h : AH} {w w' : World} (r : Rel B f h w) {a : Nat} {M0 : Loc} (ha : f a = some M0) (hlow : h.low ≤ a)
    (hno : ∀ b L o, f b = some L → h.get b = some o → live o = true → L.blk ≠ M0.blk) (hB : B.lo ≤ M0.blk) {ob : Obj} (hwr : Wrote w w' M0.blk ob) {o : AObj} {sh s : Nat}
    (ho : ObjR (f.put h.next ⟨M0.blk, sh, s⟩) ⟨M0.blk, sh, s⟩ w' o) :
    Rel B (f.put h.next ⟨M0.blk, sh, s⟩) (h.add o) w' ∧ Turn f h w (f.put h.next ⟨M0.blk, sh, s⟩) (h.add o) w' := by
  have hle := r.le_put ⟨M0.blk, sh, s⟩
  have hrng := r.rng a M0 ha
  refine ⟨⟨fun b M e => ?_, fun k hk => ?_, fun b M e => ?_, fun b M p e1 e2 => ?_, fun k M p k' M' p' e1 e2 e3 e4 e5 e6 e7 => ?_, fun k M p e1 e2 e3 => ?_, by rw [hwr.size]; exact r.base, fun k hk => (hwr.other k (by omega)).trans (r.keep k hk), r.glob⟩, ?_⟩
  · by_cases hb : b = h.next
    · subst hb; exact Nat.lt_succ_self _
    · rw [Emb.put_ne _ _ hb] at e; exact Nat.lt_succ_of_lt (r.dom b M e)
  · have hk' : h.next + 1 ≤ k := hk
    rw [AH.get_add, if_neg (by omega)]; exact r.wf k (by omega)
  · rw [hwr.size]
    by_cases hb : b = h.next
    · subst hb; rw [Emb.put_same] at e; cases e; exact hrng
    · rw [Emb.put_ne _ _ hb] at e; exact r.rng b M e
  · rw [AH.get_add] at e2
    by_cases hb : b = h.next
    · subst hb; rw [Emb.put_same] at e1; cases e1; rw [if_pos rfl] at e2; cases e2; exact ho
    · rw [Emb.put_ne _ _ hb] at e1; rw [if_neg hb] at e2
      by_cases hlp : live p = true
      · exact ((r.obj b M p e1 e2).world (hwr.other _ (hno b M p e1 e2 hlp))).mono hle
      · cases p <;> simp_all [live, ObjR]
  · rw [AH.get_add] at e2 e4
    by_cases hk : k = h.next
    · by_cases hk' : k' = h.next
      · omega
      · subst hk; rw [Emb.put_same] at e1; cases e1
        rw [Emb.put_ne _ _ hk'] at e3; rw [if_neg hk'] at e4
        exact absurd e5.symm (hno k' M' p' e3 e4 (by cases p' <;> simp_all [writable, live]))
    · rw [Emb.put_ne _ _ hk] at e1; rw [if_neg hk] at e2
      by_cases hk' : k' = h.next
      · subst hk'; rw [Emb.put_same] at e3; cases e3
        exact absurd e5 (hno k M p e1 e2 e6)
      · rw [Emb.put_ne _ _ hk'] at e3; rw [if_neg hk'] at e4
        exact r.inj k M p k' M' p' e1 e2 e3 e4 e5 e6 e7
  · rw [AH.get_add] at e2
    by_cases hk : k = h.next
    · subst hk; rw [Emb.put_same] at e1; cases e1; exact hB
    · rw [Emb.put_ne _ _ hk] at e1; rw [if_neg hk] at e2
      exact r.own k M p e1 e2 e3
  · refine ⟨hle, Nat.le_succ _, Nat.le_refl _, fun b M e hb => ?_, fun b M e n => ?_, by rw [hwr.size]; exact Nat.le_refl _, fun k hk hq => ?_, fun b hb _ => ?_, hwr.os, hwr.tape, hwr.output⟩
    · rw [Emb.put_ne _ _ (by omega)] at e; exact e
    · by_cases hb : b = h.next
      · subst hb; rw [Emb.put_same] at e; cases e; exact .inr ⟨a, M0, ha, rfl, hlow⟩
      · rw [Emb.put_ne _ _ hb, n] at e; cases e
    · refine hwr.other k fun q => ?_
      have := hq a M0 ha q.symm
      have h3 : (h.add o).low = h.low := rfl
      omega
    · rw [AH.get_add, if_neg (by omega)]
end Go.Proofs.Xx
