/-
  How an abstract memory stands to a world of the machine: values, blocks, frames; what a step may turn.
-/
import Derived.Test.YtnopenpheaihmaaGreatDoorA2
import Derived.Below
namespace Go.Proofs.Xx
open Go
set_option linter.unusedSimpArgs false
set_option linter.unusedVariables false

structure Loc where
  blk : Nat
  sh : Nat
  slack : Nat
abbrev Emb := Nat → Option Loc

mutual
inductive VR (f : Emb) : Value → Value → Prop where
  | bool (b : Bool) : VR f (.bool b) (.bool b)
  | int (k : IntKind) (n : Int) : VR f (.int k n) (.int k n)
  | float (k : FloatKind) (n : Nat) : VR f (.float k n) (.float k n)
  | string (s : ByteArray) : VR f (.string s) (.string s)
  | nilPointer : VR f (.pointer none) (.pointer none)
  | pointer (b o : Nat) (L : Loc) (h : f b = some L) : VR f (.pointer (some ⟨b, o, none⟩)) (.pointer (some ⟨L.blk, L.sh + o, none⟩))
  | nilSlice : VR f (.slice none 0 0) (.slice none 0 0)
  | slice (b o : Nat) (a : Addr) (len cap : Nat) (L : Loc) (h : f b = some L) (hl : len ≤ cap) (ho : a = ⟨L.blk, L.sh + o, none⟩ ∨ (cap = 0 ∧ L.slack = 0)) :
      VR f (.slice (some ⟨b, o, none⟩) len cap) (.slice (some a) len (cap + L.slack))
  | nilMap : VR f (.map none) (.map none)
  | func (g : FuncId) (a a' c c' : List Value) (h1 : VRs f a a') (h2 : VRs f c c') : VR f (.func (.func g) a.toArray c.toArray) (.func (.func g) a'.toArray c'.toArray)
  | yield (l : Nat) (L : Loc) (h : f l = some L) : VR f (.func (.yield l) #[] #[]) (.func (.yield L.blk) #[] #[])
  | nilFunc : VR f .nilFunc .nilFunc
  | nilIface : VR f .nilIface .nilIface
  | agg (c c' : List Value) (h : VRs f c c') : VR f (.agg c.toArray) (.agg c'.toArray)
  | tuple (c c' : List Value) (h : VRs f c c') : VR f (.tuple c.toArray) (.tuple c'.toArray)
inductive VRs (f : Emb) : List Value → List Value → Prop where
  | nil : VRs f [] []
  | cons (v v' : Value) (r r' : List Value) (h : VR f v v') (hr : VRs f r r') : VRs f (v :: r) (v' :: r')
end

def Emb.le (f g : Emb) : Prop := ∀ b L, f b = some L → g b = some L
theorem Emb.le_refl (f : Emb) : f.le f := fun _ _ h => h
theorem Emb.le_trans {f g k : Emb} (h : f.le g) (h' : g.le k) : f.le k := fun b L e => h' b L (h b L e)

mutual
theorem VR.mono {f g : Emb} (hle : f.le g) : ∀ {v v' : Value}, VR f v v' → VR g v v'
  | _, _, .bool b => .bool b
  | _, _, .int k n => .int k n
  | _, _, .float k n => .float k n
  | _, _, .string s => .string s
  | _, _, .nilPointer => .nilPointer
  | _, _, .pointer b o L h => .pointer b o L (hle b L h)
  | _, _, .nilSlice => .nilSlice
  | _, _, .slice b o a len cap L h hl ho => .slice b o a len cap L (hle b L h) hl ho
  | _, _, .nilMap => .nilMap
  | _, _, .func gg a a' c c' h1 h2 => .func gg a a' c c' (VRs.mono hle h1) (VRs.mono hle h2)
  | _, _, .yield l L h => .yield l L (hle l L h)
  | _, _, .nilFunc => .nilFunc
  | _, _, .nilIface => .nilIface
  | _, _, .agg c c' h => .agg c c' (VRs.mono hle h)
  | _, _, .tuple c c' h => .tuple c c' (VRs.mono hle h)
theorem VRs.mono {f g : Emb} (hle : f.le g) : ∀ {c c' : List Value}, VRs f c c' → VRs g c c'
  | _, _, .nil => .nil
  | _, _, .cons v v' r r' h hr => .cons v v' r r' (VR.mono hle h) (VRs.mono hle hr)
end

theorem VRs.length {f : Emb} : ∀ {c c' : List Value}, VRs f c c' → c'.length = c.length
  | _, _, .nil => rfl
  | _, _, .cons _ _ _ _ _ hr => by simp [VRs.length hr]
theorem VRs.get {f : Emb} : ∀ {c c' : List Value}, VRs f c c' → ∀ (i : Nat) (v : Value), c[i]? = some v → ∃ v', c'[i]? = some v' ∧ VR f v v'
  | _, _, .nil, i, v, h => by simp at h
  | _, _, .cons w w' r r' hw hr, i, v, h => by
    cases i with
    | zero => simp at h; subst h; exact ⟨w', by simp, hw⟩
    | succ i => simp at h; obtain ⟨v', h1, h2⟩ := VRs.get hr i v h; exact ⟨v', by simpa using h1, h2⟩
theorem VRs.append {f : Emb} : ∀ {a a' b b' : List Value}, VRs f a a' → VRs f b b' → VRs f (a ++ b) (a' ++ b')
  | _, _, _, _, .nil, h => h
  | _, _, _, _, .cons v v' r r' hv hr, h => .cons v v' _ _ hv (VRs.append hr h)
theorem VRs.take {f : Emb} : ∀ {a a' : List Value}, VRs f a a' → ∀ n, VRs f (a.take n) (a'.take n)
  | _, _, .nil, n => by simp; exact .nil
  | _, _, .cons v v' r r' hv hr, n => by
    cases n with
    | zero => simp; exact .nil
    | succ n => simp; exact .cons _ _ _ _ hv (VRs.take hr n)
theorem VRs.drop {f : Emb} : ∀ {a a' : List Value}, VRs f a a' → ∀ n, VRs f (a.drop n) (a'.drop n)
  | _, _, .nil, n => by simp; exact .nil
  | _, _, .cons v v' r r' hv hr, n => by
    cases n with
    | zero => simp; exact .cons _ _ _ _ hv hr
    | succ n => simp; exact VRs.drop hr n
/-- Lists that are related place by place. -/
theorem VRs.of_get {f : Emb} : ∀ {c c' : List Value}, c'.length = c.length → (∀ (i : Nat) (v : Value), c[i]? = some v → ∃ v', c'[i]? = some v' ∧ VR f v v') → VRs f c c'
  | [], [], _, _ => .nil
  | [], _ :: _, h, _ => by simp at h
  | _ :: _, [], h, _ => by simp at h
  | v :: r, v' :: r', hl, h => by
    obtain ⟨w, h1, h2⟩ := h 0 v (by simp)
    simp at h1; subst h1
    refine .cons _ _ _ _ h2 (VRs.of_get (by simpa using hl) fun i u hu => ?_)
    obtain ⟨w, h3, h4⟩ := h (i + 1) u (by simpa using hu)
    exact ⟨w, by simpa using h3, h4⟩

theorem VRs.one {f : Emb} {v v' : Value} (h : VR f v v') : VRs f [v] [v'] := .cons _ _ _ _ h .nil

theorem VR.plain1 (f : Emb) (v : Value) (h : plain1 v = true) : VR f v v := by
  cases v with
  | bool b => exact .bool b
  | int k n => exact .int k n
  | float k n => exact .float k n
  | string s => exact .string s
  | pointer a => cases a with
    | none => exact .nilPointer
    | some a => simp [Xx.plain1] at h
  | slice a l c =>
    cases a with
    | none =>
      cases l with
      | zero => cases c with
        | zero => exact .nilSlice
        | succ c => simp [Xx.plain1] at h
      | succ l => simp [Xx.plain1] at h
    | some a => simp [Xx.plain1] at h
  | map r => cases r with
    | none => exact .nilMap
    | some r => simp [Xx.plain1] at h
  | func fn first captured =>
    cases fn with
    | func g =>
      simp [Xx.plain1] at h
      obtain ⟨rfl, rfl⟩ := h
      exact .func g [] [] [] [] .nil .nil
    | method _ => simp [Xx.plain1] at h
    | methodOf _ _ => simp [Xx.plain1] at h
    | via _ _ _ _ => simp [Xx.plain1] at h
    | yield _ => simp [Xx.plain1] at h
  | nilFunc => exact .nilFunc
  | nilIface => exact .nilIface
  | _ => simp [Xx.plain1] at h
theorem VRs.plain (f : Emb) : ∀ (c : List Value), c.all plain1 = true → VRs f c c
  | [], _ => .nil
  | v :: r, h => by simp at h; exact .cons _ _ _ _ (VR.plain1 f v h.1) (VRs.plain f r (by simpa using h.2))
theorem VR.plain (f : Emb) (v : Value) (h : plainV v = true) : VR f v v := by
  cases v with
  | agg cs => exact VR.agg (f := f) cs.toList cs.toList (VRs.plain f _ (by simpa [plainV] using h))
  | _ => exact VR.plain1 f _ (by simpa [plainV] using h)

/-- The cells of related values are related. -/
theorem VR.cells {f : Emb} {v v' : Value} (h : VR f v v') : VRs f v.cells.toList v'.cells.toList := by
  cases h with
  | agg c c' h => simpa [Value.cells] using h
  | _ => simp only [Value.cells]; refine VRs.one ?_; constructor <;> assumption
theorem VR.one? {f : Emb} {v v' : Value} (h : VR f v v') : one? v' = one? v := by cases h <;> rfl
theorem VRs.one? {f : Emb} : ∀ {c c' : List Value}, VRs f c c' → c'.all one? = c.all one?
  | _, _, .nil => rfl
  | _, _, .cons _ _ _ _ hv hr => by simp [VR.one? hv, VRs.one? hr]

/-! ### Blocks -/
/-- The slots of a frame. -/
def TR (f : Emb) (sz : Nat) (t : Tr Value) (tm : Array Value) : Prop :=
  tm.size = sz ∧ ∀ k v, t.get k = some v → ∃ v', tm[k]? = some v' ∧ VR f v v'

def ObjR (f : Emb) (L : Loc) (w : World) : AObj → Prop
  | .cells c e slk ro => ∃ cc fr, w.heap[L.blk]? = some (.cells cc e fr) ∧ L.sh + c.length ≤ cc.size ∧
      (∀ i v, c[i]? = some v → ∃ v', cc[L.sh + i]? = some v' ∧ VR f v v') ∧
      (slk = none → L.slack = 0 ∧ (ro = false → L.sh = 0 ∧ cc.size = c.length)) ∧
      (∀ k, slk = some k → L.sh + c.length + L.slack * k ≤ cc.size) ∧
      (ro = false → ∀ i, ¬ (fr.1 ≤ i ∧ i < fr.2))
  | .loop st pend sz t ps asg bo => ∃ fn tm D, w.heap[L.blk]? = some (.loop { state := st, pending := pend, fn := fn, tmps := tm, params := ps.toArray, assign := asg, body := bo, defers := D }) ∧ TR f sz t tm
  | .dead => True

def writable : AObj → Bool
  | .cells _ _ _ ro => !ro
  | .loop .. => true
  | .dead => false
def live : AObj → Bool
  | .dead => false
  | _ => true

/-- What is known of the program's listed variables, in every world. -/
class Glob where
  ok : Array Obj → Prop
/-- The blocks that are never written: those below lo, as they lie in ref. -/
structure Bs where
  lo : Nat
  ref : Array Obj

section
variable [Glob]
/-- How the abstract memory h stands to the world w by the embedding f; B: no block below it is written. -/
structure Rel (B : Bs) (f : Emb) (h : AH) (w : World) : Prop where
  dom : ∀ b L, f b = some L → b < h.next
  wf : ∀ b, h.next ≤ b → h.get b = none
  rng : ∀ b L, f b = some L → L.blk < w.heap.size
  obj : ∀ b L o, f b = some L → h.get b = some o → ObjR f L w o
  inj : ∀ b L o b' L' o', f b = some L → h.get b = some o → f b' = some L' → h.get b' = some o' → L.blk = L'.blk → live o = true → writable o' = true → b = b'
  own : ∀ b L o, f b = some L → h.get b = some o → writable o = true → B.lo ≤ L.blk
  base : B.lo ≤ w.heap.size
  keep : ∀ k, k < B.lo → w.heap[k]? = B.ref[k]?
  glob : Glob.ok B.ref
end

/-- What a run from (f, h, w) to (f', h', w') has turned: blocks from 'low' on alone. -/
structure Turn (f : Emb) (h : AH) (w : World) (f' : Emb) (h' : AH) (w' : World) : Prop where
  le : f.le f'
  next : h.next ≤ h'.next
  low : h'.low ≤ h.low
  old : ∀ b L, f' b = some L → b < h.next → f b = some L
  fresh : ∀ b L, f' b = some L → f b = none → w.heap.size ≤ L.blk ∨ ∃ a M, f a = some M ∧ M.blk = L.blk ∧ h'.low ≤ a
  size : w.heap.size ≤ w'.heap.size
  keep : ∀ k, k < w.heap.size → (∀ b L, f b = some L → L.blk = k → b < h'.low) → w'.heap[k]? = w.heap[k]?
  same : ∀ b, b < h.next → b < h'.low → h'.get b = h.get b
  os : w'.os = w.os
  tape : w'.tape = w.tape
  output : w'.output = w.output

theorem Turn.refl (f : Emb) (h : AH) (w : World) : Turn f h w f h w :=
  ⟨f.le_refl, Nat.le_refl _, Nat.le_refl _, fun _ _ e _ => e, fun b L e n => (by rw [n] at e; cases e), Nat.le_refl _, fun _ _ _ => rfl, fun _ _ _ => rfl, rfl, rfl, rfl⟩

theorem Turn.trans {f f1 f2 : Emb} {h h1 h2 : AH} {w w1 w2 : World} (a : Turn f h w f1 h1 w1) (b : Turn f1 h1 w1 f2 h2 w2) (hdom : ∀ b L, f b = some L → b < h.next) : Turn f h w f2 h2 w2 where
  le := Emb.le_trans a.le b.le
  next := Nat.le_trans a.next b.next
  low := Nat.le_trans b.low a.low
  old := fun k L e hk => a.old k L (b.old k L e (Nat.lt_of_lt_of_le hk a.next)) hk
  fresh := fun k L e n => by
    cases e1 : f1 k with
    | some L1 =>
      have := b.le k L1 e1
      rw [e] at this; cases this
      rcases a.fresh k L e1 n with h | ⟨p, M, h1, h2, h3⟩
      · exact .inl h
      · exact .inr ⟨p, M, h1, h2, Nat.le_trans b.low h3⟩
    | none =>
      rcases b.fresh k L e e1 with h | ⟨p, M, h1, h2, h3⟩
      · exact .inl (Nat.le_trans a.size h)
      · cases e0 : f p with
        | some M0 =>
          have := a.le p M0 e0
          rw [h1] at this; cases this
          exact .inr ⟨p, M, e0, h2, h3⟩
        | none =>
          rcases a.fresh p M h1 e0 with h | ⟨q, N, q1, q2, q3⟩
          · exact .inl (h2 ▸ h)
          · exact .inr ⟨q, N, q1, q2.trans h2, Nat.le_trans b.low q3⟩
  size := Nat.le_trans a.size b.size
  keep := fun k hk hq => by
    have h1 : w1.heap[k]? = w.heap[k]? := a.keep k hk fun p L e1 e2 => Nat.lt_of_lt_of_le (hq p L e1 e2) b.low
    refine (b.keep k (Nat.lt_of_lt_of_le hk a.size) fun p L e1 e2 => ?_).trans h1
    cases e0 : f p with
    | some M0 =>
      have := a.le p M0 e0
      rw [e1] at this; cases this
      exact hq p L e0 e2
    | none =>
      rcases a.fresh p L e1 e0 with h | ⟨q, N, q1, q2, q3⟩
      · omega
      · have := hq q N q1 (q2.trans e2)
        have := b.low
        omega
  same := fun k hk hl => (b.same k (Nat.lt_of_lt_of_le hk a.next) hl).trans (a.same k hk (Nat.lt_of_lt_of_le hl b.low))
  os := b.os.trans a.os
  tape := b.tape.trans a.tape
  output := b.output.trans a.output

theorem TR.mono {f g : Emb} {sz : Nat} {t : Tr Value} {tm : Array Value} (hle : f.le g) (h : TR f sz t tm) : TR g sz t tm :=
  ⟨h.1, fun k v e => let ⟨v', h1, h2⟩ := h.2 k v e; ⟨v', h1, h2.mono hle⟩⟩
theorem TR.set {f : Emb} {sz : Nat} {t : Tr Value} {tm : Array Value} (h : TR f sz t tm) {k : Nat} (hk : k < sz) {v v' : Value} (hv : VR f v v') : TR f sz (t.set k v) (tm.setIfInBounds k v') := by
  refine ⟨by simp [h.1], fun j u e => ?_⟩
  rw [Tr.get_set] at e
  by_cases hj : j = k
  · subst hj
    rw [if_pos rfl] at e; cases e
    exact ⟨v', by simp [h.1, hk], hv⟩
  · rw [if_neg hj] at e
    obtain ⟨u', h1, h2⟩ := h.2 j u e
    exact ⟨u', by rw [Array.getElem?_setIfInBounds_ne (by omega)]; exact h1, h2⟩
theorem ObjR.mono {f g : Emb} (hle : f.le g) {L : Loc} {w : World} {o : AObj} (h : ObjR f L w o) : ObjR g L w o := by
  cases o with
  | cells c e slk ro =>
    obtain ⟨cc, fr, h1, h2, h3, h4⟩ := h
    exact ⟨cc, fr, h1, h2, fun i v e => let ⟨v', q1, q2⟩ := h3 i v e; ⟨v', q1, q2.mono hle⟩, h4⟩
  | loop st pend sz t ps asg bo =>
    obtain ⟨fn, tm, D, h1, h2⟩ := h
    exact ⟨fn, tm, D, h1, h2.mono hle⟩
  | dead => trivial
theorem ObjR.world {f : Emb} {L : Loc} {w w' : World} {o : AObj} (hw : w'.heap[L.blk]? = w.heap[L.blk]?) (h : ObjR f L w o) : ObjR f L w' o := by
  cases o with
  | cells c e slk ro => simpa only [ObjR, hw] using h
  | loop st pend sz t ps asg bo => simpa only [ObjR, hw] using h
  | dead => trivial

/-- The abstract memory is the same but for 'low'. -/
theorem Rel.low [Glob] {B : Bs} {f : Emb} {h : AH} {w : World} (r : Rel B f h w) (k : Nat) : Rel B f { h with low := k } w :=
  ⟨r.dom, r.wf, r.rng, r.obj, r.inj, r.own, r.base, r.keep, r.glob⟩
end Go.Proofs.Xx
