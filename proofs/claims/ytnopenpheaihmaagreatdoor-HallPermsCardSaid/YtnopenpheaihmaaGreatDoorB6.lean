/-
  The abstract memory in proofs: what is kept, slices that read as lists, blocks of one's own.
-/
import Derived.Test.YtnopenpheaihmaaGreatDoorB5
import Derived.IntWalk
namespace Go.Proofs.Xx
open Go
set_option linter.unusedSimpArgs false
set_option linter.unusedVariables false

/-! ### what is kept -/
def WfH (h : AH) : Prop := ∀ b, h.next ≤ b → h.get b = none
theorem WfH.lt {h : AH} (w : WfH h) {b : Nat} {o : AObj} (hg : h.get b = some o) : b < h.next := by
  rcases Nat.lt_or_ge b h.next with q | q
  · exact q
  · rw [w b q] at hg; cases hg
theorem WfH.add {h : AH} (w : WfH h) (o : AObj) : WfH (h.add o) := fun b hb => by
  have hb' : h.next + 1 ≤ b := hb
  rw [AH.get_add, if_neg (by omega)]; exact w b (by omega)
theorem WfH.put {h : AH} (w : WfH h) {b : Nat} (hb : b < h.next) (o : AObj) : WfH (h.put b o) := fun k hk => by
  have hk' : h.next ≤ k := hk
  rw [AH.get_put, if_neg (by omega)]; exact w k hk'
/-- Of what was there in h nothing has turned. -/
structure Ext (h h' : AH) : Prop where
  next : h.next ≤ h'.next
  old : ∀ b, b < h.next → h'.get b = h.get b
  wf : WfH h'
theorem Ext.refl {h : AH} (w : WfH h) : Ext h h := ⟨Nat.le_refl _, fun _ _ => rfl, w⟩
theorem Ext.trans {a b c : AH} (x : Ext a b) (y : Ext b c) : Ext a c := ⟨Nat.le_trans x.next y.next, fun k hk => (y.old k (Nat.lt_of_lt_of_le hk x.next)).trans (x.old k hk), y.wf⟩
theorem Ext.add {h0 h : AH} (x : Ext h0 h) (o : AObj) : Ext h0 (h.add o) :=
  ⟨Nat.le_trans x.next (Nat.le_succ _), fun b hb => by rw [AH.get_add, if_neg (by have := x.next; omega)]; exact x.old b hb, x.wf.add o⟩
theorem Ext.put {h0 h : AH} (x : Ext h0 h) {b : Nat} (h1 : h0.next ≤ b) (h2 : b < h.next) (o : AObj) : Ext h0 (h.put b o) :=
  ⟨x.next, fun k hk => by rw [AH.get_put, if_neg (by omega)]; exact x.old k hk, x.wf.put h2 o⟩
theorem Ext.get {h0 h : AH} (x : Ext h0 h) (w : WfH h0) {b : Nat} {o : AObj} (hg : h0.get b = some o) : h.get b = some o := (x.old b (w.lt hg)).trans hg

/-! ### slices that read as lists -/
theorem takeAt_get {c xs : List Value} {o n k : Nat} (h : takeAt c o n = some xs) (hk : k < n) : c[o + k]? = xs[k]? := by
  unfold takeAt at h
  simp only at h
  split at h
  · cases h
    rw [List.getElem?_take, if_pos hk, List.getElem?_drop]
  · cases h
theorem takeAt_len {c xs : List Value} {o n : Nat} (h : takeAt c o n = some xs) : xs.length = n := by
  unfold takeAt at h
  simp only at h
  split at h
  · rename_i e; cases h; exact Nat.eq_of_beq_eq_true e
  · cases h
theorem takeAt_mk {c : List Value} {o n : Nat} (h : o + n ≤ c.length) : takeAt c o n = some ((c.drop o).take n) := by
  unfold takeAt
  simp only
  have : ((c.drop o).take n).length = n := by rw [List.length_take, List.length_drop]; omega
  rw [this]; simp
theorem takeAt_all (c : List Value) : takeAt c 0 c.length = some c := by rw [takeAt_mk (by omega)]; simp
theorem takeAt_eqs {c xs : List Value} {o n : Nat} (h : takeAt c o n = some xs) : xs = (c.drop o).take n ∧ o + n ≤ c.length ∨ n = 0 ∧ xs = [] := by
  have hl := takeAt_len h
  unfold takeAt at h
  simp only at h
  split at h
  · rename_i e
    cases h
    rw [List.length_take, List.length_drop] at hl
    rcases Nat.eq_zero_or_pos n with q | q
    · right; subst q; simp
    · left; exact ⟨rfl, by omega⟩
  · cases h
theorem takeAt_sub {c xs : List Value} {o n i m : Nat} (h : takeAt c o n = some xs) (him : i + m ≤ n) : takeAt c (o + i) m = some ((xs.drop i).take m) := by
  rcases takeAt_eqs h with ⟨rfl, hle⟩ | ⟨rfl, rfl⟩
  · rw [takeAt_mk (by omega), List.drop_take, List.take_take, List.drop_drop]
    congr 2; omega
  · have : m = 0 := by omega
    subst this
    simp [takeAt]

/-- The slice value v has n elements of z cells each, which read as c. -/
def Rd (h : AH) (v : Value) (z n : Nat) (c : List Value) : Prop :=
  (v = .slice none 0 0 ∧ n = 0 ∧ c = []) ∨ ∃ b o cap cc e s r, v = .slice (some ⟨b, o, none⟩) n cap ∧ h.get b = some (.cells cc e s r) ∧ takeAt cc o (n * z) = some c
theorem Rd.none_ (h : AH) (z : Nat) : Rd h (.slice none 0 0) z 0 [] := .inl ⟨rfl, rfl, rfl⟩
theorem Rd.length {h : AH} {v : Value} {z n : Nat} {c : List Value} (r : Rd h v z n c) : c.length = n * z := by
  rcases r with ⟨rfl, rfl, rfl⟩ | ⟨b, o, cap, cc, e, s, q, rfl, h1, h2⟩
  · simp
  · exact takeAt_len h2
theorem Rd.ext {h h' : AH} {v : Value} {z n : Nat} {c : List Value} (r : Rd h v z n c) (w : WfH h) (x : Ext h h') : Rd h' v z n c := by
  rcases r with ⟨rfl, rfl, rfl⟩ | ⟨b, o, cap, cc, e, s, q, rfl, h1, h2⟩
  · exact Rd.none_ h' z
  · exact .inr ⟨b, o, cap, cc, e, s, q, rfl, x.get w h1, h2⟩
section
variable {P : Program} {ty e : TypeId} (hu : P.underlying ty = some (.slice e))
include hu
theorem Rd.len {h : AH} {v : Value} {z n : Nat} {c : List Value} (r : Rd h v z n c) : aLen P ty v = some (.int .i64 n) := by
  rcases r with ⟨rfl, rfl, rfl⟩ | ⟨b, o, cap, cc, e', s, q, rfl, h1, h2⟩ <;> simp [aLen, hu]
/-- The address of an element. -/
theorem Rd.addr {z : Nat} (hz : sizeT P e = some z) {h : AH} {v : Value} {n : Nat} {c : List Value} (r : Rd h v z n c) {ik : IntKind} {k : Nat} (hk : k < n) :
    ∃ b o cc e' s q, aIndexAddr P ty v (.int ik k) = some (.pointer (some ⟨b, o, none⟩)) ∧ h.get b = some (.cells cc e' s q) ∧ takeAt cc o z = some ((c.drop (k * z)).take z) := by
  rcases r with ⟨rfl, rfl, rfl⟩ | ⟨b, o, cap, cc, e', s, q, rfl, h1, h2⟩
  · omega
  · refine ⟨b, o + k * z, cc, e', s, q, ?_, h1, takeAt_sub h2 ?_⟩
    · have : Nat.blt k n = true := by rw [Nat.blt_eq]; exact hk
      show aIndexAddr P ty _ (.int ik (Int.ofNat k)) = _
      simp only [aIndexAddr, hu, hz, this]
    · have : (k + 1) * z ≤ n * z := Nat.mul_le_mul_right z hk
      rw [Nat.add_mul] at this; omega
/-- An element of one cell. -/
theorem Rd.at1 (hz : sizeT P e = some 1) (ha : isAggT P e = some false) {h : AH} {v : Value} {n : Nat} {c : List Value} (r : Rd h v 1 n c) {ik : IntKind} {k : Nat} {x : Value} (hx : c[k]? = some x) :
    ∃ p, aIndexAddr P ty v (.int ik k) = some p ∧ aLoad P e p h = some x := by
  have hk : k < n := by have := (List.getElem?_eq_some_iff.1 hx).1; have := r.length; omega
  obtain ⟨b, o, cc, e', s, q, h1, h2, h3⟩ := r.addr hu hz (ik := ik) hk
  refine ⟨_, h1, ?_⟩
  simp only [aLoad, cellsAt, h2, ha]
  have := takeAt_get h3 (k := 0) (by omega)
  rw [Nat.add_zero] at this
  rw [this, List.getElem?_take, if_pos (by omega), List.getElem?_drop]
  simpa using hx
/-- An element of more cells. -/
theorem Rd.atN {z : Nat} (hz : sizeT P e = some z) (ha : isAggT P e = some true) {h : AH} {v : Value} {n : Nat} {c : List Value} (r : Rd h v z n c) {ik : IntKind} {k : Nat} (hk : k < n) :
    ∃ p, aIndexAddr P ty v (.int ik k) = some p ∧ aLoad P e p h = some (.agg ((c.drop (k * z)).take z).toArray) := by
  obtain ⟨b, o, cc, e', s, q, h1, h2, h3⟩ := r.addr hu hz (ik := ik) hk
  exact ⟨_, h1, by simp only [aLoad, cellsAt, h2, ha, hz, h3]⟩
end

/-! ### blocks of one's own -/
/-- v is the whole of block b, which holds the cells c, n elements. -/
structure Own (h : AH) (v : Value) (b : Nat) (e : TypeId) (z n : Nat) (c : List Value) : Prop where
  val : v = .slice (some ⟨b, 0, none⟩) n n
  obj : h.get b = some (.cells c e none false)
  len : c.length = n * z
theorem Own.rd {h : AH} {v : Value} {b : Nat} {e : TypeId} {z n : Nat} {c : List Value} (o : Own h v b e z n c) : Rd h v z n c :=
  .inr ⟨b, 0, n, c, e, none, false, o.val, o.obj, by rw [← o.len]; exact takeAt_all c⟩
theorem zeroRow_one (x : Value) : ∀ n, zeroRow [x] n = List.replicate n x
  | 0 => rfl
  | n + 1 => by simp [zeroRow, zeroRow_one x n, List.replicate_succ]
theorem make_own {P : Program} {ty e : TypeId} {z : List Value} {by_ : Nat} {h : AH} (w : WfH h) (hu : sliceElem P ty = some e) (hz : zeroCellsT P e = some z) (hb : bytesT P e = some by_) {n : Nat} (hn : n * (by_ + 1) ≤ 1099511627776) :
    ∃ v h', aMakeSlice P ty (.int .i64 n) (.int .i64 n) h = some (v, h') ∧ Own h' v h.next e z.length n (zeroRow z n) ∧ Ext h h' := by
  refine ⟨.slice (some ⟨h.next, 0, none⟩) n n, h.add (.cells (zeroRow z n) e none false), ?_, ⟨rfl, by rw [AH.get_add, if_pos rfl], zeroRow_length z n⟩, (Ext.refl w).add _⟩
  show aMakeSlice P ty (.int .i64 (Int.ofNat n)) (.int .i64 (Int.ofNat n)) h = _
  have h1 : Nat.ble n n = true := Nat.ble_eq_true_of_le (Nat.le_refl _)
  have h2 : Nat.ble (n * (by_ + 1)) 1099511627776 = true := Nat.ble_eq_true_of_le hn
  simp only [aMakeSlice, hu, hz, hb, h1, h2, Bool.and_self]
/-- A store into an element of one cell of one's own block. -/
theorem Own.set {P : Program} {ty e : TypeId} (hu : P.underlying ty = some (.slice e)) (hz : sizeT P e = some 1) {h : AH} {v : Value} {b n : Nat} {c : List Value} (o : Own h v b e 1 n c) {ik : IntKind} {k : Nat} (hk : k < n) {x : Value} (hx : one? x = true) (hc : x.cells = #[x]) :
    ∃ p, aIndexAddr P ty v (.int ik k) = some p ∧ aStore P e p x h = some (h.put b (.cells (c.set k x) e none false)) ∧ Own (h.put b (.cells (c.set k x) e none false)) v b e 1 n (c.set k x) := by
  have hkc : k < c.length := by have := o.len; omega
  refine ⟨.pointer (some ⟨b, 0 + k * 1, none⟩), ?_, ?_, ⟨o.val, by rw [AH.get_put, if_pos rfl], by rw [List.length_set]; exact o.len⟩⟩
  · have : Nat.blt k n = true := by rw [Nat.blt_eq]; exact hk
    rw [o.val]
    show aIndexAddr P ty _ (.int ik (Int.ofNat k)) = _
    simp only [aIndexAddr, hu, hz, this]
  · simp only [aStore, cellsAt, o.obj, hz, hc]
    have h1 : Nat.ble (0 + k * 1 + 1) c.length = true := Nat.ble_eq_true_of_le (by omega)
    have h2 : splice c (0 + k * 1) [x] = c.set k x := by
      simp only [splice, Nat.zero_add, Nat.mul_one, List.length_cons, List.length_nil, List.cons_append, List.nil_append]
      rw [List.set_eq_take_append_cons_drop, if_pos hkc]
    have h3 : putCells h b (0 + k * 1) c e none [x] = some (h.put b (.cells (c.set k x) e none false)) := by
      unfold putCells
      rw [h2]
      have : ([x].all one? && Nat.ble (0 + k * 1 + [x].length) c.length) = true := by
        rw [show [x].all one? = true by simp [hx], show [x].length = 1 from rfl, h1]; rfl
      rw [this]
    exact h3

theorem wrap_i64 {n : Int} (h1 : -9223372036854775808 ≤ n) (h2 : n ≤ 9223372036854775807) : IntKind.i64.wrap n = n := IntWalk.i64_in _ (by omega)
theorem add_i64 {P : Program} {ty : TypeId} {a b c : Int} (hc : a + b = c) (h1 : -9223372036854775808 ≤ c) (h2 : c ≤ 9223372036854775807) : aBin P .add ty (.int .i64 a) (.int .i64 b) = some (.int .i64 c) := by
  show some (Value.int .i64 (IntKind.i64.wrap (a + b))) = _
  rw [hc, wrap_i64 h1 h2]
theorem sub_i64 {P : Program} {ty : TypeId} {a b c : Int} (hc : a - b = c) (h1 : -9223372036854775808 ≤ c) (h2 : c ≤ 9223372036854775807) : aBin P .sub ty (.int .i64 a) (.int .i64 b) = some (.int .i64 c) := by
  show some (Value.int .i64 (IntKind.i64.wrap (a - b))) = _
  rw [hc, wrap_i64 h1 h2]
theorem mul_i64 {P : Program} {ty : TypeId} {a b c : Int} (hc : a * b = c) (h1 : -9223372036854775808 ≤ c) (h2 : c ≤ 9223372036854775807) : aBin P .mul ty (.int .i64 a) (.int .i64 b) = some (.int .i64 c) := by
  show some (Value.int .i64 (IntKind.i64.wrap (a * b))) = _
  rw [hc, wrap_i64 h1 h2]

theorem lss_i64 {P : Program} {ty : TypeId} {k : IntKind} {a b : Int} {v : Bool} (h : decide (a < b) = v) : aBin P .lss ty (.int k a) (.int k b) = some (.bool v) := by subst h; cases k <;> rfl
theorem geq_i64 {P : Program} {ty : TypeId} {k : IntKind} {a b : Int} {v : Bool} (h : decide (a ≥ b) = v) : aBin P .geq ty (.int k a) (.int k b) = some (.bool v) := by subst h; cases k <;> rfl
theorem gtr_i64 {P : Program} {ty : TypeId} {k : IntKind} {a b : Int} {v : Bool} (h : decide (a > b) = v) : aBin P .gtr ty (.int k a) (.int k b) = some (.bool v) := by subst h; cases k <;> rfl
theorem leq_i64 {P : Program} {ty : TypeId} {k : IntKind} {a b : Int} {v : Bool} (h : decide (a ≤ b) = v) : aBin P .leq ty (.int k a) (.int k b) = some (.bool v) := by subst h; cases k <;> rfl
theorem eql_i64 {P : Program} {ty : TypeId} {k : IntKind} {a b : Int} {v : Bool} (h : decide (a = b) = v) : aBin P .eql ty (.int k a) (.int k b) = some (.bool v) := by
  have : (a == b) = v := by rw [← h]; rfl
  subst this; cases k <;> rfl
theorem neq_i64 {P : Program} {ty : TypeId} {k : IntKind} {a b : Int} {v : Bool} (h : decide (a = b) = !v) : aBin P .neq ty (.int k a) (.int k b) = some (.bool v) := by
  have : (a != b) = v := by
    have h2 : (a == b) = !v := by rw [← h]; rfl
    show (!(a == b)) = v
    rw [h2]; simp
  subst this; cases k <;> rfl

def ints (l : List Int) : List Value := l.map (Value.int .i64)
theorem ints_get {l : List Int} {k : Nat} {x : Int} (h : l[k]? = some x) : (ints l)[k]? = some (.int .i64 x) := by simp [ints, h]
theorem ints_length (l : List Int) : (ints l).length = l.length := by simp [ints]
theorem ints_set (l : List Int) (k : Nat) (x : Int) : (ints l).set k (.int .i64 x) = ints (l.set k x) := by simp [ints, List.map_set]
end Go.Proofs.Xx
