/-
  The checked run is sound.
-/
import Derived.Test.YtnopenpheaihmaaGreatDoorA20
namespace Go.Proofs.Xx
open Go
set_option linter.unusedSimpArgs false
set_option linter.unusedVariables false

theorem numbered_inv : ∀ (l : List Nat) (n i b : Nat), idOf (numbered n l) i = some b → n ≤ b ∧ b < n + l.length ∧ l[b - n]? = some i
  | [], n, i, b, h => by cases h
  | j :: r, n, i, b, h => by
    simp only [numbered, idOf] at h
    split at h
    · rename_i hj
      cases h
      have := Nat.eq_of_beq_eq_true hj
      subst this
      exact ⟨Nat.le_refl _, by simp, by simp⟩
    · obtain ⟨h1, h2, h3⟩ := numbered_inv r (n + 1) i b h
      refine ⟨by omega, by simp; omega, ?_⟩
      rw [show b - n = (b - (n + 1)) + 1 by omega, List.getElem?_cons_succ]
      exact h3
theorem numbered_has : ∀ (l : List Nat) (n i : Nat), hasN l i = true → ∃ b, idOf (numbered n l) i = some b
  | [], n, i, h => by cases h
  | j :: r, n, i, h => by
    simp only [numbered, idOf]
    cases hj : Nat.beq j i with
    | true => exact ⟨n, rfl⟩
    | false =>
      simp only
      refine numbered_has r (n + 1) i ?_
      rw [hasN_mem] at h ⊢
      rw [List.mem_cons] at h
      rcases h with h | h
      · subst h; simp at hj
      · exact h

section
variable {P : Program}

theorem Rel.addFree [Glob] {B : Bs} {e : Emb} {h : AH} {w : World} (r : Rel B e h w) (o : AObj) : Rel B e (h.add o) w ∧ Turn e h w e (h.add o) w := by
  have hne : ∀ b L, e b = some L → b ≠ h.next := fun b L q => by have := r.dom b L q; omega
  refine ⟨⟨fun b L q => Nat.lt_succ_of_lt (r.dom b L q), fun b hb => ?_, r.rng, fun b L p q1 q2 => ?_, fun k M p k' M' p' e1 e2 e3 e4 e5 e6 e7 => ?_, fun b L p q1 q2 q3 => ?_, r.base, r.keep, r.glob⟩,
    ⟨e.le_refl, Nat.le_succ _, Nat.le_refl _, fun _ _ q _ => q, fun b L q n => (by rw [n] at q; cases q), Nat.le_refl _, fun _ _ _ => rfl, fun b hb _ => ?_, rfl, rfl, rfl⟩⟩
  · have hb' : h.next + 1 ≤ b := hb
    rw [AH.get_add, if_neg (by omega)]; exact r.wf b (by omega)
  · rw [AH.get_add, if_neg (hne b L q1)] at q2; exact r.obj b L p q1 q2
  · rw [AH.get_add, if_neg (hne k M e1)] at e2
    rw [AH.get_add, if_neg (hne k' M' e3)] at e4
    exact r.inj k M p k' M' p' e1 e2 e3 e4 e5 e6 e7
  · rw [AH.get_add, if_neg (hne b L q1)] at q2; exact r.own b L p q1 q2 q3
  · rw [AH.get_add, if_neg (by omega)]
theorem Rel.addAll [Glob] {B : Bs} {e : Emb} {w : World} : ∀ (os : List AObj) (h : AH), Rel B e h w → Rel B e (os.foldl AH.add h) w ∧ Turn e h w e (os.foldl AH.add h) w ∧ (os.foldl AH.add h).next = h.next + os.length
  | [], h, r => ⟨r, Turn.refl _ _ _, rfl⟩
  | o :: os, h, r => by
    obtain ⟨r1, u1⟩ := r.addFree o
    obtain ⟨r2, u2, n2⟩ := Rel.addAll os (h.add o) r1
    refine ⟨r2, u1.trans u2 r.dom, ?_⟩
    rw [List.foldl_cons, n2]
    simp only [AH.add, List.length_cons]; omega

theorem opsD2_sound [Glob] {X : Extern} {run : Runner} (hm : P.follows .mixedOrders = true) (hC : CallOk P (callA P X run)) (hY : YieldOk P (yieldA run)) {sz : Nat} {ops : Array Oper} {fl : List Nat} {ids : List (Nat × Nat)}
    {t t' : Tr Value} {h h0 h' : AH} (hp : planOk ops (masks ops.toList []) fl = true) (ho : opsD2 P X run sz ops (masks ops.toList []) fl ids t h0 = some (t', h'))
    (ids1 : ∀ i, hasN fl i = true → ∃ b, idOf ids i = some b) (ids2 : ∀ i b, idOf ids i = some b → hasN fl i = true ∧ h.next ≤ b ∧ b < h0.next) (ids3 : ∀ i j b, idOf ids i = some b → idOf ids j = some b → i = j)
    {B : Bs} {e : Emb} {w : World} {tm : Array Value} (r : Rel B e h w) (r0 : Rel B e h0 w) (u0 : Turn e h w e h0 w) (T : TR e sz t tm) (tv : Nat) :
    ∃ e' w' tm', Rel B e' h' w' ∧ Turn e h w e' h' w' ∧ TR e' sz t' tm' ∧ ∀ (fn : FuncId) (ro : Option Nat) (k : List Item) (ds : List Deferred) (cs : List Frame),
      Steps P (lone (fr fn ro tm (.inRegion ops (Region.schedule (P.follows .mixedOrders) ops tv) :: k) ds) cs w) (lone (fr fn ro tm' (.inRegion ops [] :: k) ds) cs w') := by
  unfold opsD2 at ho
  split at ho
  rotate_left
  · cases ho
  rename_i l t1 h1 hr
  simp only at ho
  split at ho
  rotate_left
  · cases ho
  rename_i hall
  cases ho
  obtain ⟨q1, q2, q3, q4⟩ := runD_spec ops.toList 0 t h0 l t' h' hr
  have c : Canon P X run sz ops ids fl l t t' h h0 h' := {
    plan := hp
    startT := q1
    startH := q2
    len := q3.trans Array.length_toList
    step := fun k o hk => by
      obtain ⟨s, s1, s2⟩ := q4 k o (by rw [Array.getElem?_toList]; exact hk)
      refine ⟨s, s1, ?_⟩
      rw [Nat.zero_add] at s2
      exact s2
    checked := fun i hi => by
      rw [List.all_eq_true] at hall
      exact hall i (List.mem_range.2 hi)
    ids1 := ids1
    ids2 := ids2
    ids3 := ids3 }
  have hk0 : kk l h0 h' (([] : List Nat).filter (chainAt ops fl)) = h0 := rfl
  have S : St B ops ids fl l t h h0 h' sz e w [] e w tm := {
    rel := r0
    tr := T
    turn := u0
    next := Nat.le_refl _
    free := fun j b hj _ => by
      cases he : e b with
      | none => rfl
      | some L =>
        have := r.dom b L he
        have := (ids2 j b hj).2.1
        omega }
  obtain ⟨e', w', tm', p1, p2, p3, p4⟩ := c.go hC hY r.dom ops.size tv (Array.replicate ops.size false) [] (by simp) (by simp) (fun i hi => by simp [Array.getElem?_replicate, hi]) (Valid.nil ops) e w tm S
  refine ⟨e', w', tm', p1, p2, p3, fun fn ro k ds cs => ?_⟩
  simp only [Region.schedule, hm, Bool.true_or, if_true]
  exact p4 fn ro k ds cs

theorem drawsOk [Glob] {X : Extern} {run : Runner} (hm : P.follows .mixedOrders = true) (hX : XOk P X) (hN : ∀ (f : FuncId) (fn : Func), P.funcs[f]? = some fn → fn.body.isSome = true → (fn.name == "runtime.NumGoroutine") = false)
    (hR : RunOk P run) : DrawsOk P X run := by
  have hC := callA_sound hX hN hR
  have hY := yieldA_sound hR
  intro sz ops t h t' h' ho B e w tm r T tv
  unfold opsD at ho
  simp only at ho
  split at ho
  rotate_left
  · cases ho
  rename_i hp
  split at ho
  · rename_i hfl
    rw [hfl] at hp
    refine opsD2_sound hm hC hY hp ho (fun i q => by cases q) (fun i b q => by cases q) (fun i j b q => by cases q) r r (Turn.refl _ _ _) T tv
  · rename_i j rest hfl
    rw [hfl] at hp
    split at ho
    rotate_left
    · cases ho
    rename_i l t1 h1 hr
    obtain ⟨r0, u0, n0⟩ := Rel.addAll ((j :: rest).map (hintObj P ops l)) h r
    refine opsD2_sound hm hC hY hp ho (fun i q => numbered_has _ _ _ q) (fun i b q => ?_) (fun i k b q1 q2 => ?_) r r0 u0 T tv
    · obtain ⟨a1, a2, a3⟩ := numbered_inv _ _ _ _ q
      refine ⟨hasN_mem.2 (List.mem_of_getElem? a3), a1, ?_⟩
      rw [n0, List.length_map]; exact a2
    · obtain ⟨a1, a2, a3⟩ := numbered_inv _ _ _ _ q1
      obtain ⟨b1, b2, b3⟩ := numbered_inv _ _ _ _ q2
      rw [a3] at b3
      exact Option.some.inj b3

theorem exec_sound [Glob] {X : Extern} (hm : P.follows .mixedOrders = true) (hX : XOk P X) (hN : ∀ (f : FuncId) (fn : Func), P.funcs[f]? = some fn → fn.body.isSome = true → (fn.name == "runtime.NumGoroutine") = false) (n : Nat) :
    RunOk P (exec P X n) := exec_ok hX hN (fun run hR => drawsOk hm hX hN hR) n
end
end Go.Proofs.Xx
