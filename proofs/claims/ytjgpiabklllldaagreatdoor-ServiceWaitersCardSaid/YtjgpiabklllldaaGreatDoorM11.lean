/-
  Ways and trees in a metric: plain.
-/
import Derived.Test.YtjgpiabklllldaaGreatDoorM9
import Derived.Test.YtjgpiabklllldaaGreatDoorM8
import Derived.Test.YtjgpiabklllldaaGreatDoorM10
namespace Go.Proofs.Xx
set_option linter.unusedSectionVars false
set_option linter.unusedSimpArgs false
set_option linter.unusedVariables false
structure Met (d : Int → Int → Int) : Prop where
 nn : ∀ a b, 0 ≤ d a b
 z : ∀ a, d a a = 0
 sym : ∀ a b, d a b = d b a
 tri : ∀ a b c, d a c ≤ d a b + d b c
def plen (d : Int → Int → Int) : Int → List Int → Int → Int
 | a, [], b => d a b
 | a, t :: l, b => d a t + plen d t l b
theorem plen_app {d : Int → Int → Int} : ∀ (l : List Int) (a t : Int) (r : List Int) (b : Int), plen d a (l ++ t :: r) b = plen d a l t + plen d t r b
 | [], a, t, r, b => rfl
 | x :: l, a, t, r, b => by
  rw [List.cons_append, plen, plen, plen_app l x t r b]; omega
theorem plen_ge {d : Int → Int → Int} (m : Met d) : ∀ (l : List Int) (a b : Int), d a b ≤ plen d a l b
 | [], a, b => Int.le_refl _
 | x :: l, a, b => by
  have h1 := plen_ge m l x b
  have h2 := m.tri a x b
  rw [plen]; omega
theorem plen_nn {d : Int → Int → Int} (m : Met d) (l : List Int) (a b : Int) : 0 ≤ plen d a l b := by
 have h1 := plen_ge m l a b
 have h2 := m.nn a b
 omega
def tour (d : Int → Int → Int) (l : List Int) : Int := plen d (-1) l (-1)
def Comp (stops : List Int) : Nat → List Int → List (List Int)
 | 0, done => [done]
 | n + 1, done => stops.flatMap fun t => if t ∈ done then [] else Comp stops n (done ++ [t])
abbrev BestW := List Int × Int
def updW (L : List Int → Int) (s : BestW) (c : List Int) : BestW := if s.2 < 0 ∨ L c < s.2 then (c, L c) else s
theorem updW_keep {L : List Int → Int} : ∀ (l : List (List Int)) (s : BestW), 0 ≤ s.2 → (∀ c ∈ l, s.2 ≤ L c) → l.foldl (updW L) s = s
 | [], s, _, _ => rfl
 | c :: l, s, h, k => by
  have h1 := k c (by simp)
  have e : updW L s c = s := by unfold updW; rw [if_neg (by omega)]
  rw [List.foldl_cons, e]
  exact updW_keep l s h fun x hx => k x (List.mem_cons_of_mem _ hx)
theorem fold_best {L : List Int → Int} (hL : ∀ c, 0 ≤ L c) : ∀ (l : List (List Int)) (s : BestW), (0 ≤ s.2 → s.2 = L s.1) →
 let q := l.foldl (updW L) s
 (q = s ∨ (q.1 ∈ l ∧ q.2 = L q.1)) ∧ (0 ≤ s.2 → q.2 ≤ s.2) ∧ (∀ c ∈ l, 0 ≤ q.2 ∧ q.2 ≤ L c) ∧ (q ≠ s → ∃ a b, l = a ++ q.1 :: b ∧ ∀ c ∈ a, q.2 < L c)
 | [], s, _ => ⟨.inl rfl, fun _ => Int.le_refl _, fun c h => by (cases h), fun h => absurd rfl h⟩
 | c :: l, s, h => by
  rw [List.foldl_cons]
  by_cases e : s.2 < 0 ∨ L c < s.2
  ·have eu : updW L s c = (c, L c) := by unfold updW; rw [if_pos e]
   rw [eu]
   obtain ⟨k1, k2, k3, k4⟩ := fold_best hL l (c, L c) fun _ => rfl
   have k2 := k2 (hL c)
   refine ⟨.inr ?_, fun h0 => by simp only at k2; omega, fun x hx => ?_, fun _ => ?_⟩
   ·rcases k1 with k1 | ⟨k1, k5⟩
    ·rw [k1]; exact ⟨by simp, rfl⟩
    ·exact ⟨List.mem_cons_of_mem _ k1, k5⟩
   ·rcases List.mem_cons.1 hx with rfl | hx
    ·refine ⟨?_, k2⟩
     rcases k1 with k1 | ⟨-, k5⟩
     ·rw [k1]; exact hL _
     ·rw [k5]; exact hL _
    ·exact k3 x hx
   ·by_cases q : l.foldl (updW L) (c, L c) = (c, L c)
    ·rw [q]; exact ⟨[], l, rfl, fun x hx => by cases hx⟩
    ·obtain ⟨a, b, k5, k6⟩ := k4 q
     refine ⟨c :: a, b, by rw [List.cons_append, ← k5], fun x hx => ?_⟩
     rcases List.mem_cons.1 hx with rfl | hx
     ·rcases k1 with k1 | ⟨k1, k7⟩
      ·exact absurd k1 q
      ·simp only at k2
       rcases Int.lt_or_eq_of_le k2 with k8 | k8
       ·exact k8
       ·exfalso
        obtain ⟨j, e1, e2⟩ : ∃ y, (l.foldl (updW L) (x, L x)) = y ∧ y.2 = L x := ⟨_, rfl, k8⟩
        have : l.foldl (updW L) (x, L x) = (x, L x) := by
         refine updW_keep l (x, L x) (hL x) fun y hy => ?_
         have := (k3 y hy).2
         simp only; omega
        exact q this
     ·exact k6 x hx
  ·have eu : updW L s c = s := by unfold updW; rw [if_neg e]
   rw [eu]
   obtain ⟨k1, k2, k3, k4⟩ := fold_best hL l s h
   refine ⟨?_, k2, fun x hx => ?_, fun hne => ?_⟩
   ·rcases k1 with k1 | ⟨k1, k5⟩
    ·exact .inl k1
    ·exact .inr ⟨List.mem_cons_of_mem _ k1, k5⟩
   ·rcases List.mem_cons.1 hx with rfl | hx
    ·have h0 : 0 ≤ s.2 := by omega
     have h2 := k2 h0
     refine ⟨?_, by omega⟩
     rcases k1 with k1 | ⟨-, k5⟩
     ·rw [k1]; exact h0
     ·rw [k5]; exact hL _
    ·exact k3 x hx
   ·obtain ⟨a, b, k5, k6⟩ := k4 hne
    refine ⟨c :: a, b, by rw [List.cons_append, ← k5], fun x hx => ?_⟩
    rcases List.mem_cons.1 hx with rfl | hx
    ·have h0 : 0 ≤ s.2 := by omega
     have h2 := k2 h0
     rcases Int.lt_or_eq_of_le (show (l.foldl (updW L) s).2 ≤ L x by omega) with k8 | k8
     ·exact k8
     ·exfalso
      refine hne (updW_keep l s h0 fun y hy => ?_)
      have := (k3 y hy).2
      omega
    ·exact k6 x hx
inductive Cov (d : Int → Int → Int) : List Int → List Int → Int → Prop where
 | nil {J : List Int} : Cov d J [] 0
 | snoc {J R : List Int} {c x p : Int} (h : Cov d J R c) (hp : p ∈ J ∨ p ∈ R) : Cov d J (R ++ [x]) (c + d x p)
theorem Cov.mono {d : Int → Int → Int} {J J' R : List Int} {c : Int} (h : Cov d J R c) (hs : ∀ x ∈ J, x ∈ J') : Cov d J' R c := by
 induction h with
 | nil => exact .nil
 | snoc _ hp ih => exact .snoc ih (hp.imp (hs _) id)
theorem Cov.shift {d : Int → Int → Int} {J J' R : List Int} {c p v : Int} (h : Cov d (p :: J) R c) (hv : v ∈ J') (hs : ∀ x ∈ J, x ∈ J') : Cov d J' (p :: R) (c + d p v) := by
 generalize hJ : p :: J = K at h
 induction h with
 | nil =>
  have := Cov.snoc (d := d) (J := J') (R := []) (c := 0) (x := p) (p := v) .nil (.inl hv)
  simpa using this
 | @snoc R c x q h hq ih =>
  subst hJ
  have := Cov.snoc (x := x) (p := q) ih (by
   rcases hq with hq | hq
   ·rcases List.mem_cons.1 hq with rfl | hq
    ·exact .inr (by simp)
    ·exact .inl (hs _ hq)
   ·exact .inr (List.mem_cons_of_mem _ hq))
  have e : c + d p v + d x q = c + d x q + d p v := by omega
  rw [e] at this
  exact this
theorem Cov.exch {d : Int → Int → Int} (m : Met d) {J : List Int} {w : Int} {R : List Int} {c : Int} (h : Cov d J R c) : ∀ {v : Int}, v ∈ R → (∀ x ∈ R, ∀ y ∈ J, w ≤ d x y) → R.Nodup →
 ∃ R' c', R'.Perm (R.erase v) ∧ Cov d (v :: J) R' c' ∧ c' + w ≤ c := by
 induction h with
 | nil => intro v hv; cases hv
 | @snoc R c x p h hp ih =>
  intro v hv hw hnd
  rw [List.nodup_append] at hnd
  obtain ⟨nd, -, ndx⟩ := hnd
  have hxR : x ∉ R := fun q => ndx x q x (by simp) rfl
  have hw0 : ∀ y ∈ R, ∀ z ∈ J, w ≤ d y z := fun y hy => hw y (List.mem_append_left _ hy)
  by_cases e : v = x
  ·subst e
   have eR : (R ++ [v]).erase v = R := by rw [List.erase_append_right _ hxR]; simp
   rw [eR]
   by_cases hpR : p ∈ R
   ·obtain ⟨R', c', k1, k2, k3⟩ := ih hpR hw0 nd
    refine ⟨p :: R', c' + d p v, ?_, k2.shift (by simp) fun y hy => List.mem_cons_of_mem _ hy, ?_⟩
    ·exact (k1.cons p).trans (List.perm_cons_erase hpR).symm
    ·have := m.sym v p
     omega
   ·have hpJ : p ∈ J := hp.resolve_right hpR
    have := hw v (by simp) p hpJ
    exact ⟨R, c, .refl _, h.mono fun y hy => List.mem_cons_of_mem _ hy, by omega⟩
  ·have hvR : v ∈ R := by
    rcases List.mem_append.1 hv with q | q
    ·exact q
    ·exact absurd (List.mem_singleton.1 q) e
   obtain ⟨R', c', k1, k2, k3⟩ := ih hvR hw0 nd
   refine ⟨R' ++ [x], c' + d x p, ?_, k2.snoc ?_, by omega⟩
   ·rw [List.erase_append_left _ hvR]
    exact k1.append_right [x]
   ·by_cases q : p = v
    ·exact .inl (by simp [q])
    ·rcases hp with hp | hp
     ·exact .inl (List.mem_cons_of_mem _ hp)
     ·exact .inr (k1.mem_iff.2 ((List.mem_erase_of_ne q).2 hp))
inductive Prim (d : Int → Int → Int) : List Int → List Int → Int → Prop where
 | nil {J : List Int} : Prim d J [] 0
 | step {J L : List Int} {c v u : Int} (hv : v ∈ L) (hu : u ∈ J) (hm : ∀ x ∈ L, ∀ y ∈ J, d v u ≤ d x y) (h : Prim d (v :: J) (L.erase v) c) : Prim d J L (d v u + c)
theorem Cov.perm0 {d : Int → Int → Int} {J R : List Int} {c : Int} (h : Cov d J R c) (hR : R = []) : c = 0 := by
 cases h with
 | nil => rfl
 | snoc _ _ => simp at hR
theorem Prim.le {d : Int → Int → Int} (m : Met d) {J L : List Int} {c : Int} (h : Prim d J L c) : ∀ {R : List Int} {e : Int}, R.Perm L → L.Nodup → Cov d J R e → c ≤ e := by
 induction h with
 | nil => intro R e hp _ k; rw [k.perm0 (List.perm_nil.1 hp)]; exact Int.le_refl _
 | @step J L c v u hv hu hm h ih =>
  intro R e hp nd k
  obtain ⟨R', e', k1, k2, k3⟩ := Cov.exch m k (hp.mem_iff.2 hv) (fun x hx y hy => hm x (hp.mem_iff.1 hx) y hy) (hp.symm.nodup nd)
  have := ih (k1.trans (hp.erase v)) (nd.erase v) k2
  omega
theorem Cov.way {d : Int → Int → Int} (m : Met d) (a b : Int) : ∀ (R : List Int), ∃ e, Cov d [a] R e ∧ e ≤ plen d a R b := fun R => by
 have key : ∀ (n : Nat) (R : List Int), R.length = n → ∀ b, ∃ e, Cov d [a] R e ∧ e + d (R.getLast?.getD a) b ≤ plen d a R b := by
  intro n
  induction n with
  | zero => intro R h b; rw [List.length_eq_zero_iff.1 h]; exact ⟨0, .nil, by simp [plen]⟩
  | succ n ih =>
   intro R h b
   rcases List.eq_nil_or_concat R with rfl | ⟨R', x, rfl⟩
   ·cases h
   ·rw [List.concat_eq_append] at h ⊢
    obtain ⟨e, k1, k2⟩ := ih R' (by simpa using h) x
    refine ⟨e + d x (R'.getLast?.getD a), k1.snoc ?_, ?_⟩
    ·cases hq : R'.getLast? with
     | none => exact .inl (by simp)
     | some y => exact .inr (List.mem_of_getLast? hq)
    ·rw [plen_app, m.sym x]
     simp [plen]
     omega
 obtain ⟨e, k1, k2⟩ := key _ R rfl b
 have := m.nn (R.getLast?.getD a) b
 exact ⟨e, k1, by omega⟩
theorem tour_ins {d : Int → Int → Int} (m : Met d) (a : Int) : ∀ (l : List Int) (v u b : Int), u = a ∨ u ∈ l → ∃ l', l'.Perm (v :: l) ∧ plen d a l' b ≤ plen d a l b + 2 * d v u
 | l, v, u, b, h => by
  by_cases e : u = a
  ·subst e
   refine ⟨v :: l, .refl _, ?_⟩
   rw [plen]
   have h1 := m.sym v u
   cases l with
   | nil => rw [plen, plen]; have := m.tri v u b; omega
   | cons t l => rw [plen, plen]; have := m.tri v u t; omega
  ·have hu : u ∈ l := h.resolve_left e
   cases l with
   | nil => cases hu
   | cons t l =>
    obtain ⟨l', k1, k2⟩ := tour_ins m t l v u b (by rcases List.mem_cons.1 hu with q | q; exact .inl q; exact .inr q)
    refine ⟨t :: l', (k1.cons t).trans (List.Perm.swap v t l), ?_⟩
    rw [plen, plen]; omega
theorem Prim.tour {d : Int → Int → Int} (m : Met d) (a b : Int) {J L : List Int} {c : Int} (h : Prim d J L c) : ∀ {K : List Int}, (∀ x ∈ J, x = a ∨ x ∈ K) → ∃ l, l.Perm (L ++ K) ∧ plen d a l b ≤ plen d a K b + 2 * c := by
 induction h with
 | nil => intro K _; exact ⟨K, .refl _, by omega⟩
 | @step J L c v u hv hu hm h ih =>
  intro K hK
  obtain ⟨K', k1, k2⟩ := tour_ins m a K v u b (hK u hu)
  obtain ⟨l, k3, k4⟩ := ih (K := K') fun x hx => by
   rcases List.mem_cons.1 hx with rfl | hx
   ·exact .inr (k1.mem_iff.2 (by simp))
   ·exact (hK x hx).imp id fun q => k1.mem_iff.2 (List.mem_cons_of_mem _ q)
  refine ⟨l, k3.trans ?_, by omega⟩
  have p1 : (L.erase v ++ K').Perm (L.erase v ++ (v :: K)) := k1.append_left _
  have p2 : (L.erase v ++ (v :: K)).Perm (v :: (L.erase v ++ K)) := List.perm_middle
  have p3 : (v :: (L.erase v ++ K)).Perm (L ++ K) := by
   rw [← List.cons_append]
   exact (List.perm_cons_erase hv).symm.append_right K
  exact p1.trans (p2.trans p3)
end Go.Proofs.Xx
namespace Go.Proofs.Xx
set_option linter.unusedSectionVars false
set_option linter.unusedSimpArgs false
set_option linter.unusedVariables false
def lexL (a b : List Int) : Prop := ∃ pre x y s t, a = pre ++ x :: s ∧ b = pre ++ y :: t ∧ x < y
end Go.Proofs.Xx
namespace Go.Proofs.Xx
set_option linter.unusedSectionVars false
set_option linter.unusedSimpArgs false
set_option linter.unusedVariables false
def lastD (l : List Int) : Int := l.getLast?.getD (-1)
def lenTo (d : Int → Int → Int) (l : List Int) : Int := tour d l - d (lastD l) (-1)
def CompI (stops : List Int) (n : Nat) (done : List Int) (i : Nat) : List (List Int) := (stops.take i).flatMap fun t => if t ∈ done then [] else Comp stops n (done ++ [t])
theorem foldW_b {L : List Int → Int} {B : Int} (hL : ∀ c, 0 ≤ L c) : ∀ (l : List (List Int)) (s : BestW), (∀ c ∈ l, L c ≤ B) → s.2 ≤ B → -1 ≤ s.2 → -1 ≤ (l.foldl (updW L) s).2 ∧ (l.foldl (updW L) s).2 ≤ B
 | [], s, _, h, h1 => ⟨h1, h⟩
 | c :: l, s, hb, h, h1 => by
  rw [List.foldl_cons]
  refine foldW_b hL l _ (fun x hx => hb x (List.mem_cons_of_mem _ hx)) ?_ ?_
  ·unfold updW; split
   ·exact hb c (by simp)
   ·exact h
  ·unfold updW; split
   ·have := hL c; simp only; omega
   ·exact h1
end Go.Proofs.Xx
namespace Go.Proofs.Xx
open Go Go.Proofs
set_option linter.unusedSimpArgs false
set_option linter.unusedVariables false
set_option linter.unusedSectionVars false
set_option maxRecDepth 100000
set_option maxHeartbeats 4000000
end Go.Proofs.Xx
namespace Go.Proofs.Xx
open Go Go.Proofs
set_option linter.unusedSimpArgs false
set_option linter.unusedVariables false
set_option linter.unusedSectionVars false
set_option maxRecDepth 100000
set_option maxHeartbeats 4000000
section
variable {P : Program} {X : Extern} {ops : Array Oper} {os : List Oper} {o : Oper} {sz : Nat} {h h0 : AH} {rs : List Rs} {R : Ks → AH → Prop}
inductive HSteps (P : Program) (ops : Array Oper) (sz : Nat) (h : AH) : Ks → List Nat → Ks → Prop where
 | nil {L : Ks} : HSteps P ops sz h L [] L
 | cons {L L1 L' : Ks} {k : Nat} {ks : List Nat} {ok : Oper} {v : Value} {h' : AH} (hok : ops[k]? = some ok) (hg : guardA ops L.tree ok.guard = some true) (ha : aOp P L.tree h ok.op = some (.val v h')) (hd : putK sz L ok.dst v = some L1) (r : HSteps P ops sz h L1 ks L') : HSteps P ops sz h L (k :: ks) L'
theorem HSteps.mv {L L1 L' : Ks} {k : Nat} {ks : List Nat} {ok : Oper} {v : Value} {x : Operand} (hok : ops[k]? = some ok) (hm : ok.op = .move x) (hx : kA L x = some v) (hg : guardA ops L.tree ok.guard = some true) (hd : putK sz L ok.dst v = some L1) (r : HSteps P ops sz h L1 ks L') : HSteps P ops sz h L (k :: ks) L' :=
 .cons (h' := h) hok hg (by rw [hm]; simp only [aOp, tree_le hx, nextOf]) hd r
theorem HSteps.run {L L' : Ks} {ks : List Nat} (s : HSteps P ops sz h L ks L') : ∀ {t : Tr Value}, Kn t L → Kn (ks.foldl (stepH P ops sz h) t) L' := by
 induction s with
 | nil => intro t hk; exact hk
 | @cons _ _ _ k _ _ _ _ hok hg ha hd r ih =>
  intro t hk
  obtain ⟨t1, e1, k1⟩ := putK_ok hk hd
  rw [List.foldl_cons]
  have : stepH P ops sz h t k = t1 := by
   unfold stepH
   simp only [hok, guardA_le hk.tle hg, aOp_le hk.tle ha, e1]
  rw [this]
  exact ih k1
theorem HintOk.many {L L' : Ks} {j : Nat} {ks : List Nat} {o : Oper} {x : Option Nat} {c : List Value} {e : TypeId} (hp : predsOf ops (masks ops.toList []) j = ks) (ho : ops[j]? = some o) (s : HSteps P ops sz h L ks L') (hf : aFloat P L'.tree o.op = some (x, c, e)) : HintOk P ops sz L h j c e := fun t hk => by
 unfold hintObj
 rw [ho, hp]
 simp only [aFloat_le (s.run hk).tle hf]
end
end Go.Proofs.Xx
namespace Go.Proofs.Xx
open Go Go.Proofs
set_option linter.unusedSimpArgs false
set_option linter.unusedVariables false
set_option linter.unusedSectionVars false
set_option maxRecDepth 100000
set_option maxHeartbeats 4000000
def PoolOk (L : List (Value × List Int)) (h : AH) (fp : Fp) : Prop := ∀ x ∈ L, (Rs.rd x.1 1 eI x.2).ok h fp
abbrev poolR (L : List (Value × List Int)) : Rs := .any (PoolOk L)
class InP (L : List (Value × List Int)) (v : Value) (l : outParam (List Int)) : Prop where
 mem : (v, l) ∈ L
theorem rd_of {h : AH} {fp : Fp} {v : Value} {l : List Int} (q : (Rs.rd v 1 eI l).ok h fp) : RdL h v 1 eI l := by
 rcases q with ⟨q1, q2⟩ | ⟨b, o, cap, cc, e, s, r, q1, q2, q3, q4⟩
 ·exact .inl ⟨q1, by rw [q2]; rfl, by rw [q2]; rfl⟩
 ·exact .inr ⟨b, o, cap, cc, e, s, r, q1, q2, q4⟩
instance HasR.pool {L : List (Value × List Int)} {v : Value} {l : List Int} {rs : List Rs} [i : InP L v l] : HasR (poolR L :: rs) v Int 1 eI l := ⟨fun S => by
 obtain ⟨fp, k⟩ := S.anyP .here
 exact rd_of (k _ i.mem)⟩
def cvW (b9 b2 b5 b4 b10 : Nat) : Value := .func (.func 65) #[] #[.pointer (some ⟨b9, 0, none⟩), .pointer (some ⟨b2, 0, none⟩), .pointer (some ⟨b5, 0, none⟩), .pointer (some ⟨b4, 0, none⟩), .pointer (some ⟨b10, 0, none⟩)]
abbrev rtR (v : PbV) (b9 b2 b5 b4 b10 : Nat) (vs : Value) (stops : List Int) (L : List (Value × List Int)) (vw : Value) (al : Int) : List Rs :=
 [poolR L, .blk b4 [vw] 25, .blk b5 [.int .i64 al] 3, .sl vs 3 1 eI stops, .blk b9 [vs] 25, .blk b2 v.cs 28, .blk b10 [cvW b9 b2 b5 b4 b10] 99]
end Go.Proofs.Xx
namespace Go.Proofs.Xx
open Go Go.Proofs
set_option linter.unusedSimpArgs false
set_option linter.unusedVariables false
set_option linter.unusedSectionVars false
set_option maxRecDepth 100000
set_option maxHeartbeats 4000000
noncomputable def bestW (p : Pb) (q : List Int) : BestW := (Comp (srv (pltV p q)) (srv (pltV p q)).length []).foldl (updW (tour (stp p.tabs))) ([], -1)
theorem PartOk.ql {p : Pb} {q : List Int} (hp : PO p) (h : PartOk p q) : q.length ≤ 64 := by
 have := h.len
 have : p.us.length ≤ 64 := hp.rl.l64
 omega
theorem PartOk.qm {p : Pb} {q : List Int} (hl : p.tabs.length ≤ 1000) (h : PartOk p q) : ∀ x ∈ q, x ≤ 9223372036854775807 := fun x hx => by
 have h1 := h.rng x hx
 have h2 := sumT_le p.tabs p.tabs.length
 omega
theorem srv_in {p : Pb} {q : List Int} : ∀ t ∈ srv (pltV p q), 0 ≤ t ∧ t < p.tabs.length := fun t ht => by
 obtain ⟨k, h1, rfl, -⟩ := srv_mem.1 ht
 rw [pltV_len] at h1
 omega
end Go.Proofs.Xx
namespace Go.Proofs.Xx
open Go Go.Proofs
set_option linter.unusedSimpArgs false
set_option linter.unusedVariables false
set_option linter.unusedSectionVars false
set_option maxRecDepth 100000
set_option maxHeartbeats 4000000
structure Chg (h h' : AH) (b : Nat) (o : AObj) : Prop where
 at_ : h'.get b = some o
 old : ∀ j, j ≠ b → j < h.next → h'.get j = h.get j
 next : h.next ≤ h'.next
 wf : WfH h'
theorem Chg.trans {h h' h'' : AH} {b : Nat} {o o' : AObj} (c : Chg h h' b o) (d : Chg h' h'' b o') : Chg h h'' b o' :=
 ⟨d.at_, fun j hj hn => (d.old j hj (Nat.lt_of_lt_of_le hn c.next)).trans (c.old j hj hn), Nat.le_trans c.next d.next, d.wf⟩
theorem splice_nil {c : List Value} {o : Nat} (h : o ≤ c.length) : splice c o [] = c := by simp [splice]
section
variable {P : Program} {X : Extern} {sz : Nat} {L L' : Ks} {h : AH} {ops : Array Oper} {os : List Oper} {o : Oper} {R : Ks → AH → Prop}
theorem rwa {x y : Operand} {ts tx e e2 : TypeId} {zc new cc : List Value} {by_ b o' n cap m z : Nat} {slk : Option Nat} {u : Value} {d : Tmp} (hb : h.get b = some (.cells cc e2 slk false)) (wf : WfH h) (hr : Rd h u z m new)
 (w : ∀ h', Chg h h' b (.cells (splice cc (o' + n * z) new) e2 slk false) → KO P X sz ops os (L.put d (.slice (some ⟨b, o', none⟩) (n + m) cap)) h' R)
 (ho : o.op = .call { callee := .builtin .append, args := #[x, y], argTypes := #[ts, tx] } := by exact rfl) (hg : guardA ops L.tree o.guard = some true := by exact rfl) (hx : kA L x = some (.slice (some ⟨b, o', none⟩) n cap) := by exact rfl) (hy : kA L y = some u := by exact rfl)
 (hs : sliceElem P ts = some e := by exact rfl) (hz : zeroCellsT P e = some zc := by exact rfl) (hzl : zc.length = z := by exact rfl) (hby : bytesT P e = some (by_ + 1) := by exact rfl) (hxs : P.underlying tx = some (.slice e) := by exact rfl)
 (hc : n + m ≤ cap := by omega) (hcc : o' + cap * z ≤ cc.length := by assumption) (h1 : new.all one? = true := by assumption) (hsz : (m + 1) * (by_ + 1) ≤ 140737488355328 := by omega) (hdst : o.dst = some d := by exact rfl) (hds : Nat.blt d sz = true := by exact rfl) : KO P X sz ops (o :: os) L h R := by
 subst hzl
 have hlen := hr.length
 have hfit : o' + n * zc.length + new.length ≤ cc.length := by
  rw [hlen, Nat.add_assoc, ← Nat.add_mul]
  exact Nat.le_trans (Nat.add_le_add_left (Nat.mul_le_mul_right _ hc) _) hcc
 have k2 : Nat.beq new.length (m * zc.length) = true := by rw [hlen]; simp
 have hsrc : aSource zc.length u h = some (m, new) := hr.source
 have go : ∀ h', aAppend P [ts, tx] (.slice (some ⟨b, o', none⟩) n cap) u h = some (.slice (some ⟨b, o', none⟩) (n + m) cap, h') → Chg h h' b (.cells (splice cc (o' + n * zc.length) new) e2 slk false) → KO P X sz ops (o :: os) L h R := fun h' q1 q2 => by
  refine KO_val (v := .slice (some ⟨b, o', none⟩) (n + m) cap) (h' := h') hg ?_ (by simp only [putK, hdst, hds]) (w h' q2)
  rw [ho]
  simp [aOp, tree_le hx, tree_le hy, evAll, aBuiltin, q1, nextOf2]
 cases m with
 | zero =>
  have hn : new = [] := List.length_eq_zero_iff.1 (by omega)
  subst hn
  refine go h ?_ ⟨by rw [splice_nil (by simp at hfit; omega)]; exact hb, fun _ _ _ => rfl, Nat.le_refl _, wf⟩
  simp only [aAppend, hs, hxs, hz, hby, hsrc, Nat.ble_eq_true_of_le hsz, h1, k2, Bool.and_self, hb, Nat.ble_eq_true_of_le (show n ≤ cap from hc), Nat.add_zero]
 | succ m =>
  refine go (h.put b (.cells (splice cc (o' + n * zc.length) new) e2 slk false)) ?_ ⟨by rw [AH.get_put, if_pos rfl], fun j hj _ => by rw [AH.get_put, if_neg hj], Nat.le_refl _, wf.put (wf.lt hb) _⟩
  simp only [aAppend, hs, hxs, hz, hby, hsrc, Nat.ble_eq_true_of_le hsz, h1, k2, Bool.and_self, hb, Nat.ble_eq_true_of_le hc, putCells, Nat.ble_eq_true_of_le hfit]
end
end Go.Proofs.Xx
namespace Go.Proofs.Xx
open Go Go.Proofs
set_option linter.unusedSimpArgs false
set_option linter.unusedVariables false
set_option linter.unusedSectionVars false
set_option maxRecDepth 100000
set_option maxHeartbeats 4000000
end Go.Proofs.Xx
namespace Go.Proofs.Xx
open Go Go.Proofs
set_option linter.unusedSimpArgs false
set_option linter.unusedVariables false
set_option linter.unusedSectionVars false
set_option maxRecDepth 100000
set_option maxHeartbeats 4000000
def Bst (d : Int → Int → Int) (L J : List Int) (i k best : Nat) (least : Int) : Prop :=
 (i = 0 ∧ k = 0 ∧ best = 0 ∧ least = -1) ∨ (best < L.length ∧ 0 ≤ least ∧ (∃ u ∈ J, least = d (L.getD best default) u) ∧ (∀ j, j < i → ∀ y ∈ J, least ≤ d (L.getD j default) y) ∧ ∀ m, m < k → least ≤ d (L.getD i default) (J.getD m default))
theorem Bst.new {d : Int → Int → Int} (m : Met d) {L J : List Int} {i k best : Nat} {least : Int} (h : Bst d L J i k best least) (hi : i < L.length) (hk : k < J.length) (hx : least < 0 ∨ d (L.getD i default) (J.getD k default) < least) :
 Bst d L J i (k + 1) i (d (L.getD i default) (J.getD k default)) := by
 refine .inr ⟨hi, m.nn _ _, ⟨_, mem_getD hk, rfl⟩, ?_, ?_⟩
 ·rcases h with ⟨rfl, -, -, -⟩ | ⟨-, h2, -, h4, -⟩
  ·exact fun j hj => absurd hj (Nat.not_lt_zero _)
  ·exact fun j hj y hy => by have := h4 j hj y hy; omega
 ·rcases h with ⟨-, rfl, -, -⟩ | ⟨-, h2, -, -, h5⟩
  ·intro j hj; rw [show j = 0 by omega]; exact Int.le_refl _
  ·exact nxtD (fun j hj => by have := h5 j hj; omega) (Int.le_refl _)
theorem Bst.old {d : Int → Int → Int} {L J : List Int} {i k best : Nat} {least : Int} (h : Bst d L J i k best least) (hx : ¬ least < 0) (hy : ¬ d (L.getD i default) (J.getD k default) < least) : Bst d L J i (k + 1) best least := by
 rcases h with ⟨-, -, -, rfl⟩ | ⟨h1, h2, h3, h4, h5⟩
 ·exact absurd (show (-1 : Int) < 0 by omega) hx
 ·exact .inr ⟨h1, h2, h3, h4, nxtD h5 (by omega)⟩
theorem Bst.row {d : Int → Int → Int} {L J : List Int} {i best : Nat} {least : Int} (h : Bst d L J i J.length best least) (hJ : J ≠ []) : Bst d L J (i + 1) 0 best least := by
 rcases h with ⟨-, h, -, -⟩ | ⟨h1, h2, h3, h4, h5⟩
 ·exact absurd (List.length_eq_zero_iff.1 h) hJ
 ·refine .inr ⟨h1, h2, h3, nxtD h4 fun y hy => ?_, fun m hm => absurd hm (Nat.not_lt_zero _)⟩
  obtain ⟨j, hj, rfl⟩ := mem_iff_getD.1 hy
  exact h5 j hj
theorem Bst.fin {d : Int → Int → Int} {L J : List Int} {best : Nat} {least : Int} (h : Bst d L J L.length 0 best least) (hL : 0 < L.length) : best < L.length ∧ 0 ≤ least ∧ ∃ u ∈ J, least = d (L.getD best default) u ∧ ∀ x ∈ L, ∀ y ∈ J, d (L.getD best default) u ≤ d x y := by
 rcases h with ⟨h, -, -, -⟩ | ⟨h1, h2, ⟨u, h3, h4⟩, h5, -⟩
 ·omega
 ·refine ⟨h1, h2, u, h3, h4, fun x hx y hy => ?_⟩
  obtain ⟨j, hj, rfl⟩ := mem_iff_getD.1 hx
  rw [← h4]; exact h5 j hj y hy
end Go.Proofs.Xx
namespace Go.Proofs.Xx
set_option linter.unusedSectionVars false
set_option linter.unusedSimpArgs false
set_option linter.unusedVariables false
def exch (l : List Int) (a b : Nat) : List Int := (l.set a (l.getD b default)).set b (l.getD a default)
end Go.Proofs.Xx
namespace Go.Proofs.Xx
open Go Go.Proofs
set_option linter.unusedSimpArgs false
set_option linter.unusedVariables false
set_option linter.unusedSectionVars false
set_option maxRecDepth 100000
set_option maxHeartbeats 4000000
def e82 (x : Nat × Nat) : List Value := [.int .u8 x.1, .int .u8 x.2]
end Go.Proofs.Xx
namespace Go.Proofs.Xx
open Go Go.Proofs
set_option linter.unusedSimpArgs false
set_option linter.unusedVariables false
set_option linter.unusedSectionVars false
set_option maxRecDepth 100000
set_option maxHeartbeats 4000000
end Go.Proofs.Xx
namespace Go.Proofs.Xx
open Go Go.Proofs
set_option linter.unusedSimpArgs false
set_option linter.unusedVariables false
set_option linter.unusedSectionVars false
set_option maxRecDepth 100000
set_option maxHeartbeats 4000000
end Go.Proofs.Xx
namespace Go.Proofs.Xx
set_option linter.unusedSectionVars false
set_option linter.unusedSimpArgs false
set_option linter.unusedVariables false
def sumL (ld : Int → Int) : List Int → Int
 | [] => 0
 | t :: l => ld t + sumL ld l
def seg (w : List Int) (i j : Nat) : List Int := (w.drop i).take (j - i)
theorem seg_drop {w : List Int} {i j : Nat} (h : i ≤ j) : seg w i j ++ w.drop j = w.drop i := by
 have := List.take_append_drop (j - i) (w.drop i)
 rw [List.drop_drop, show i + (j - i) = j by omega] at this
 exact this
def CutOk (ld : Int → Int) (k : Int) (c : List (List Int)) : Prop := ∀ p ∈ c, p ≠ [] ∧ sumL ld p ≤ k
def cost (d : Int → Int → Int) : List (List Int) → Int
 | [] => 0
 | p :: c => tour d p + cost d c
def BestC (d : Int → Int → Int) (ld : Int → Int) (k : Int) (w : List Int) (i : Nat) (f : Int) : Prop := ∀ c, CutOk ld k c → c.flatten = w.drop i → f ≤ cost d c
theorem BestC.last {d : Int → Int → Int} (m : Met d) {ld : Int → Int} {k : Int} {w : List Int} : BestC d ld k w w.length 0 := fun c _ h => by
 rw [List.drop_length] at h
 induction c with
 | nil => exact Int.le_refl _
 | cons p c ih =>
  simp only [List.flatten_cons, List.append_eq_nil_iff] at h
  have h1 := plen_nn m p (-1) (-1)
  have h2 := ih (fun q hq => by rename_i hc; exact hc q (List.mem_cons_of_mem _ hq)) h.2
  show 0 ≤ tour d p + cost d c
  unfold tour; omega
theorem BestC.step {d : Int → Int → Int} {ld : Int → Int} {k : Int} {w : List Int} {i : Nat} {f : Int} {F : Nat → Int} (hi : i < w.length) (hF : ∀ j, i < j → j ≤ w.length → BestC d ld k w j (F j))
 (h : ∀ j, i < j → j ≤ w.length → sumL ld (seg w i j) ≤ k → f ≤ tour d (seg w i j) + F j) : BestC d ld k w i f := fun c hc e => by
 cases c with
 | nil =>
  have := congrArg List.length e
  simp at this; omega
 | cons p c =>
  obtain ⟨h1, h2⟩ := hc p (by simp)
  have hp : 0 < p.length := List.length_pos_iff.2 h1
  rw [List.flatten_cons] at e
  have el := congrArg List.length e
  simp only [List.length_append, List.length_drop] at el
  have es : seg w i (i + p.length) = p := by
   unfold seg
   rw [← e, show i + p.length - i = p.length by omega]
   simp
  have ed : c.flatten = w.drop (i + p.length) := by
   have := seg_drop (w := w) (i := i) (j := i + p.length) (by omega)
   rw [es, ← e] at this
   exact (List.append_cancel_left this).symm
  have h3 := h (i + p.length) (by omega) (by omega) (by rw [es]; exact h2)
  have h4 := hF (i + p.length) (by omega) (by omega) c (fun q hq => hc q (List.mem_cons_of_mem _ hq)) ed
  rw [es] at h3
  show f ≤ tour d p + cost d c
  omega
end Go.Proofs.Xx
namespace Go.Proofs.Xx
open Go Go.Proofs
set_option linter.unusedSimpArgs false
set_option linter.unusedVariables false
set_option linter.unusedSectionVars false
set_option maxRecDepth 100000
section
variable {P : Program} {X : Extern} {sz : Nat} {L L' : Ks} {h h0 : AH} {rs : List Rs} {ops : Array Oper} {os : List Oper} {o : Oper} {R : Ks → AH → Prop}
end
abbrev ownR {α : Type} (f : α → Rs) (l : List α) : Rs := .any (fun h fp => Star h (l.map f) fp)
theorem Star.snoc_ {h : AH} {r : Rs} {fp : Fp} (hr : r.ok h fp) : ∀ {l : List Rs} {U : Fp}, Star h l U → (∀ b, fp b → ¬ U b) → Star h (l ++ [r]) (fun b => U b ∨ fp b)
 | [], U, _, _ => ⟨fp, hr, fun b hb => .inr hb, trivial⟩
 | x :: l, U, ⟨fx, h1, h2, h3⟩, hd => ⟨fx, h1, fun b hb => .inl (h2 b hb), (Star.snoc_ hr h3 fun b hb q => hd b hb q.1).mono fun b hb => by
  rcases hb with hb | hb
  ·exact ⟨.inl hb.1, hb.2⟩
  ·exact ⟨.inr hb, fun q => hd b hb (h2 b q)⟩⟩
section
variable {α : Type} {f : α → Rs} {h0 h : AH} {rs : List Rs} {gs : List α} {g : α}
theorem Hs.owNil (S : Hs h0 h rs) : Hs h0 h (ownR f [] :: rs) := S.anyS fun h' => trivial
theorem Hs.owApp (S : Hs h0 h (f g :: ownR f gs :: rs)) : Hs h0 h (ownR f (gs ++ [g]) :: rs) := by
 obtain ⟨f1, k1, k2, f2, k3, k4, k5⟩ := S.sep
 refine ⟨S.ext, fun b => f2 b ∨ f1 b, fun h' q => ?_, fun b hb => ?_, k5.mono fun b hb => ⟨trivial, fun q => ?_⟩⟩
 ·rw [List.map_append]
  exact Star.snoc_ (k1.local fun b hb => q b (.inr hb)) (k3 h' fun b hb => q b (.inl hb)) fun b hb q => (k4 b q).2.2.2 hb
 ·rcases hb with hb | hb
  ·exact ⟨(k4 b hb).1, (k4 b hb).2.1, trivial⟩
  ·exact k2 b hb
 ·rcases q with q | q
  ·exact hb.2 q
  ·exact hb.1.2 q
theorem Star.get_ {r : Rs} : ∀ {l : List Rs} {U : Fp}, Star h l U → r ∈ l → ∃ fp, r.ok h fp
 | x :: l, U, ⟨fx, h1, h2, h3⟩, hr => by
  rcases List.mem_cons.1 hr with rfl | hr
  ·exact ⟨fx, h1⟩
  ·exact Star.get_ h3 hr
theorem sl_rdL_ {α : Type} {v : Value} {e : TypeId} {z : Nat} {enc : α → List Value} {l : List α} {h : AH} {fp : Fp} (k : (Rs.sl v e z enc l).ok h fp) : RdL h v z enc l := by
 rcases k with ⟨rfl, rfl⟩ | ⟨b, o, cc, slk, cap, h1, h2, h3, h4, -⟩
 ·exact .inl ⟨rfl, rfl, rfl⟩
 ·exact .inr ⟨b, o, _, cc, e, slk, false, h1, h2, h4⟩
theorem Sep.front_ {lo : Nat} {r : Rs} {l2 : List Rs} : ∀ {l1 : List Rs} {V : Fp}, Sep lo h (l1 ++ r :: l2) V → Sep lo h (r :: (l1 ++ l2)) V
 | [], _, k => k
 | x :: l1, V, ⟨fx, h1, h2, h3⟩ => by
  obtain ⟨fr, k1, k2, k3⟩ := Sep.front_ h3
  exact ⟨fr, k1, fun b hb => ⟨(k2 b hb).1, (k2 b hb).2.1, (k2 b hb).2.2.1⟩, fx, h1, fun b hb => ⟨(h2 b hb).1, (h2 b hb).2.1, (h2 b hb).2.2, fun q => (k2 b q).2.2.2 hb⟩, k3.mono fun b hb => ⟨⟨hb.1.1, hb.2⟩, hb.1.2⟩⟩
theorem Sep.back_ {lo : Nat} {r : Rs} {l2 : List Rs} : ∀ {l1 : List Rs} {V : Fp}, Sep lo h (r :: (l1 ++ l2)) V → Sep lo h (l1 ++ r :: l2) V
 | [], _, k => k
 | x :: l1, V, ⟨fr, k1, k2, fx, h1, h2, k3⟩ =>
  ⟨fx, h1, fun b hb => ⟨(h2 b hb).1, (h2 b hb).2.1, (h2 b hb).2.2.1⟩, Sep.back_ ⟨fr, k1, fun b hb => ⟨(k2 b hb).1, (k2 b hb).2.1, (k2 b hb).2.2, fun q => (h2 b q).2.2.2 hb⟩, k3.mono fun b hb => ⟨⟨hb.1.1, hb.2⟩, hb.1.2⟩⟩⟩
theorem Hs.owFlat (S : Hs h0 h (ownR f gs :: rs)) : Hs h0 h (gs.map f ++ rs) := by
 obtain ⟨U, k1, k2, k3⟩ := S.sep
 exact ⟨S.ext, Star.sep (k1 h fun _ _ => rfl) k2 k3⟩
theorem Hs.owPack (S : Hs h0 h (gs.map f ++ rs)) : Hs h0 h (ownR f gs :: rs) := by
 obtain ⟨U, k1, k2, k3⟩ := Sep.star S.sep
 exact ⟨S.ext, U, fun h' q => k1.local q, k2, k3⟩
theorem Hs.owOpen [Inhabited α] (S : Hs h0 h (ownR f gs :: rs)) {i : Nat} (hi : i < gs.length) : Hs h0 h (f (gs.getD i default) :: ownR f (gs.take i ++ gs.drop (i + 1)) :: rs) := by
 have S := S.owFlat
 have e : gs = gs.take i ++ gs.getD i default :: gs.drop (i + 1) := by
  rw [List.getD_eq_getElem?_getD, List.getElem?_eq_getElem hi, Option.getD_some, ← List.drop_eq_getElem_cons hi, List.take_append_drop]
 have S2 : Hs h0 h ((gs.take i).map f ++ f (gs.getD i default) :: ((gs.drop (i + 1)).map f ++ rs)) := by
  have := S; rw [e] at this
  simpa using this
 have S3 : Hs h0 h (f (gs.getD i default) :: ((gs.take i).map f ++ ((gs.drop (i + 1)).map f ++ rs))) := ⟨S.ext, Sep.front_ S2.sep⟩
 obtain ⟨fp, k1, k2, k3⟩ := S3.sep
 refine ⟨S.ext, fp, k1, k2, ?_⟩
 rw [← List.append_assoc, ← List.map_append] at k3
 obtain ⟨U, q1, q2, q3⟩ := Sep.star k3
 exact ⟨U, fun h' q => q1.local q, q2, q3⟩
theorem Hs.owShut {i : Nat} (S : Hs h0 h (f g :: ownR f (gs.take i ++ gs.drop (i + 1)) :: rs)) (hi : i < gs.length) : Hs h0 h (ownR f (gs.set i g) :: rs) := by
 obtain ⟨fp, k1, k2, U, q1, q2, q3⟩ := S.sep
 have k3 := Star.sep (q1 h fun _ _ => rfl) q2 q3
 rw [List.map_append, List.append_assoc] at k3
 have S2 : Hs h0 h ((gs.take i).map f ++ f g :: ((gs.drop (i + 1)).map f ++ rs)) := ⟨S.ext, Sep.back_ ⟨fp, k1, k2, k3⟩⟩
 refine Hs.owPack ?_
 rw [List.set_eq_take_append_cons_drop, if_pos hi]
 simpa using S2
end
end Go.Proofs.Xx
namespace Go.Proofs.Xx
open Go Go.Proofs
set_option linter.unusedSimpArgs false
set_option linter.unusedVariables false
set_option linter.unusedSectionVars false
set_option maxRecDepth 100000
set_option maxHeartbeats 4000000
def ldP (pl : List Int) (t : Int) : Int := pl.getD t.toNat default
theorem ldP_b {p : Pb} {q : List Int} (t : Int) : 0 ≤ ldP (pltV p q) t ∧ ldP (pltV p q) t ≤ q.length := pltV_nn
structure B3 where
 s : Int
 t : Int
 e : Int
instance : Inhabited B3 := ⟨⟨0, 0, 0⟩⟩
def e3 (x : B3) : List Value := [.int .i64 x.s, .int .i64 x.t, .int .i64 x.e]
structure Tr_ where
 tv : SlV
 ta : List Int
 pl : Int
 st : Int
instance : Inhabited Tr_ := ⟨⟨⟨none, 0, 0⟩, [], 0, 0⟩⟩
def eTr (x : Tr_) : List Value := [x.tv.val, .int .i64 x.pl, .int .i64 x.st]
abbrev slTr (x : Tr_) : Rs := .sl x.tv.val 3 1 eI x.ta
structure FrI (p : Pb) (ld : Int → Int) (k : Int) (way : List Int) (m : Nat) (F : List B3) : Prop where
 len : F.length = way.length + 1
 best : ∀ j, m ≤ j → j ≤ way.length → BestC (stp p.tabs) ld k way j (F.getD j default).s
 last : (F.getD way.length default).s = 0
 bnd : ∀ j, j ≤ way.length → (0 ≤ (F.getD j default).s ∧ (F.getD j default).s ≤ 4000 * (way.length - j : Int)) ∧ 0 ≤ (F.getD j default).t ∧ (F.getD j default).t ≤ (way.length - j : Int)
 stp_ : ∀ j, m ≤ j → j < way.length → ∃ e : Nat, (F.getD j default).e = e ∧ j < e ∧ e ≤ way.length ∧ sumL ld (seg way j e) ≤ k ∧ (F.getD j default).s = tour (stp p.tabs) (seg way j e) + (F.getD e default).s
end Go.Proofs.Xx
namespace Go.Proofs.Xx
open Go Go.Proofs
set_option linter.unusedSimpArgs false
set_option linter.unusedVariables false
set_option linter.unusedSectionVars false
set_option maxRecDepth 100000
set_option maxHeartbeats 4000000
def TrOk (p : Pb) (ld : Int → Int) (k : Int) (x : Tr_) : Prop := x.ta ≠ [] ∧ x.pl = sumL ld x.ta ∧ x.st = tour (stp p.tabs) x.ta ∧ x.pl ≤ k
def GoodT (p : Pb) (ld : Int → Int) (k : Int) (stops : List Int) (ts : List Tr_) : Prop := ((ts.map (·.ta)).flatten).Perm stops ∧ ∀ x ∈ ts, TrOk p ld k x
end Go.Proofs.Xx
namespace Go.Proofs.Xx
open Go Go.Proofs
set_option linter.unusedSimpArgs false
set_option linter.unusedVariables false
set_option linter.unusedSectionVars false
set_option maxRecDepth 100000
set_option maxHeartbeats 4000000
end Go.Proofs.Xx
namespace Go.Proofs.Xx
set_option linter.unusedSectionVars false
set_option linter.unusedSimpArgs false
set_option linter.unusedVariables false
def finW : (Nat → Int) → List Int → List Nat → Nat → Int
 | c, x :: q, w :: g => finW (fun v => if v = w then c v + x else c v) q g
 | c, _, _ => c
def CanW (n : Nat) : Nat → List Nat → Prop
 | _, [] => True
 | u, w :: g => w < min (u + 1) n ∧ CanW n (max u (w + 1)) g
theorem fin_ge : ∀ (q : List Int) (g : List Nat) (c : Nat → Int), (∀ x ∈ q, 0 ≤ x) → ∀ v, c v ≤ finW c q g v
 | [], g, c, _, v => by cases g <;> exact Int.le_refl _
 | x :: q, [], c, _, v => Int.le_refl _
 | x :: q, w :: g, c, h, v => by
  have h1 := fin_ge q g (fun v => if v = w then c v + x else c v) (fun y hy => h y (List.mem_cons_of_mem _ hy)) v
  have h2 := h x (by simp)
  rw [finW]
  refine Int.le_trans ?_ h1
  show c v ≤ if v = w then c v + x else c v
  split <;> omega
def swW (a b v : Nat) : Nat := if v = a then b else if v = b then a else v
theorem sw_sw {a b v : Nat} : swW a b (swW a b v) = v := by unfold swW; repeat' split <;> try omega
theorem fin_sw {a b : Nat} : ∀ (q : List Int) (g : List Nat) (c : Nat → Int) (v : Nat), finW (fun v => c (swW a b v)) q (g.map (swW a b)) v = finW c q g (swW a b v)
 | [], g, c, v => by cases g <;> rfl
 | x :: q, [], c, v => rfl
 | x :: q, w :: g, c, v => by
  rw [List.map_cons, finW, finW, ← fin_sw q g _ v]
  congr 1
  funext u
  have : (u = swW a b w) ↔ (swW a b u = w) := ⟨fun h => by rw [h, sw_sw], fun h => by rw [← h, sw_sw]⟩
  by_cases e : swW a b u = w
  ·rw [if_pos (this.2 e), if_pos e]
  ·rw [if_neg fun q => e (this.1 q), if_neg e]
theorem canon_ex {n : Nat} {M : Int} : ∀ (q : List Int) (g : List Nat) (c : Nat → Int) (u : Nat), g.length = q.length → (∀ w ∈ g, w < n) → (∀ v, u ≤ v → c v = 0) → (∀ v, v < n → finW c q g v ≤ M) →
 ∃ g', g'.length = q.length ∧ CanW n u g' ∧ ∀ v, v < n → finW c q g' v ≤ M
 | [], g, c, u, hl, hw, hc, hM => by
  cases g with
  | nil => exact ⟨[], rfl, trivial, hM⟩
  | cons _ _ => cases hl
 | x :: q, [], c, u, hl, hw, hc, hM => by cases hl
 | x :: q, w :: g, c, u, hl, hw, hc, hM => by
  have hwn := hw w (by simp)
  by_cases e : w ≤ u
  ·obtain ⟨g', h1, h2, h3⟩ := canon_ex q g (fun v => if v = w then c v + x else c v) (max u (w + 1)) (by simpa using hl) (fun y hy => hw y (List.mem_cons_of_mem _ hy)) (fun v hv => by
    show (if v = w then c v + x else c v) = 0
    rw [if_neg (by omega)]; exact hc v (by omega)) (fun v hv => by
    have := hM v hv
    rwa [finW] at this)
   exact ⟨w :: g', by simp [h1], ⟨by omega, h2⟩, fun v hv => by rw [finW]; exact h3 v hv⟩
  ·have ec : (fun v => c (swW u w v)) = c := by
    funext v
    unfold swW
    split
    ·rename_i q; subst q; rw [hc w (by omega), hc v (Nat.le_refl _)]
    ·split
     ·rename_i q; subst q; rw [hc u (Nat.le_refl _), hc v (by omega)]
     ·rfl
   have hM' : ∀ v, v < n → finW c (x :: q) ((w :: g).map (swW u w)) v ≤ M := fun v hv => by
    have h1 := fin_sw (a := u) (b := w) (x :: q) (w :: g) c v
    rw [ec] at h1
    rw [h1]
    refine hM _ ?_
    unfold swW; repeat' split <;> try omega
   have es : (w :: g).map (swW u w) = u :: g.map (swW u w) := by
    rw [List.map_cons]
    congr 1
    unfold swW
    rw [if_neg (by omega), if_pos rfl]
   rw [es] at hM'
   obtain ⟨g', h1, h2, h3⟩ := canon_ex q (g.map (swW u w)) (fun v => if v = u then c v + x else c v) (max u (u + 1)) (by simpa using hl) (fun y hy => by
    obtain ⟨z, hz, rfl⟩ := List.mem_map.1 hy
    have := hw z (List.mem_cons_of_mem _ hz)
    unfold swW; repeat' split <;> try omega) (fun v hv => by
    show (if v = u then c v + x else c v) = 0
    rw [if_neg (by omega)]; exact hc v (by omega)) (fun v hv => by
    have := hM' v hv
    rwa [finW] at this)
   exact ⟨u :: g', by simp [h1], ⟨by omega, h2⟩, fun v hv => by rw [finW]; exact h3 v hv⟩
termination_by q => q.length
def allW (c : Nat → Int) : Nat → Int
 | 0 => 0
 | n + 1 => allW c n + c n
end Go.Proofs.Xx
namespace Go.Proofs.Xx
set_option linter.unusedSectionVars false
set_option linter.unusedSimpArgs false
set_option linter.unusedVariables false
theorem fin_app : ∀ (q : List Int) (a r : List Nat) (c : Nat → Int), a.length ≤ q.length → finW c q (a ++ r) = finW (finW c q a) (q.drop a.length) r
 | q, [], r, c, _ => by cases q <;> simp [finW]
 | [], w :: a, r, c, h => by simp at h
 | x :: q, w :: a, r, c, h => by
  rw [List.cons_append, finW, fin_app q a r _ (by simpa using h), finW, List.length_cons, List.drop_succ_cons]
def mxF (f : Nat → Int) : Nat → Int
 | 0 => 0
 | n + 1 => max (mxF f n) (f n)
theorem mxF_nn {f : Nat → Int} : ∀ {n : Nat}, 0 ≤ mxF f n
 | 0 => Int.le_refl _
 | n + 1 => by have := mxF_nn (f := f) (n := n); rw [mxF]; omega
theorem mxF_ge {f : Nat → Int} : ∀ {n v : Nat}, v < n → f v ≤ mxF f n
 | 0, v, h => by omega
 | n + 1, v, h => by
  rw [mxF]
  rcases Nat.lt_or_ge v n with r | r
  ·have := mxF_ge (f := f) r; omega
  ·obtain rfl : v = n := by omega
   omega
theorem mxF_le {f : Nat → Int} {M : Int} (h0 : 0 ≤ M) : ∀ {n : Nat}, (∀ v, v < n → f v ≤ M) → mxF f n ≤ M
 | 0, _ => h0
 | n + 1, h => by
  have h1 := mxF_le h0 (n := n) fun v hv => h v (by omega)
  have h2 := h n (by omega)
  rw [mxF]; omega
theorem mxF_mono {f g : Nat → Int} {n : Nat} (h : ∀ v, v < n → f v ≤ g v) : mxF f n ≤ mxF g n :=
 mxF_le mxF_nn fun v hv => Int.le_trans (h v hv) (mxF_ge hv)
def lds (qs c : List Int) : Nat → Int := finW (fun _ => 0) qs (c.map Int.toNat)
def Lw (n : Nat) (qs c : List Int) : Int := mxF (lds qs c) n
theorem fin_nil {c : Nat → Int} {q : List Int} : finW c q [] = c := by cases q <;> rfl
theorem lds_nil {qs : List Int} : lds qs [] = fun _ => 0 := by unfold lds; cases qs <;> rfl
theorem lds_app {qs c : List Int} {w : Nat} (h : c.length < qs.length) : lds qs (c ++ [(w : Int)]) = fun v => if v = w then lds qs c v + qs.getD c.length default else lds qs c v := by
 unfold lds
 rw [List.map_append, fin_app _ _ _ _ (by simp; omega), List.length_map, List.drop_eq_getElem_cons h, List.getD_eq_getElem?_getD, List.getElem?_eq_getElem h, List.map_cons, List.map_nil, finW, fin_nil, Int.toNat_natCast]
 rfl
theorem lds_ge {qs c r : List Int} (hq : ∀ x ∈ qs, 0 ≤ x) (h : c.length ≤ qs.length) (v : Nat) : lds qs c v ≤ lds qs (c ++ r) v := by
 unfold lds
 rw [List.map_append, fin_app _ _ _ _ (by simp; omega)]
 exact fin_ge _ _ _ (fun x hx => hq x (List.mem_of_mem_drop hx)) v
theorem lds_nn {qs c : List Int} (hq : ∀ x ∈ qs, 0 ≤ x) (v : Nat) : 0 ≤ lds qs c v := fin_ge qs _ (fun _ => 0) hq v
theorem Lw_nn {n : Nat} {qs c : List Int} : 0 ≤ Lw n qs c := mxF_nn
theorem Lw_pre {n : Nat} {qs c r : List Int} (hq : ∀ x ∈ qs, 0 ≤ x) (h : c.length ≤ qs.length) : Lw n qs c ≤ Lw n qs (c ++ r) := mxF_mono fun v _ => lds_ge hq h v
theorem lds_b {qs c : List Int} {M : Int} (hM : 0 ≤ M) (hq : ∀ x ∈ qs, 0 ≤ x ∧ x ≤ M) : ∀ v, lds qs c v ≤ M * qs.length := by
 have key : ∀ (qs : List Int) (g : List Nat) (c0 : Nat → Int), (∀ x ∈ qs, 0 ≤ x ∧ x ≤ M) → ∀ v, finW c0 qs g v ≤ c0 v + M * qs.length := by
  intro qs
  induction qs with
  | nil => intro g c0 _ v; cases g <;> simp [finW]
  | cons x qs ih =>
   intro g c0 h v
   have hx := h x (by simp)
   have hp : 0 ≤ M * (qs.length : Int) := Int.mul_nonneg hM (by omega)
   cases g with
   | nil => simp only [finW, List.length_cons]; push_cast; rw [Int.mul_add]; omega
   | cons w g =>
    rw [finW]
    have := ih g (fun v => if v = w then c0 v + x else c0 v) (fun y hy => h y (List.mem_cons_of_mem _ hy)) v
    simp only [List.length_cons]; push_cast; rw [Int.mul_add]
    split at this <;> omega
 intro v
 have := key qs (c.map Int.toNat) (fun _ => 0) hq v
 unfold lds; omega
def CanL (n : Nat) : Nat → Nat → List Int → List (List Int)
 | 0, _, done => [done]
 | k + 1, u, done => (List.range (min (u + 1) n)).flatMap fun w => CanL n k (max u (w + 1)) (done ++ [(w : Int)])
theorem CanL_pre (n : Nat) : ∀ (k u : Nat) (done c : List Int), c ∈ CanL n k u done → ∃ r, c = done ++ r ∧ r.length = k ∧ ∀ x ∈ r, 0 ≤ x ∧ x < n
 | 0, u, done, c, h => ⟨[], by simpa [CanL] using h, rfl, fun x hx => by cases hx⟩
 | k + 1, u, done, c, h => by
  rw [CanL, List.mem_flatMap] at h
  obtain ⟨w, hw, h⟩ := h
  rw [List.mem_range] at hw
  obtain ⟨r, rfl, hr, hx⟩ := CanL_pre n k _ _ c h
  refine ⟨(w : Int) :: r, by simp, by simp [hr], fun x hx2 => ?_⟩
  rcases List.mem_cons.1 hx2 with rfl | q
  ·omega
  ·exact hx x q
theorem CanL_mem (n : Nat) : ∀ (k u : Nat) (done : List Int) (g : List Nat), g.length = k → CanW n u g → done ++ g.map (fun w : Nat => (w : Int)) ∈ CanL n k u done
 | 0, u, done, g, h, _ => by rw [List.length_eq_zero_iff.1 h]; simp [CanL]
 | k + 1, u, done, [], h, _ => by cases h
 | k + 1, u, done, w :: g, h, hc => by
  rw [CanL, List.mem_flatMap]
  refine ⟨w, List.mem_range.2 hc.1, ?_⟩
  have := CanL_mem n k (max u (w + 1)) (done ++ [(w : Int)]) g (by simpa using h) hc.2
  simpa using this
def CanI (n k u : Nat) (done : List Int) (i : Nat) : List (List Int) := (List.range i).flatMap fun w => CanL n k (max u (w + 1)) (done ++ [(w : Int)])
theorem CanI_0 {n k u : Nat} {done : List Int} : CanI n k u done 0 = [] := by simp [CanI]
theorem CanI_all {n k u : Nat} {done : List Int} : CanI n k u done (min (u + 1) n) = CanL n (k + 1) u done := by simp [CanI, CanL]
theorem CanI_s {n k u : Nat} {done : List Int} {i : Nat} : CanI n k u done (i + 1) = CanI n k u done i ++ CanL n k (max u (i + 1)) (done ++ [(i : Int)]) := by
 unfold CanI
 rw [List.range_succ, List.flatMap_append]
 simp
theorem can_keep {n k u : Nat} {qs done : List Int} {s : BestW} (hq : ∀ x ∈ qs, 0 ≤ x) (hl : done.length ≤ qs.length) (h0 : 0 ≤ s.2) (h : s.2 ≤ Lw n qs done) : (CanL n k u done).foldl (updW (Lw n qs)) s = s :=
 updW_keep _ _ h0 fun c hc => by
  obtain ⟨r, rfl, -⟩ := CanL_pre n k u done c hc
  exact Int.le_trans h (Lw_pre hq hl)
theorem can_best {n : Nat} (hn : 1 ≤ n) {qs : List Int} (hq : ∀ x ∈ qs, 0 ≤ x) :
 let q := (CanL n qs.length 0 []).foldl (updW (Lw n qs)) ([], -1)
 q.1.length = qs.length ∧ (∀ x ∈ q.1, 0 ≤ x ∧ x < n) ∧ q.2 = Lw n qs q.1 ∧ ∀ g : List Nat, g.length = qs.length → (∀ w ∈ g, w < n) → q.2 ≤ mxF (finW (fun _ => 0) qs g) n := by
 intro q
 obtain ⟨k1, -, k3, k4⟩ := fold_best (L := Lw n qs) (fun c => Lw_nn) (CanL n qs.length 0 []) ([], -1) (fun h => by exfalso; simp only at h; omega)
 have any : ∀ g : List Nat, g.length = qs.length → (∀ w ∈ g, w < n) → 0 ≤ q.2 ∧ q.2 ≤ mxF (finW (fun _ => 0) qs g) n := fun g hg hw => by
  obtain ⟨g', h1, h2, h3⟩ := canon_ex (n := n) (M := mxF (finW (fun _ => 0) qs g) n) qs g (fun _ => 0) 0 hg hw (fun _ _ => rfl) (fun v hv => mxF_ge hv)
  have hm := CanL_mem n qs.length 0 [] g' h1 h2
  have h4 := k3 _ hm
  refine ⟨h4.1, Int.le_trans h4.2 ?_⟩
  unfold Lw lds
  rw [List.nil_append, List.map_map]
  have : (Int.toNat ∘ fun w : Nat => (w : Int)) = id := by funext w; simp
  rw [this, List.map_id]
  exact mxF_le mxF_nn h3
 have h0 := any (List.replicate qs.length 0) (by simp) (fun w hw => by rw [List.eq_of_mem_replicate hw]; omega)
 have hne : q ≠ ([], -1) := fun e => by
  have := congrArg Prod.snd e
  change q.2 = -1 at this
  have h1 : 0 ≤ q.2 := h0.1
  omega
 rcases k1 with k1 | ⟨k1, k5⟩
 ·exact absurd k1 hne
 obtain ⟨r, e, hr, hx⟩ := CanL_pre n qs.length 0 [] _ k1
 rw [List.nil_append] at e
 refine ⟨by rw [e]; exact hr, fun x hx2 => hx x (by rw [← e]; exact hx2), k5, fun g hg hw => (any g hg hw).2⟩
end Go.Proofs.Xx
namespace Go.Proofs.Xx
open Go Go.Proofs
set_option linter.unusedSimpArgs false
set_option linter.unusedVariables false
set_option linter.unusedSectionVars false
set_option maxRecDepth 100000
set_option maxHeartbeats 4000000
theorem getD_setI {F : List Int} {i j : Nat} {x : Int} (hi : i < F.length) : (F.set i x).getD j default = if i = j then x else F.getD j default := by
 rw [List.getD_eq_getElem?_getD, List.getElem?_set]
 by_cases e : i = j
 ·subst e; rw [if_pos rfl, if_pos hi, if_pos rfl]; rfl
 ·rw [if_neg e, if_neg e, ← List.getD_eq_getElem?_getD]
theorem set_back {F : List Int} {i : Nat} {x : Int} : (F.set i (F.getD i default + x)).set i (F.getD i default + x - x) = F := by
 rw [List.set_set, show F.getD i default + x - x = F.getD i default by omega]
 by_cases h : i < F.length
 ·rw [List.getD_eq_getElem?_getD, List.getElem?_eq_getElem h]
  exact List.set_getElem_self h
 ·exact List.set_eq_of_length_le (by omega)
def cvF (b13 b16 b11 b14 b15 b5 b12 b17 : Nat) : Value := .func (.func 60) #[] #[.pointer (some ⟨b13, 0, none⟩), .pointer (some ⟨b16, 0, none⟩), .pointer (some ⟨b11, 0, none⟩), .pointer (some ⟨b14, 0, none⟩), .pointer (some ⟨b15, 0, none⟩), .pointer (some ⟨b5, 0, none⟩), .pointer (some ⟨b12, 0, none⟩), .pointer (some ⟨b17, 0, none⟩)]
abbrev wtR (b13 b16 b11 b14 b15 b5 b12 b17 : Nat) (vs vp vc : Value) (stops pl : List Int) (n : Nat) (vw vb : Value) (who best : List Int) (least : Int) (ca : List Int) : List Rs :=
 [.sl vw 3 1 eI who, .sl vc 3 1 eI ca, .sl vb 3 1 eI best, .blk b16 [.int .i64 least] 3, .blk b14 [vw] 25, .blk b15 [vb] 25, .blk b13 [vc] 25, .sl vs 3 1 eI stops, .blk b11 [vs] 25, .sl vp 3 1 eI pl, .blk b12 [vp] 25, .blk b5 [.int .i64 n] 3, .blk b17 [cvF b13 b16 b11 b14 b15 b5 b12 b17] 90]
theorem max_is {n : Nat} {qs who ca : List Int} {m : Int} (hq : ∀ x ∈ qs, 0 ≤ x) (hl : ca.length = n) (hc : ∀ v, v < n → ca.getD v default = lds qs who v) (h1 : m ∈ ca) (h2 : ∀ x ∈ ca, x ≤ m) : m = Lw n qs who := by
 obtain ⟨j, hj, e⟩ := mem_iff_getD.1 h1
 have h0 : 0 ≤ m := by rw [← e, hc j (by omega)]; exact lds_nn hq j
 apply Int.le_antisymm
 ·rw [← e, hc j (by omega)]; exact mxF_ge (by omega)
 ·exact mxF_le h0 fun v hv => by rw [← hc v hv]; exact h2 _ (mem_getD (by omega))
theorem waiters1_ok {h0 : AH} {b13 b16 b11 b14 b15 b5 b12 b17 : Nat} {vs vp vc : Value} {stops pl : List Int} {n : Nat} (hn : 1 ≤ n ∧ n ≤ 9) (hst : stops.length ≤ 9) (hsm : ∀ t ∈ stops, 0 ≤ t ∧ t < pl.length) (hld2 : ∀ t, 0 ≤ ldP pl t ∧ ldP pl t ≤ 1000) : ∀ (k : Nat) {h : AH} {vw vb : Value} {who best ca : List Int} {least : Int} (un : Nat)
 (hk : who.length + k = stops.length) (hu : un ≤ n) (hcl : ca.length = n) (hca : ∀ v, v < n → ca.getD v default = lds (stops.map (ldP pl)) who v) (hls : -1 ≤ least ∧ least ≤ 100000) (S : Hs h0 h (wtR b13 b16 b11 b14 b15 b5 b12 b17 vs vp vc stops pl n vw vb who best least ca)),
 Fn Tryz.prog Xh 60 [.int .i64 who.length, .int .i64 un, .pointer (some ⟨b13, 0, none⟩), .pointer (some ⟨b16, 0, none⟩), .pointer (some ⟨b11, 0, none⟩), .pointer (some ⟨b14, 0, none⟩), .pointer (some ⟨b15, 0, none⟩), .pointer (some ⟨b5, 0, none⟩), .pointer (some ⟨b12, 0, none⟩), .pointer (some ⟨b17, 0, none⟩)] h
  (fun _ h' => ∃ vw' vb', Hs h0 h' (wtR b13 b16 b11 b14 b15 b5 b12 b17 vs vp vc stops pl n vw' vb' who ((CanL n k un who).foldl (updW (Lw n (stops.map (ldP pl)))) (best, least)).1 ((CanL n k un who).foldl (updW (Lw n (stops.map (ldP pl)))) (best, least)).2 ca)) := by
 intro k
 have hq0 : ∀ x ∈ stops.map (ldP pl), 0 ≤ x ∧ x ≤ 1000 := fun x hx => by
  obtain ⟨t, -, rfl⟩ := List.mem_map.1 hx
  exact hld2 t
 have hql : (stops.map (ldP pl)).length = stops.length := by simp
 have hq1 : ∀ x ∈ stops.map (ldP pl), 0 ≤ x := fun x hx => (hq0 x hx).1
 have hLb : ∀ c, 0 ≤ Lw n (stops.map (ldP pl)) c ∧ Lw n (stops.map (ldP pl)) c ≤ 9000 := fun c => ⟨Lw_nn, mxF_le (by omega) fun v _ => by
  have := lds_b (M := 1000) (by omega) hq0 (c := c) v
  rw [hql] at this
  omega⟩
 induction k with
 | zero =>
  intro h vw vb who best ca least un hk hu hcl hca hls S
  dsimp only [wtR] at S
  obtain ⟨sW, rfl⟩ := S.sV vw
  obtain ⟨sC, rfl⟩ := S.sV vc
  refine Fn_K (by first | rfl) Tryz.func60 rfl rfl ?_
  all_goals (repeat' (first | refine K_seq ?_ | (refine K_region (id := 0) ?_; refine lB S rfl rfl ?_)))
  (refine KO_fn rfl rfl rfl rfl rfl ((maxI_ok S.wf sC.val ca (Rd.of_sl S (.there .here)) (by omega) (by omega)).mono ?_); rintro _ h ⟨m, rfl, hm1, hm2, x⟩) <;> (replace S := S.join0 x; clear x; refine mv ?_; refine KO_nil ?_)
  obtain rfl := max_is hq1 hcl hca hm1 hm2
  have hb := hLb who
  have key : (CanL n 0 un who).foldl (updW (Lw n (stops.map (ldP pl)))) (best, least) = updW (Lw n (stops.map (ldP pl))) (best, least) who := rfl
  rw [key]
  unfold updW
  all_goals (repeat' (first | refine K_seq ?_ | refine k_cond rfl ?_ | (refine K_region (id := 1) ?_; refine lB S rfl rfl ?_; (first | (refine cS ?_ ?_ <;> intro hc)) <;> (refine mv ?_; (first | refine off ?_ | refine mv ?_); (first | refine off ?_ | (refine lB S rfl rfl ?_)); (first | refine off ?_ | (first | (refine cS ?_ ?_ <;> intro hc))) <;> (refine vl ?_; refine KO_nil ?_)))))
  ·rw [if_neg (by simp only; omega)]
   refine K_ret ⟨_, rfl, ?_⟩
   exact ⟨sW.val, vb, S⟩
  all_goals
   rw [if_pos (by simp only; omega)]
   all_goals (repeat' (first | refine K_seq ?_ | refine k_cond rfl ?_ | (refine K_region (id := 2) ?_; refine mv ?_; refine lB S rfl rfl ?_; refine lnS S rfl rfl ?_; (refine cT ?_) <;> (refine KO_nil ?_)) | (refine K_region (id := 3) ?_; refine mv ?_; refine lB S rfl rfl ?_)))
   (refine KO_fn rfl rfl rfl rfl rfl ((cloneI_ok S.wf sW.val who (Rd.of_sl S .here) (by omega)).mono ?_); rintro uc h x) <;> (replace S := S.join1 x; clear x; obtain ⟨su, rfl⟩ := S.sV uc; (first | (refine sB S rfl rfl ?_; clear S; intro h S)); (first | (refine sB S rfl rfl ?_; clear S; intro h S)); refine KO_nil ?_)
   all_goals (repeat' (fail))
   refine K_ret ⟨_, rfl, ?_⟩
   replace S : Hs h0 h (.sl su.val 3 1 eI who :: .sl sW.val 3 1 eI who :: .sl sC.val 3 1 eI ca :: .sl vb 3 1 eI best :: .blk b16 [.int .i64 (Lw n (stops.map (ldP pl)) who)] 3 :: .blk b14 [sW.val] 25 :: .blk b15 [su.val] 25 :: .blk b13 [sC.val] 25 :: .sl vs 3 1 eI stops :: .blk b11 [vs] 25 :: .sl vp 3 1 eI pl :: .blk b12 [vp] 25 :: .blk b5 [.int .i64 n] 3 :: .blk b17 [cvF b13 b16 b11 b14 b15 b5 b12 b17] 90 :: []) := S
   exact ⟨sW.val, su.val, S.pick⟩
 | succ k ih =>
  intro h vw vb who best ca least un hk hu hcl hca hls S
  dsimp only [wtR] at S
  obtain ⟨sW, rfl⟩ := S.sV vw
  obtain ⟨sC, rfl⟩ := S.sV vc
  refine Fn_K (by first | rfl) Tryz.func60 rfl rfl ?_
  all_goals (repeat' (first | refine K_seq ?_ | (refine K_region (id := 0) ?_; refine lB S rfl rfl ?_)))
  (refine KO_fn rfl rfl rfl rfl rfl ((maxI_ok S.wf sC.val ca (Rd.of_sl S (.there .here)) (by omega) (by omega)).mono ?_); rintro _ h ⟨m, rfl, hm1, hm2, x⟩) <;> (replace S := S.join0 x; clear x; refine mv ?_; refine KO_nil ?_)
  obtain rfl := max_is hq1 hcl hca hm1 hm2
  have hb := hLb who
  all_goals (repeat' (first | refine K_seq ?_ | refine k_cond rfl ?_ | (refine K_region (id := 1) ?_; refine lB S rfl rfl ?_; (first | (refine cS ?_ ?_ <;> intro hc)) <;> (refine mv ?_; (first | refine off ?_ | refine mv ?_); (first | refine off ?_ | (refine lB S rfl rfl ?_)); (first | refine off ?_ | (first | (refine cS ?_ ?_ <;> intro hc))) <;> (refine vl ?_; refine KO_nil ?_)))))
  ·have hk2 : (CanL n (k + 1) un who).foldl (updW (Lw n (stops.map (ldP pl)))) (best, least) = (best, least) := can_keep hq1 (by rw [hql]; omega) (by simp only; omega) (by simp only; omega)
   rw [hk2]
   refine K_ret ⟨_, rfl, ?_⟩
   exact ⟨sW.val, vb, S⟩
  all_goals
   all_goals (repeat' (first | refine K_seq ?_ | refine k_cond rfl ?_ | refine K_skip ?_ | refine k_block ?_ | (refine K_region (id := 2) ?_; refine mv ?_; refine lB S rfl rfl ?_; refine lnS S rfl rfl ?_; (refine cF ?_) <;> (refine KO_nil ?_)) | (refine K_region (id := 4) ?_; refine mv ?_; refine ad ?_; refine lB S rfl rfl ?_; refine mn ?_; refine mv ?_; refine KO_nil ?_)))
   obtain ⟨U, hU, hU1⟩ : ∃ U : Nat, min ((un : Int) + 1) (n : Int) = U ∧ U = min (un + 1) n := ⟨min (un + 1) n, by omega, rfl⟩
   rw [hU]
   obtain ⟨F, hF⟩ : ∃ F, F = fun i => (CanI n k un who i).foldl (updW (Lw n (stops.map (ldP pl)))) (best, least) := ⟨_, rfl⟩
   have hF0 : F 0 = (best, least) := by rw [hF]; simp only [CanI_0, List.foldl_nil]
   have hFe : (CanL n (k + 1) un who).foldl (updW (Lw n (stops.map (ldP pl)))) (best, least) = F U := by rw [hF, hU1]; simp only [CanI_all]
   have hFs : ∀ i, F (i + 1) = (CanL n k (max un (i + 1)) (who ++ [(i : Int)])).foldl (updW (Lw n (stops.map (ldP pl)))) (F i) := fun i => by rw [hF]; simp only [CanI_s, List.foldl_append]
   have hbF : ∀ i, -1 ≤ (F i).2 ∧ (F i).2 ≤ 100000 := fun i => by
    rw [hF]
    exact foldW_b (L := Lw n (stops.map (ldP pl))) (fun c => Lw_nn) _ _ (fun c hc => by have := hLb c; omega) hls.2 hls.1
   rw [hFe]
   clear hFe
   refine k_loop (σ := Nat × Value × Value) (fun (wi, vw', vb') h' => Hs h0 h' (wtR b13 b16 b11 b14 b15 b5 b12 b17 vs vp sC.val stops pl n vw' vb' who (F wi).1 (F wi).2 ca) ∧ wi ≤ U) (fun (wi, vw', vb') => U - wi) (fun (wi, vw', vb') => [(0, .int .i64 who.length), (1, .int .i64 un), (2, .pointer (some ⟨b13, 0, none⟩)), (3, .pointer (some ⟨b16, 0, none⟩)), (4, .pointer (some ⟨b11, 0, none⟩)), (5, .pointer (some ⟨b14, 0, none⟩)), (6, .pointer (some ⟨b15, 0, none⟩)), (7, .pointer (some ⟨b5, 0, none⟩)), (8, .pointer (some ⟨b12, 0, none⟩)), (9, .pointer (some ⟨b17, 0, none⟩)), (33, .int .i64 U), (34, .int .i64 wi)]) (0, sW.val, vb) (by repeat (first | exact Ks.le_nil _ | refine Ks.le_cons rfl ?_)) ?_ ?_
   ·refine ⟨?_, Nat.zero_le _⟩
    show Hs h0 h (wtR b13 b16 b11 b14 b15 b5 b12 b17 vs vp sC.val stops pl n sW.val vb who (F 0).1 (F 0).2 ca)
    rw [hF0]; exact S
   clear S
   rintro ⟨wi, vw', vb'⟩ h ⟨S, g1⟩
   dsimp only [wtR] at S
   have hbi := hbF wi
   all_goals (repeat' (first | refine K_seq ?_ | refine k_cond rfl ?_ | refine K_skip ?_ | refine K_exit ?_ | refine k_block ?_ | (refine K_region (id := 5) ?_; (first | (refine cS ?_ ?_ <;> intro hc)) <;> (refine KO_nil ?_)) | (refine K_region (id := 6) ?_; refine mv ?_; refine mv ?_; refine KO_nil ?_)))
   ·have hwi : wi < U := by omega
    have hwn : wi < n := by omega
    have hil : who.length < stops.length := by omega
    obtain ⟨sv, rfl⟩ := S.sV vw'
    obtain ⟨t, ht⟩ : ∃ t, stops.getD (who.length : Int).toNat default = t := ⟨_, rfl⟩
    have htm := hsm t (by rw [← ht]; exact mem_getD hil)
    have hx : 0 ≤ pl.getD t.toNat default ∧ pl.getD t.toNat default ≤ 1000 := hld2 t
    have hc0 := lds_nn (c := who) hq1 wi
    have hc1 := lds_b (M := 1000) (by omega) hq0 (c := who) wi
    rw [← hca wi hwn] at hc0 hc1
    rw [hql] at hc1
    replace hc0 : 0 ≤ ca.getD (wi : Int).toNat default := hc0
    replace hc1 : ca.getD (wi : Int).toNat default ≤ 1000 * stops.length := hc1
    have hxt : 0 ≤ (stops.getD (who.length : Int).toNat default) ∧ (stops.getD (who.length : Int).toNat default) < pl.length := by rw [ht]; exact htm
    have hx2 : 0 ≤ pl.getD (stops.getD (who.length : Int).toNat default).toNat default ∧ pl.getD (stops.getD (who.length : Int).toNat default).toNat default ≤ 1000 := by rw [ht]; exact hx
    skip
    all_goals (repeat' (first | refine K_seq ?_ | (refine K_draw (id := 7) ?_; refine lB S rfl rfl ?_; refine mv ?_; refine ixS2 S rfl rfl ?_; refine lES2 S rfl rfl ?_; refine lB S rfl rfl ?_; refine lB S rfl rfl ?_; refine mv ?_; refine ixS2 S rfl rfl ?_; refine lES2 S rfl rfl ?_; refine ixS2 S rfl rfl ?_; refine lES2 S rfl rfl ?_; refine ad ?_; refine ixS2 S rfl rfl ?_; (first | (refine sE2 S rfl rfl ?_; clear S; intro h S)); refine KO_nil ?_)))
    rw [ht] at S
    obtain ⟨ca2, hca2⟩ : ∃ ca2, ca2 = ca.set wi (ca.getD wi default + ldP pl t) := ⟨_, rfl⟩
    replace S : Hs h0 h [.sl sv.val 3 1 eI who, .sl sC.val 3 1 eI (ca.set wi (ca.getD wi default + ldP pl t)), .sl vb' 3 1 eI (F wi).1, .blk b16 [.int .i64 (F wi).2] 3, .blk b14 [sv.val] 25, .blk b15 [vb'] 25, .blk b13 [sC.val] 25, .sl vs 3 1 eI stops, .blk b11 [vs] 25, .sl vp 3 1 eI pl, .blk b12 [vp] 25, .blk b5 [.int .i64 n] 3, .blk b17 [cvF b13 b16 b11 b14 b15 b5 b12 b17] 90] := S
    rw [← hca2] at S
    skip
    all_goals (repeat' (first | (refine K_region (id := 8) ?_; refine lB S rfl rfl ?_; refine mv ?_; (refine one 1 S ?_; clear S; intro u h S))))
    refine app (y0 := (wi : Int)) S rfl rfl ?_; clear S; intro v h S; obtain ⟨s2, rfl⟩ := S.sV v; (first | (refine sB S rfl rfl ?_; clear S; intro h S)); refine KO_nil ?_
    replace S : Hs h0 h [.sl s2.val 3 1 eI (who ++ [(wi : Int)]), .sl sC.val 3 1 eI ca2, .sl vb' 3 1 eI (F wi).1, .blk b16 [.int .i64 (F wi).2] 3, .blk b14 [s2.val] 25, .blk b15 [vb'] 25, .blk b13 [sC.val] 25, .sl vs 3 1 eI stops, .blk b11 [vs] 25, .sl vp 3 1 eI pl, .blk b12 [vp] 25, .blk b5 [.int .i64 n] 3, .blk b17 [cvF b13 b16 b11 b14 b15 b5 b12 b17] 90] := S
    all_goals (repeat' (first | refine K_seq ?_ | (refine K_region (id := 9) ?_; refine lB S rfl rfl ?_; refine mv ?_; refine ad ?_; refine mv ?_; refine mv ?_; refine ad ?_; refine mx ?_)))
    have eu : max (un : Int) ((wi : Int) + 1) = ((max un (wi + 1) : Nat) : Int) := by omega
    have ew : (who.length : Int) + 1 = ((who ++ [(wi : Int)]).length : Int) := by simp
    rw [eu, ew]
    have hqt : (stops.map (ldP pl)).getD who.length default = ldP pl t := by
     rw [List.getD_eq_getElem?_getD, List.getElem?_map, List.getElem?_eq_getElem hil]
     have : stops.getD who.length default = t := ht
     rw [List.getD_eq_getElem?_getD, List.getElem?_eq_getElem hil] at this
     simp only [Option.getD_some] at this
     simp [this]
    have hl2 : ca2.length = n := by rw [hca2, List.length_set]; exact hcl
    have hc2 : ∀ v, v < n → ca2.getD v default = lds (stops.map (ldP pl)) (who ++ [(wi : Int)]) v := fun v hv => by
     rw [hca2, getD_setI (by omega), lds_app (by rw [hql]; exact hil), hqt]
     dsimp only
     by_cases e : wi = v
     ·subst e; rw [if_pos rfl, if_pos rfl, hca wi hv]
     ·rw [if_neg e, if_neg (fun q => e q.symm), hca v hv]
    have hkk : (who ++ [(wi : Int)]).length + k = stops.length := by simp; omega
    (refine KO_call rfl rfl rfl rfl ((ih (max un (wi + 1)) hkk (by omega) hl2 hc2 (hbF wi) S).mono ?_); rintro _ h ⟨vw2, vb2, S⟩) <;> (refine KO_nil ?_)
    have hF1 : (CanL n k (max un (wi + 1)) (who ++ [(wi : Int)])).foldl (updW (Lw n (stops.map (ldP pl)))) ((F wi).1, (F wi).2) = F (wi + 1) := (hFs wi).symm
    rw [hF1] at S
    dsimp only [wtR] at S
    obtain ⟨s3, rfl⟩ := S.sV vw2
    skip
    all_goals (repeat' (first | refine K_seq ?_ | (refine K_region (id := 10) ?_; refine lB S rfl rfl ?_; refine mv ?_)))
    refine tk who.length S rfl rfl (fun v3 S => ?_)
    obtain ⟨s4, rfl⟩ := S.sV v3
    rw [List.take_left] at S
    ((first | (refine sB S rfl rfl ?_; clear S; intro h S)); refine KO_nil ?_)
    replace S : Hs h0 h [.sl s4.val 3 1 eI who, .sl sC.val 3 1 eI ca2, .sl vb2 3 1 eI (F (wi + 1)).1, .blk b16 [.int .i64 (F (wi + 1)).2] 3, .blk b14 [s4.val] 25, .blk b15 [vb2] 25, .blk b13 [sC.val] 25, .sl vs 3 1 eI stops, .blk b11 [vs] 25, .sl vp 3 1 eI pl, .blk b12 [vp] 25, .blk b5 [.int .i64 n] 3, .blk b17 [cvF b13 b16 b11 b14 b15 b5 b12 b17] 90] := S
    have hc3 : ca2.getD (wi : Int).toNat default = ca.getD wi default + ldP pl t := by
     show ca2.getD wi default = _
     rw [hca2, getD_setI (by omega), if_pos rfl]
    have hc4 : 0 ≤ ca2.getD (wi : Int).toNat default ∧ ca2.getD (wi : Int).toNat default ≤ 100000 := by
     rw [hc3]
     have h1 : 0 ≤ ca.getD wi default := hc0
     have h2 : ca.getD wi default ≤ 1000 * stops.length := hc1
     have h3 : 0 ≤ ldP pl t ∧ ldP pl t ≤ 1000 := hld2 t
     omega
    skip
    all_goals (repeat' (first | (refine K_draw (id := 11) ?_; refine lB S rfl rfl ?_; refine mv ?_; refine ixS2 S rfl rfl ?_; refine lES2 S rfl rfl ?_; refine lB S rfl rfl ?_; refine lB S rfl rfl ?_; refine mv ?_; refine ixS2 S rfl rfl ?_; refine lES2 S rfl rfl ?_; refine ixS2 S rfl rfl ?_; refine lES2 S rfl rfl ?_; refine sb ?_; refine ixS2 S rfl rfl ?_; (first | (refine sE2 S rfl rfl ?_; clear S; intro h S)); refine KO_nil ?_)))
    rw [ht] at S
    have hback : ca2.set wi (ca2.getD (wi : Int).toNat default - ldP pl t) = ca := by
     rw [hc3, hca2]
     exact set_back
    replace S : Hs h0 h [.sl s4.val 3 1 eI who, .sl sC.val 3 1 eI (ca2.set wi (ca2.getD (wi : Int).toNat default - ldP pl t)), .sl vb2 3 1 eI (F (wi + 1)).1, .blk b16 [.int .i64 (F (wi + 1)).2] 3, .blk b14 [s4.val] 25, .blk b15 [vb2] 25, .blk b13 [sC.val] 25, .sl vs 3 1 eI stops, .blk b11 [vs] 25, .sl vp 3 1 eI pl, .blk b12 [vp] 25, .blk b5 [.int .i64 n] 3, .blk b17 [cvF b13 b16 b11 b14 b15 b5 b12 b17] 90] := S
    rw [hback] at S
    all_goals (repeat' (first | (refine K_region (id := 12) ?_; refine ad ?_; refine mv ?_; refine KO_nil ?_)))
    refine ⟨(wi + 1, s4.val, vb2), ?_, ?_, (by repeat (first | exact Ks.le_nil _ | refine Ks.le_cons rfl ?_))⟩
    ·show U - (wi + 1) < U - wi; omega
    ·exact ⟨S, by omega⟩
   ·obtain rfl : wi = U := by omega
    refine ⟨_, rfl, ?_⟩
    exact ⟨vw', vb', S⟩
end Go.Proofs.Xx
namespace Go.Proofs.Xx
open Go Go.Proofs
set_option linter.unusedSimpArgs false
set_option linter.unusedVariables false
set_option linter.unusedSectionVars false
set_option maxRecDepth 100000
set_option maxHeartbeats 4000000
structure Row_ where
 sv : SlV
 r : List Int
instance : Inhabited Row_ := ⟨⟨⟨none, 0, 0⟩, []⟩⟩
def eRow (x : Row_) : List Value := [x.sv.val]
abbrev slRow (x : Row_) : Rs := .sl x.sv.val 3 1 eI x.r
def divL (st best : List Int) (i w : Nat) : List Int := (((st.zip best).take i).filter fun x => decide (x.2 = (w : Int))).map (·.1)
theorem divL_s {st best : List Int} {i w : Nat} (hs : i < st.length) (hb : i < best.length) : divL st best (i + 1) w = if best.getD i default = (w : Int) then divL st best i w ++ [st.getD i default] else divL st best i w := by
 unfold divL
 have hz : i < (st.zip best).length := by rw [List.length_zip]; omega
 rw [List.take_add_one, List.getElem?_eq_getElem hz, List.filter_append, List.map_append]
 have e : (st.zip best)[i] = (st.getD i default, best.getD i default) := by
  rw [List.getElem_zip, List.getD_eq_getElem?_getD, List.getD_eq_getElem?_getD, List.getElem?_eq_getElem hs, List.getElem?_eq_getElem hb]; rfl
 rw [e]
 by_cases q : best.getD i default = (w : Int)
 ·rw [if_pos q]
  have : ([(st.getD i default, best.getD i default)].filter fun x => decide (x.2 = (w : Int))) = [(st.getD i default, best.getD i default)] := by simp only [List.filter_cons, decide_eq_true_eq]; rw [if_pos q]; rfl
  simp only [Option.toList_some, this, List.map_cons, List.map_nil]
 ·rw [if_neg q]
  have : ([(st.getD i default, best.getD i default)].filter fun x => decide (x.2 = (w : Int))) = [] := by simp only [List.filter_cons, decide_eq_true_eq]; rw [if_neg q]; rfl
  simp only [Option.toList_some, this, List.map_nil, List.append_nil]
noncomputable def bestD (p : Pb) (q : List Int) (n : Nat) : BestW := (CanL n (srv (pltV p q)).length 0 []).foldl (updW (Lw n ((srv (pltV p q)).map (ldP (pltV p q))))) ([], -1)
theorem getD_setR {F : List Row_} {i j : Nat} {x : Row_} (hi : i < F.length) : (F.set i x).getD j default = if i = j then x else F.getD j default := by
 rw [List.getD_eq_getElem?_getD, List.getElem?_set]
 by_cases e : i = j
 ·subst e; rw [if_pos rfl, if_pos hi, if_pos rfl]; rfl
 ·rw [if_neg e, if_neg e, ← List.getD_eq_getElem?_getD]
theorem Hs.owRows {h0 h : AH} {rs : List Rs} (S : Hs h0 h rs) (n : Nat) : Hs h0 h (ownR slRow (List.replicate n ⟨⟨none, 0, 0⟩, []⟩) :: rs) := S.anyS fun h' => by
 induction n with
 | zero => trivial
 | succ n ih => exact ⟨fun _ => False, .inl ⟨rfl, rfl⟩, fun b hb => hb, ih.mono fun b hb => hb.elim⟩
theorem waiters_ok {h0 : AH} (w : WfH h0) (pv : PbV) (p : Pb) (H : PbOk h0 pv p) (vq : Value) (q : List Int) (rq : RdL h0 vq 1 eI q) (hq : q.length ≤ 9223372036854775807) (nI : Int) :
 Fn Tryz.prog Xh 19 [pv.val, vq, .int .i64 nI] h0 (fun u h' => ∃ vo rows k e, u = .tuple #[vo, .int .i64 k, .int .i64 e] ∧ Hs h0 h' [.sl vo 25 1 eRow rows, ownR slRow rows] ∧
  ((
   ¬ (PO p ∧ PartOk p q) ∧ (∃ i, PaC p q false i e) ∧ rows = [] ∧ k = 0) ∨ (PO p ∧ PartOk p q ∧ ((nI < 1 ∧ e = 2 ∧ rows = [] ∧ k = 0) ∨ (1 ≤ nI ∧ (9 < (srv (pltV p q)).length ∨ 9 < nI) ∧ e = 8 ∧ rows = [] ∧ k = 0) ∨
   (∃ n : Nat, nI = n ∧ 1 ≤ n ∧ n ≤ 9 ∧ (srv (pltV p q)).length ≤ 9 ∧ e = 0 ∧ rows.length = n ∧ k = (bestD p q n).2 ∧ ∀ v, v < n → (rows.getD v default).r = divL (srv (pltV p q)) (bestD p q n).1 (srv (pltV p q)).length v))))) := by
 have S := Hs.start w
 have hr := H.tab.rd
 have hl := H.tab.len
 unfold PbV.val
 refine Fn_K (by first | rfl) Tryz.func19 rfl rfl ?_
 all_goals (repeat' (first | refine K_seq ?_ | (refine K_region (id := 0) ?_; (refine bx S ?_; clear S; intro b h S); (refine bx S ?_; clear S; intro b h S); refine mv ?_; refine mv ?_; refine mv ?_; refine KO_nil ?_)))
 rename_i b3 h3
 obtain ⟨b5, hnm⟩ : ∃ x, x = b := ⟨_, rfl⟩; subst hnm
 replace S : Hs h0 h [.blk b5 [.int .i64 nI] 3, .blk b3 pv.cs 28] := S
 all_goals (repeat' (first | (refine K_region (id := 1) ?_; refine lB S rfl rfl ?_; refine mv ?_)))
 (refine KO_fn rfl rfl rfl rfl rfl ((checkPart_ok S.wf pv p (H.ext w S.ext) vq q (rq.ext w S.ext) hq).mono ?_); rintro _ h ⟨i, e, rfl, hk, x⟩) <;> (replace S := S.join0 x; clear x; refine mv ?_; refine vl ?_; refine vl ?_; refine mv ?_; refine mv ?_; refine KO_nil ?_)
 have hpo := hk.part
 have hnil : ∀ {h2 : AH} {rs : List Rs} (S2 : Hs h0 h2 rs), Hs h0 h2 [.sl (.slice none 0 0) 25 1 eRow [], ownR slRow []] := fun S2 => Hs.nilS (Hs.owNil (f := slRow) S2.drop)
 all_goals (repeat' (first | refine K_seq ?_ | refine k_cond rfl ?_ | refine K_skip ?_ | (refine K_region (id := 2) ?_; refine mv ?_; (first | (refine cS ?_ ?_ <;> intro hc)) <;> (refine KO_nil ?_))))
 ·all_goals (repeat' (first | (refine K_region (id := 3) ?_; refine mv ?_; refine mv ?_; refine mv ?_; refine mv ?_; refine KO_nil ?_)))
  refine K_ret ⟨_, rfl, ?_⟩
  exact ⟨.slice none 0 0, [], 0, e, rfl, hnil S, .inl ⟨fun k => hc (hpo.2 k), ⟨i, hk⟩, rfl, rfl⟩⟩
 obtain ⟨hp, hpq⟩ := hpo.1 (by omega)
 have hql := hpq.ql hp
 have hqm := hpq.qm hl
 have hsl := srv_len (pl := pltV p q)
 have hpl := pltV_len (p := p) (q := q)
 rw [hpl] at hsl
 have hsr := srv_in (p := p) (q := q)
 have hld := ldP_b (p := p) (q := q)
 (repeat (refine K_seq ?_)); refine K_drawF2 (id := 4) (j1 := 6) (j2 := 7) (rd := [(3, (0, 1)), (6, (0, 2)), (7, (0, 2))]) (fun b1 b2 => [some (b3), some b1, some b2]) S (HintOk.direct) (HintOk.direct) ?_; clear S; intro b1 b2 h S; refine KX_cons ?_; (first | (refine lB S rfl rfl ?_ <;> refine KO_nil ⟨⟨by (first | exact True.intro), rfl⟩, ?_⟩)); refine KX_cons ?_; (first | (refine mv ?_ <;> refine KO_nil ⟨⟨by (first | exact True.intro), rfl⟩, ?_⟩))
 ((refine KX_cons ?_; first | refine KO_fn rfl rfl rfl rfl rfl ((sserved_ok S.wf pv p (H.ext w S.ext) vq q (rq.ext w S.ext) (by omega) hqm).mono ?_)); rintro vst h x) <;> ((refine KO_nil ⟨⟨True.intro, ?_⟩, ?_⟩; (focus ((show keepsX _ _ _ _ _; simp only [keepsX]; (repeat' (first | exact True.intro | refine And.intro ?_ ?_)); all_goals (intro hw; first | exact x.ext.old _ S.bB))))); replace S := S.join1 x; clear x; obtain ⟨ss, rfl⟩ := S.sV vst; refine KX_cons ?_; (first | (refine lB S rfl rfl ?_ <;> refine KO_nil ⟨⟨by (first | exact Or.inr rfl), rfl⟩, ?_⟩)); refine KX_cons ?_; (first | (refine mv ?_ <;> refine KO_nil ⟨⟨by (first | exact True.intro), rfl⟩, ?_⟩)))
 ((refine KX_cons ?_; first | refine KO_fn rfl rfl rfl rfl rfl ((splates_ok S.wf pv p (H.ext w S.ext) vq q (rq.ext w S.ext) (by omega) hqm).mono ?_)); rintro vp h x) <;> ((refine KO_nil ⟨⟨True.intro, ?_⟩, ?_⟩; (focus ((show keepsX _ _ _ _ _; simp only [keepsX]; (repeat' (first | exact True.intro | refine And.intro ?_ ?_)); all_goals (intro hw; first | exact absurd hw (by decide +kernel) | exact x.ext.old _ S.bB))))); replace S := S.join1 x; clear x; obtain ⟨sp, rfl⟩ := S.sV vp; refine fl S rfl rfl S.gB ?_; refine fl S rfl rfl S.gB ?_; refine KX_cons ?_; (first | ((refine sB S rfl rfl ?_; have S0 := S; clear S; intro h S); refine KO_nil ⟨⟨True.intro, ?_⟩, ?_⟩; (focus ((show keepsX _ _ _ _ _; simp only [keepsX]; (repeat' (first | exact True.intro | refine And.intro ?_ ?_)); all_goals (intro hw; first | exact absurd hw (by decide +kernel))))); clear S0)); refine KX_cons ?_; (first | ((refine sB S rfl rfl ?_; have S0 := S; clear S; intro h S); refine KO_nil ⟨⟨True.intro, ?_⟩, ?_⟩; (focus ((show keepsX _ _ _ _ _; simp only [keepsX]; (repeat' (first | exact True.intro | refine And.intro ?_ ?_)); all_goals (intro hw; first | exact absurd hw (by decide +kernel))))); clear S0)); refine KX_nil ?_)
 obtain ⟨stops, hst⟩ : ∃ stops, srv (pltV p q) = stops := ⟨_, rfl⟩
 obtain ⟨pl, hpe⟩ : ∃ pl, pltV p q = pl := ⟨_, rfl⟩
 have hbd : ∀ n, bestD p q n = (CanL n stops.length 0 []).foldl (updW (Lw n (stops.map (ldP pl)))) ([], -1) := fun n => by unfold bestD; rw [hst, hpe]
 rw [hst, hpe] at S
 rw [hst] at hsl hsr ⊢
 rw [hpe] at hpl hld
 have hld2 : ∀ t, 0 ≤ ldP pl t ∧ ldP pl t ≤ 1000 := fun t => by have := hld t; omega
 have hsr2 : ∀ t ∈ stops, 0 ≤ t ∧ t < pl.length := fun t ht => by rw [hpl]; exact hsr t ht
 replace S : Hs h0 h [.sl sp.val 3 1 eI pl, .sl ss.val 3 1 eI stops, .blk b2 [sp.val] 25, .blk b1 [ss.val] 25, .blk b5 [.int .i64 nI] 3, .blk b3 pv.cs 28] := S
 all_goals (repeat' (first | refine K_seq ?_ | refine k_cond rfl ?_ | refine k_block ?_ | (refine K_region (id := 5) ?_; refine lB S rfl rfl ?_; (first | (refine cS ?_ ?_ <;> intro hc)) <;> (refine mv ?_; refine KO_nil ?_))))
 ·all_goals (repeat' (first | (refine K_region (id := 6) ?_; refine mv ?_; refine mv ?_; refine mv ?_; refine KO_nil ?_)))
  refine K_ret ⟨_, rfl, ?_⟩
  exact ⟨.slice none 0 0, [], 0, 2, rfl, hnil S, .inr ⟨hp, hpq, .inl ⟨by omega, rfl, rfl, rfl⟩⟩⟩
 all_goals (repeat' (first | refine K_seq ?_ | refine k_cond rfl ?_ | refine K_skip ?_ | (refine K_region (id := 7) ?_; refine lB S rfl rfl ?_; refine lnS S rfl rfl ?_; (first | (refine cS ?_ ?_ <;> intro hc)) <;> (refine mv ?_; (first | refine off ?_ | (refine lB S rfl rfl ?_)); (first | refine off ?_ | (first | (refine cS ?_ ?_ <;> intro hc))) <;> (refine vl ?_; refine mv ?_; refine KO_nil ?_)))))
 ·all_goals (repeat' (first | (refine K_region (id := 8) ?_; refine mv ?_; refine mv ?_; refine mv ?_; refine KO_nil ?_)))
  refine K_ret ⟨_, rfl, ?_⟩
  exact ⟨.slice none 0 0, [], 0, 8, rfl, hnil S, .inr ⟨hp, hpq, .inr (.inl ⟨by omega, by omega, rfl, rfl, rfl⟩)⟩⟩
 ·all_goals (repeat' (first | (refine K_region (id := 8) ?_; refine mv ?_; refine mv ?_; refine mv ?_; refine KO_nil ?_)))
  refine K_ret ⟨_, rfl, ?_⟩
  exact ⟨.slice none 0 0, [], 0, 8, rfl, hnil S, .inr ⟨hp, hpq, .inr (.inl ⟨by omega, by omega, rfl, rfl, rfl⟩)⟩⟩
 obtain ⟨n, rfl⟩ := Int.eq_ofNat_of_zero_le (show 0 ≤ nI by omega)
 all_goals (repeat' (first | (refine K_region (id := 9) ?_; refine lB S rfl rfl ?_)))
 refine m_make (z := 1) (by_ := 8) (enc := eI) (y0 := 0) S rfl rfl rfl rfl rfl rfl rfl rfl rfl (by intro _; rfl) (by first | omega) rfl rfl ?_; clear S; intro v h S; obtain ⟨sC, rfl⟩ := S.sV v; (refine al S ?_; clear S; intro b h S); (first | (refine sB S rfl rfl ?_; clear S; intro h S)); refine KO_nil ?_
 simp only [Int.toNat_natCast] at S
 obtain ⟨b13, hnm⟩ : ∃ x, x = b := ⟨_, rfl⟩; subst hnm
 all_goals (repeat' (first | refine K_seq ?_ | (refine K_region (id := 10) ?_; (refine al S ?_; clear S; intro b h S); (refine al S ?_; clear S; intro b h S); refine KO_nil ?_)))
 rename_i b14 h14
 obtain ⟨b15, hnm⟩ : ∃ x, x = b := ⟨_, rfl⟩; subst hnm
 all_goals (repeat' (first | refine K_seq ?_ | (refine K_region (id := 11) ?_; (refine al S ?_; clear S; intro b h S); (first | (refine sB S rfl rfl ?_; clear S; intro h S)); refine KO_nil ?_)))
 obtain ⟨b16, hnm⟩ : ∃ x, x = b := ⟨_, rfl⟩; subst hnm
 all_goals (repeat' (first | refine K_seq ?_ | (refine K_region (id := 12) ?_; (refine al S ?_; clear S; intro b h S); refine KO_nil ?_)))
 obtain ⟨b17, hnm⟩ : ∃ x, x = b := ⟨_, rfl⟩; subst hnm
 all_goals (repeat' (first | refine K_seq ?_ | (refine K_region (id := 13) ?_; refine vl ?_; (first | (refine sB S rfl rfl ?_; clear S; intro h S)); refine KO_nil ?_)))
 have S := S.nilS (e := 3) (z := 1) (enc := eI)
 have S := S.nilS (e := 3) (z := 1) (enc := eI)
 replace S : Hs h0 h [.sl (.slice none 0 0) 3 1 eI [], .sl (.slice none 0 0) 3 1 eI [], .blk b17 [cvF b13 b16 b1 b14 b15 b5 b2 b17] 90, .blk b16 [.int .i64 (-1)] 3, .blk b15 [.slice none 0 0] 25, .blk b14 [.slice none 0 0] 25, .blk b13 [sC.val] 25, .sl sC.val 3 1 eI (List.replicate n 0), .sl sp.val 3 1 eI pl, .sl ss.val 3 1 eI stops, .blk b2 [sp.val] 25, .blk b1 [ss.val] 25, .blk b5 [.int .i64 n] 3, .blk b3 pv.cs 28] := S
 have S := (show Hs h0 h (wtR b13 b16 b1 b14 b15 b5 b2 b17 ss.val sp.val sC.val stops pl n (.slice none 0 0) (.slice none 0 0) [] [] (-1) (List.replicate n 0)) from S.pick)
 dsimp only [wtR] at S
 all_goals (repeat' (first | (refine K_region (id := 14) ?_; refine lB S rfl rfl ?_)))
 have R := waiters1_ok (n := n) (by omega) (by omega) hsr2 hld2 stops.length (who := []) (best := []) (ca := List.replicate n 0) (least := -1) 0 (by simp) (by omega) (by simp) (fun v hv => by rw [lds_nil, List.getD_eq_getElem?_getD, List.getElem?_replicate, if_pos hv]; rfl) (by omega) S
 (refine KO_call rfl rfl rfl rfl ((R).mono ?_); rintro _ h ⟨vw2, vb2, S⟩) <;> (refine KO_nil ?_)
 rw [← hbd n] at S
 obtain ⟨c1, c2, c3, -⟩ := can_best (n := n) (by omega) (qs := stops.map (ldP pl)) (fun x hx => by
  obtain ⟨t, -, rfl⟩ := List.mem_map.1 hx
  exact (hld2 t).1)
 rw [List.length_map, ← hbd n] at c1 c2 c3
 have hBb : 0 ≤ (bestD p q n).2 := by rw [c3]; exact Lw_nn
 generalize hB : bestD p q n = B at S c1 c2 c3 hBb
 dsimp only [wtR] at S
 obtain ⟨sb_, rfl⟩ := S.sV vb2
 all_goals (repeat' (first | refine K_seq ?_ | (refine K_region (id := 15) ?_; refine lB S rfl rfl ?_)))
 refine m_make (z := 1) (by_ := 24) (enc := eRow) (y0 := ⟨⟨none, 0, 0⟩, []⟩) S rfl rfl rfl rfl rfl rfl rfl rfl rfl (by intro _; rfl) (by first | omega) rfl rfl ?_; clear S; intro v h S; obtain ⟨so, rfl⟩ := S.sV v; (refine mv ?_; refine KO_nil ?_)
 simp only [Int.toNat_natCast] at S
 have S := S.owRows n
 replace S : Hs h0 h [ownR slRow (List.replicate n ⟨⟨none, 0, 0⟩, []⟩), .sl so.val 25 1 eRow (List.replicate n ⟨⟨none, 0, 0⟩, []⟩), .sl vw2 3 1 eI [], .sl sC.val 3 1 eI (List.replicate n 0), .sl sb_.val 3 1 eI B.1, .blk b16 [.int .i64 B.2] 3, .blk b14 [vw2] 25, .blk b15 [sb_.val] 25, .blk b13 [sC.val] 25, .sl ss.val 3 1 eI stops, .blk b1 [ss.val] 25, .sl sp.val 3 1 eI pl, .blk b2 [sp.val] 25, .blk b5 [.int .i64 n] 3, .blk b17 [cvF b13 b16 b1 b14 b15 b5 b2 b17] 90] := S
 have S := (show Hs h0 h [.sl so.val 25 1 eRow (List.replicate n ⟨⟨none, 0, 0⟩, []⟩), ownR slRow (List.replicate n ⟨⟨none, 0, 0⟩, []⟩), .sl sb_.val 3 1 eI B.1, .blk b16 [.int .i64 B.2] 3, .blk b15 [sb_.val] 25, .sl ss.val 3 1 eI stops, .blk b1 [ss.val] 25] from S.pick)
 skip
 all_goals (repeat' (first | refine K_seq ?_ | refine k_block ?_ | (refine K_region (id := 16) ?_; refine lB S rfl rfl ?_; refine lnS S rfl rfl ?_; refine mv ?_; refine KO_nil ?_)))
 refine k_loop (σ := Nat × List Row_) (fun (i, rows) h' => Hs h0 h' [.sl so.val 25 1 eRow rows, ownR slRow rows, .sl sb_.val 3 1 eI B.1, .blk b16 [.int .i64 B.2] 3, .blk b15 [sb_.val] 25, .sl ss.val 3 1 eI stops, .blk b1 [ss.val] 25] ∧ i ≤ B.1.length ∧ rows.length = n ∧ (∀ v, v < n → (rows.getD v default).r = divL stops B.1 i v)) (fun (i, rows) => B.1.length - i) (fun (i, rows) => [(11, .pointer (some ⟨b1, 0, none⟩)), (16, .pointer (some ⟨b16, 0, none⟩)), (18, so.val), (54, sb_.val), (55, .int .i64 B.1.length), (56, .int .i64 i)]) (0, List.replicate n ⟨⟨none, 0, 0⟩, []⟩) (by repeat (first | exact Ks.le_nil _ | refine Ks.le_cons rfl ?_)) ?_ ?_
 ·refine ⟨S, Nat.zero_le _, by simp, fun v hv => ?_⟩
  rw [List.getD_eq_getElem?_getD, List.getElem?_replicate, if_pos hv]
  simp [divL]
 clear S
 rintro ⟨i, rows⟩ h ⟨S, g1, g2, g3⟩
 all_goals (repeat' (first | refine K_seq ?_ | refine k_cond rfl ?_ | refine K_skip ?_ | refine K_exit ?_ | refine k_block ?_ | (refine K_region (id := 17) ?_; (first | (refine cS ?_ ?_ <;> intro hc)) <;> (refine KO_nil ?_)) | (refine K_region (id := 18) ?_; refine mv ?_; refine ixS2 S rfl rfl ?_; refine lES2 S rfl rfl ?_; refine mv ?_; refine mv ?_; refine KO_nil ?_)))
 ·have hi : i < B.1.length := by omega
  have his : i < stops.length := by omega
  have hwb := c2 _ (mem_getD hi)
  obtain ⟨w0, hw0⟩ := Int.eq_ofNat_of_zero_le hwb.1
  have hw1 : B.1.getD (i : Int).toNat default = (w0 : Int) := hw0
  have hwn : w0 < n := by omega
  rw [hw1]
  obtain ⟨x0, hx0⟩ : ∃ x, rows.getD w0 default = x := ⟨_, rfl⟩
  have hx0' : rows.getD (w0 : Int).toNat default = x0 := hx0
  have hr0 := g3 w0 hwn
  rw [hx0] at hr0
  have hrl : x0.r.length ≤ 9 := by
   rw [hr0]; unfold divL
   rw [List.length_map]
   refine Nat.le_trans (List.length_filter_le _ _) ?_
   rw [List.length_take]; omega
  have hrn : 0 < rows.length := by omega
  (repeat (refine K_seq ?_)); refine K_drawX (id := 19) [(5, (0, 1))] [some (blkS so.val)] ?_; refine KX_cons ?_; (first | (refine mv ?_ <;> refine KO_nil ⟨⟨by (first | exact True.intro), rfl⟩, ?_⟩)); refine KX_cons ?_; (first | (refine mv ?_ <;> refine KO_nil ⟨⟨by (first | exact True.intro), rfl⟩, ?_⟩)); refine KX_cons ?_; (first | (refine mv ?_ <;> refine KO_nil ⟨⟨by (first | exact True.intro), rfl⟩, ?_⟩)); refine KX_cons ?_; (first | (refine mv ?_ <;> refine KO_nil ⟨⟨by (first | exact True.intro), rfl⟩, ?_⟩)); refine KX_cons ?_; (first | (refine ixS2 S rfl rfl ?_ <;> refine KO_nil ⟨⟨by (first | exact True.intro), rfl⟩, ?_⟩)); refine KX_cons ?_; (first | (refine lES2 S rfl rfl ?_ <;> refine KO_nil ⟨⟨by (first | exact Or.inr (congrArg some (blkOf_elA _ _ _ _))), rfl⟩, ?_⟩)); refine KX_cons ?_; (first | (refine lB S rfl rfl ?_ <;> refine KO_nil ⟨⟨by (first | exact True.intro), rfl⟩, ?_⟩)); refine KX_cons ?_; (first | (refine mv ?_ <;> refine KO_nil ⟨⟨by (first | exact True.intro), rfl⟩, ?_⟩)); refine KX_cons ?_; (first | (refine ixS2 S rfl rfl ?_ <;> refine KO_nil ⟨⟨by (first | exact True.intro), rfl⟩, ?_⟩)); refine KX_cons ?_; (first | (refine lES2 S rfl rfl ?_ <;> refine KO_nil ⟨⟨by (first | exact True.intro), rfl⟩, ?_⟩))
  rw [hx0']
  obtain ⟨t, ht⟩ : ∃ t, stops.getD (i : Int).toNat default = t := ⟨_, rfl⟩
  rw [ht]
  refine KX_cons ?_; refine one 1 (Hs.start S.wf) ?_; intro u h2 x; refine KO_nil ⟨⟨True.intro, ?_⟩, ?_⟩; (focus ((show keepsX _ _ _ _ _; simp only [keepsX]; (repeat' (first | exact True.intro | refine And.intro ?_ ?_)); all_goals (intro hw; first | exact x.ext.old _ (S.bR (by first | omega)))))); replace S := S.join1 x; clear x
  replace S : Hs h0 h2 [.sl u 3 1 eRaw [[.int .i64 t]], .sl so.val 25 1 eRow rows, ownR slRow rows, .sl sb_.val 3 1 eI B.1, .blk b16 [.int .i64 B.2] 3, .blk b15 [sb_.val] 25, .sl ss.val 3 1 eI stops, .blk b1 [ss.val] 25] := S
  have S := (show Hs h0 h2 [ownR slRow rows, .sl so.val 25 1 eRow rows, .sl u 3 1 eRaw [[.int .i64 t]], .sl sb_.val 3 1 eI B.1, .blk b16 [.int .i64 B.2] 3, .blk b15 [sb_.val] 25, .sl ss.val 3 1 eI stops, .blk b1 [ss.val] 25] from S.pick)
  have S := S.owOpen (f := slRow) (i := w0) (by omega)
  rw [hx0] at S
  have S := (show Hs h0 h2 [.sl u 3 1 eRaw [[.int .i64 t]], slRow x0, ownR slRow (rows.take w0 ++ rows.drop (w0 + 1)), .sl so.val 25 1 eRow rows, .sl sb_.val 3 1 eI B.1, .blk b16 [.int .i64 B.2] 3, .blk b15 [sb_.val] 25, .sl ss.val 3 1 eI stops, .blk b1 [ss.val] 25] from S.pick)
  refine KX_cons ?_; refine app (y0 := t) S rfl rfl ?_; have S0 := S; clear S; intro v1 h S; refine KO_nil ⟨⟨True.intro, ?_⟩, ?_⟩; (focus ((show keepsX _ _ _ _ _; simp only [keepsX]; (repeat' (first | exact True.intro | refine And.intro ?_ ?_)); all_goals (intro hw; first | exact absurd hw (by decide +kernel))))); clear S0
  obtain ⟨s1, rfl⟩ := S.sV v1
  replace S : Hs h0 h [.sl s1.val 3 1 eI (x0.r ++ [t]), ownR slRow (rows.take w0 ++ rows.drop (w0 + 1)), .sl so.val 25 1 eRow rows, .sl sb_.val 3 1 eI B.1, .blk b16 [.int .i64 B.2] 3, .blk b15 [sb_.val] 25, .sl ss.val 3 1 eI stops, .blk b1 [ss.val] 25] := S
  refine KX_cons ?_; refine ixS2 S rfl rfl ?_; refine KO_nil ⟨⟨by (first | exact True.intro), rfl⟩, ?_⟩
  refine KX_cons ?_; refine sE2 (y := (⟨s1, x0.r ++ [t]⟩ : Row_)) S rfl rfl ?_; have S0 := S; clear S; intro h S; refine KO_nil ⟨⟨True.intro, ?_⟩, ?_⟩; (focus ((show keepsX _ _ _ _ _; simp only [keepsX]; (repeat' (first | exact True.intro | refine And.intro ?_ ?_)); all_goals (intro hw; first | exact absurd hw (by decide +kernel))))); clear S0
  (refine KX_nil ?_)
  replace S : Hs h0 h [slRow ⟨s1, x0.r ++ [t]⟩, ownR slRow (rows.take w0 ++ rows.drop (w0 + 1)), .sl so.val 25 1 eRow (rows.set w0 ⟨s1, x0.r ++ [t]⟩), .sl sb_.val 3 1 eI B.1, .blk b16 [.int .i64 B.2] 3, .blk b15 [sb_.val] 25, .sl ss.val 3 1 eI stops, .blk b1 [ss.val] 25] := S
  have S := S.owShut (i := w0) (by omega)
  all_goals (repeat' (first | (refine K_region (id := 20) ?_; refine ad ?_; refine mv ?_; refine KO_nil ?_)))
  refine ⟨(i + 1, rows.set w0 ⟨s1, x0.r ++ [t]⟩), ?_, ?_, (by repeat (first | exact Ks.le_nil _ | refine Ks.le_cons rfl ?_))⟩
  ·show B.1.length - (i + 1) < B.1.length - i; omega
  ·refine ⟨S.pick, by omega, by rw [List.length_set]; exact g2, fun v hv => ?_⟩
   rw [getD_setR (by omega), divL_s his hi, hw0]
   by_cases e : w0 = v
   ·subst e
    rw [if_pos rfl, if_pos rfl, ← hr0]
    have : stops.getD i default = t := ht
    rw [this]
   ·rw [if_neg e, if_neg (by omega)]
    exact g3 v hv
 ·obtain rfl : i = B.1.length := by omega
  all_goals (repeat' (first | (refine K_draw (id := 21) ?_; refine mv ?_; refine lB S rfl rfl ?_; refine mv ?_; refine mv ?_; refine mv ?_; refine KO_nil ?_)))
  refine K_ret ⟨_, rfl, ?_⟩
  exact ⟨so.val, rows, B.2, 0, rfl, S.pick, .inr ⟨hp, hpq, .inr (.inr ⟨n, rfl, by omega, by omega, by omega, rfl, g2, by rw [hB], fun v hv => by rw [g3 v hv, hB, c1]⟩)⟩⟩
end Go.Proofs.Xx
namespace Go.Proofs.Xx
open Go Go.Proofs
set_option linter.unusedSimpArgs false
set_option linter.unusedVariables false
set_option linter.unusedSectionVars false
set_option maxRecDepth 100000
set_option maxHeartbeats 4000000
theorem take_getD {l : List Int} {i : Nat} (hi : i < l.length) : l.take (i + 1) = l.take i ++ [l.getD i default] := by
 rw [List.take_add_one, List.getElem?_eq_getElem hi, List.getD_eq_getElem?_getD, List.getElem?_eq_getElem hi]
 rfl
def catD (st B : List Int) (i : Nat) : Nat → List Int
 | 0 => []
 | n + 1 => catD st B i n ++ divL st B i n
def ldN (pl : List Int) (n : Int) : Int := max (mxF (fun i => pl.getD i default) pl.length) (pl.sum / n + min 1 (pl.sum % n))
theorem load_okW {h0 : AH} (w : WfH h0) (pv : PbV) (p : Pb) (H : PbOk h0 pv p) (hP : PO p) (vq : Value) (q : List Int) (rq : RdL h0 vq 1 eI q) (hQ : PartOk p q) (n : Int) (hn : 1 ≤ n) :
 Fn Tryz.prog Xh 21 [pv.val, vq, .int .i64 n] h0 (fun u h' => u = .int .i64 (ldN (pltV p q) n) ∧ Hs h0 h' []) := by
 have S := Hs.start w
 have hql := hQ.ql hP
 have hqm := hQ.qm H.tab.len
 have hl := H.tab.len
 have hld := ldP_b (p := p) (q := q)
 unfold PbV.val
 refine Fn_K (by first | rfl) Tryz.func21 rfl rfl ?_
 all_goals (repeat' (first | refine K_seq ?_ | (refine K_region (id := 0) ?_; (refine bx S ?_; clear S; intro b h S); refine mv ?_; refine KO_nil ?_)))
 obtain ⟨b3, hnm⟩ : ∃ x, x = b := ⟨_, rfl⟩; subst hnm
 all_goals (repeat' (first | (refine K_region (id := 1) ?_; refine mv ?_; (refine cF ?_) <;> (refine mv ?_; (first | (refine lB S rfl rfl ?_)); refine mv ?_; (skip)))))
 (refine KO_fn rfl rfl rfl rfl rfl ((svalid_ok S.wf pv p (H.ext w S.ext) vq q (rq.ext w S.ext) (by omega)).mono ?_); rintro _ h ⟨⟨rfl, hv⟩ | ⟨rfl, hv⟩, x⟩) <;> (replace S := S.join0 x; clear x; refine vl ?_; refine vl ?_; refine KO_nil ?_)
 rotate_left
 ·exact absurd ⟨hP, hQ⟩ hv
 all_goals (repeat' (first | refine K_seq ?_ | refine k_cond rfl ?_ | refine K_skip ?_ | (refine K_region (id := 3) ?_; refine mv ?_; refine mv ?_; refine KO_nil ?_) | (refine K_region (id := 4) ?_; refine lB S rfl rfl ?_; refine mv ?_)))
 (refine KO_fn rfl rfl rfl rfl rfl ((splates_ok S.wf pv p (H.ext w S.ext) vq q (rq.ext w S.ext) (by omega) hqm).mono ?_); rintro vp h x) <;> (replace S := S.join1 x; clear x; refine lnS S rfl rfl ?_; refine mv ?_; refine KO_nil ?_)
 all_goals (repeat' (refine k_block ?_))
 have hpl := pltV_len (p := p) (q := q)
 obtain ⟨pl, hpe⟩ : ∃ pl, pltV p q = pl := ⟨_, rfl⟩
 rw [hpe] at S hpl hld ⊢
 refine k_loop (σ := Nat) (fun i h' => Hs h0 h' [.sl vp 3 1 eI pl] ∧ i ≤ pl.length ∧ (0 ≤ (pl.take i).sum ∧ (pl.take i).sum ≤ 1000 * i) ∧ (0 ≤ mxF (fun i => pl.getD i default) i ∧ mxF (fun i => pl.getD i default) i ≤ 1000)) (fun i => pl.length - i) (fun i => [(2, .int .i64 n), (7, .int .i64 (pl.take i).sum), (8, .int .i64 (mxF (fun i => pl.getD i default) i)), (21, vp), (22, .int .i64 pl.length), (23, .int .i64 i)]) 0 (by repeat (first | exact Ks.le_nil _ | refine Ks.le_cons rfl ?_)) ?_ ?_
 ·exact ⟨S.pick, Nat.zero_le _, by simp, by simp [mxF]⟩
 clear S
 rintro i h ⟨S, g1, g2, g3⟩
 all_goals (repeat' (first | refine K_seq ?_ | refine k_cond rfl ?_ | refine K_skip ?_ | refine K_exit ?_ | refine k_block ?_ | (refine K_region (id := 5) ?_; (first | (refine cS ?_ ?_ <;> intro hc)) <;> (refine KO_nil ?_)) | (refine K_region (id := 6) ?_; refine ixS2 S rfl rfl ?_; refine lES2 S rfl rfl ?_; refine mv ?_; refine KO_nil ?_)))
 ·have hi : i < pl.length := by omega
  have e2 : (pl.take (i + 1)).sum = (pl.take i).sum + pl.getD (i : Int).toNat default := by rw [take_getD hi]; simp
  have e3_ : mxF (fun i => pl.getD i default) (i + 1) = max (mxF (fun i => pl.getD i default) i) (pl.getD (i : Int).toNat default) := rfl
  have h0 : 0 ≤ pl.getD (i : Int).toNat default ∧ pl.getD (i : Int).toNat default ≤ q.length := hld i
  all_goals (repeat' (first | (refine K_region (id := 7) ?_; refine mv ?_; refine mv ?_; refine ad ?_; refine mv ?_; refine KO_nil ?_) | (refine K_region (id := 8) ?_; refine mv ?_; refine mv ?_; refine mx ?_; refine mv ?_; refine KO_nil ?_) | (refine K_region (id := 9) ?_; refine ad ?_; refine mv ?_; refine KO_nil ?_)))
  rw [← e2, ← e3_]
  refine ⟨i + 1, ?_, ?_, (by repeat (first | exact Ks.le_nil _ | refine Ks.le_cons rfl ?_))⟩
  ·show pl.length - (i + 1) < pl.length - i; omega
  ·exact ⟨S, by omega, by omega, by rw [e3_]; omega⟩
 ·obtain rfl : i = pl.length := by omega
  rw [List.take_of_length_le (Nat.le_refl _)] at g2 ⊢
  have d1 := Int.ediv_nonneg g2.1 (show 0 ≤ n by omega)
  have d2 := Int.ediv_le_self n g2.1
  have d3 := Int.emod_nonneg pl.sum (show n ≠ 0 by omega)
  all_goals (repeat' (first | (refine K_draw (id := 10) ?_; refine mv ?_; refine mv ?_; refine mv ?_; refine qu ?_; refine mv ?_; refine mv ?_; refine rm ?_; refine mn ?_; refine ad ?_; refine mx ?_; refine mv ?_; refine KO_nil ?_)))
  refine K_ret ⟨_, rfl, ?_⟩
  exact ⟨rfl, S.drop⟩
end Go.Proofs.Xx
