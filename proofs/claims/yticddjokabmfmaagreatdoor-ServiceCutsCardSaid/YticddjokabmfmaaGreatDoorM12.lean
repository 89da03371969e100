/-
  Ways and trees in a metric: plain.
-/
import Derived.Test.YticddjokabmfmaaGreatDoorM11
import Derived.Test.YticddjokabmfmaaGreatDoorM7
import Derived.Test.YticddjokabmfmaaGreatDoorM10
import Derived.Test.YticddjokabmfmaaGreatDoorM8

namespace Go.Proofs.Xx
set_option linter.unusedSectionVars false
set_option linter.unusedSimpArgs false
set_option linter.unusedVariables false

structure Met (d : Int → Int → Int) : Prop where
  nn : ∀ a b, 0 ≤ d a b
  z : ∀ a, d a a = 0
  sym : ∀ a b, d a b = d b a
  tri : ∀ a b c, d a c ≤ d a b + d b c
/-- The length of a way from a over l to b. -/
def plen (d : Int → Int → Int) : Int → List Int → Int → Int
  | a, [], b => d a b
  | a, t :: l, b => d a t + plen d t l b
theorem plen_app {d : Int → Int → Int} : ∀ (l : List Int) (a t : Int) (r : List Int) (b : Int), plen d a (l ++ t :: r) b = plen d a l t + plen d t r b
  | [], a, t, r, b => rfl
  | x :: l, a, t, r, b => by
    rw [List.cons_append, plen, plen, plen_app l x t r b]; omega
theorem plen_ge {d : Int → Int → Int} (m : Met d) : ∀ (l : List Int) (a b : Int), d a b ≤ plen d a l b
  | [], a, b => Int.le_refl _
  | x :: l, a, b => by
    have h1 := plen_ge m l x b
    have h2 := m.tri a x b
    rw [plen]; omega
theorem plen_nn {d : Int → Int → Int} (m : Met d) (l : List Int) (a b : Int) : 0 ≤ plen d a l b := by
  have h1 := plen_ge m l a b
  have h2 := m.nn a b
  omega
/-- A way from the kitchen and back. -/
def tour (d : Int → Int → Int) (l : List Int) : Int := plen d (-1) l (-1)
/-! all orders, gone through as a search does -/

/-- The orders of the stops that begin with done, n more to come. -/
def Comp (stops : List Int) : Nat → List Int → List (List Int)
  | 0, done => [done]
  | n + 1, done => stops.flatMap fun t => if t ∈ done then [] else Comp stops n (done ++ [t])
/-- The best way so far (none: a length below 0). -/
abbrev BestW := List Int × Int
def updW (L : List Int → Int) (s : BestW) (c : List Int) : BestW := if s.2 < 0 ∨ L c < s.2 then (c, L c) else s
/-! trees -/

/-- The vertices R hang on J, one after the other, with edges of weight c together. -/
inductive Cov (d : Int → Int → Int) : List Int → List Int → Int → Prop where
  | nil {J : List Int} : Cov d J [] 0
  | snoc {J R : List Int} {c x p : Int} (h : Cov d J R c) (hp : p ∈ J ∨ p ∈ R) : Cov d J (R ++ [x]) (c + d x p)
theorem Cov.mono {d : Int → Int → Int} {J J' R : List Int} {c : Int} (h : Cov d J R c) (hs : ∀ x ∈ J, x ∈ J') : Cov d J' R c := by
  induction h with
  | nil => exact .nil
  | snoc _ hp ih => exact .snoc ih (hp.imp (hs _) id)
theorem Cov.shift {d : Int → Int → Int} {J J' R : List Int} {c p v : Int} (h : Cov d (p :: J) R c) (hv : v ∈ J') (hs : ∀ x ∈ J, x ∈ J') : Cov d J' (p :: R) (c + d p v) := by
  generalize hJ : p :: J = K at h
  induction h with
  | nil =>
    have := Cov.snoc (d := d) (J := J') (R := []) (c := 0) (x := p) (p := v) .nil (.inl hv)
    simpa using this
  | @snoc R c x q h hq ih =>
    subst hJ
    have := Cov.snoc (x := x) (p := q) ih (by
      rcases hq with hq | hq
      · rcases List.mem_cons.1 hq with rfl | hq
        · exact .inr (by simp)
        · exact .inl (hs _ hq)
      · exact .inr (List.mem_cons_of_mem _ hq))
    have e : c + d p v + d x q = c + d x q + d p v := by omega
    rw [e] at this
    exact this
/-- A vertex is taken into the base: an edge of weight w at least falls away. -/
theorem Cov.exch {d : Int → Int → Int} (m : Met d) {J : List Int} {w : Int} {R : List Int} {c : Int} (h : Cov d J R c) : ∀ {v : Int}, v ∈ R → (∀ x ∈ R, ∀ y ∈ J, w ≤ d x y) → R.Nodup →
    ∃ R' c', R'.Perm (R.erase v) ∧ Cov d (v :: J) R' c' ∧ c' + w ≤ c := by
  induction h with
  | nil => intro v hv; cases hv
  | @snoc R c x p h hp ih =>
    intro v hv hw hnd
    rw [List.nodup_append] at hnd
    obtain ⟨nd, -, ndx⟩ := hnd
    have hxR : x ∉ R := fun q => ndx x q x (by simp) rfl
    have hw0 : ∀ y ∈ R, ∀ z ∈ J, w ≤ d y z := fun y hy => hw y (List.mem_append_left _ hy)
    by_cases e : v = x
    · subst e
      have eR : (R ++ [v]).erase v = R := by rw [List.erase_append_right _ hxR]; simp
      rw [eR]
      by_cases hpR : p ∈ R
      · obtain ⟨R', c', k1, k2, k3⟩ := ih hpR hw0 nd
        refine ⟨p :: R', c' + d p v, ?_, k2.shift (by simp) fun y hy => List.mem_cons_of_mem _ hy, ?_⟩
        · exact (k1.cons p).trans (List.perm_cons_erase hpR).symm
        · have := m.sym v p
          omega
      · have hpJ : p ∈ J := hp.resolve_right hpR
        have := hw v (by simp) p hpJ
        exact ⟨R, c, .refl _, h.mono fun y hy => List.mem_cons_of_mem _ hy, by omega⟩
    · have hvR : v ∈ R := by
        rcases List.mem_append.1 hv with q | q
        · exact q
        · exact absurd (List.mem_singleton.1 q) e
      obtain ⟨R', c', k1, k2, k3⟩ := ih hvR hw0 nd
      refine ⟨R' ++ [x], c' + d x p, ?_, k2.snoc ?_, by omega⟩
      · rw [List.erase_append_left _ hvR]
        exact k1.append_right [x]
      · by_cases q : p = v
        · exact .inl (by simp [q])
        · rcases hp with hp | hp
          · exact .inl (List.mem_cons_of_mem _ hp)
          · exact .inr (k1.mem_iff.2 ((List.mem_erase_of_ne q).2 hp))
/-- How a tree is grown: each time by a nearest vertex. -/
inductive Prim (d : Int → Int → Int) : List Int → List Int → Int → Prop where
  | nil {J : List Int} : Prim d J [] 0
  | step {J L : List Int} {c v u : Int} (hv : v ∈ L) (hu : u ∈ J) (hm : ∀ x ∈ L, ∀ y ∈ J, d v u ≤ d x y) (h : Prim d (v :: J) (L.erase v) c) : Prim d J L (d v u + c)
theorem Cov.perm0 {d : Int → Int → Int} {J R : List Int} {c : Int} (h : Cov d J R c) (hR : R = []) : c = 0 := by
  cases h with
  | nil => rfl
  | snoc _ _ => simp at hR
theorem Prim.le {d : Int → Int → Int} (m : Met d) {J L : List Int} {c : Int} (h : Prim d J L c) : ∀ {R : List Int} {e : Int}, R.Perm L → L.Nodup → Cov d J R e → c ≤ e := by
  induction h with
  | nil => intro R e hp _ k; rw [k.perm0 (List.perm_nil.1 hp)]; exact Int.le_refl _
  | @step J L c v u hv hu hm h ih =>
    intro R e hp nd k
    obtain ⟨R', e', k1, k2, k3⟩ := Cov.exch m k (hp.mem_iff.2 hv) (fun x hx y hy => hm x (hp.mem_iff.1 hx) y hy) (hp.symm.nodup nd)
    have := ih (k1.trans (hp.erase v)) (nd.erase v) k2
    omega
/-- A way over all is such a tree. -/
theorem Cov.way {d : Int → Int → Int} (m : Met d) (a b : Int) : ∀ (R : List Int), ∃ e, Cov d [a] R e ∧ e ≤ plen d a R b := fun R => by
  have key : ∀ (n : Nat) (R : List Int), R.length = n → ∀ b, ∃ e, Cov d [a] R e ∧ e + d (R.getLast?.getD a) b ≤ plen d a R b := by
    intro n
    induction n with
    | zero => intro R h b; rw [List.length_eq_zero_iff.1 h]; exact ⟨0, .nil, by simp [plen]⟩
    | succ n ih =>
      intro R h b
      rcases List.eq_nil_or_concat R with rfl | ⟨R', x, rfl⟩
      · cases h
      · rw [List.concat_eq_append] at h ⊢
        obtain ⟨e, k1, k2⟩ := ih R' (by simpa using h) x
        refine ⟨e + d x (R'.getLast?.getD a), k1.snoc ?_, ?_⟩
        · cases hq : R'.getLast? with
          | none => exact .inl (by simp)
          | some y => exact .inr (List.mem_of_getLast? hq)
        · rw [plen_app, m.sym x]
          simp [plen]
          omega
  obtain ⟨e, k1, k2⟩ := key _ R rfl b
  have := m.nn (R.getLast?.getD a) b
  exact ⟨e, k1, by omega⟩
/-- A way of twice the tree's weight at most. -/
theorem tour_ins {d : Int → Int → Int} (m : Met d) (a : Int) : ∀ (l : List Int) (v u b : Int), u = a ∨ u ∈ l → ∃ l', l'.Perm (v :: l) ∧ plen d a l' b ≤ plen d a l b + 2 * d v u
  | l, v, u, b, h => by
    by_cases e : u = a
    · subst e
      refine ⟨v :: l, .refl _, ?_⟩
      rw [plen]
      have h1 := m.sym v u
      cases l with
      | nil => rw [plen, plen]; have := m.tri v u b; omega
      | cons t l => rw [plen, plen]; have := m.tri v u t; omega
    · have hu : u ∈ l := h.resolve_left e
      cases l with
      | nil => cases hu
      | cons t l =>
        obtain ⟨l', k1, k2⟩ := tour_ins m t l v u b (by rcases List.mem_cons.1 hu with q | q; exact .inl q; exact .inr q)
        refine ⟨t :: l', (k1.cons t).trans (List.Perm.swap v t l), ?_⟩
        rw [plen, plen]; omega
theorem Prim.tour {d : Int → Int → Int} (m : Met d) (a b : Int) {J L : List Int} {c : Int} (h : Prim d J L c) : ∀ {K : List Int}, (∀ x ∈ J, x = a ∨ x ∈ K) → ∃ l, l.Perm (L ++ K) ∧ plen d a l b ≤ plen d a K b + 2 * c := by
  induction h with
  | nil => intro K _; exact ⟨K, .refl _, by omega⟩
  | @step J L c v u hv hu hm h ih =>
    intro K hK
    obtain ⟨K', k1, k2⟩ := tour_ins m a K v u b (hK u hu)
    obtain ⟨l, k3, k4⟩ := ih (K := K') fun x hx => by
      rcases List.mem_cons.1 hx with rfl | hx
      · exact .inr (k1.mem_iff.2 (by simp))
      · exact (hK x hx).imp id fun q => k1.mem_iff.2 (List.mem_cons_of_mem _ q)
    refine ⟨l, k3.trans ?_, by omega⟩
    have p1 : (L.erase v ++ K').Perm (L.erase v ++ (v :: K)) := k1.append_left _
    have p2 : (L.erase v ++ (v :: K)).Perm (v :: (L.erase v ++ K)) := List.perm_middle
    have p3 : (v :: (L.erase v ++ K)).Perm (L ++ K) := by
      rw [← List.cons_append]
      exact (List.perm_cons_erase hv).symm.append_right K
    exact p1.trans (p2.trans p3)
end Go.Proofs.Xx

/-
  The orders that a search goes through rise.
-/
namespace Go.Proofs.Xx
set_option linter.unusedSectionVars false
set_option linter.unusedSimpArgs false
set_option linter.unusedVariables false

/-- a comes before b: at the first place where they differ. -/
def lexL (a b : List Int) : Prop := ∃ pre x y s t, a = pre ++ x :: s ∧ b = pre ++ y :: t ∧ x < y
end Go.Proofs.Xx

/-
  The search for a way: what is cut off is no better; plain.
-/
namespace Go.Proofs.Xx
set_option linter.unusedSectionVars false
set_option linter.unusedSimpArgs false
set_option linter.unusedVariables false

/-- Where a way has come to. -/
def lastD (l : List Int) : Int := l.getLast?.getD (-1)
/-- How far it is to there. -/
def lenTo (d : Int → Int → Int) (l : List Int) : Int := tour d l - d (lastD l) (-1)
theorem lastD_app {l : List Int} {t : Int} : lastD (l ++ [t]) = t := by simp [lastD]
theorem lenTo_nil {d : Int → Int → Int} : lenTo d [] = 0 := by simp [lenTo, tour, plen, lastD]
theorem tour_to {d : Int → Int → Int} {l : List Int} : tour d l = lenTo d l + d (lastD l) (-1) := by unfold lenTo; omega
theorem plen_to {d : Int → Int → Int} (l : List Int) (t : Int) : plen d (-1) l t = lenTo d l + d (lastD l) t := by
  unfold lenTo tour
  rcases List.eq_nil_or_concat l with rfl | ⟨r, x, rfl⟩
  · simp [plen, lastD]
  · rw [List.concat_eq_append, plen_app, plen_app, lastD_app]
    simp [plen]
theorem lenTo_app {d : Int → Int → Int} (l : List Int) (t : Int) : lenTo d (l ++ [t]) = lenTo d l + d (lastD l) t := by
  rw [← plen_to]
  unfold lenTo tour
  rw [plen_app, lastD_app]
  simp [plen]
theorem lenTo_b {d : Int → Int → Int} {M : Int} {N : Int} (hd : ∀ a b, a < N → b < N → 0 ≤ d a b ∧ d a b ≤ M) (hN : 0 ≤ N) : ∀ (l : List Int), (∀ t ∈ l, t < N) → 0 ≤ lenTo d l ∧ lenTo d l ≤ M * l.length ∧ lastD l < N := by
  have key : ∀ (n : Nat) (l : List Int), l.length = n → (∀ t ∈ l, t < N) → 0 ≤ lenTo d l ∧ lenTo d l ≤ M * l.length ∧ lastD l < N := by
    intro n
    induction n with
    | zero => intro l h _; rw [List.length_eq_zero_iff.1 h]; simp [lenTo_nil, lastD]; omega
    | succ n ih =>
      intro l h ht
      rcases List.eq_nil_or_concat l with rfl | ⟨l', x, rfl⟩
      · cases h
      · rw [List.concat_eq_append] at h ht ⊢
        obtain ⟨h1, h2, h3⟩ := ih l' (by simpa using h) fun t q => ht t (List.mem_append_left _ q)
        have hx := ht x (by simp)
        have h4 := hd (lastD l') x h3 hx
        rw [lenTo_app, lastD_app]
        refine ⟨by omega, ?_, hx⟩
        simp only [List.length_append, List.length_singleton]
        push_cast
        rw [Int.mul_add]
        omega
  exact fun l => key _ l rfl
/-- The orders behind the first i stops at a place of the search. -/
def CompI (stops : List Int) (n : Nat) (done : List Int) (i : Nat) : List (List Int) := (stops.take i).flatMap fun t => if t ∈ done then [] else Comp stops n (done ++ [t])
end Go.Proofs.Xx

/-
  Steps and lengths of ways.
-/
namespace Go.Proofs.Xx
open Go Go.Proofs
set_option linter.unusedSimpArgs false
set_option linter.unusedVariables false
set_option linter.unusedSectionVars false
set_option maxRecDepth 100000
set_option maxHeartbeats 4000000

theorem ValidL.xy {l : List Tab} (h : ValidL l) {i : Nat} (hi : i < l.length) : XYok (tb l i) := by
  have hc := (h.2 i hi).1
  unfold chk at hc
  split at hc
  · cases hc
  · split at hc
    · cases hc
    · split at hc
      · cases hc
      · split at hc
        · cases hc
        · rename_i hx; exact Classical.not_not.1 hx
theorem ptX_b {l : List Tab} (h : ValidL l) {t : Int} (ht : t < l.length) : 0 ≤ ptX l t ∧ ptX l t ≤ 1000 := by
  unfold ptX
  split
  · omega
  · have := h.xy (i := t.toNat) (by omega); unfold XYok at this; omega
theorem ptY_b {l : List Tab} (h : ValidL l) {t : Int} (ht : t < l.length) : 0 ≤ ptY l t ∧ ptY l t ≤ 1000 := by
  unfold ptY
  split
  · omega
  · have := h.xy (i := t.toNat) (by omega); unfold XYok at this; omega
theorem stp_met (l : List Tab) : Met (stp l) := by
  constructor <;> intros <;> unfold stp <;> omega
theorem stp_b {l : List Tab} (h : ValidL l) {a b : Int} (ha : a < l.length) (hb : b < l.length) : 0 ≤ stp l a b ∧ stp l a b ≤ 2000 := by
  have h1 := ptX_b h ha
  have h2 := ptX_b h hb
  have h3 := ptY_b h ha
  have h4 := ptY_b h hb
  unfold stp; omega
theorem point_ok {h0 : AH} (w : WfH h0) (v : PbV) (p : Pb) (H : PbOk h0 v p) (t : Int) (ht : t < p.tabs.length) : Fn Tryz.prog Xh 64 [v.val, .int .i64 t] h0 (fun u h' => u = .tuple #[.int .i64 (ptX p.tabs t), .int .i64 (ptY p.tabs t)] ∧ Hs h0 h' []) := by
  have S := Hs.start w
  have hr := H.tab.rd
  unfold PbV.val
  refine Fn_K (by first | rfl) Tryz.func64 rfl rfl ?_
  all_goals (repeat' (first | refine K_seq ?_ | refine k_cond rfl ?_ | refine K_skip ?_ | (refine K_region (id := 0) ?_; (refine bx S ?_; clear S; intro b h S); refine mv ?_; refine mv ?_; refine KO_nil ?_) | (refine K_region (id := 1) ?_; refine mv ?_; (first | (refine cS ?_ ?_ <;> intro hc)) <;> (refine KO_nil ?_)) | (refine K_region (id := 2) ?_; refine mv ?_; refine mv ?_; refine KO_nil ?_)))
  · refine K_ret ⟨_, rfl, ?_⟩
    exact ⟨by unfold ptX ptY; rw [if_pos hc, if_pos hc]; rfl, S.drop⟩
  · obtain ⟨j, rfl⟩ := Int.eq_ofNat_of_zero_le (show 0 ≤ t by omega)
    all_goals (repeat' (first | (refine K_draw (id := 3) ?_; refine vl ?_; refine lB S rfl rfl ?_; refine mv ?_; refine ixB S ?_; refine fB S ?_; refine lEB S ?_; refine vl ?_; refine lB S rfl rfl ?_; refine mv ?_; refine ixB S ?_; refine fB S ?_; refine lEB S ?_; refine mv ?_; refine mv ?_; refine KO_nil ?_)))
    refine K_ret ⟨_, rfl, ?_⟩
    exact ⟨by unfold ptX ptY; rw [if_neg (by omega), if_neg (by omega)]; rfl, S.drop⟩
theorem ssteps_ok {h0 : AH} (w : WfH h0) (v : PbV) (p : Pb) (H : PbOk h0 v p) (hv : ValidL p.tabs) (a c : Int) (ha : a < p.tabs.length) (hb : c < p.tabs.length) : Fn Tryz.prog Xh 34 [v.val, .int .i64 a, .int .i64 c] h0 (fun u h' => u = .int .i64 (stp p.tabs a c) ∧ Hs h0 h' []) := by
  have S := Hs.start w
  have x1 := ptX_b hv ha
  have x2 := ptX_b hv hb
  have y1 := ptY_b hv ha
  have y2 := ptY_b hv hb
  unfold PbV.val
  refine Fn_K (by first | rfl) Tryz.func34 rfl rfl ?_
  all_goals (repeat' (first | refine K_seq ?_ | (refine K_region (id := 0) ?_; (refine bx S ?_; clear S; intro b h S); refine mv ?_; refine KO_nil ?_) | (refine K_region (id := 1) ?_; refine lB S rfl rfl ?_; refine mv ?_)))
  obtain ⟨bb, hnm⟩ : ∃ x, x = b := ⟨_, rfl⟩; subst hnm
  (refine KO_fn rfl rfl rfl rfl rfl ((point_ok S.wf v p (H.ext w S.ext) a ha).mono ?_); rintro _ h ⟨rfl, x⟩) <;> (replace S := S.join0 x; clear x; refine mv ?_; refine vl ?_; refine vl ?_; refine mv ?_; refine mv ?_; refine KO_nil ?_)
  all_goals (repeat' (first | refine K_seq ?_ | (refine K_region (id := 2) ?_; refine lB S rfl rfl ?_; refine mv ?_)))
  (refine KO_fn rfl rfl rfl rfl rfl ((point_ok S.wf v p (H.ext w S.ext) c hb).mono ?_); rintro _ h ⟨rfl, x⟩) <;> (replace S := S.join0 x; clear x; refine mv ?_; refine vl ?_; refine vl ?_; refine mv ?_; refine mv ?_; refine KO_nil ?_)
  all_goals (repeat' (first | refine K_seq ?_ | (refine K_region (id := 3) ?_; refine mv ?_; refine mv ?_; refine sb ?_; refine mv ?_; refine mv ?_; refine sb ?_; refine mx ?_; refine mv ?_; refine mv ?_; refine sb ?_; refine mv ?_; refine mv ?_; refine sb ?_; refine mx ?_; refine ad ?_; refine mv ?_; refine KO_nil ?_)))
  refine K_ret ⟨_, rfl, ?_⟩
  exact ⟨rfl, S.drop⟩
theorem slength_ok {h0 : AH} (w : WfH h0) (v : PbV) (p : Pb) (H : PbOk h0 v p) (hv : ValidL p.tabs) (wl : Value) (l : List Int) (rl : RdL h0 wl 1 eI l) (hl : l.length ≤ 1000000) (ht : ∀ t ∈ l, t < p.tabs.length) : Fn Tryz.prog Xh 35 [v.val, wl] h0 (fun u h' => u = .int .i64 (tour (stp p.tabs) l) ∧ Hs h0 h' []) := by
  have S := Hs.start w
  unfold PbV.val
  refine Fn_K (by first | rfl) Tryz.func35 rfl rfl ?_
  all_goals (repeat' (first | refine K_seq ?_ | refine k_block ?_ | (refine K_region (id := 0) ?_; (refine bx S ?_; clear S; intro b h S); refine mv ?_; refine KO_nil ?_) | (refine K_region (id := 1) ?_; refine mv ?_; refine mv ?_; refine KO_nil ?_) | (refine K_region (id := 2) ?_; refine mv ?_; refine lnB S ?_; refine mv ?_; refine KO_nil ?_)))
  refine k_loop (σ := Nat × Int × Int) (fun (i, n, a) h' => Hs h0 h' [.blk b v.cs 33] ∧ i ≤ l.length ∧ (0 ≤ n ∧ n ≤ 2000 * i) ∧ a < p.tabs.length ∧ n + plen (stp p.tabs) a (l.drop i) (-1) = tour (stp p.tabs) l) (fun (i, n, a) => l.length - i) (fun (i, n, a) => [(2, .pointer (some ⟨b, 0, none⟩)), (5, .int .i64 n), (6, .int .i64 a), (9, wl), (10, .int .i64 l.length), (11, .int .i64 i)]) (0, 0, -1) (by repeat (first | exact Ks.le_nil _ | refine Ks.le_cons rfl ?_)) ?_ ?_
  · exact ⟨S, Nat.zero_le _, ⟨Int.le_refl _, Int.le_refl _⟩, by omega, by simp [tour]⟩
  clear S
  rintro ⟨i, n, a⟩ h ⟨S, h1, h2, h3, h4⟩
  all_goals (repeat' (first | refine K_seq ?_ | refine k_cond rfl ?_ | refine K_skip ?_ | refine K_exit ?_ | refine k_block ?_ | (refine K_region (id := 3) ?_; (first | (refine cS ?_ ?_ <;> intro hc)) <;> (refine KO_nil ?_)) | (refine K_region (id := 4) ?_; refine ixB S ?_; refine lEB S ?_; refine mv ?_; refine KO_nil ?_) | (refine K_region (id := 5) ?_; refine mv ?_; refine lB S rfl rfl ?_; refine mv ?_; refine mv ?_) | (refine K_region (id := 8) ?_; refine mv ?_; refine lB S rfl rfl ?_; refine mv ?_)))
  · (try simp only [Int.toNat_natCast] at *)
    have hi : i < l.length := by omega
    have h5 := ht _ (mem_getD hi)
    have h6 := stp_b hv h3 h5
    (refine KO_fn rfl rfl rfl rfl rfl ((ssteps_ok S.wf v p (H.ext w S.ext) hv a (l.getD i default) h3 h5).mono ?_); rintro _ h ⟨rfl, x⟩) <;> (replace S := S.join0 x; clear x; refine ad ?_; refine mv ?_; refine KO_nil ?_)
    all_goals (repeat' (first | (refine K_region (id := 6) ?_; refine mv ?_; refine mv ?_; refine KO_nil ?_) | (refine K_region (id := 7) ?_; refine ad ?_; refine mv ?_; refine KO_nil ?_)))
    refine ⟨(i + 1, n + stp p.tabs a (l.getD i default), l.getD i default), ?_, ?_, (by repeat (first | exact Ks.le_nil _ | refine Ks.le_cons rfl ?_))⟩
    · show l.length - (i + 1) < l.length - i; omega
    · refine ⟨S, by omega, ⟨by simp only; omega, by simp only; omega⟩, h5, ?_⟩
      rw [← h4, List.drop_eq_getElem_cons hi, plen, List.getD_eq_getElem?_getD, List.getElem?_eq_getElem hi]
      simp only [Option.getD_some]; omega
  · have hi : i = l.length := by omega
    have h6 := stp_b hv h3 (show (-1 : Int) < p.tabs.length by omega)
    (refine KO_fn rfl rfl rfl rfl rfl ((ssteps_ok S.wf v p (H.ext w S.ext) hv a (-1) h3 (by omega)).mono ?_); rintro _ h ⟨rfl, x⟩) <;> (replace S := S.join0 x; clear x; refine ad ?_; refine mv ?_; refine KO_nil ?_)
    all_goals (repeat' (fail))
    refine K_ret ⟨_, rfl, ?_⟩
    refine ⟨?_, S.drop⟩
    rw [← h4, hi, List.drop_length, plen]
    rfl
theorem Length_ok {h0 : AH} (w : WfH h0) (v : PbV) (p : Pb) (H : PbOk h0 v p) (wl : Value) (l : List Int) (rl : RdL h0 wl 1 eI l) (hl : l.length ≤ 1000000) : Fn Tryz.prog Xh 10 [v.val, wl] h0 (fun u h' => ((¬ PO p ∧ ∃ i e, e ≠ 0 ∧ CkP p i e ∧ u = .tuple #[.int .i64 0, .int .i64 e]) ∨ (PO p ∧ ((¬ (∀ t ∈ l, 0 ≤ t ∧ t < p.tabs.length) ∧ u = .tuple #[.int .i64 0, .int .i64 2]) ∨ ((∀ t ∈ l, 0 ≤ t ∧ t < p.tabs.length) ∧ u = .tuple #[.int .i64 (tour (stp p.tabs) l), .int .i64 0])))) ∧ Hs h0 h' []) := by
  have S := Hs.start w
  have hr := H.tab.rd
  have htl := H.tab.len
  unfold PbV.val
  refine Fn_K (by first | rfl) Tryz.func10 rfl rfl ?_
  all_goals (repeat' (first | refine K_seq ?_ | (refine K_region (id := 0) ?_; (refine bx S ?_; clear S; intro b h S); refine mv ?_; refine mv ?_; refine KO_nil ?_) | (refine K_region (id := 1) ?_; refine lB S rfl rfl ?_)))
  (refine KO_fn rfl rfl rfl rfl rfl ((rcheckP_ok S.wf v p (H.ext w S.ext)).mono ?_); rintro _ h ⟨i, e, rfl, hk, x⟩) <;> (replace S := S.join0 x; clear x; refine mv ?_; refine vl ?_; refine vl ?_; refine mv ?_; refine mv ?_; refine KO_nil ?_)
  have hpo := hk.po
  all_goals (repeat' (first | refine K_seq ?_ | refine k_cond rfl ?_ | refine K_skip ?_ | refine k_block ?_ | (refine K_region (id := 2) ?_; refine mv ?_; (first | (refine cS ?_ ?_ <;> intro hc)) <;> (refine KO_nil ?_)) | (refine K_region (id := 3) ?_; refine mv ?_; refine mv ?_; refine mv ?_; refine KO_nil ?_) | (refine K_region (id := 4) ?_; refine mv ?_; refine lnB S ?_; refine mv ?_; refine KO_nil ?_)))
  · refine K_ret ⟨_, rfl, ?_⟩
    exact ⟨.inl ⟨fun q => hc (hpo.2 q), i, e, hc, hk, rfl⟩, S.drop⟩
  have hp : PO p := hpo.1 (by omega)
  skip
  all_goals (repeat' (fail))
  refine k_loop (σ := Nat) (fun i h' => Hs h0 h' [.blk b v.cs 33] ∧ i ≤ l.length ∧ ∀ j, j < i → 0 ≤ l.getD j default ∧ l.getD j default < p.tabs.length) (fun i => l.length - i) (fun i => [(1, wl), (2, .pointer (some ⟨b, 0, none⟩)), (4, .int .i64 0), (5, .int .i64 0), (18, wl), (19, .int .i64 l.length), (20, .int .i64 i)]) 0 (by repeat (first | exact Ks.le_nil _ | refine Ks.le_cons rfl ?_)) ?_ ?_
  · exact ⟨S, Nat.zero_le _, fun j hj => absurd hj (Nat.not_lt_zero _)⟩
  clear S
  rintro i h ⟨S, k1, k2⟩
  all_goals (repeat' (first | refine K_seq ?_ | refine k_cond rfl ?_ | refine K_skip ?_ | refine K_exit ?_ | refine k_block ?_ | (refine K_region (id := 5) ?_; (first | (refine cS ?_ ?_ <;> intro hc)) <;> (refine KO_nil ?_)) | (refine K_region (id := 6) ?_; refine ixB S ?_; refine lEB S ?_; refine mv ?_; refine KO_nil ?_) | (refine K_region (id := 7) ?_; refine mv ?_; (first | (refine cS ?_ ?_ <;> intro hc)) <;> (refine mv ?_; (first | refine off ?_ | refine mv ?_); (first | refine off ?_ | (refine vl ?_)); (first | refine off ?_ | (refine lB S rfl rfl ?_)); (first | refine off ?_ | (refine lnB S ?_)); (first | refine off ?_ | (first | (refine cS ?_ ?_ <;> intro hc))) <;> (refine vl ?_; refine KO_nil ?_))) | (refine K_region (id := 8) ?_; refine mv ?_; refine mv ?_; refine KO_nil ?_) | (refine K_region (id := 9) ?_; refine ad ?_; refine mv ?_; refine KO_nil ?_) | (refine K_region (id := 10) ?_; refine lB S rfl rfl ?_; refine mv ?_)))
  · refine K_ret ⟨_, rfl, ?_⟩
    exact ⟨.inr ⟨hp, .inl ⟨fun q => by have := (q _ (mem_getD (show i < l.length by omega))).1; simp only [Int.toNat_natCast] at hc; omega, rfl⟩⟩, S.drop⟩
  · refine K_ret ⟨_, rfl, ?_⟩
    exact ⟨.inr ⟨hp, .inl ⟨fun q => by have := (q _ (mem_getD (show i < l.length by omega))).2; simp only [Int.toNat_natCast] at hc; omega, rfl⟩⟩, S.drop⟩
  · (try simp only [Int.toNat_natCast] at *)
    refine ⟨i + 1, ?_, ?_, (by repeat (first | exact Ks.le_nil _ | refine Ks.le_cons rfl ?_))⟩
    · show l.length - (i + 1) < l.length - i; omega
    · exact ⟨S, by omega, nxtD k2 ⟨by omega, by omega⟩⟩
  · have ht : ∀ t ∈ l, 0 ≤ t ∧ t < p.tabs.length := fun t ht => by
      obtain ⟨j, hj, rfl⟩ := mem_iff_getD.1 ht
      exact k2 j (by omega)
    (refine KO_fn rfl rfl rfl rfl rfl ((slength_ok S.wf v p (H.ext w S.ext) hp.tabs wl l (rl.ext w S.ext) hl (fun t q => (ht t q).2)).mono ?_); rintro _ h ⟨rfl, x⟩) <;> (replace S := S.join0 x; clear x; refine mv ?_; refine mv ?_; refine KO_nil ?_)
    all_goals (repeat' (fail))
    refine K_ret ⟨_, rfl, ?_⟩
    exact ⟨.inr ⟨hp, .inr ⟨ht, rfl⟩⟩, S.drop⟩
end Go.Proofs.Xx

/-
  Steps ahead of a float.
-/
namespace Go.Proofs.Xx
open Go Go.Proofs
set_option linter.unusedSimpArgs false
set_option linter.unusedVariables false
set_option linter.unusedSectionVars false
set_option maxRecDepth 100000
set_option maxHeartbeats 4000000

section
variable {P : Program} {X : Extern} {ops : Array Oper} {os : List Oper} {o : Oper} {sz : Nat} {h h0 : AH} {rs : List Rs} {R : Ks → AH → Prop}
/-- Steps that stand ahead of a float. -/
inductive HSteps (P : Program) (ops : Array Oper) (sz : Nat) (h : AH) : Ks → List Nat → Ks → Prop where
  | nil {L : Ks} : HSteps P ops sz h L [] L
  | cons {L L1 L' : Ks} {k : Nat} {ks : List Nat} {ok : Oper} {v : Value} {h' : AH} (hok : ops[k]? = some ok) (hg : guardA ops L.tree ok.guard = some true) (ha : aOp P L.tree h ok.op = some (.val v h')) (hd : putK sz L ok.dst v = some L1) (r : HSteps P ops sz h L1 ks L') : HSteps P ops sz h L (k :: ks) L'
theorem HSteps.mv {L L1 L' : Ks} {k : Nat} {ks : List Nat} {ok : Oper} {v : Value} {x : Operand} (hok : ops[k]? = some ok) (hm : ok.op = .move x) (hx : kA L x = some v) (hg : guardA ops L.tree ok.guard = some true) (hd : putK sz L ok.dst v = some L1) (r : HSteps P ops sz h L1 ks L') : HSteps P ops sz h L (k :: ks) L' :=
  .cons (h' := h) hok hg (by rw [hm]; simp only [aOp, tree_le hx, nextOf]) hd r
theorem HSteps.cU {L L1 L' : Ks} {k : Nat} {ks : List Nat} {ok : Oper} {x : Operand} {s d : TypeId} {k1 k2 : IntKind} {a : Int} (hb : 0 ≤ a ∧ a ≤ 255) (hok : ops[k]? = some ok) (hm : ok.op = .convert s d x) (hx : kA L x = some (.int k1 a)) (hs : P.underlying s = some (.int k2)) (hd' : P.underlying d = some (.int .u8)) (hg : guardA ops L.tree ok.guard = some true) (hd : putK sz L ok.dst (.int .u8 a) = some L1) (r : HSteps P ops sz h L1 ks L') : HSteps P ops sz h L (k :: ks) L' :=
  .cons (h' := h) hok hg (by rw [hm]; simp only [aOp, tree_le hx, aConvert, hs, hd', wrap_u8 hb]) hd r
theorem HSteps.run {L L' : Ks} {ks : List Nat} (s : HSteps P ops sz h L ks L') : ∀ {t : Tr Value}, Kn t L → Kn (ks.foldl (stepH P ops sz h) t) L' := by
  induction s with
  | nil => intro t hk; exact hk
  | @cons _ _ _ k _ _ _ _ hok hg ha hd r ih =>
    intro t hk
    obtain ⟨t1, e1, k1⟩ := putK_ok hk hd
    rw [List.foldl_cons]
    have : stepH P ops sz h t k = t1 := by
      unfold stepH
      simp only [hok, guardA_le hk.tle hg, aOp_le hk.tle ha, e1]
    rw [this]
    exact ih k1
theorem HintOk.many {L L' : Ks} {j : Nat} {ks : List Nat} {o : Oper} {x : Option Nat} {c : List Value} {e : TypeId} (hp : predsOf ops (masks ops.toList []) j = ks) (ho : ops[j]? = some o) (s : HSteps P ops sz h L ks L') (hf : aFloat P L'.tree o.op = some (x, c, e)) : HintOk P ops sz L h j c e := fun t hk => by
  unfold hintObj
  rw [ho, hp]
  simp only [aFloat_le (s.run hk).tle hf]
end
end Go.Proofs.Xx

/-
  The search for a shortest way.
-/
namespace Go.Proofs.Xx
open Go Go.Proofs
set_option linter.unusedSimpArgs false
set_option linter.unusedVariables false
set_option linter.unusedSectionVars false
set_option maxRecDepth 100000
set_option maxHeartbeats 4000000

/-- Lists of numbers that are only read. -/
def PoolOk (L : List (Value × List Int)) (h : AH) (fp : Fp) : Prop := ∀ x ∈ L, (Rs.rd x.1 1 eI x.2).ok h fp
abbrev poolR (L : List (Value × List Int)) : Rs := .any (PoolOk L)
class InP (L : List (Value × List Int)) (v : Value) (l : outParam (List Int)) : Prop where
  mem : (v, l) ∈ L
theorem rd_of {h : AH} {fp : Fp} {v : Value} {l : List Int} (q : (Rs.rd v 1 eI l).ok h fp) : RdL h v 1 eI l := by
  rcases q with ⟨q1, q2⟩ | ⟨b, o, cap, cc, e, s, r, q1, q2, q3, q4⟩
  · exact .inl ⟨q1, by rw [q2]; rfl, by rw [q2]; rfl⟩
  · exact .inr ⟨b, o, cap, cc, e, s, r, q1, q2, q4⟩
instance HasR.pool {L : List (Value × List Int)} {v : Value} {l : List Int} {rs : List Rs} [i : InP L v l] : HasR (poolR L :: rs) v Int 1 eI l := ⟨fun S => by
  obtain ⟨fp, k⟩ := S.anyP .here
  exact rd_of (k _ i.mem)⟩
def cvW (b9 b2 b5 b4 b10 : Nat) : Value := .func (.func 55) #[] #[.pointer (some ⟨b9, 0, none⟩), .pointer (some ⟨b2, 0, none⟩), .pointer (some ⟨b5, 0, none⟩), .pointer (some ⟨b4, 0, none⟩), .pointer (some ⟨b10, 0, none⟩)]
abbrev rtR (v : PbV) (b9 b2 b5 b4 b10 : Nat) (vs : Value) (stops : List Int) (L : List (Value × List Int)) (vw : Value) (al : Int) : List Rs :=
  [poolR L, .blk b4 [vw] 30, .blk b5 [.int .i64 al] 3, .sl vs 3 1 eI stops, .blk b9 [vs] 30, .blk b2 v.cs 33, .blk b10 [cvW b9 b2 b5 b4 b10] 99]
theorem stpW {p : Pb} (hv : ValidL p.tabs) : ∀ a b, a < (p.tabs.length : Int) → b < (p.tabs.length : Int) → 0 ≤ stp p.tabs a b ∧ stp p.tabs a b ≤ 2000 := fun a b ha hb => stp_b hv ha hb
theorem tour_b {p : Pb} (hv : ValidL p.tabs) {l : List Int} (h : ∀ t ∈ l, t < (p.tabs.length : Int)) : 0 ≤ tour (stp p.tabs) l ∧ tour (stp p.tabs) l ≤ 2000 * l.length + 2000 := by
  obtain ⟨h1, h2, h3⟩ := lenTo_b (stpW hv) (by omega) l h
  have := stp_b hv h3 (show (-1 : Int) < p.tabs.length by omega)
  rw [tour_to]; omega
end Go.Proofs.Xx

/-
  Routes.
-/
namespace Go.Proofs.Xx
open Go Go.Proofs
set_option linter.unusedSimpArgs false
set_option linter.unusedVariables false
set_option linter.unusedSectionVars false
set_option maxRecDepth 100000
set_option maxHeartbeats 4000000

/-- The way that the search finds. -/
noncomputable def bestW (p : Pb) (q : List Int) : BestW := (Comp (srv (pltV p q)) (srv (pltV p q)).length []).foldl (updW (tour (stp p.tabs))) ([], -1)
theorem PartOk.ql {p : Pb} {q : List Int} (hp : PO p) (h : PartOk p q) : q.length ≤ 64 := by
  have := h.len
  have : p.us.length ≤ 64 := hp.rl.l64
  omega
theorem PartOk.qm {p : Pb} {q : List Int} (hl : p.tabs.length ≤ 1000) (h : PartOk p q) : ∀ x ∈ q, x ≤ 9223372036854775807 := fun x hx => by
  have h1 := h.rng x hx
  have h2 := sumT_le p.tabs p.tabs.length
  omega
theorem srv_in {p : Pb} {q : List Int} : ∀ t ∈ srv (pltV p q), 0 ≤ t ∧ t < p.tabs.length := fun t ht => by
  obtain ⟨k, h1, rfl, -⟩ := srv_mem.1 ht
  rw [pltV_len] at h1
  omega
end Go.Proofs.Xx

/-
  Rows with room, op by op; Delete; Untie.
-/
namespace Go.Proofs.Xx
open Go Go.Proofs
set_option linter.unusedSimpArgs false
set_option linter.unusedVariables false
set_option linter.unusedSectionVars false
set_option maxRecDepth 100000
set_option maxHeartbeats 4000000

/-- One block is changed at most, blocks are made at most. -/
structure Chg (h h' : AH) (b : Nat) (o : AObj) : Prop where
  at_ : h'.get b = some o
  old : ∀ j, j ≠ b → j < h.next → h'.get j = h.get j
  next : h.next ≤ h'.next
  wf : WfH h'
theorem Chg.trans {h h' h'' : AH} {b : Nat} {o o' : AObj} (c : Chg h h' b o) (d : Chg h' h'' b o') : Chg h h'' b o' :=
  ⟨d.at_, fun j hj hn => (d.old j hj (Nat.lt_of_lt_of_le hn c.next)).trans (c.old j hj hn), Nat.le_trans c.next d.next, d.wf⟩
theorem splice_nil {c : List Value} {o : Nat} (h : o ≤ c.length) : splice c o [] = c := by simp [splice]
section
variable {P : Program} {X : Extern} {sz : Nat} {L L' : Ks} {h : AH} {ops : Array Oper} {os : List Oper} {o : Oper} {R : Ks → AH → Prop}
/-- v[l:r:m], which nothing looks at. -/
theorem rw3 {x lo hi mx : Operand} {vl vr vm : Value} {ty e' e : TypeId} {b o' n cap l r m z : Nat} {cc : List Value} {slk : Option Nat} {ro : Bool} (hb : h.get b = some (.cells cc e slk ro)) (wf : WfH h)
    (w : ∀ h', Chg h h' b (.cells cc e slk ro) → KO P X sz ops os L' h' R) (ho : o.op = .slice ty x (some lo) (some hi) (some mx) := by exact rfl) (hg : guardA ops L.tree o.guard = some true := by exact rfl) (hx : kA L x = some (.slice (some ⟨b, o', none⟩) n cap) := by exact rfl)
    (h1 : kA L lo = some vl := by exact rfl) (h2 : kA L hi = some vr := by exact rfl) (h3 : kA L mx = some vm := by exact rfl) (b1 : boundOf (some vl) 0 = some l := by exact rfl) (b2 : boundOf (some vr) n = some r := by exact rfl) (b3 : boundOf (some vm) cap = some m := by exact rfl)
    (hc : l ≤ r ∧ r ≤ m ∧ m ≤ cap := by omega) (hu : P.underlying ty = some (.slice e') := by exact rfl) (hz : sizeT P e' = some z := by exact rfl) (hp : putK sz L o.dst (.slice (some ⟨h.next, 0, none⟩) (r - l) (m - l)) = some L' := by exact rfl) : KO P X sz ops (o :: os) L h R := by
  refine KO_val (v := .slice (some ⟨h.next, 0, none⟩) (r - l) (m - l)) (h' := { tr := h.tr, next := h.next + 1, low := lowest h.low b }) hg ?_ hp (w _ ⟨hb, fun j _ _ => rfl, Nat.le_succ _, fun j hj => wf j (Nat.le_of_succ_le hj)⟩)
  rw [ho]
  simp only [aOp, tree_le hx, evOpt, tree_le h1, tree_le h2, tree_le h3, aSlice3, hu, hb, hz, b1, b2, b3, Nat.ble_eq_true_of_le hc.1, Nat.ble_eq_true_of_le hc.2.1, Nat.ble_eq_true_of_le hc.2.2, Bool.and_self]
/-- v[l:r], raw. -/
theorem rw2 {x : Operand} {lo hi : Option Operand} {vl vr : Option Value} {ty e' e : TypeId} {b o' n cap l r z : Nat} {cc : List Value} {slk : Option Nat} {ro : Bool} {d : Tmp} (hb : h.get b = some (.cells cc e slk ro))
    (w : ∀ o2, (l < cap → o2 = o' + l * z) → (slk ≠ none → o2 = o' + l * z) → KO P X sz ops os (L.put d (.slice (some ⟨b, o2, none⟩) (r - l) (cap - l))) h R) (ho : o.op = .slice ty x lo hi none := by exact rfl) (hg : guardA ops L.tree o.guard = some true := by exact rfl) (hx : kA L x = some (.slice (some ⟨b, o', none⟩) n cap) := by exact rfl)
    (h1 : evOpt L.tree lo = some vl := by exact rfl) (h2 : evOpt L.tree hi = some vr := by exact rfl) (b1 : boundOf vl 0 = some l := by exact rfl) (b2 : boundOf vr n = some r := by exact rfl)
    (hc : l ≤ r ∧ r ≤ cap := by omega) (hu : P.underlying ty = some (.slice e') := by exact rfl) (hz : sizeT P e' = some z := by exact rfl) (hdst : o.dst = some d := by exact rfl) (hds : Nat.blt d sz = true := by exact rfl) : KO P X sz ops (o :: os) L h R := by
  have key : ∀ o2, aSlice P ty (.slice (some ⟨b, o', none⟩) n cap) vl vr none h = some (.slice (some ⟨b, o2, none⟩) (r - l) (cap - l)) → (l < cap → o2 = o' + l * z) → (slk ≠ none → o2 = o' + l * z) → KO P X sz ops (o :: os) L h R := fun o2 q1 q2 q3 => by
    refine KO_val (v := .slice (some ⟨b, o2, none⟩) (r - l) (cap - l)) (h' := h) hg ?_ (by simp only [putK, hdst, hds]) (w o2 q2 q3)
    rw [ho]
    simp only [aOp, tree_le hx, h1, h2, show evOpt L.tree none = some none from rfl, q1, nextOf, aSlice3_none]
  cases hq : slk.isNone && Nat.beq l cap with
  | true =>
    rw [Bool.and_eq_true] at hq
    have hl := Nat.eq_of_beq_eq_true hq.2
    subst hl
    refine key o' ?_ (fun q => by omega) (fun q => by cases slk with | none => exact absurd rfl q | some k => cases hq.1)
    simp only [aSlice, hu, hb, hz, b1, b2, Nat.ble_eq_true_of_le hc.1, Nat.ble_eq_true_of_le hc.2, Bool.and_self, hq.1, show Nat.beq l l = true by simp]
  | false =>
    refine key (o' + l * z) ?_ (fun _ => rfl) (fun _ => rfl)
    simp only [aSlice, hu, hb, hz, b1, b2, Nat.ble_eq_true_of_le hc.1, Nat.ble_eq_true_of_le hc.2, Bool.and_self, hq]
/-- append where there is room. -/
theorem rwa {x y : Operand} {ts tx e e2 : TypeId} {zc new cc : List Value} {by_ b o' n cap m z : Nat} {slk : Option Nat} {u : Value} {d : Tmp} (hb : h.get b = some (.cells cc e2 slk false)) (wf : WfH h) (hr : Rd h u z m new)
    (w : ∀ h', Chg h h' b (.cells (splice cc (o' + n * z) new) e2 slk false) → KO P X sz ops os (L.put d (.slice (some ⟨b, o', none⟩) (n + m) cap)) h' R)
    (ho : o.op = .call { callee := .builtin .append, args := #[x, y], argTypes := #[ts, tx] } := by exact rfl) (hg : guardA ops L.tree o.guard = some true := by exact rfl) (hx : kA L x = some (.slice (some ⟨b, o', none⟩) n cap) := by exact rfl) (hy : kA L y = some u := by exact rfl)
    (hs : sliceElem P ts = some e := by exact rfl) (hz : zeroCellsT P e = some zc := by exact rfl) (hzl : zc.length = z := by exact rfl) (hby : bytesT P e = some (by_ + 1) := by exact rfl) (hxs : P.underlying tx = some (.slice e) := by exact rfl)
    (hc : n + m ≤ cap := by omega) (hcc : o' + cap * z ≤ cc.length := by assumption) (h1 : new.all one? = true := by assumption) (hsz : (m + 1) * (by_ + 1) ≤ 140737488355328 := by omega) (hdst : o.dst = some d := by exact rfl) (hds : Nat.blt d sz = true := by exact rfl) : KO P X sz ops (o :: os) L h R := by
  subst hzl
  have hlen := hr.length
  have hfit : o' + n * zc.length + new.length ≤ cc.length := by
    rw [hlen, Nat.add_assoc, ← Nat.add_mul]
    exact Nat.le_trans (Nat.add_le_add_left (Nat.mul_le_mul_right _ hc) _) hcc
  have k2 : Nat.beq new.length (m * zc.length) = true := by rw [hlen]; simp
  have hsrc : aSource zc.length u h = some (m, new) := hr.source
  have go : ∀ h', aAppend P [ts, tx] (.slice (some ⟨b, o', none⟩) n cap) u h = some (.slice (some ⟨b, o', none⟩) (n + m) cap, h') → Chg h h' b (.cells (splice cc (o' + n * zc.length) new) e2 slk false) → KO P X sz ops (o :: os) L h R := fun h' q1 q2 => by
    refine KO_val (v := .slice (some ⟨b, o', none⟩) (n + m) cap) (h' := h') hg ?_ (by simp only [putK, hdst, hds]) (w h' q2)
    rw [ho]
    simp [aOp, tree_le hx, tree_le hy, evAll, aBuiltin, q1, nextOf2]
  cases m with
  | zero =>
    have hn : new = [] := List.length_eq_zero_iff.1 (by omega)
    subst hn
    refine go h ?_ ⟨by rw [splice_nil (by simp at hfit; omega)]; exact hb, fun _ _ _ => rfl, Nat.le_refl _, wf⟩
    simp only [aAppend, hs, hxs, hz, hby, hsrc, Nat.ble_eq_true_of_le hsz, h1, k2, Bool.and_self, hb, Nat.ble_eq_true_of_le (show n ≤ cap from hc), Nat.add_zero]
  | succ m =>
    refine go (h.put b (.cells (splice cc (o' + n * zc.length) new) e2 slk false)) ?_ ⟨by rw [AH.get_put, if_pos rfl], fun j hj _ => by rw [AH.get_put, if_neg hj], Nat.le_refl _, wf.put (wf.lt hb) _⟩
    simp only [aAppend, hs, hxs, hz, hby, hsrc, Nat.ble_eq_true_of_le hsz, h1, k2, Bool.and_self, hb, Nat.ble_eq_true_of_le hc, putCells, Nat.ble_eq_true_of_le hfit]
/-- clear. -/
theorem zrow_len (zc : List Value) : ∀ n, (zeroRow zc n).length = n * zc.length
  | 0 => by simp [zeroRow]
  | n + 1 => by rw [zeroRow, List.length_append, zrow_len zc n, Nat.add_mul, Nat.one_mul, Nat.add_comm]
theorem zrow_one {zc : List Value} (h : zc.all one? = true) : ∀ n, (zeroRow zc n).all one? = true
  | 0 => rfl
  | n + 1 => by rw [zeroRow, List.all_append, h, zrow_one h n]; rfl
theorem rwc {x : Operand} {ty e e2 : TypeId} {zc cc : List Value} {b o' n cap : Nat} {slk : Option Nat} (hb : h.get b = some (.cells cc e2 slk false)) (wf : WfH h)
    (w : ∀ h', Chg h h' b (.cells (splice cc o' (zeroRow zc n)) e2 slk false) → KO P X sz ops os L' h' R)
    (ho : o.op = .call { callee := .builtin .clear, args := #[x], argTypes := #[ty] } := by exact rfl) (hg : guardA ops L.tree o.guard = some true := by exact rfl) (hx : kA L x = some (.slice (some ⟨b, o', none⟩) n cap) := by exact rfl)
    (hu : P.underlying ty = some (.slice e) := by exact rfl) (hz : zeroCellsT P e = some zc := by exact rfl) (h1 : zc.all one? = true := by exact rfl) (hfit : o' + n * zc.length ≤ cc.length := by omega) (hp : putK sz L o.dst (.tuple #[]) = some L' := by exact rfl) : KO P X sz ops (o :: os) L h R := by
  have go : ∀ h', aClear P ty (.slice (some ⟨b, o', none⟩) n cap) h = some h' → Chg h h' b (.cells (splice cc o' (zeroRow zc n)) e2 slk false) → KO P X sz ops (o :: os) L h R := fun h' q1 q2 => by
    refine KO_val (v := .tuple #[]) (h' := h') hg ?_ hp (w h' q2)
    rw [ho]
    simp [aOp, tree_le hx, evAll, aBuiltin, q1]
  have hfit2 : o' + (zeroRow zc n).length ≤ cc.length := by rw [zrow_len]; exact hfit
  cases n with
  | zero =>
    refine go h ?_ ⟨by show _ = some (AObj.cells (splice cc o' []) e2 slk false); rw [splice_nil (by omega)]; exact hb, fun _ _ _ => rfl, Nat.le_refl _, wf⟩
    simp only [aClear, hu]
  | succ n =>
    refine go (h.put b (.cells (splice cc o' (zeroRow zc (n + 1))) e2 slk false)) ?_ ⟨by rw [AH.get_put, if_pos rfl], fun j hj _ => by rw [AH.get_put, if_neg hj], Nat.le_refl _, wf.put (wf.lt hb) _⟩
    simp only [aClear, hu, hz, hb, putCells, zrow_one h1, Nat.ble_eq_true_of_le hfit2, Bool.and_self]
end
/-- What stands in a row when a piece is taken out and the end is cleared. -/
theorem del_get {cc old zr : List Value} {s a b z n : Nat} (ho : ∀ j, j < n → cc[s + j]? = old[j]?) (hn : old.length = n) (hab : a ≤ b ∧ b ≤ n) (hz : zr.length = b - a) (hs : s + n ≤ cc.length) :
    ∀ j, j < a + (n - b) → (splice (splice cc (s + a) (old.drop b)) (s + (a + (n - b))) zr)[s + j]? = (old.take a ++ old.drop b)[j]? := by
  intro j hj
  have l1 : s + a + (old.drop b).length ≤ cc.length := by rw [List.length_drop]; omega
  have l2 : (splice cc (s + a) (old.drop b)).length = cc.length := splice_length _ _ _ l1
  have hd : (old.drop b).length = n - b := by rw [List.length_drop, hn]
  have ht : (old.take a).length = a := by rw [List.length_take]; omega
  rw [splice_get _ _ _ (by rw [l2]; omega), splice_get _ _ _ l1, if_pos (by omega), List.getElem?_append, ht]
  by_cases h1 : j < a
  · rw [if_pos (by omega), if_pos h1, List.getElem?_take, if_pos h1, ho j (by omega)]
  · rw [if_neg (by omega), if_pos (by omega), if_neg h1]
    congr 1; omega
theorem takeAt_ext {c xs : List Value} {o n : Nat} (hl : xs.length = n) (hfit : o + n ≤ c.length) (hg : ∀ j, j < n → c[o + j]? = xs[j]?) : takeAt c o n = some xs := by
  rw [takeAt_mk hfit]
  congr 1
  apply List.ext_getElem?
  intro j
  rw [List.getElem?_take]
  split
  · rw [List.getElem?_drop]; exact hg j (by assumption)
  · rw [List.getElem?_eq_none (by omega)]
end Go.Proofs.Xx

/-
  An element of a list of numbers is deleted.
-/
namespace Go.Proofs.Xx
open Go Go.Proofs
set_option linter.unusedSimpArgs false
set_option linter.unusedVariables false
set_option linter.unusedSectionVars false
set_option maxRecDepth 100000
set_option maxHeartbeats 4000000

theorem delI_ok {h0 h : AH} {rs : List Rs} {v : SlV} {l : List Int} (i : Nat) (hi : i < l.length) (hl : l.length ≤ 1000000) (S : Hs h0 h (.sl v.val 3 1 eI l :: rs)) :
    Fn Tryz.prog Xh 50 [v.val, .int .i64 i, .int .i64 ((i : Int) + 1)] h (fun u h' => Hs h0 h' (.sl u 3 1 eI (l.take i ++ l.drop (i + 1)) :: rs)) := by
  have S0 := S
  obtain ⟨f1, k1, k2, k3⟩ := S.sep
  have hr := Rd.of_sl S .here
  rcases k1 with ⟨-, rfl⟩ | ⟨b, o, cc, slk, cap, e1, g1, fb, t1, c1, s1⟩
  · simp at hi
  rw [e1] at hr ⊢
  have hb := g1
  have w := S.wf
  have hcc : o + cap * 1 ≤ cc.length := c1.2
  replace S := Hs.start S.wf
  have hfl := flatMap_length (enc := eI) (z := 1) (by intro _; rfl) l
  have hcap := c1.1
  refine Fn_K (by first | rfl | exact KX.no _ _ _ (by decide) rfl) Tryz.func50 rfl rfl ?_
  all_goals (repeat' (first | refine K_seq ?_ | refine k_cond rfl ?_ | refine K_skip ?_ | refine K_exit ?_ | refine k_block ?_ | refine K_scope ?_ | refine K_label ?_ | (refine K_region (id := 0) ?_; refine mv ?_; refine KO_nil ?_) | (refine K_region (id := 1) ?_; refine mv ?_; refine mv ?_; refine mv ?_; refine mv ?_; (first | refine lnB S ?_ | refine lnS S rfl rfl ?_))))
  refine rw3 (l := i) (r := i + 1) (m := l.length) hb w (fun ha ca => ?_)
  have xa : Ext h ha := ⟨ca.next, fun j hj => by
    by_cases q : j = b
    · subst q; rw [ca.at_, hb]
    · exact ca.old j q hj, ca.wf⟩
  have ra := hr.ext w xa
  have wa := ca.wf
  have ba := ca.at_
  clear S
  have S := Hs.start wa
  (refine KO_nil ?_)
  skip
  all_goals (repeat' (first | refine K_seq ?_ | refine k_cond rfl ?_ | refine K_skip ?_ | refine K_exit ?_ | refine k_block ?_ | refine K_scope ?_ | refine K_label ?_ | (refine K_region (id := 2) ?_; refine mv ?_; refine mv ?_; (first | refine cT ?_ | refine cF ?_ | (refine cS ?_ ?_ <;> intro hc)) <;> (refine KO_nil ?_)) | (refine K_region (id := 3) ?_; refine mv ?_; refine mv ?_; refine KO_nil ?_) | (refine K_region (id := 4) ?_; refine mv ?_; (first | refine lnB S ?_ | refine lnS S rfl rfl ?_); refine mv ?_; refine KO_nil ?_) | (refine K_draw (id := 5) ?_; refine mv ?_; refine mv ?_)))
  refine rw2 (l := 0) (r := i) ba (fun o2 q1 _ => ?_)
  rw [show o2 = o by have := q1 (by omega); omega]
  refine mv ?_; refine mv ?_
  refine rw2 (l := i + 1) (r := l.length) ba (fun o3 q3 q4 => ?_)
  have ru : Rd ha (.slice (some ⟨b, o3, none⟩) (l.length - (i + 1)) (cap - (i + 1))) 1 (l.length - (i + 1)) ((l.drop (i + 1)).flatMap eI) := by
    refine .inr ⟨b, o3, _, cc, 3, slk, false, rfl, ba, ?_⟩
    rcases Nat.lt_or_ge (i + 1) cap with z | z
    · have z1 := q3 z
      have z2 : o3 = o + (i + 1) * 1 := z1
      have := takeAt_sub (i := (i + 1) * 1) (m := (l.length - (i + 1)) * 1) t1 (by omega)
      rw [z2, this, flatMap_drop (z := 1) (by intro _; rfl), List.take_of_length_le (by rw [List.length_drop, hfl]; omega)]
    · rw [show l.length - (i + 1) = 0 by omega, List.drop_of_length_le (by omega)]
      rfl
  have hone : ((l.drop (i + 1)).flatMap eI).all one? = true := by
    rw [List.all_eq_true]
    intro x hx
    obtain ⟨y, -, hy⟩ := List.mem_flatMap.1 hx
    simp [eI] at hy
    subst hy; rfl
  refine rwa (z := 1) ba wa ru (fun hd cd => ?_)
  (refine mv ?_; refine KO_nil ?_)
  have hln : l.length - (i - 0 + (l.length - (i + 1))) = 1 := by omega
  (repeat (refine K_seq ?_)); refine K_region (id := 6) ?_; refine mv ?_; refine mv ?_; refine vl ?_; refine mv ?_
  refine rw2 (l := i - 0 + (l.length - (i + 1))) (r := l.length) cd.at_ (fun o4 q5 _ => ?_)
  have q6 := q5 (by omega)
  have hq6 : o4 = o + (i - 0 + (l.length - (i + 1))) * 1 := q6
  have hsl : (splice cc (o + (i - 0) * 1) ((l.drop (i + 1)).flatMap eI)).length = cc.length := splice_length _ _ _ (by rw [flatMap_length (z := 1) (by intro _; rfl), List.length_drop]; omega)
  refine rwc cd.at_ cd.wf (fun he ce => ?_) (hfit := ?_)
  rotate_left
  · rw [hsl]
    show o4 + (l.length - (i - 0 + (l.length - (i + 1)))) * 1 ≤ cc.length
    omega
  (refine KO_nil ?_)
  skip
  all_goals (repeat' (first | refine K_seq ?_ | refine k_cond rfl ?_ | refine K_skip ?_ | refine K_exit ?_ | refine k_block ?_ | refine K_scope ?_ | refine K_label ?_ | (refine K_region (id := 7) ?_; refine mv ?_; refine mv ?_; refine KO_nil ?_)))
  refine K_ret ⟨_, rfl, ?_⟩
  have C := (ca.trans cd).trans ce
  have hm : ∀ a c : Nat, a - 0 + c = a + c := fun a c => by omega
  have hlen : (l.take i ++ l.drop (i + 1)).length = i - 0 + (l.length - (i + 1)) := by rw [List.length_append, List.length_take, List.length_drop]; omega
  have hzl : (zeroRow (Value.int IntKind.i64 0).cells.toList (l.length - (i - 0 + (l.length - (i + 1))))).length = (i + 1) * 1 - i * 1 := by
    rw [zrow_len, hln]; show 1 * 1 = _; omega
  have hdrop := flatMap_drop (enc := eI) (z := 1) (by intro _; rfl) l (i + 1)
  have htake := flatMap_take (enc := eI) (z := 1) (by intro _; rfl) l i
  show Hs h0 he (.sl (.slice (some ⟨b, o, none⟩) (i - 0 + (l.length - (i + 1))) (cap - 0)) 3 1 eI (l.take i ++ l.drop (i + 1)) :: rs)
  refine S0.turn .here C.next C.wf fun fp p1 p2 => ?_
  rcases p1 with ⟨p1, -⟩ | ⟨b2, o2, cc2, sl2, cap2, p1, -, p3, -⟩
  · rw [p1] at e1; cases e1
  obtain rfl : b2 = b := by rw [p1] at e1; cases e1; rfl
  refine ⟨fun j hj hf => C.old j (fun q => by subst q; exact hf p3) hj, fun j => j = b2, .inr ⟨b2, o, _, slk, cap - 0, by rw [hlen], C.at_, rfl, ?_, ⟨by rw [hlen]; omega, ?_⟩, s1⟩, fun j hj => ?_⟩
  · rw [hlen]
    have hg : ∀ j, j < l.length * 1 → cc[o + j]? = (l.flatMap eI)[j]? := fun j hj => takeAt_get t1 hj
    have D := del_get (zr := zeroRow (Value.int IntKind.i64 0).cells.toList (l.length - (i - 0 + (l.length - (i + 1))))) (a := i * 1) (b := (i + 1) * 1) (z := 1) hg hfl (by omega) hzl (by omega)
    rw [hdrop, hq6, Nat.sub_zero, show (i + (l.length - (i + 1))) * 1 = i * 1 + (l.length * 1 - (i + 1) * 1) by omega]
    have e2 : (l.take i ++ l.drop (i + 1)).flatMap eI = (l.flatMap eI).take (i * 1) ++ (l.flatMap eI).drop ((i + 1) * 1) := by rw [List.flatMap_append, htake, hdrop]
    rw [e2]
    rw [Nat.sub_zero] at D
    refine takeAt_ext ?_ ?_ D
    · rw [List.length_append, List.length_take, List.length_drop, hfl]; omega
    · rw [splice_length, splice_length]
      · omega
      · rw [List.length_drop, hfl]; omega
      · rw [splice_length _ _ _ (by rw [List.length_drop, hfl]; omega)]
        have hz2 := hzl
        simp only [Nat.sub_zero] at hz2 ⊢
        rw [hz2]; omega
  · rw [splice_length, hsl]
    · show o + (cap - 0) * 1 ≤ _; omega
    · rw [hsl, hzl]; omega
  · subst hj; exact ⟨C.wf.lt C.at_, .inl p3⟩
end Go.Proofs.Xx

/-
  The least sum of steps that joins all.
-/
namespace Go.Proofs.Xx
open Go Go.Proofs
set_option linter.unusedSimpArgs false
set_option linter.unusedVariables false
set_option linter.unusedSectionVars false
set_option maxRecDepth 100000
set_option maxHeartbeats 4000000

/-- The nearest pair so far. -/
def Bst (d : Int → Int → Int) (L J : List Int) (i k best : Nat) (least : Int) : Prop :=
  (i = 0 ∧ k = 0 ∧ best = 0 ∧ least = -1) ∨ (best < L.length ∧ 0 ≤ least ∧ (∃ u ∈ J, least = d (L.getD best default) u) ∧ (∀ j, j < i → ∀ y ∈ J, least ≤ d (L.getD j default) y) ∧ ∀ m, m < k → least ≤ d (L.getD i default) (J.getD m default))
theorem Bst.new {d : Int → Int → Int} (m : Met d) {L J : List Int} {i k best : Nat} {least : Int} (h : Bst d L J i k best least) (hi : i < L.length) (hk : k < J.length) (hx : least < 0 ∨ d (L.getD i default) (J.getD k default) < least) :
    Bst d L J i (k + 1) i (d (L.getD i default) (J.getD k default)) := by
  refine .inr ⟨hi, m.nn _ _, ⟨_, mem_getD hk, rfl⟩, ?_, ?_⟩
  · rcases h with ⟨rfl, -, -, -⟩ | ⟨-, h2, -, h4, -⟩
    · exact fun j hj => absurd hj (Nat.not_lt_zero _)
    · exact fun j hj y hy => by have := h4 j hj y hy; omega
  · rcases h with ⟨-, rfl, -, -⟩ | ⟨-, h2, -, -, h5⟩
    · intro j hj; rw [show j = 0 by omega]; exact Int.le_refl _
    · exact nxtD (fun j hj => by have := h5 j hj; omega) (Int.le_refl _)
theorem Bst.old {d : Int → Int → Int} {L J : List Int} {i k best : Nat} {least : Int} (h : Bst d L J i k best least) (hx : ¬ least < 0) (hy : ¬ d (L.getD i default) (J.getD k default) < least) : Bst d L J i (k + 1) best least := by
  rcases h with ⟨-, -, -, rfl⟩ | ⟨h1, h2, h3, h4, h5⟩
  · exact absurd (show (-1 : Int) < 0 by omega) hx
  · exact .inr ⟨h1, h2, h3, h4, nxtD h5 (by omega)⟩
theorem Bst.row {d : Int → Int → Int} {L J : List Int} {i best : Nat} {least : Int} (h : Bst d L J i J.length best least) (hJ : J ≠ []) : Bst d L J (i + 1) 0 best least := by
  rcases h with ⟨-, h, -, -⟩ | ⟨h1, h2, h3, h4, h5⟩
  · exact absurd (List.length_eq_zero_iff.1 h) hJ
  · refine .inr ⟨h1, h2, h3, nxtD h4 fun y hy => ?_, fun m hm => absurd hm (Nat.not_lt_zero _)⟩
    obtain ⟨j, hj, rfl⟩ := mem_iff_getD.1 hy
    exact h5 j hj
theorem Bst.fin {d : Int → Int → Int} {L J : List Int} {best : Nat} {least : Int} (h : Bst d L J L.length 0 best least) (hL : 0 < L.length) : best < L.length ∧ 0 ≤ least ∧ ∃ u ∈ J, least = d (L.getD best default) u ∧ ∀ x ∈ L, ∀ y ∈ J, d (L.getD best default) u ≤ d x y := by
  rcases h with ⟨h, -, -, -⟩ | ⟨h1, h2, ⟨u, h3, h4⟩, h5, -⟩
  · omega
  · refine ⟨h1, h2, u, h3, h4, fun x hx y hy => ?_⟩
    obtain ⟨j, hj, rfl⟩ := mem_iff_getD.1 hx
    rw [← h4]; exact h5 j hj y hy
theorem erase_at {l : List Int} (nd : l.Nodup) {i : Nat} (hi : i < l.length) : l.take i ++ l.drop (i + 1) = l.erase (l.getD i default) := by
  induction l generalizing i with
  | nil => cases hi
  | cons x l ih =>
    rw [List.nodup_cons] at nd
    cases i with
    | zero => simp
    | succ i =>
      have hi' : i < l.length := by simpa using hi
      have hm : l.getD i default ∈ l := mem_getD hi'
      have e : (x :: l).getD (i + 1) default = l.getD i default := rfl
      rw [e, List.erase_cons_tail (by simp only [beq_iff_eq]; intro q; rw [← q] at hm; exact nd.1 hm), ← ih nd.2 hi']
      simp
end Go.Proofs.Xx

/-
  Lists whose elements are exchanged; sums over lists; plain.
-/
namespace Go.Proofs.Xx
set_option linter.unusedSectionVars false
set_option linter.unusedSimpArgs false
set_option linter.unusedVariables false

/-- Two elements exchanged. -/
def exch (l : List Int) (a b : Nat) : List Int := (l.set a (l.getD b default)).set b (l.getD a default)
theorem exch_perm {l : List Int} {a b : Nat} (ha : a < l.length) (hb : b < l.length) : (exch l a b).Perm l := by
  have h := Array.swap_perm (xs := l.toArray) (i := a) (j := b) (by simpa using ha) (by simpa using hb)
  have e : (l.toArray.swap a b (by simpa using ha) (by simpa using hb)).toList = exch l a b := by
    unfold exch
    rw [Array.toList_swap]
    simp [List.getD_eq_getElem?_getD, ha, hb]
  rw [← e]
  exact (Array.perm_iff_toList_perm.1 h)
end Go.Proofs.Xx

/-
  Plates; tables that are served; elements exchanged.
-/
namespace Go.Proofs.Xx
open Go Go.Proofs
set_option linter.unusedSimpArgs false
set_option linter.unusedVariables false
set_option linter.unusedSectionVars false
set_option maxRecDepth 100000
set_option maxHeartbeats 4000000

theorem Plates_ok {h0 : AH} (w : WfH h0) (pv : PbV) (p : Pb) (H : PbOk h0 pv p) (vq : Value) (q : List Int) (rq : RdL h0 vq 1 eI q) (hq : q.length ≤ 9223372036854775807) :
    Fn Tryz.prog Xh 13 [pv.val, vq] h0 (fun u h' => ((¬ (PO p ∧ PartOk p q) ∧ u = .slice none 0 0 ∧ Hs h0 h' []) ∨ (PO p ∧ PartOk p q ∧ Hs h0 h' [.sl u 3 1 eI (pltV p q)]))) := by
  have S := Hs.start w
  have hl := H.tab.len
  unfold PbV.val
  refine Fn_K (by first | rfl) Tryz.func13 rfl rfl ?_
  all_goals (repeat' (first | refine K_seq ?_ | (refine K_region (id := 0) ?_; (refine bx S ?_; clear S; intro b h S); refine mv ?_; refine KO_nil ?_)))
  obtain ⟨b2, hnm⟩ : ∃ x, x = b := ⟨_, rfl⟩; subst hnm
  all_goals (repeat' (first | (refine K_region (id := 1) ?_; refine lB S rfl rfl ?_; refine mv ?_)))
  (refine KO_fn rfl rfl rfl rfl rfl ((svalid_ok S.wf pv p (H.ext w S.ext) vq q (rq.ext w S.ext) hq).mono ?_); rintro _ h ⟨⟨rfl, hv⟩ | ⟨rfl, hv⟩, x⟩) <;> (replace S := S.join0 x; clear x; refine vl ?_; refine KO_nil ?_)
  · obtain ⟨hp, hpq⟩ := hv
    have hql := hpq.ql hp
    have hqm := hpq.qm hl
    all_goals (repeat' (first | refine K_seq ?_ | refine k_cond rfl ?_ | refine K_skip ?_ | (refine K_region (id := 3) ?_; refine lB S rfl rfl ?_; refine mv ?_)))
    (refine KO_fn rfl rfl rfl rfl rfl ((splates_ok S.wf pv p (H.ext w S.ext) vq q (rq.ext w S.ext) (by omega) hqm).mono ?_); rintro vn h x) <;> (replace S := S.join1 x; clear x; refine mv ?_; refine KO_nil ?_)
    all_goals (repeat' (fail))
    refine K_ret ⟨_, rfl, ?_⟩
    exact .inr ⟨hp, hpq, S.only .here⟩
  · all_goals (repeat' (first | refine K_seq ?_ | refine k_cond rfl ?_ | (refine K_region (id := 2) ?_; refine mv ?_; refine KO_nil ?_)))
    refine K_ret ⟨_, rfl, ?_⟩
    exact .inl ⟨hv, rfl, S.drop⟩
theorem lserved_ok {h0 : AH} (w : WfH h0) (vt : Value) (pl : List Int) (rp : RdL h0 vt 1 eI pl) (hll : pl.length ≤ 1000) :
    Fn Tryz.prog Xh 15 [vt] h0 (fun u h' => Hs h0 h' [.sl u 3 1 eI (srv pl)]) := by
  have S := Hs.start w
  refine Fn_K (by first | rfl) Tryz.func15 rfl rfl ?_
  all_goals (repeat' (first | refine K_seq ?_ | (refine K_region (id := 0) ?_; refine mv ?_; refine KO_nil ?_)))
  have S := S.nilS (e := 3) (z := 1) (enc := eI)
  all_goals (repeat' (first | refine K_seq ?_ | refine k_block ?_ | (refine K_region (id := 1) ?_; refine mv ?_; refine KO_nil ?_) | (refine K_region (id := 2) ?_; refine mv ?_; refine lnB S ?_; refine mv ?_; refine KO_nil ?_)))
  refine k_loop (σ := Nat × Value) (fun (i, vo) h' => Hs h0 h' [.sl vo 3 1 eI (srvN pl i)] ∧ i ≤ pl.length) (fun (i, vo) => pl.length - i) (fun (i, vo) => [(3, vo), (6, vt), (7, .int .i64 pl.length), (8, .int .i64 i)]) (0, .slice none 0 0) (by repeat (first | exact Ks.le_nil _ | refine Ks.le_cons rfl ?_)) ?_ ?_
  · exact ⟨S, Nat.zero_le _⟩
  clear S
  rintro ⟨i, vo⟩ h ⟨S, g1⟩
  have hsl := (srvN_inc (pl := pl) (n := i)).2
  all_goals (repeat' (first | refine K_seq ?_ | refine k_cond rfl ?_ | refine K_skip ?_ | refine K_exit ?_ | refine k_block ?_ | (refine K_region (id := 3) ?_; (first | (refine cS ?_ ?_ <;> intro hc)) <;> (refine KO_nil ?_)) | (refine K_region (id := 4) ?_; refine mv ?_; refine ixB S ?_; refine lEB S ?_; refine mv ?_; refine mv ?_; refine KO_nil ?_)))
  · obtain ⟨x, hx⟩ : ∃ x, pl.getD (i : Int).toNat default = x := ⟨_, rfl⟩
    rw [hx]
    replace hx : pl.getD i default = x := hx
    skip
    all_goals (repeat' (first | refine k_cond rfl ?_ | refine K_skip ?_ | (refine K_region (id := 5) ?_; refine mv ?_; (first | (refine cS ?_ ?_ <;> intro hc)) <;> (refine KO_nil ?_))))
    · have key : srvN pl (i + 1) = srvN pl i ++ [(i : Int)] := by rw [srvN, if_pos (by omega)]
      all_goals (repeat' (first | (refine K_region (id := 6) ?_; refine mv ?_; refine mv ?_; (refine one 1 S ?_; clear S; intro u h S))))
      refine app (y0 := (i : Int)) S rfl rfl ?_; clear S; intro v h S; refine mv ?_; refine KO_nil ?_
      rw [← key] at S
      all_goals (repeat' (first | (refine K_region (id := 7) ?_; refine ad ?_; refine mv ?_; refine KO_nil ?_)))
      refine ⟨(i + 1, v), ?_, ?_, (by repeat (first | exact Ks.le_nil _ | refine Ks.le_cons rfl ?_))⟩
      · show pl.length - (i + 1) < pl.length - i; omega
      · exact ⟨S, by omega⟩
    · have key : srvN pl (i + 1) = srvN pl i := by rw [srvN, if_neg (by omega)]
      all_goals (repeat' (first | (refine K_region (id := 7) ?_; refine ad ?_; refine mv ?_; refine KO_nil ?_)))
      rw [← key] at S
      refine ⟨(i + 1, vo), ?_, ?_, (by repeat (first | exact Ks.le_nil _ | refine Ks.le_cons rfl ?_))⟩
      · show pl.length - (i + 1) < pl.length - i; omega
      · exact ⟨S, by omega⟩
  · all_goals (repeat' (first | (refine K_region (id := 8) ?_; refine mv ?_; refine mv ?_; refine KO_nil ?_)))
    refine K_ret ⟨_, rfl, ?_⟩
    obtain rfl : i = pl.length := by omega
    exact S
/-- A pair of small numbers. -/
def e82 (x : Nat × Nat) : List Value := [.int .u8 x.1, .int .u8 x.2]
theorem exchanged_ok {h0 : AH} (w : WfH h0) (vw : Value) (l : List Int) (rw_ : RdL h0 vw 1 eI l) (hl : l.length ≤ 1000) (vsw : Value) (sw : List (Nat × Nat)) (rs : RdL h0 vsw 2 e82 sw) (cs : CapOk vsw) (hs : sw.length ≤ 9223372036854775807) (hb : ∀ i, i < sw.length → (sw.getD i default).1 < 256 ∧ (sw.getD i default).2 < 256) :
    Fn Tryz.prog Xh 14 [vw, vsw] h0 (fun u h' => ∃ l' : List Int, l'.Perm l ∧ Hs h0 h' [.sl u 3 1 eI l']) := by
  have S := Hs.start w
  refine Fn_K (by first | rfl) Tryz.func14 rfl rfl ?_
  all_goals (repeat' (first | refine K_seq ?_ | (refine K_region (id := 0) ?_; refine mv ?_; refine KO_nil ?_) | (refine K_region (id := 1) ?_; refine mv ?_)))
  (refine KO_fn rfl rfl rfl rfl rfl ((cloneI_ok S.wf vw l (rw_.ext w S.ext) (by omega)).mono ?_); rintro vo h x) <;> (replace S := S.join1 x; clear x; obtain ⟨so, rfl⟩ := S.sV vo; refine mv ?_; refine KO_nil ?_)
  obtain ⟨n, hn, hn1, hn2⟩ : ∃ n : Nat, min (sw.length : Int) 12 = n ∧ n ≤ sw.length ∧ n ≤ 12 := ⟨min sw.length 12, by omega, by omega, by omega⟩
  all_goals (repeat' (first | refine K_seq ?_ | (refine K_region (id := 2) ?_; refine mv ?_; refine mv ?_; refine lnB S ?_; refine mn ?_)))
  rw [hn]
  refine su0 0 n S w rs cs ?_; intro vm hrm hcm; ((refine lnB S ?_); refine mv ?_; refine KO_nil ?_)
  have hml : ((sw.drop 0).take (n - 0)).length = n := by simp; omega
  have hmv : ∀ i, i < n → (((sw.drop 0).take (n - 0)).getD i default).1 < 256 ∧ (((sw.drop 0).take (n - 0)).getD i default).2 < 256 := fun i q => by
    rw [List.drop_zero, Nat.sub_zero, getD_take (by omega)]; exact hb i (by omega)
  generalize (sw.drop 0).take (n - 0) = mre at hrm hml hmv ⊢
  all_goals (repeat' (refine k_block ?_))
  refine k_loop (σ := Nat × List Int) (fun (i, m) h' => Hs h0 h' [.sl so.val 3 1 eI m] ∧ i ≤ n ∧ m.Perm l) (fun (i, m) => n - i) (fun (i, m) => [(5, so.val), (17, vm), (18, .int .i64 n), (19, .int .i64 i)]) (0, l) (by repeat (first | exact Ks.le_nil _ | refine Ks.le_cons rfl ?_ | refine Ks.le_int ?_)) ?_ ?_
  · exact ⟨S, Nat.zero_le _, .refl _⟩
  clear S
  rintro ⟨i, m⟩ h ⟨S, g1, g2⟩
  have hll := g2.length_eq
  all_goals (repeat' (first | refine K_seq ?_ | refine k_cond rfl ?_ | refine K_skip ?_ | refine K_exit ?_ | refine k_block ?_ | (refine K_region (id := 3) ?_; (first | (refine cS ?_ ?_ <;> intro hc)) <;> (refine KO_nil ?_)) | (refine K_region (id := 4) ?_; refine ixB S ?_; refine lEB S ?_; (refine al S ?_; clear S; intro b h S); (first | (refine sB S rfl rfl ?_; clear S; intro h S)); refine KO_nil ?_)))
  · have hi : i < n := by omega
    have hv := hmv (i : Int).toNat (by omega)
    obtain ⟨x, hx⟩ : ∃ x, mre.getD (i : Int).toNat default = x := ⟨_, rfl⟩
    rw [hx] at hv S
    obtain ⟨x1, x2⟩ := x
    simp only at hv
    obtain ⟨b7, hnm⟩ : ∃ x, x = b := ⟨_, rfl⟩; subst hnm
    replace S : Hs h0 h [.blk b7 [.int .u8 x1, .int .u8 x2] 86, .sl so.val 3 1 eI m] := S
    skip
    all_goals (repeat' (first | refine K_seq ?_ | (refine K_region (id := 5) ?_; refine mv ?_; refine lnS S rfl rfl ?_; refine mv ?_; refine KO_nil ?_)))
    all_goals (repeat' (first | refine K_seq ?_ | refine k_cond rfl ?_ | refine K_skip ?_ | (refine K_region (id := 6) ?_; refine mv ?_; (first | (refine cS ?_ ?_ <;> intro hc)) <;> (refine KO_nil ?_))))
    · have e1 := Int.emod_nonneg (x1 : Int) (show (m.length : Int) ≠ 0 by omega)
      have e2 := Int.emod_lt_of_pos (x1 : Int) (show (0 : Int) < (m.length : Int) by omega)
      have e3 := Int.emod_nonneg (x2 : Int) (show (m.length : Int) ≠ 0 by omega)
      have e4 := Int.emod_lt_of_pos (x2 : Int) (show (0 : Int) < (m.length : Int) by omega)
      all_goals (repeat' (first | (refine K_draw (id := 7) ?_; refine vl ?_; refine lB S rfl rfl ?_; refine cI ?_; refine mv ?_; refine rm ?_; refine vl ?_; refine lB S rfl rfl ?_; refine cI ?_; refine mv ?_; refine rm ?_; refine mv ?_; refine mv ?_; refine KO_nil ?_)))
      obtain ⟨A, hA⟩ : ∃ A : Nat, (x1 : Int) % (m.length : Int) = A := ⟨((x1 : Int) % (m.length : Int)).toNat, by omega⟩
      obtain ⟨B, hB⟩ : ∃ B : Nat, (x2 : Int) % (m.length : Int) = B := ⟨((x2 : Int) % (m.length : Int)).toNat, by omega⟩
      rw [hA] at e1 e2 ⊢
      rw [hB] at e3 e4 ⊢
      have hAl : A < m.length := by omega
      have hBl : B < m.length := by omega
      all_goals (repeat' (first | (refine K_draw (id := 8) ?_; refine mv ?_; refine mv ?_; refine mv ?_; refine mv ?_; refine mv ?_; refine mv ?_; refine ixS2 S rfl rfl ?_; refine lES2 S rfl rfl ?_; refine mv ?_; refine mv ?_; refine ixS2 S rfl rfl ?_; refine lES2 S rfl rfl ?_; refine ixS2 S rfl rfl ?_; (first | (refine sE2 S rfl rfl ?_; clear S; intro h S)); refine ixS2 S rfl rfl ?_; (first | (refine sE2 S rfl rfl ?_; clear S; intro h S)); refine KO_nil ?_) | (refine K_region (id := 9) ?_; refine ad ?_; refine mv ?_; refine KO_nil ?_)))
      refine ⟨(i + 1, exch m A B), ?_, ?_, (by repeat (first | exact Ks.le_nil _ | refine Ks.le_cons rfl ?_))⟩
      · show n - (i + 1) < n - i; omega
      · exact ⟨S.tail, by omega, (exch_perm hAl hBl).trans g2⟩
    · all_goals (repeat' (first | (refine K_region (id := 9) ?_; refine ad ?_; refine mv ?_; refine KO_nil ?_)))
      refine ⟨(i + 1, m), ?_, ?_, (by repeat (first | exact Ks.le_nil _ | refine Ks.le_cons rfl ?_))⟩
      · show n - (i + 1) < n - i; omega
      · exact ⟨S.tail, by omega, g2⟩
  · all_goals (repeat' (first | (refine K_region (id := 10) ?_; refine mv ?_; refine mv ?_; refine KO_nil ?_)))
    refine K_ret ⟨_, rfl, ?_⟩
    exact ⟨m, g2, S⟩
end Go.Proofs.Xx

/-
  ServiceMetric: its contract.
-/
namespace Go.Proofs.Xx
open Go Go.Proofs
set_option linter.unusedSimpArgs false
set_option linter.unusedVariables false
set_option linter.unusedSectionVars false
set_option maxRecDepth 100000
set_option maxHeartbeats 4000000

theorem LengthP_ok {h0 : AH} (w : WfH h0) (v : PbV) (p : Pb) (H : PbOk h0 v p) (hP : PO p) (wl : Value) (l : List Int) (rl : RdL h0 wl 1 eI l) (hl : l.length ≤ 1000000) (ht : ∀ t ∈ l, 0 ≤ t ∧ t < p.tabs.length) : Fn Tryz.prog Xh 10 [v.val, wl] h0 (fun u h' => u = .tuple #[.int .i64 (tour (stp p.tabs) l), .int .i64 0] ∧ Hs h0 h' []) := by
  refine (Length_ok w v p H wl l rl hl).mono ?_
  rintro u h ⟨⟨q, -⟩ | ⟨-, ⟨q, -⟩ | ⟨-, rfl⟩⟩, x⟩
  · exact absurd hP q
  · exact absurd ht q
  · exact ⟨rfl, x⟩
end Go.Proofs.Xx

/-
  ServiceShortest: its contract.
-/
namespace Go.Proofs.Xx
open Go Go.Proofs
set_option linter.unusedSimpArgs false
set_option linter.unusedVariables false
set_option linter.unusedSectionVars false
set_option maxRecDepth 100000
set_option maxHeartbeats 4000000

theorem PlatesP_ok {h0 : AH} (w : WfH h0) (pv : PbV) (p : Pb) (H : PbOk h0 pv p) (hP : PO p) (vq : Value) (q : List Int) (rq : RdL h0 vq 1 eI q) (hQ : PartOk p q) :
    Fn Tryz.prog Xh 13 [pv.val, vq] h0 (fun u h' => Hs h0 h' [.sl u 3 1 eI (pltV p q)]) := by
  have := hQ.ql hP
  refine (Plates_ok w pv p H vq q rq (by omega)).mono ?_
  rintro u h (⟨hn, -, -⟩ | ⟨-, -, x⟩)
  · exact absurd ⟨hP, hQ⟩ hn
  · exact x
end Go.Proofs.Xx

/-
  Ways that are cut into trips; plain.
-/
namespace Go.Proofs.Xx
set_option linter.unusedSectionVars false
set_option linter.unusedSimpArgs false
set_option linter.unusedVariables false

/-- The plates of some tables. -/
def sumL (ld : Int → Int) : List Int → Int
  | [] => 0
  | t :: l => ld t + sumL ld l
theorem sumL_app {ld : Int → Int} : ∀ (a b : List Int), sumL ld (a ++ b) = sumL ld a + sumL ld b
  | [], b => by simp [sumL]
  | t :: a, b => by simp only [List.cons_append, sumL, sumL_app a b]; omega
theorem sumL_perm {ld : Int → Int} {a b : List Int} (h : a.Perm b) : sumL ld a = sumL ld b := by
  induction h with
  | nil => rfl
  | cons x h ih => simp only [sumL, ih]
  | swap x y l => simp only [sumL]; omega
  | trans h1 h2 i1 i2 => exact i1.trans i2
theorem sumL_nn {ld : Int → Int} : ∀ {l : List Int}, (∀ t ∈ l, 0 ≤ ld t) → 0 ≤ sumL ld l
  | [], _ => Int.le_refl _
  | t :: l, h => by
    have h1 := h t (by simp)
    have h2 := sumL_nn (l := l) fun x q => h x (List.mem_cons_of_mem _ q)
    simp only [sumL]; omega
theorem sumL_b {ld : Int → Int} {M : Int} : ∀ {l : List Int}, (∀ t ∈ l, ld t ≤ M) → sumL ld l ≤ M * l.length
  | [], _ => by simp [sumL]
  | t :: l, h => by
    have h1 := h t (by simp)
    have h2 := sumL_b (l := l) fun x q => h x (List.mem_cons_of_mem _ q)
    simp only [sumL, List.length_cons]; push_cast; rw [Int.mul_add]; omega
/-- The part of a list from i on to j. -/
def seg (w : List Int) (i j : Nat) : List Int := (w.drop i).take (j - i)
theorem seg_len {w : List Int} {i j : Nat} (h : i ≤ j) (hj : j ≤ w.length) : (seg w i j).length = j - i := by simp [seg]; omega
theorem seg_mem {w : List Int} {i j : Nat} {t : Int} (h : t ∈ seg w i j) : t ∈ w := List.mem_of_mem_drop (List.mem_of_mem_take h)
theorem seg_drop {w : List Int} {i j : Nat} (h : i ≤ j) : seg w i j ++ w.drop j = w.drop i := by
  have := List.take_append_drop (j - i) (w.drop i)
  rw [List.drop_drop, show i + (j - i) = j by omega] at this
  exact this
theorem seg_nil {w : List Int} {i : Nat} : seg w i i = [] := by simp [seg]
theorem seg_succ {w : List Int} {i j : Nat} (h : i ≤ j) (hj : j < w.length) : seg w i (j + 1) = seg w i j ++ [w.getD j default] := by
  unfold seg
  rw [show j + 1 - i = (j - i) + 1 by omega, List.take_add_one, List.getElem?_drop, show i + (j - i) = j by omega, List.getElem?_eq_getElem hj, List.getD_eq_getElem?_getD, List.getElem?_eq_getElem hj]
  simp
/-- Trips for a list of tables, nobody carrying more than k. -/
def CutOk (ld : Int → Int) (k : Int) (c : List (List Int)) : Prop := ∀ p ∈ c, p ≠ [] ∧ sumL ld p ≤ k
def cost (d : Int → Int → Int) : List (List Int) → Int
  | [] => 0
  | p :: c => tour d p + cost d c
theorem cost_app {d : Int → Int → Int} : ∀ (a b : List (List Int)), cost d (a ++ b) = cost d a + cost d b
  | [], b => by simp [cost]
  | t :: a, b => by simp only [List.cons_append, cost, cost_app a b]; omega
/-- f is the least cost of trips for the part of w from i on. -/
def BestC (d : Int → Int → Int) (ld : Int → Int) (k : Int) (w : List Int) (i : Nat) (f : Int) : Prop := ∀ c, CutOk ld k c → c.flatten = w.drop i → f ≤ cost d c
theorem BestC.last {d : Int → Int → Int} (m : Met d) {ld : Int → Int} {k : Int} {w : List Int} : BestC d ld k w w.length 0 := fun c _ h => by
  rw [List.drop_length] at h
  induction c with
  | nil => exact Int.le_refl _
  | cons p c ih =>
    simp only [List.flatten_cons, List.append_eq_nil_iff] at h
    have h1 := plen_nn m p (-1) (-1)
    have h2 := ih (fun q hq => by rename_i hc; exact hc q (List.mem_cons_of_mem _ hq)) h.2
    show 0 ≤ tour d p + cost d c
    unfold tour; omega
theorem BestC.step {d : Int → Int → Int} {ld : Int → Int} {k : Int} {w : List Int} {i : Nat} {f : Int} {F : Nat → Int} (hi : i < w.length) (hF : ∀ j, i < j → j ≤ w.length → BestC d ld k w j (F j))
    (h : ∀ j, i < j → j ≤ w.length → sumL ld (seg w i j) ≤ k → f ≤ tour d (seg w i j) + F j) : BestC d ld k w i f := fun c hc e => by
  cases c with
  | nil =>
    have := congrArg List.length e
    simp at this; omega
  | cons p c =>
    obtain ⟨h1, h2⟩ := hc p (by simp)
    have hp : 0 < p.length := List.length_pos_iff.2 h1
    rw [List.flatten_cons] at e
    have el := congrArg List.length e
    simp only [List.length_append, List.length_drop] at el
    have es : seg w i (i + p.length) = p := by
      unfold seg
      rw [← e, show i + p.length - i = p.length by omega]
      simp
    have ed : c.flatten = w.drop (i + p.length) := by
      have := seg_drop (w := w) (i := i) (j := i + p.length) (by omega)
      rw [es, ← e] at this
      exact (List.append_cancel_left this).symm
    have h3 := h (i + p.length) (by omega) (by omega) (by rw [es]; exact h2)
    have h4 := hF (i + p.length) (by omega) (by omega) c (fun q hq => hc q (List.mem_cons_of_mem _ hq)) ed
    rw [es] at h3
    show f ≤ tour d p + cost d c
    omega
/-- More tables are no fewer plates. -/
theorem seg_mono {ld : Int → Int} {w : List Int} {i j j' : Nat} (h0 : ∀ t ∈ w, 0 ≤ ld t) (h1 : i ≤ j) (h2 : j ≤ j') (h3 : j' ≤ w.length) : sumL ld (seg w i j) ≤ sumL ld (seg w i j') := by
  induction h2 with
  | refl => exact Int.le_refl _
  | @step n h ih =>
    have hn : n ≤ w.length := by simp at h3; omega
    rw [seg_succ (Nat.le_trans h1 h) (by simp at h3; omega), sumL_app]
    have := h0 (w.getD n default) (by
      rw [List.getD_eq_getElem?_getD, List.getElem?_eq_getElem (by simp at h3; omega)]
      exact List.getElem_mem _)
    have := ih hn
    simp only [sumL]; omega
end Go.Proofs.Xx

/-
  Numbers copied into a list of one's own; lists of lists of one's own.
-/
namespace Go.Proofs.Xx
open Go Go.Proofs
set_option linter.unusedSimpArgs false
set_option linter.unusedVariables false
set_option linter.unusedSectionVars false
set_option maxRecDepth 100000

section
variable {P : Program} {X : Extern} {sz : Nat} {L L' : Ks} {h h0 : AH} {rs : List Rs} {ops : Array Oper} {os : List Oper} {o : Oper} {R : Ks → AH → Prop}
theorem cpy {x y : Operand} {ty ty2 e e' : TypeId} {zc : List Value} {vd u : Value} {l m : List Int} {d : Tmp} (S : Hs h0 h (.sl vd e 1 eI l :: rs)) (hr : RdL h u 1 eI m) (hc : CapOk u) (hl : 1 ≤ l.length) (hm : l.length ≤ m.length)
    (w : ∀ h', Hs h0 h' (.sl vd e 1 eI (m.take l.length) :: rs) → KO P X sz ops os (L.put d (.int .i64 l.length)) h' R) (ho : o.op = .call { callee := .builtin .copy, args := #[x, y], argTypes := #[ty, ty2] } := by exact rfl) (hg : guardA ops L.tree o.guard = some true := by exact rfl)
    (hx : kA L x = some vd := by exact rfl) (hy : kA L y = some u := by exact rfl) (hs : sliceElem P ty = some e' := by exact rfl) (hz : zeroCellsT P e' = some zc := by exact rfl) (hzl : zc.length = 1 := by exact rfl) (hdst : o.dst = some d := by exact rfl) (hds : Nat.blt d sz = true := by exact rfl) : KO P X sz ops (o :: os) L h R := by
  obtain ⟨fp, k1, k2, k3⟩ := S.sep
  rcases k1 with ⟨-, rfl⟩ | ⟨b, oo, cc, slk, cap, e1, g1, fb, t1, c1, s1⟩
  · simp at hl
  rcases hr with ⟨-, h1, -⟩ | ⟨b2, o2, c2, cc2, e2, s2, r2, rfl, g2, t2⟩
  · omega
  subst e1
  obtain ⟨N, hN⟩ : ∃ N, l.length = N := ⟨_, rfl⟩
  rw [hN] at t1 c1 hx hl hm
  have hmin : Nat.min m.length N = N := by simp only [Nat.min_def]; split <;> omega
  have hnew : (m.take N).flatMap eI = (m.flatMap eI).take (N * 1) := (flatMap_take (z := 1) (enc := eI) (by intro _; rfl) m N)
  have hnl : ((m.take N).flatMap eI).length = N := by rw [flatMap_length (z := 1) (enc := eI) (by intro _; rfl), List.length_take]; omega
  have rsub : Rd h (.slice (some ⟨b2, o2, none⟩) (Nat.min m.length N) c2) 1 N ((m.take N).flatMap eI) := by
    rw [hmin]
    refine .inr ⟨b2, o2, c2, cc2, e2, s2, r2, rfl, g2, ?_⟩
    have := takeAt_sub (i := 0) (m := N * 1) t2 (by omega)
    rw [hnew]
    simpa using this
  have hsrc := rsub.source
  have hfit : oo + ((m.take N).flatMap eI).length ≤ cc.length := by rw [hnl]; omega
  have hcap : m.length ≤ c2 := hc
  have hone : ((m.take N).flatMap eI).all one? = true := by
    rw [List.all_eq_true]
    intro x hx
    obtain ⟨y, -, hy⟩ := List.mem_flatMap.1 hx
    simp [eI] at hy
    subst hy; rfl
  rw [hmin] at hsrc
  have hput : putCells h b oo cc e slk ((m.take N).flatMap eI) = some (h.put b (.cells (splice cc oo ((m.take N).flatMap eI)) e slk false)) := by
    unfold putCells
    simp only [Nat.ble_eq_true_of_le hfit, hone, Bool.and_self]
  refine KO_val (v := .int .i64 N) (h' := h.put b (.cells (splice cc oo ((m.take N).flatMap eI)) e slk false)) hg ?_ (by simp only [putK, hdst, hds, hN]) (w _ ?_)
  · rw [ho]
    have ha : aCopy P ty (.slice (some ⟨b, oo, none⟩) N cap) (.slice (some ⟨b2, o2, none⟩) m.length c2) h = some (.int .i64 N, h.put b (.cells (splice cc oo ((m.take N).flatMap eI)) e slk false)) := by
      unfold aCopy
      simp only [hs, hz, hzl, Nat.ble_eq_true_of_le hl, Nat.ble_eq_true_of_le (show 1 ≤ m.length by omega), Nat.ble_eq_true_of_le hcap, Bool.and_self, hsrc, g1, hput, hmin]
    simp [aOp, tree_le hx, tree_le hy, evAll, aBuiltin, ha, nextOf2]
  · have hTl : (m.take N).length = N := by rw [List.length_take]; omega
    rw [hN] at S ⊢
    refine S.turn .here (Nat.le_refl _) (S.wf.put (S.wf.lt g1) _) fun fq p1 p2 => ?_
    rcases p1 with ⟨p1, -⟩ | ⟨b3, o3, cc3, sl3, cap3, p1, -, p3, -⟩
    · cases p1
    obtain rfl : b3 = b := by cases p1; rfl
    refine ⟨fun j _ hf => by rw [AH.get_put, if_neg]; intro q; subst q; exact hf p3, fun j => j = b3, .inr ⟨b3, oo, _, slk, cap, by rw [hTl], by rw [AH.get_put, if_pos rfl], rfl, ?_, ⟨by rw [hTl]; exact c1.1, ?_⟩, s1⟩, fun j hj => ?_⟩
    · rw [hTl]
      refine takeAt_ext (by rw [hnl]; omega) ?_ fun j hj => ?_
      · rw [splice_length _ _ _ hfit]; omega
      · rw [splice_get _ _ _ hfit, if_neg (by omega), if_pos (by omega)]
        congr 1; omega
    · rw [splice_length _ _ _ hfit]; exact c1.2
    · subst hj; exact ⟨S.wf.lt g1, .inl p3⟩
end
/-- Lists of one's own. -/
abbrev ownR {α : Type} (f : α → Rs) (l : List α) : Rs := .any (fun h fp => Star h (l.map f) fp)
theorem Star.snoc_ {h : AH} {r : Rs} {fp : Fp} (hr : r.ok h fp) : ∀ {l : List Rs} {U : Fp}, Star h l U → (∀ b, fp b → ¬ U b) → Star h (l ++ [r]) (fun b => U b ∨ fp b)
  | [], U, _, _ => ⟨fp, hr, fun b hb => .inr hb, trivial⟩
  | x :: l, U, ⟨fx, h1, h2, h3⟩, hd => ⟨fx, h1, fun b hb => .inl (h2 b hb), (Star.snoc_ hr h3 fun b hb q => hd b hb q.1).mono fun b hb => by
      rcases hb with hb | hb
      · exact ⟨.inl hb.1, hb.2⟩
      · exact ⟨.inr hb, fun q => hd b hb (h2 b q)⟩⟩
section
variable {α : Type} {f : α → Rs} {h0 h : AH} {rs : List Rs} {gs : List α} {g : α}
theorem Hs.owNil (S : Hs h0 h rs) : Hs h0 h (ownR f [] :: rs) := S.anyS fun h' => trivial
theorem Hs.owApp (S : Hs h0 h (f g :: ownR f gs :: rs)) : Hs h0 h (ownR f (gs ++ [g]) :: rs) := by
  obtain ⟨f1, k1, k2, f2, k3, k4, k5⟩ := S.sep
  refine ⟨S.ext, fun b => f2 b ∨ f1 b, fun h' q => ?_, fun b hb => ?_, k5.mono fun b hb => ⟨trivial, fun q => ?_⟩⟩
  · rw [List.map_append]
    exact Star.snoc_ (k1.local fun b hb => q b (.inr hb)) (k3 h' fun b hb => q b (.inl hb)) fun b hb q => (k4 b q).2.2.2 hb
  · rcases hb with hb | hb
    · exact ⟨(k4 b hb).1, (k4 b hb).2.1, trivial⟩
    · exact k2 b hb
  · rcases q with q | q
    · exact hb.2 q
    · exact hb.1.2 q
theorem Star.get_ {r : Rs} : ∀ {l : List Rs} {U : Fp}, Star h l U → r ∈ l → ∃ fp, r.ok h fp
  | x :: l, U, ⟨fx, h1, h2, h3⟩, hr => by
    rcases List.mem_cons.1 hr with rfl | hr
    · exact ⟨fx, h1⟩
    · exact Star.get_ h3 hr
theorem sl_rdL_ {α : Type} {v : Value} {e : TypeId} {z : Nat} {enc : α → List Value} {l : List α} {h : AH} {fp : Fp} (k : (Rs.sl v e z enc l).ok h fp) : RdL h v z enc l := by
  rcases k with ⟨rfl, rfl⟩ | ⟨b, o, cc, slk, cap, h1, h2, h3, h4, -⟩
  · exact .inl ⟨rfl, rfl, rfl⟩
  · exact .inr ⟨b, o, _, cc, e, slk, false, h1, h2, h4⟩
end
end Go.Proofs.Xx
