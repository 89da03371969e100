/-
  Camps: the search, plain part.
-/
import Derived.Test.YtidmdnenlgjpeaaGreatDoorM13
import Derived.Test.YtidmdnenlgjpeaaGreatDoorM8
import Derived.Test.YtidmdnenlgjpeaaGreatDoorM9
import Derived.Test.YtidmdnenlgjpeaaGreatDoorRows
import Derived.Lib.LaidTab
import Derived.Stop.LaidErr
import Derived.Shelf.Vars

namespace Go.Proofs.Xx
open Go Go.Proofs
set_option linter.unusedSimpArgs false
set_option linter.unusedVariables false
set_option linter.unusedSectionVars false

theorem frM_put {mp : CMap} {f : List UInt8} {p : Int × List UInt8} (x : List UInt8) : frM (mPut mp f p) x = if x = f then p.2 else frM mp x := by
  unfold frM; rw [mGet_put]
  by_cases e : x = f
  · rw [if_pos e, if_pos e]
  · rw [if_neg e, if_neg e]
theorem cmM_put {mp : CMap} {f : List UInt8} {p : Int × List UInt8} (x : List UInt8) : cmM (mPut mp f p) x = if x = f then p.1 else cmM mp x := by
  unfold cmM; rw [mGet_put]
  by_cases e : x = f
  · rw [if_pos e, if_pos e]
  · rw [if_neg e, if_neg e]
theorem met_put {mp : CMap} {f : List UInt8} {p : Int × List UInt8} (x : List UInt8) : mGet (mPut mp f p) x ≠ none ↔ (x = f ∨ mGet mp x ≠ none) := by
  rw [mGet_put]
  by_cases e : x = f <;> simp [e]
theorem put_new {mp : CMap} {f : List UInt8} {p : Int × List UInt8} (h : mGet mp f = none) : mPut mp f p = mp ++ [(f, p)] := by
  unfold mPut; rw [mGet_none h]
theorem mIdx_mem {α : Type} {k : List UInt8} : ∀ {l : List (List UInt8 × α)} {i : Nat}, mIdx k l i ≠ none ↔ k ∈ l.map (·.1)
  | [], i => by simp [mIdx]
  | p :: r, i => by
    unfold mIdx
    by_cases e : p.1 = k
    · simp [e]
    · rw [if_neg e, mIdx_mem (l := r)]
      rw [List.map_cons, List.mem_cons]
      exact ⟨.inr, fun q => q.resolve_left fun z => e z.symm⟩
theorem met_mem {mp : CMap} {x : List UInt8} : mGet mp x ≠ none ↔ x ∈ mp.map (·.1) := by
  rw [← mIdx_mem (l := mp) (i := 0)]
  unfold mGet
  cases mIdx x mp 0 <;> simp
/-- What is met: a forest with camps by depth. -/
structure CI (r : Rl) (mp : CMap) (dep : List UInt8 → Nat) : Prop where
  tree : Tree r (frM mp) dep (fun x => mGet mp x ≠ none)
  camp : ∀ x, mGet mp x ≠ none → cmM mp x = ((dep x % 2 : Nat) : Int)
  kn : ∀ x, mGet mp x ≠ none → gat r.us x ≠ none
  nd : (mp.map (·.1)).Nodup
  dl : ∀ x, mGet mp x ≠ none → dep x < mp.length
def depU (dep : List UInt8 → Nat) (f : List UInt8) (d : Nat) : List UInt8 → Nat := fun x => if x = f then d else dep x
theorem CI.len {r : Rl} (H : RO r) {mp : CMap} {dep : List UInt8 → Nat} (I : CI r mp dep) : mp.length ≤ 64 := by
  have := nodup_leM I.nd (m := r.us.map (·.name)) fun x hx => gat_name (I.kn x (met_mem.2 hx))
  have := H.l64
  simp at *; omega
theorem CI.put {r : Rl} {mp : CMap} {dep : List UInt8 → Nat} (I : CI r mp dep) {f n : List UInt8} {c : Int} {d : Nat} (hf : mGet mp f = none) (hk : gat r.us f ≠ none) (h : (d = 0 ∧ c = 0) ∨ (mGet mp n ≠ none ∧ d = dep n + 1 ∧ adj r 2 n f ∧ c = 1 - cmM mp n)) : CI r (mPut mp f (c, n)) (depU dep f d) := by
  refine ⟨⟨fun x hx h0 => ?_⟩, fun x hx => ?_, fun x hx => ?_, ?_, fun x hx => ?_⟩
  · rw [met_put] at hx
    rw [met_put, frM_put]
    unfold depU at h0 ⊢
    by_cases e : x = f
    · subst e
      rw [if_pos rfl] at h0
      rw [if_pos rfl, if_pos rfl]
      rcases h with ⟨h1, h2⟩ | ⟨h1, h2, h3, h4⟩
      · omega
      · have hn : n ≠ x := fun q => h1 (q ▸ hf)
        exact ⟨.inr h1, by rw [if_neg hn]; exact h2.symm, h3⟩
    · rw [if_neg e] at h0
      rw [if_neg e, if_neg e]
      obtain ⟨g1, g2, g3⟩ := I.tree.up x (hx.resolve_left e) h0
      have hn : frM mp x ≠ f := fun q => g1 (q ▸ hf)
      exact ⟨.inr g1, by rw [if_neg hn]; exact g2, g3⟩
  · rw [met_put] at hx
    rw [cmM_put]
    unfold depU
    by_cases e : x = f
    · rw [if_pos e, if_pos e]
      rcases h with ⟨h1, h2⟩ | ⟨h1, h2, h3, h4⟩
      · rw [h1]; exact h2
      · show c = _
        rw [h4, I.camp n h1, h2]; omega
    · rw [if_neg e, if_neg e]; exact I.camp x (hx.resolve_left e)
  · rw [met_put] at hx
    rcases hx with e | e
    · rw [e]; exact hk
    · exact I.kn x e
  · rw [put_new hf, List.map_append, List.nodup_append]
    refine ⟨I.nd, by simp, fun a ha b hb e => ?_⟩
    simp only [List.map_cons, List.map_nil, List.mem_singleton] at hb
    exact met_mem.2 ha (e ▸ hb ▸ hf)
  · rw [met_put] at hx
    unfold depU
    rw [put_new hf, List.length_append, List.length_singleton]
    by_cases e : x = f
    · rw [if_pos e]
      rcases h with ⟨h1, h2⟩ | ⟨h1, h2, h3, h4⟩
      · omega
      · have := I.dl n h1; omega
    · rw [if_neg e]
      have := I.dl x (hx.resolve_left e); omega
theorem anc_succ (fr : List UInt8 → List UInt8) (x : List UInt8) : ∀ k, anc fr x (k + 1) = anc fr (fr x) k
  | 0 => rfl
  | k + 1 => congrArg fr (anc_succ fr x k)
theorem CI.anc {r : Rl} {mp : CMap} {dep : List UInt8 → Nat} (I : CI r mp dep) {f : List UInt8} {p : Int × List UInt8} (hf : mGet mp f = none) {x : List UInt8} (hx : mGet mp x ≠ none) : ∀ {k : Nat}, k ≤ dep x → Xx.anc (frM (mPut mp f p)) x k = Xx.anc (frM mp) x k
  | 0, _ => rfl
  | k + 1, h => by
    show frM _ (Xx.anc _ x k) = frM _ (Xx.anc _ x k)
    rw [I.anc hf hx (by omega), frM_put, if_neg]
    intro q
    have := (anc_ok I.tree hx (k := k) (by omega)).1
    exact this (q ▸ hf)
def gnm (r : Rl) (j : Nat) : List UInt8 := (r.us.getD j default).name
/-- Between two searches. -/
structure OI (r : Rl) (i : Nat) (mp : CMap) (dep : List UInt8 → Nat) : Prop where
  ci : CI r mp dep
  cl : ∀ x, mGet mp x ≠ none → ∀ y, adj r 2 x y → mGet mp y ≠ none ∧ cmM mp y ≠ cmM mp x
  gm : ∀ j, j < i → mGet mp (gnm r j) ≠ none
  z : ∀ j, j < i → cmM mp (gnm r j) = 0 ∨ ∃ k, k < j ∧ Rch r 2 (gnm r k) (gnm r j)
  rc : ∀ x, mGet mp x ≠ none → ∃ k, k < i ∧ Rch r 2 (gnm r k) x
/-- In the search from the i-th guest: O is what was met before, q the line. -/
structure SI (r : Rl) (i : Nat) (O : List UInt8 → Prop) (mp : CMap) (dep : List UInt8 → Nat) (q : List (List UInt8)) : Prop where
  ci : CI r mp dep
  om : ∀ x, O x → mGet mp x ≠ none
  oc : ∀ x, O x → ∀ y, adj r 2 x y → O y ∧ cmM mp y ≠ cmM mp x
  gm : ∀ j, j ≤ i → mGet mp (gnm r j) ≠ none
  z : ∀ j, j ≤ i → cmM mp (gnm r j) = 0 ∨ ∃ k, k < j ∧ Rch r 2 (gnm r k) (gnm r j)
  orc : ∀ x, O x → ∃ k, k < i ∧ Rch r 2 (gnm r k) x
  rt : ∀ x, mGet mp x ≠ none → ¬ O x → Xx.anc (frM mp) x (dep x) = gnm r i ∧ Rch r 2 (gnm r i) x
  qm : ∀ x ∈ q, mGet mp x ≠ none ∧ ¬ O x
  qs : ∀ a b, a < b → b < q.length → dep (q.getD a default) ≤ dep (q.getD b default)
  qd : ∀ x ∈ q, dep x ≤ dep (q.getD 0 default) + 1
  dn : ∀ x, mGet mp x ≠ none → ¬ O x → x ∉ q → (q ≠ [] → dep x ≤ dep (q.getD 0 default)) ∧ ∀ y, adj r 2 x y → mGet mp y ≠ none ∧ cmM mp y ≠ cmM mp x
  ql : q.length ≤ mp.length
theorem OI.root {r : Rl} {i : Nat} {mp : CMap} {dep : List UInt8 → Nat} (I : OI r i mp dep) (hs : mGet mp (gnm r i) = none) (hk : gat r.us (gnm r i) ≠ none) : SI r i (fun x => mGet mp x ≠ none) (mPut mp (gnm r i) (0, [])) (depU dep (gnm r i) 0) [gnm r i] := by
  have nm : ∀ {x}, mGet mp x ≠ none → x ≠ gnm r i := fun hx q => hx (q ▸ hs)
  refine ⟨I.ci.put hs hk (.inl ⟨rfl, rfl⟩), fun x hx => (met_put x).2 (.inr hx), fun x hx y a => ?_, fun j hj => ?_, fun j hj => ?_, I.rc, fun x hx hn => ?_, fun x hx => ?_, fun a b h1 h2 => ?_, fun x hx => ?_, fun x hx h1 h2 => ?_, ?_⟩
  · obtain ⟨h1, h2⟩ := I.cl x hx y a
    rw [cmM_put, cmM_put, if_neg (nm h1), if_neg (nm hx)]
    exact ⟨h1, h2⟩
  · rw [met_put]
    rcases Nat.lt_or_ge j i with q | q
    · exact .inr (I.gm j q)
    · obtain rfl : j = i := by omega
      exact .inl rfl
  · rw [cmM_put]
    rcases Nat.lt_or_ge j i with q | q
    · rw [if_neg (nm (I.gm j q))]; exact I.z j q
    · obtain rfl : j = i := by omega
      exact .inl (if_pos rfl)
  · have e := ((met_put x).1 hx).resolve_right hn
    subst e
    have : depU dep (gnm r i) 0 (gnm r i) = 0 := if_pos rfl
    rw [this]
    exact ⟨rfl, .refl⟩
  · rw [List.mem_singleton] at hx
    subst hx
    exact ⟨(met_put _).2 (.inl rfl), fun q => q hs⟩
  · rw [List.length_singleton] at h2; omega
  · rw [List.mem_singleton] at hx
    subst hx
    exact Nat.le_succ _
  · exact absurd (List.mem_singleton.2 (((met_put x).1 hx).resolve_right h1)) h2
  · rw [put_new hs]; simp
theorem getD0_app {l : List (List UInt8)} {x : List UInt8} (h : l ≠ []) : (l ++ [x]).getD 0 default = l.getD 0 default := by
  cases l with
  | nil => exact absurd rfl h
  | cons y l => rfl
theorem SI.add {r : Rl} {i : Nat} {O : List UInt8 → Prop} {mp : CMap} {dep : List UInt8 → Nat} {q : List (List UInt8)} (I : SI r i O mp dep q) (hq : q ≠ []) {n f : List UInt8} (hn : q.getD 0 default = n) (hf : mGet mp f = none) (hk : gat r.us f ≠ none) (ha : adj r 2 n f) : SI r i O (mPut mp f (1 - cmM mp n, n)) (depU dep f (dep n + 1)) (q ++ [f]) := by
  have hn2 : n ∈ q := by
    rw [← hn]; exact mem_getD (List.length_pos_iff.2 hq)
  obtain ⟨nm, no⟩ := I.qm n hn2
  have ne : ∀ {x}, mGet mp x ≠ none → x ≠ f := fun hx e => hx (e ▸ hf)
  have du : ∀ {x}, mGet mp x ≠ none → depU dep f (dep n + 1) x = dep x := fun hx => if_neg (ne hx)
  have duf : depU dep f (dep n + 1) f = dep n + 1 := if_pos rfl
  have fO : ¬ O f := fun h => I.om f h hf
  refine ⟨I.ci.put hf hk (.inr ⟨nm, rfl, ha, rfl⟩), fun x hx => (met_put x).2 (.inr (I.om x hx)), fun x hx y a => ?_, fun j hj => (met_put _).2 (.inr (I.gm j hj)), fun j hj => ?_, I.orc, fun x hx hn => ?_, fun x hx => ?_, fun a b h1 h2 => ?_, fun x hx => ?_, fun x hx h1 h2 => ?_, ?_⟩
  · obtain ⟨h1, h2⟩ := I.oc x hx y a
    rw [cmM_put, cmM_put, if_neg (ne (I.om _ h1)), if_neg (ne (I.om _ hx))]
    exact ⟨h1, h2⟩
  · rw [cmM_put, if_neg (ne (I.gm j hj))]; exact I.z j hj
  · rw [met_put] at hx
    by_cases e : x = f
    · subst e
      rw [duf, anc_succ, frM_put, if_pos rfl]
      show Xx.anc _ n (dep n) = _ ∧ _
      rw [I.ci.anc hf nm (Nat.le_refl _)]
      obtain ⟨h1, h2⟩ := I.rt n nm no
      exact ⟨h1, h2.step ha⟩
    · have hx := hx.resolve_left e
      rw [du hx, I.ci.anc hf hx (Nat.le_refl _)]
      exact I.rt x hx hn
  · rw [met_put]
    rcases List.mem_append.1 hx with h | h
    · exact ⟨.inr (I.qm x h).1, (I.qm x h).2⟩
    · rw [List.mem_singleton] at h
      exact ⟨.inl h, h ▸ fO⟩
  · rw [List.length_append, List.length_singleton] at h2
    rw [gA1 (show a < q.length by omega), du (I.qm _ (mem_getD (show a < q.length by omega))).1]
    rcases Nat.lt_or_ge b q.length with h | h
    · rw [gA1 h, du (I.qm _ (mem_getD h)).1]; exact I.qs a b h1 h
    · rw [gA2 h, show b - q.length = 0 by omega]
      show _ ≤ depU _ _ _ f
      rw [duf]
      have := I.qd _ (mem_getD (show a < q.length by omega))
      rw [hn] at this; exact this
  · rw [getD0_app hq, hn, du nm]
    rcases List.mem_append.1 hx with h | h
    · rw [du (I.qm x h).1, ← hn]; exact I.qd x h
    · rw [List.mem_singleton.1 h, duf]; exact Nat.le_refl _
  · rw [List.mem_append, List.mem_singleton, not_or] at h2
    have hx := ((met_put x).1 hx).resolve_left h2.2
    obtain ⟨g1, g2⟩ := I.dn x hx h1 h2.1
    rw [getD0_app hq, hn, du nm, du hx, ← hn]
    refine ⟨fun _ => g1 hq, fun y a => ?_⟩
    obtain ⟨k1, k2⟩ := g2 y a
    rw [cmM_put, cmM_put, if_neg (ne k1), if_neg (ne hx)]
    exact ⟨(met_put y).2 (.inr k1), k2⟩
  · have := I.ql
    rw [put_new hf]; simp; exact this
/-- The head of the line is done. -/
theorem SI.pop {r : Rl} {i : Nat} {O : List UInt8 → Prop} {mp : CMap} {dep : List UInt8 → Nat} {n : List UInt8} {q : List (List UInt8)} (I : SI r i O mp dep (n :: q)) (hd : ∀ y, adj r 2 n y → mGet mp y ≠ none ∧ cmM mp y ≠ cmM mp n) : SI r i O mp dep q := by
  have hq0 : q ≠ [] → dep n ≤ dep (q.getD 0 default) := fun hq => by
    have := I.qs 0 1 (by omega) (by have := List.length_pos_iff.2 hq; simp; omega)
    exact this
  refine ⟨I.ci, I.om, I.oc, I.gm, I.z, I.orc, I.rt, fun x hx => I.qm x (.tail _ hx), fun a b h1 h2 => I.qs (a + 1) (b + 1) (by omega) (by simp; omega), fun x hx => ?_, fun x hx h1 h2 => ?_, by have := I.ql; simp at this; omega⟩
  · have h1 : dep x ≤ dep n + 1 := I.qd x (.tail _ hx)
    have h2 := hq0 (List.ne_nil_of_mem hx)
    omega
  · by_cases e : x = n
    · subst e
      exact ⟨hq0, hd⟩
    · obtain ⟨g1, g2⟩ := I.dn x hx h1 (by simp [e, h2])
      refine ⟨fun hq => ?_, g2⟩
      have h3 : dep x ≤ dep n := g1 (by simp)
      have := hq0 hq
      omega
theorem SI.fin {r : Rl} {i : Nat} {O : List UInt8 → Prop} {mp : CMap} {dep : List UInt8 → Nat} (I : SI r i O mp dep []) : OI r (i + 1) mp dep := by
  refine ⟨I.ci, fun x hx y a => ?_, fun j hj => I.gm j (by omega), fun j hj => I.z j (by omega), fun x hx => ?_⟩
  · by_cases h : O x
    · obtain ⟨h1, h2⟩ := I.oc x h y a
      exact ⟨I.om y h1, h2⟩
    · exact (I.dn x hx h (by simp)).2 y a
  · by_cases h : O x
    · obtain ⟨k, h1, h2⟩ := I.orc x h
      exact ⟨k, by omega, h2⟩
    · exact ⟨i, by omega, (I.rt x hx h).2⟩
theorem OI.skip {r : Rl} {i : Nat} {mp : CMap} {dep : List UInt8 → Nat} (I : OI r i mp dep) (h : mGet mp (gnm r i) ≠ none) : OI r (i + 1) mp dep := by
  refine ⟨I.ci, I.cl, fun j hj => ?_, fun j hj => ?_, fun x hx => ?_⟩
  · rcases Nat.lt_or_ge j i with q | q
    · exact I.gm j q
    · obtain rfl : j = i := by omega
      exact h
  · rcases Nat.lt_or_ge j i with q | q
    · exact I.z j q
    · obtain rfl : j = i := by omega
      exact .inr (I.rc _ h)
  · obtain ⟨k, h1, h2⟩ := I.rc x hx
    exact ⟨k, by omega, h2⟩
/-- Two enemies in one camp. -/
theorem SI.clash {r : Rl} (H : RO r) {i : Nat} {O : List UInt8 → Prop} {mp : CMap} {dep : List UInt8 → Nat} {q : List (List UInt8)} (I : SI r i O mp dep q) (hq : q ≠ []) {n f : List UInt8} (hn : q.getD 0 default = n) (hf : mGet mp f ≠ none) (ha : adj r 2 n f) (hc : cmM mp f = cmM mp n) : mGet mp n ≠ none ∧ dep n = dep f ∧ n ≠ f ∧ Xx.anc (frM mp) n (dep n) = Xx.anc (frM mp) f (dep n) ∧ dep n ≤ 64 := by
  have hn2 : n ∈ q := by
    rw [← hn]; exact mem_getD (List.length_pos_iff.2 hq)
  obtain ⟨nm, no⟩ := I.qm n hn2
  have fO : ¬ O f := fun h => no (I.oc f h n ha.symm).1
  have fq : f ∈ q := by
    apply Classical.byContradiction
    intro h
    exact ((I.dn f hf fO h).2 n ha.symm).2 hc.symm
  have h1 := I.qd f fq
  have h2 : dep (q.getD 0 default) ≤ dep f := by
    obtain ⟨j, j1, j2⟩ := mem_iff_getD.1 fq
    rcases Nat.eq_zero_or_pos j with e | e
    · subst e; rw [j2]; exact Nat.le_refl _
    · have := I.qs 0 j e j1
      rw [j2] at this; exact this
  rw [hn] at h1 h2
  have h3 := I.ci.camp f hf
  have h4 := I.ci.camp n nm
  rw [hc, h4] at h3
  have hd : dep n = dep f := by omega
  have hl := I.ci.len H
  have := I.ci.dl n nm
  refine ⟨nm, hd, (adj_known H ha).2.2, ?_, by omega⟩
  rw [(I.rt n nm no).1, hd, (I.rt f hf fO).1]
/-- Two camps. -/
structure CampOk (r : Rl) (cs : List Int) : Prop where
  len : cs.length = r.us.length
  b : ∀ i, i < cs.length → cs.getD i default = 0 ∨ cs.getD i default = 1
  ne : ∀ i j, i < cs.length → j < cs.length → adj r 2 (gnm r i) (gnm r j) → cs.getD i default ≠ cs.getD j default
  z : ∀ j, j < cs.length → cs.getD j default = 0 ∨ ∃ k, k < j ∧ Rch r 2 (gnm r k) (gnm r j)
theorem OI.camps {r : Rl} {mp : CMap} {dep : List UInt8 → Nat} (I : OI r r.us.length mp dep) : CampOk r ((List.range r.us.length).map fun i => cmM mp (gnm r i)) := by
  have g : ∀ i, i < r.us.length → ((List.range r.us.length).map fun i => cmM mp (gnm r i)).getD i default = cmM mp (gnm r i) := fun i hi => by
    rw [List.getD_eq_getElem?_getD]; simp [hi]
  refine ⟨by simp, fun i hi => ?_, fun i j hi hj a => ?_, fun j hj => ?_⟩
  · simp at hi
    rw [g i hi, I.ci.camp _ (I.gm i hi)]; omega
  · simp at hi hj
    rw [g i hi, g j hj]
    exact fun q => (I.cl _ (I.gm i hi) _ a).2 q.symm
  · simp at hj
    rw [g j hj]; exact I.z j hj
end Go.Proofs.Xx

/-
  Camps.
-/
namespace Go.Proofs.Xx
open Go Go.Proofs
set_option linter.unusedSimpArgs false
set_option linter.unusedVariables false
set_option linter.unusedSectionVars false
set_option maxRecDepth 100000
set_option maxHeartbeats 4000000

theorem Hs.one_ {α : Type} {h0 h : AH} {u : Value} {e : TypeId} {z : Nat} {enc : α → List Value} {x : α} {rs : List Rs} (S : Hs h0 h (.sl u e z eRaw [enc x] :: rs)) : Hs h0 h (.sl u e z enc [x] :: rs) := by
  obtain ⟨fp, k1, k2, k3⟩ := S.sep
  refine ⟨S.ext, fp, ?_, k2, k3⟩
  rcases k1 with ⟨q1, q2⟩ | ⟨b, o, cc, slk, cap, h1, h2, h3, h4, h5⟩
  · cases q2
  · exact .inr ⟨b, o, cc, slk, cap, h1, h2, h3, (by simpa [eRaw] using h4), h5⟩
theorem unm_put {r : Rl} {mp : CMap} {f : List UInt8} {p : Int × List UInt8} (hf : mGet mp f = none) (hk : gat r.us f ≠ none) : unm r ((mPut mp f p).map (·.1)) < unm r (mp.map (·.1)) := by
  rw [put_new hf, List.map_append]
  exact unm_lt hk fun q => met_mem.2 q hf
variable [Flag]
theorem camps_ok {h0 : AH} (w : WfH h0) {p : Nat} {r : Rl} (B : BkRd h0 p r) (H : RO r) : Fn Tryz.prog Xh 41 [.pointer (some ⟨p, 0, none⟩)] h0 (fun u h' => (∃ vr R, u = .tuple #[.slice none 0 0, vr] ∧ Hs h0 h' [.sl vr 9 1 eS R] ∧ RingOk r R ∧ R.length ≤ 200) ∨ (∃ vi cs, u = .tuple #[vi, .slice none 0 0] ∧ Hs h0 h' [.sl vi 3 1 eI cs] ∧ CampOk r cs)) := by
  have S := Hs.start w
  have B0 := B
  obtain ⟨s, B⟩ := B
  have hb := B.bk
  have h64 := H.l64
  have hrg := B.rg
  have hgl := B.len
  refine Fn_K rfl Tryz.func41 rfl rfl ?_
  all_goals (repeat' (first | refine K_seq ?_ | refine k_cond rfl ?_ | refine K_skip ?_ | refine K_exit ?_ | refine k_block ?_ | refine K_scope ?_ | refine K_label ?_ | (refine K_region (id := 0) ?_; refine mv ?_; refine mv ?_; refine KO_nil ?_) | (refine K_region (id := 1) ?_; refine mv ?_)))
  (refine KO_fn rfl rfl rfl rfl rfl ((bnone_ok S.wf (S.ext.get w hb)).mono ?_); rintro _ h ⟨rfl, x⟩) <;> (replace S := S.join0 x; clear x; refine KO_nil ?_)
  all_goals (repeat' (first | refine K_seq ?_ | refine k_cond rfl ?_ | refine K_skip ?_ | refine K_exit ?_ | refine k_block ?_ | refine K_scope ?_ | refine K_label ?_ | (refine K_region (id := 2) ?_; refine mv ?_; refine mv ?_; refine KO_nil ?_)))
  (repeat (refine K_seq ?_)); refine K_region (id := 3) ?_
  refine mkm (α := Int × List UInt8) eSp S ?_; clear S; intro m h S; (refine mv ?_; refine KO_nil ?_)
  all_goals (repeat' (first | refine K_seq ?_ | refine k_cond rfl ?_ | refine K_skip ?_ | refine K_exit ?_ | refine k_block ?_ | refine K_scope ?_ | refine K_label ?_ | (refine K_region (id := 4) ?_; refine mv ?_; refine vl ?_; (first | refine vl ?_ | refine fB S ?_ | refine fS S rfl rfl ?_ | refine fA ?_); (first | refine vl ?_ | refine fB S ?_ | refine fS S rfl rfl ?_ | refine fA ?_); (first | refine lB S rfl rfl ?_ | refine lES2 S rfl rfl ?_ | refine lEB S ?_ | refine lH S ?_); (first | refine lnB S ?_ | refine lnS S rfl rfl ?_); refine mv ?_; refine KO_nil ?_)))
  refine k_loop (σ := Nat × CMap × (List UInt8 → Nat)) (fun (i, mp, dep) h' => Hs h0 h' [.mp m eSp mp] ∧ i ≤ r.us.length ∧ OI r i mp dep) (fun (i, mp, dep) => r.us.length - i) (fun (i, mp, dep) => [(0, .pointer (some ⟨p, 0, none⟩)), (4, .map (some m)), (25, s.vg.val), (26, .int .i64 s.gs.length), (27, .int .i64 i)]) (0, [], fun _ => 0) (by repeat (first | exact Ks.le_nil _ | refine Ks.le_cons rfl ?_ | refine Ks.le_int ?_)) ?_ ?_
  · exact ⟨S, Nat.zero_le _, ⟨⟨⟨fun x hx => absurd rfl hx⟩, fun x hx => absurd rfl hx, fun x hx => absurd rfl hx, by simp, fun x hx => absurd rfl hx⟩, fun x hx => absurd rfl hx, fun j hj => absurd hj (Nat.not_lt_zero _), fun j hj => absurd hj (Nat.not_lt_zero _), fun x hx => absurd rfl hx⟩⟩
  clear S
  rintro ⟨i, mp, dep⟩ h ⟨S, g1, I⟩
  all_goals (repeat' (first | refine K_seq ?_ | refine k_cond rfl ?_ | refine K_skip ?_ | refine K_exit ?_ | refine K_scope ?_ | refine K_label ?_ | (refine K_region (id := 5) ?_; (first | refine cT ?_ | refine cF ?_ | (refine cS ?_ ?_ <;> intro hc)) <;> (refine KO_nil ?_))))
  · have hil : i < s.gs.length := by omega
    have hg := B.g hil
    simp only [Int.toNat_natCast] at *
    have hgn : (s.gs.getD i default).name = gnm r i := by unfold gnm; rw [← hg]
    have hgk : gat r.us (gnm r i) ≠ none := gat_mem.2 ⟨_, mem_getD (show i < r.us.length by omega), rfl⟩
    (repeat (refine K_seq ?_)); first | refine K_join1 (σ := CMap × (List UInt8 → Nat)) (fun (mp, dep) h' => Hs h0 h' [.mp m eSp mp] ∧ OI r (i + 1) mp dep) (fun (mp, dep) => [(0, .pointer (some ⟨p, 0, none⟩)), (4, .map (some m)), (25, s.vg.val), (26, .int .i64 s.gs.length), (27, .int .i64 i)]) ?_ ?_ | refine K_cut (σ := CMap × (List UInt8 → Nat)) (fun (mp, dep) h' => Hs h0 h' [.mp m eSp mp] ∧ OI r (i + 1) mp dep) (fun (mp, dep) => [(0, .pointer (some ⟨p, 0, none⟩)), (4, .map (some m)), (25, s.vg.val), (26, .int .i64 s.gs.length), (27, .int .i64 i)]) ?_ ?_
    · all_goals (repeat' (first | refine K_seq ?_ | refine k_cond rfl ?_ | refine K_skip ?_ | refine K_exit ?_ | refine k_block ?_ | refine K_scope ?_ | refine K_label ?_ | (refine K_region (id := 6) ?_; (first | refine ixB S ?_ | refine ixS2 S rfl rfl ?_); (first | refine lB S rfl rfl ?_ | refine lES2 S rfl rfl ?_ | refine lEB S ?_ | refine lH S ?_); (refine al S ?_; clear S; intro b h S); (first | (refine sB S rfl rfl ?_; clear S; intro h S) | (refine sE2 S rfl rfl ?_; clear S; intro h S)); refine KO_nil ?_) | (refine K_region (id := 7) ?_; refine mv ?_; (first | refine vl ?_ | refine fB S ?_ | refine fS S rfl rfl ?_ | refine fA ?_); (first | refine lB S rfl rfl ?_ | refine lES2 S rfl rfl ?_ | refine lEB S ?_ | refine lH S ?_))))
      refine lk S (.there .here) (fun y hy => ?_) (fun hy => ?_)
      · simp only [okV]
        (refine mv ?_; refine vl ?_; refine vl ?_; (refine al S ?_; clear S; intro b h S); (first | (refine sB S rfl rfl ?_; clear S; intro h S) | (refine sE2 S rfl rfl ?_; clear S; intro h S)); refine mv ?_; refine KO_nil ?_)
        all_goals (repeat' (first | refine K_seq ?_ | refine k_cond rfl ?_ | refine K_skip ?_ | refine K_exit ?_ | refine k_block ?_ | refine K_scope ?_ | refine K_label ?_ | (refine K_region (id := 8) ?_; refine mv ?_; refine KO_nil ?_)))
        rw [Int.toNat_natCast, hgn] at hy
        exact ⟨(mp, dep), ⟨S.pick, I.skip (by rw [hy]; simp)⟩, ((by repeat (first | exact Ks.le_nil _ | refine Ks.le_cons rfl ?_ | refine Ks.le_int ?_)))⟩
      · rw [Int.toNat_natCast, hgn] at hy
        simp only [okV]
        (refine mv ?_; refine vl ?_; refine vl ?_; (refine al S ?_; clear S; intro b h S); (first | (refine sB S rfl rfl ?_; clear S; intro h S) | (refine sE2 S rfl rfl ?_; clear S; intro h S)); refine mv ?_; refine KO_nil ?_)
        skip
        all_goals (repeat' (first | refine K_seq ?_ | refine k_cond rfl ?_ | refine K_skip ?_ | refine K_exit ?_ | refine k_block ?_ | refine K_scope ?_ | refine K_label ?_ | (refine K_region (id := 8) ?_; refine mv ?_; refine KO_nil ?_) | (refine K_region (id := 9) ?_; refine mv ?_; (first | refine vl ?_ | refine fB S ?_ | refine fS S rfl rfl ?_ | refine fA ?_); (first | refine lB S rfl rfl ?_ | refine lES2 S rfl rfl ?_ | refine lEB S ?_ | refine lH S ?_); refine vl ?_)))
        simp only [Int.toNat_natCast, hgn]
        refine up (x := ((0 : Int), ([] : List UInt8))) (key := gnm r i) S (.there (.there .here)) (.there (.there .here)) (fun h S => ?_) (.inl rfl)
        have I0 := I.root hy hgk
        generalize hO : (fun x => mGet mp x ≠ none) = O at I0
        (refine KO_nil ?_)
        all_goals (repeat' (first | refine K_seq ?_ | refine k_cond rfl ?_ | refine K_skip ?_ | refine K_exit ?_ | refine k_block ?_ | refine K_scope ?_ | refine K_label ?_ | (refine K_region (id := 10) ?_; (first | refine vl ?_ | refine fB S ?_ | refine fS S rfl rfl ?_ | refine fA ?_); (first | refine lB S rfl rfl ?_ | refine lES2 S rfl rfl ?_ | refine lEB S ?_ | refine lH S ?_); (refine one 1 S ?_; clear S; intro u h S); refine mv ?_; refine KO_nil ?_)))
        simp only [Int.toNat_natCast, hgn] at S
        have S := S.one_ (enc := eS) (x := gnm r i)
        have S := (show Hs h0 h [.sl u 9 1 eS [gnm r i], .mp m eSp (mPut mp (gnm r i) (0, []))] from S.pick)
        refine k_loop (σ := CMap × (List UInt8 → Nat) × List (List UInt8) × Value) (fun (mp, dep, q, v9) h' => Hs h0 h' [.sl v9 9 1 eS q, .mp m eSp mp] ∧ SI r i O mp dep q) (fun (mp, dep, q, v9) => 2 * unm r (mp.map (·.1)) + q.length) (fun (mp, dep, q, v9) => [(0, .pointer (some ⟨p, 0, none⟩)), (4, .map (some m)), (9, v9), (25, s.vg.val), (26, .int .i64 s.gs.length), (27, .int .i64 i)]) (mPut mp (gnm r i) (0, []), depU dep (gnm r i) 0, [gnm r i], u) (by repeat (first | exact Ks.le_nil _ | refine Ks.le_cons rfl ?_ | refine Ks.le_int ?_)) ?_ ?_
        · exact ⟨S, I0⟩
        clear S I0 hy
        rintro ⟨mp, dep, q, v9⟩ h ⟨S, I⟩
        have hql := I.ql
        have hml := I.ci.len H
        all_goals (repeat' (first | refine K_seq ?_ | refine k_cond rfl ?_ | refine K_skip ?_ | refine K_exit ?_ | refine k_block ?_ | refine K_scope ?_ | refine K_label ?_ | (refine K_region (id := 11) ?_; refine mv ?_; (first | refine lnB S ?_ | refine lnS S rfl rfl ?_); (first | refine cT ?_ | refine cF ?_ | (refine cS ?_ ?_ <;> intro hc)) <;> (refine KO_nil ?_))))
        · have hq : q ≠ [] := fun e => by rw [e] at hc; simp at hc
          all_goals (repeat' (first | refine K_seq ?_ | refine k_cond rfl ?_ | refine K_skip ?_ | refine K_exit ?_ | refine k_block ?_ | refine K_scope ?_ | refine K_label ?_ | (refine K_region (id := 13) ?_; refine mv ?_; (first | refine ixB S ?_ | refine ixS2 S rfl rfl ?_); (first | refine lB S rfl rfl ?_ | refine lES2 S rfl rfl ?_ | refine lEB S ?_ | refine lH S ?_); refine mv ?_; refine KO_nil ?_) | (refine K_region (id := 14) ?_; refine mv ?_; refine mv ?_)))
          obtain ⟨n, hn⟩ : ∃ n, q.getD 0 default = n := ⟨_, rfl⟩
          have hn2 : n ∈ q := by
            rw [← hn]; exact mem_getD (List.length_pos_iff.2 hq)
          have hnm := (I.qm n hn2).1
          simp only [Int.toNat_zero, hn]
          (refine KO_fn rfl rfl rfl rfl rfl ((with_ok S.wf (B0.ext w S.ext) H n 2).mono ?_); rintro ul h ⟨l, x, l1, l2, l3⟩) <;> (replace S := S.join1 x; clear x; (first | refine lnB S ?_ | refine lnS S rfl rfl ?_); refine mv ?_; refine KO_nil ?_)
          all_goals (repeat' (first | refine K_seq ?_ | refine k_cond rfl ?_ | refine K_skip ?_ | refine K_exit ?_ | refine k_block ?_ | refine K_scope ?_ | refine K_label ?_ | (refine K_region (id := 11) ?_; refine mv ?_; (first | refine lnB S ?_ | refine lnS S rfl rfl ?_); (first | refine cT ?_ | refine cF ?_ | (refine cS ?_ ?_ <;> intro hc)) <;> (refine KO_nil ?_)) | (refine K_region (id := 13) ?_; refine mv ?_; (first | refine ixB S ?_ | refine ixS2 S rfl rfl ?_); (first | refine lB S rfl rfl ?_ | refine lES2 S rfl rfl ?_ | refine lEB S ?_ | refine lH S ?_); refine mv ?_; refine KO_nil ?_) | (refine K_region (id := 14) ?_; refine mv ?_; refine mv ?_) | (refine K_region (id := 24) ?_; (first | refine ad ?_ | refine vl ?_); refine mv ?_; refine KO_nil ?_)))
          obtain ⟨M, hM⟩ : ∃ M, 2 * unm r (mp.map (·.1)) + q.length = M := ⟨_, rfl⟩
          refine k_loop (σ := Nat × CMap × (List UInt8 → Nat) × List (List UInt8) × Value) (fun (j, mp, dep, q, v9) h' => Hs h0 h' [.sl ul 9 1 eS l, .sl v9 9 1 eS q, .mp m eSp mp] ∧ j ≤ l.length ∧ SI r i O mp dep q ∧ q ≠ [] ∧ q.getD 0 default = n ∧ (∀ k, k < j → mGet mp (l.getD k default) ≠ none ∧ cmM mp (l.getD k default) ≠ cmM mp n) ∧ 2 * unm r (mp.map (·.1)) + q.length ≤ M) (fun (j, mp, dep, q, v9) => l.length - j) (fun (j, mp, dep, q, v9) => [(0, .pointer (some ⟨p, 0, none⟩)), (4, .map (some m)), (9, v9), (10, str n), (25, s.vg.val), (26, .int .i64 s.gs.length), (27, .int .i64 i), (56, ul), (57, .int .i64 l.length), (58, .int .i64 j)]) (0, mp, dep, q, v9) (by repeat (first | exact Ks.le_nil _ | refine Ks.le_cons rfl ?_ | refine Ks.le_int ?_)) ?_ ?_
          · exact ⟨S, Nat.zero_le _, I, hq, hn, fun k hk => absurd hk (Nat.not_lt_zero _), Nat.le_of_eq hM⟩
          clear S I hq hn hn2 hnm hql
          rintro ⟨j, mp, dep, q, v9⟩ h ⟨S, k1, I, hq, hn, k2, k3⟩
          have hql := I.ql
          have hml := I.ci.len H
          have hn2 : n ∈ q := by
            rw [← hn]; exact mem_getD (List.length_pos_iff.2 hq)
          have hnm := (I.qm n hn2).1
          all_goals (repeat' (first | refine K_seq ?_ | refine k_cond rfl ?_ | refine K_skip ?_ | refine K_exit ?_ | refine k_block ?_ | refine K_scope ?_ | refine K_label ?_ | (refine K_region (id := 15) ?_; (first | refine cT ?_ | refine cF ?_ | (refine cS ?_ ?_ <;> intro hc)) <;> (refine KO_nil ?_))))
          · have hjl : j < l.length := by omega
            have hf := (l2 _).1 (mem_getD hjl)
            obtain ⟨f, hfe⟩ : ∃ f, l.getD j default = f := ⟨_, rfl⟩
            rw [hfe] at hf
            all_goals (repeat' (first | refine K_seq ?_ | refine k_cond rfl ?_ | refine K_skip ?_ | refine K_exit ?_ | refine k_block ?_ | refine K_scope ?_ | refine K_label ?_ | (refine K_region (id := 16) ?_; (first | refine ixB S ?_ | refine ixS2 S rfl rfl ?_); (first | refine lB S rfl rfl ?_ | refine lES2 S rfl rfl ?_ | refine lEB S ?_ | refine lH S ?_); refine mv ?_; refine KO_nil ?_) | (refine K_region (id := 17) ?_; refine mv ?_; refine mv ?_)))
            simp only [Int.toNat_natCast, hfe]
            refine lk S (.there (.there .here)) (fun y hy => ?_) (fun hy => ?_)
            · simp only [okV]
              (refine mv ?_; refine vl ?_; refine vl ?_; (refine al S ?_; clear S; intro b h S); (first | (refine sB S rfl rfl ?_; clear S; intro h S) | (refine sE2 S rfl rfl ?_; clear S; intro h S)); refine mv ?_; refine KO_nil ?_)
              all_goals (repeat' (first | refine K_seq ?_ | refine k_cond rfl ?_ | refine K_skip ?_ | refine K_exit ?_ | refine k_block ?_ | refine K_scope ?_ | refine K_label ?_ | (refine K_region (id := 18) ?_; refine mv ?_; refine vl ?_; refine mv ?_; refine KO_nil ?_) | (refine K_region (id := 21) ?_; (first | refine vl ?_ | refine fB S ?_ | refine fS S rfl rfl ?_ | refine fA ?_); (first | refine lB S rfl rfl ?_ | refine lES2 S rfl rfl ?_ | refine lEB S ?_ | refine lH S ?_); refine mv ?_; refine mv ?_)))
              refine lk S (.there (.there (.there .here))) (fun z hz => ?_) (fun hz => absurd hz hnm)
              simp only [okV]
              (refine vl ?_; (first | refine cT ?_ | refine cF ?_ | (refine cS ?_ ?_ <;> intro hc)) <;> (refine mv ?_; refine KO_nil ?_))
              all_goals (repeat' (first | refine K_seq ?_ | refine k_cond rfl ?_ | refine K_skip ?_ | refine K_exit ?_ | refine k_block ?_ | refine K_scope ?_ | refine K_label ?_))
              · have hcc : cmM mp f = cmM mp n := by rw [cmM_some hy, cmM_some hz]; exact hc
                have hfm : mGet mp f ≠ none := by rw [hy]; simp
                obtain ⟨r1, r2, r3, r4, r5⟩ := I.clash H hq hn hfm hf hcc
                have hMp : MpRd h m eSp mp := by
                  obtain ⟨es, clock, m1, m2, -⟩ := mp_get S (.there (.there (.there .here)))
                  exact ⟨es, clock, m1, m2⟩
                all_goals (repeat' (first | refine K_seq ?_ | refine k_cond rfl ?_ | refine K_skip ?_ | refine K_exit ?_ | refine k_block ?_ | refine K_scope ?_ | refine K_label ?_ | (refine K_region (id := 22) ?_; refine mv ?_; refine mv ?_; refine mv ?_; skip)))
                (refine KO_fn rfl rfl rfl rfl rfl ((ring_ok S.wf hMp I.ci.tree r1 hfm r2 hf r3 r4 r5).mono ?_); rintro vr h ⟨R, x, R1, R2⟩) <;> (replace S := S.join1 x; clear x; refine mv ?_; refine mv ?_; refine KO_nil ?_)
                all_goals (repeat' (first | refine K_seq ?_ | refine k_cond rfl ?_ | refine K_skip ?_ | refine K_exit ?_ | refine k_block ?_ | refine K_scope ?_ | refine K_label ?_))
                refine K_ret ⟨_, rfl, ?_⟩
                exact .inl ⟨vr, R, rfl, S.only .here, R1, R2⟩
              · have hcc : cmM mp f ≠ cmM mp n := by rw [cmM_some hy, cmM_some hz]; exact hc
                skip
                all_goals (repeat' (first | refine K_seq ?_ | refine k_cond rfl ?_ | refine K_skip ?_ | refine K_exit ?_ | refine k_block ?_ | refine K_scope ?_ | refine K_label ?_ | (refine K_region (id := 23) ?_; (first | refine ad ?_ | refine vl ?_); refine mv ?_; refine KO_nil ?_)))
                refine ⟨(j + 1, mp, dep, q, v9), ?_, ?_, (by repeat (first | exact Ks.le_nil _ | refine Ks.le_cons rfl ?_ | refine Ks.le_int ?_))⟩
                · show l.length - (j + 1) < l.length - j; omega
                · refine ⟨S.pick, by (try dsimp only); omega, I, hq, hn, nxtD k2 ?_, k3⟩
                  rw [hfe]; exact ⟨by rw [hy]; simp, hcc⟩
            · simp only [okV]
              (refine mv ?_; refine vl ?_; refine vl ?_; (refine al S ?_; clear S; intro b h S); (first | (refine sB S rfl rfl ?_; clear S; intro h S) | (refine sE2 S rfl rfl ?_; clear S; intro h S)); refine mv ?_; refine KO_nil ?_)
              skip
              all_goals (repeat' (first | refine K_seq ?_ | refine k_cond rfl ?_ | refine K_skip ?_ | refine K_exit ?_ | refine k_block ?_ | refine K_scope ?_ | refine K_label ?_ | (refine K_region (id := 18) ?_; refine mv ?_; refine vl ?_; refine mv ?_; refine KO_nil ?_) | (refine K_region (id := 19) ?_; refine mv ?_; refine mv ?_; refine mv ?_; refine mv ?_; skip)))
              refine lk S (.there (.there (.there .here))) (fun z hz => ?_) (fun hz => absurd hz hnm)
              simp only [okV]
              have ez : cmM mp n = z.1 := cmM_some hz
              have hzb : 0 ≤ z.1 ∧ z.1 ≤ 1 := by
                have := I.ci.camp n hnm
                rw [ez] at this; omega
              (refine vl ?_; (first | refine sb ?_ | refine vl ?_); refine mv ?_; refine vl ?_)
              have hfk := (adj_known H hf).2.1
              have hu := unm_put (p := (1 - z.1, n)) hy hfk
              have I2 := I.add hq hn hy hfk hf
              rw [ez] at I2
              refine up (x := (1 - z.1, n)) (key := f) S (.there (.there (.there .here))) (.there (.there (.there .here))) (fun h S => ?_) (.inl rfl)
              (refine KO_nil ?_)
              all_goals (repeat' (first | refine K_seq ?_ | refine k_cond rfl ?_ | refine K_skip ?_ | refine K_exit ?_ | refine k_block ?_ | refine K_scope ?_ | refine K_label ?_ | (refine K_region (id := 20) ?_; refine mv ?_; refine mv ?_; (refine one 1 S ?_; clear S; intro u h S))))
              refine app (y0 := f) S rfl rfl ?_; clear S; intro v9 h S; (refine mv ?_; refine KO_nil ?_)
              skip
              all_goals (repeat' (first | refine K_seq ?_ | refine k_cond rfl ?_ | refine K_skip ?_ | refine K_exit ?_ | refine k_block ?_ | refine K_scope ?_ | refine K_label ?_ | (refine K_region (id := 23) ?_; (first | refine ad ?_ | refine vl ?_); refine mv ?_; refine KO_nil ?_)))
              have nmf : ∀ {w : List UInt8}, mGet mp w ≠ none → w ≠ f := fun hw e => by rw [e] at hw; exact hw hy
              refine ⟨(j + 1, mPut mp f (1 - z.1, n), depU dep f (dep n + 1), q ++ [f], v9), ?_, ?_, (by repeat (first | exact Ks.le_nil _ | refine Ks.le_cons rfl ?_ | refine Ks.le_int ?_))⟩
              · show l.length - (j + 1) < l.length - j; omega
              · have hz1 : cmM (mPut mp f (1 - z.1, n)) n = cmM mp n := by rw [cmM_put, if_neg (nmf hnm)]
                refine ⟨S.pick, by (try dsimp only); omega, I2, by simp, by rw [getD0_app hq]; exact hn, nxtD (fun k hk => ?_) ?_, ?_⟩
                · obtain ⟨g1, g2⟩ := k2 k hk
                  rw [hz1, cmM_put, if_neg (nmf g1)]
                  exact ⟨(met_put _).2 (.inr g1), g2⟩
                · rw [hfe, hz1, cmM_put, if_pos rfl, ez]
                  refine ⟨(met_put _).2 (.inl rfl), ?_⟩
                  show 1 - z.1 ≠ z.1
                  omega
                · show 2 * unm r ((mPut mp f (1 - z.1, n)).map (·.1)) + (q ++ [f]).length ≤ M
                  rw [List.length_append, List.length_singleton]; omega
          · obtain rfl : j = l.length := by omega
            obtain ⟨n0, q', rfl⟩ : ∃ n0 q', q = n0 :: q' := by
              cases q with
              | nil => exact absurd rfl hq
              | cons a b => exact ⟨a, b, rfl⟩
            have en : n0 = n := hn
            subst en
            have I2 := I.pop fun z hz => by
              obtain ⟨k, k1, k2'⟩ := mem_iff_getD.1 ((l2 z).2 hz)
              have := k2 k k1
              rw [k2'] at this; exact this
            skip
            all_goals (repeat' (first | refine K_seq ?_ | refine k_cond rfl ?_ | refine K_skip ?_ | refine K_exit ?_ | refine k_block ?_ | refine K_scope ?_ | refine K_label ?_ | (refine K_region (id := 12) ?_; refine mv ?_; (refine dr S rfl rfl ?_; clear S; intro vq S); refine mv ?_; refine KO_nil ?_)))
            refine ⟨(mp, dep, q', vq), ?_, ?_, (by repeat (first | exact Ks.le_nil _ | refine Ks.le_cons rfl ?_ | refine Ks.le_int ?_))⟩
            · (try dsimp only)
              rw [hM]; simp at k3; omega
            · exact ⟨(show Hs h0 h [.sl vq 9 1 eS q', .mp m eSp mp] from S.tail), I2⟩
        · have hq : q = [] := by cases q with | nil => rfl | cons a b => simp at hc
          subst hq
          exact ⟨(mp, dep), ⟨S.only (.there .here), I.fin⟩, ((by repeat (first | exact Ks.le_nil _ | refine Ks.le_cons rfl ?_ | refine Ks.le_int ?_)))⟩
    · clear S
      rintro ⟨mp2, dep2⟩ h ⟨S, I2⟩
      skip
      all_goals (repeat' (first | refine K_seq ?_ | refine k_cond rfl ?_ | refine K_skip ?_ | refine K_exit ?_ | refine k_block ?_ | refine K_scope ?_ | refine K_label ?_ | (refine K_region (id := 24) ?_; (first | refine ad ?_ | refine vl ?_); refine mv ?_; refine KO_nil ?_)))
      refine ⟨(i + 1, mp2, dep2), ?_, ?_, (by repeat (first | exact Ks.le_nil _ | refine Ks.le_cons rfl ?_ | refine Ks.le_int ?_))⟩
      · show r.us.length - (i + 1) < r.us.length - i; omega
      · exact ⟨S, by (try dsimp only); omega, I2⟩
  · obtain rfl : i = r.us.length := by omega
    have CO := I.camps
    skip
    all_goals (repeat' (first | refine K_seq ?_ | refine k_cond rfl ?_ | refine K_skip ?_ | refine K_exit ?_ | refine k_block ?_ | refine K_scope ?_ | refine K_label ?_ | (refine K_region (id := 25) ?_; refine mv ?_; refine KO_nil ?_)))
    have S := S.nilS (e := 3) (z := 1) (enc := eI)
    have S := (show Hs h0 h [.sl (.slice none 0 0) 3 1 eI ((List.range 0).map fun i => cmM mp (gnm r i)), .mp m eSp mp] from S)
    all_goals (repeat' (first | refine K_seq ?_ | refine k_cond rfl ?_ | refine K_skip ?_ | refine K_exit ?_ | refine k_block ?_ | refine K_scope ?_ | refine K_label ?_ | (refine K_region (id := 26) ?_; refine mv ?_; refine vl ?_; (first | refine vl ?_ | refine fB S ?_ | refine fS S rfl rfl ?_ | refine fA ?_); (first | refine vl ?_ | refine fB S ?_ | refine fS S rfl rfl ?_ | refine fA ?_); (first | refine lB S rfl rfl ?_ | refine lES2 S rfl rfl ?_ | refine lEB S ?_ | refine lH S ?_); (first | refine lnB S ?_ | refine lnS S rfl rfl ?_); refine mv ?_; refine KO_nil ?_)))
    refine k_loop (σ := Nat × Value) (fun (j, v15) h' => Hs h0 h' [.sl v15 3 1 eI ((List.range j).map fun i => cmM mp (gnm r i)), .mp m eSp mp] ∧ j ≤ r.us.length) (fun (j, v15) => r.us.length - j) (fun (j, v15) => [(4, .map (some m)), (15, v15), (102, s.vg.val), (103, .int .i64 s.gs.length), (104, .int .i64 j)]) (0, .slice none 0 0) (by repeat (first | exact Ks.le_nil _ | refine Ks.le_cons rfl ?_ | refine Ks.le_int ?_)) ?_ ?_
    · exact ⟨S, Nat.zero_le _⟩
    clear S
    rintro ⟨j, v15⟩ h ⟨S, g2⟩
    have hjl2 : ((List.range j).map fun i => cmM mp (gnm r i)).length = j := by simp
    all_goals (repeat' (first | refine K_seq ?_ | refine k_cond rfl ?_ | refine K_skip ?_ | refine K_exit ?_ | refine k_block ?_ | refine K_scope ?_ | refine K_label ?_ | (refine K_region (id := 27) ?_; (first | refine cT ?_ | refine cF ?_ | (refine cS ?_ ?_ <;> intro hc)) <;> (refine KO_nil ?_))))
    · have hil : j < s.gs.length := by omega
      have hg := B.g hil
      have hgn : (s.gs.getD j default).name = gnm r j := by unfold gnm; rw [← hg]
      have hme := I.gm j (by omega)
      all_goals (repeat' (first | refine K_seq ?_ | refine k_cond rfl ?_ | refine K_skip ?_ | refine K_exit ?_ | refine k_block ?_ | refine K_scope ?_ | refine K_label ?_ | (refine K_region (id := 28) ?_; (first | refine ixB S ?_ | refine ixS2 S rfl rfl ?_); (first | refine lB S rfl rfl ?_ | refine lES2 S rfl rfl ?_ | refine lEB S ?_ | refine lH S ?_); (refine al S ?_; clear S; intro b h S); (first | (refine sB S rfl rfl ?_; clear S; intro h S) | (refine sE2 S rfl rfl ?_; clear S; intro h S)); refine KO_nil ?_) | (refine K_region (id := 29) ?_; refine mv ?_; refine mv ?_; (first | refine vl ?_ | refine fB S ?_ | refine fS S rfl rfl ?_ | refine fA ?_); (first | refine lB S rfl rfl ?_ | refine lES2 S rfl rfl ?_ | refine lEB S ?_ | refine lH S ?_))))
      simp only [Int.toNat_natCast, hgn]
      refine lk S (.there (.there .here)) (fun y hy => ?_) (fun hy => absurd hy hme)
      simp only [okV]
      (refine vl ?_; (refine one 1 S ?_; clear S; intro u h S))
      refine app (y0 := y.1) S rfl rfl ?_; clear S; intro v15 h S; (refine mv ?_; refine KO_nil ?_)
      skip
      all_goals (repeat' (first | refine K_seq ?_ | refine k_cond rfl ?_ | refine K_skip ?_ | refine K_exit ?_ | refine k_block ?_ | refine K_scope ?_ | refine K_label ?_ | (refine K_region (id := 30) ?_; (first | refine ad ?_ | refine vl ?_); refine mv ?_; refine KO_nil ?_)))
      refine ⟨(j + 1, v15), ?_, ?_, (by repeat (first | exact Ks.le_nil _ | refine Ks.le_cons rfl ?_ | refine Ks.le_int ?_))⟩
      · show r.us.length - (j + 1) < r.us.length - j; omega
      · have e1 : (List.range (j + 1)).map (fun i => cmM mp (gnm r i)) = (List.range j).map (fun i => cmM mp (gnm r i)) ++ [y.1] := by
          rw [List.range_succ, List.map_append, List.map_cons, cmM_some hy]; rfl
        refine ⟨?_, by (try dsimp only); omega⟩
        dsimp only
        rw [e1]
        exact S.pick
    · obtain rfl : j = r.us.length := by omega
      skip
      all_goals (repeat' (first | refine K_seq ?_ | refine k_cond rfl ?_ | refine K_skip ?_ | refine K_exit ?_ | refine k_block ?_ | refine K_scope ?_ | refine K_label ?_ | (refine K_region (id := 31) ?_; refine mv ?_; refine mv ?_; refine mv ?_; refine KO_nil ?_)))
      refine K_ret ⟨_, rfl, ?_⟩
      exact .inr ⟨v15, _, rfl, S.only .here, CO⟩
end Go.Proofs.Xx

/-
  BookCamps.
-/
namespace Go.Proofs.Xx
open Go Go.Proofs
set_option linter.unusedSimpArgs false
set_option linter.unusedVariables false
set_option linter.unusedSectionVars false
set_option maxRecDepth 100000
set_option maxHeartbeats 4000000

variable [Flag]
theorem bookCamps_true {h0 : AH} (w : WfH h0) (va vb : Value) (la lb : List Nat) (ra : RdL h0 va 1 e16 la) (rb : RdL h0 vb 1 eU lb) (hla : la.length ≤ 9223372036854775807) (hlb : lb.length ≤ 9223372036854775807) (h16 : ∀ i, i < la.length → la.getD i default < 65536) (h8 : ∀ i, i < lb.length → lb.getD i default < 256) :
    Fn Tryz.prog Xh 10 [va, vb] h0 (fun v _ => v = .bool true) := by
  have S := Hs.start w
  refine Fn_K rfl Tryz.func10 rfl rfl ?_
  all_goals (repeat' (first | refine K_seq ?_ | refine k_cond rfl ?_ | refine K_skip ?_ | refine K_exit ?_ | refine k_block ?_ | refine K_scope ?_ | refine K_label ?_ | (refine K_region (id := 0) ?_; refine mv ?_; refine KO_nil ?_) | (refine K_region (id := 1) ?_; refine mv ?_; refine mv ?_)))
  (refine KO_fn rfl rfl rfl rfl rfl ((made_ok w va vb la lb ra rb hla hlb h16 h8).mono ?_); rintro _ h ⟨⟨vg, vt, gs⟩, r, rfl, HR, H, hM, x⟩) <;> (replace S := S.join0 x; clear x; have w0 := w; have w := S.wf; have S := Hs.start w; (refine al S ?_; clear S; intro b h S); (first | (refine sB S rfl rfl ?_; clear S; intro h S) | (refine sE2 S rfl rfl ?_; clear S; intro h S)); refine KO_nil ?_)
  obtain ⟨b5, hnm⟩ : ∃ x, x = b := ⟨_, rfl⟩; subst hnm
  all_goals (repeat' (first | refine K_seq ?_ | refine k_cond rfl ?_ | refine K_skip ?_ | refine K_exit ?_ | refine k_block ?_ | refine K_scope ?_ | refine K_label ?_ | (refine K_region (id := 2) ?_; (first | refine lB S rfl rfl ?_ | refine lES2 S rfl rfl ?_ | refine lEB S ?_ | refine lH S ?_))))
  (refine KO_fn rfl rfl rfl rfl rfl ((book_ok S.wf ⟨vg, vt, gs⟩ r (HR.ext w S.ext) H).mono ?_); rintro _ h ⟨p, rfl, x⟩) <;> (replace S := S.join1 x; clear x; refine mv ?_; refine vl ?_; refine vl ?_; refine mv ?_; refine mv ?_; refine KO_nil ?_)
  all_goals (repeat' (first | refine K_seq ?_ | refine k_cond rfl ?_ | refine K_skip ?_ | refine K_exit ?_ | refine k_block ?_ | refine K_scope ?_ | refine K_label ?_ | (refine K_region (id := 3) ?_; refine mv ?_; refine vl ?_; refine KO_nil ?_) | (refine K_region (id := 4) ?_; refine mv ?_; refine KO_nil ?_) | (refine K_region (id := 5) ?_; refine mv ?_)))
  (refine KO_fn rfl rfl rfl rfl rfl ((camps_ok S.wf S.bkRd H).mono ?_); rintro _ h (⟨vr, R, rfl, x, RG, hl⟩ | ⟨vi, cs, rfl, x, C⟩)) <;> (replace S := S.join1 x; clear x; refine mv ?_; refine vl ?_; refine vl ?_; refine mv ?_; refine mv ?_; refine KO_nil ?_)
  · have hbk := Hs.bkRd (S.pick : Hs _ h [bookR p r])
    have hR := Rd.of_sl S .here
    clear w
    have w := S.wf
    replace S := Hs.start w
    obtain ⟨hB, hnm⟩ : ∃ x, x = h := ⟨_, rfl⟩; subst hnm
    have hR3 := RG.three
    have hnil := (Rd.none_ hB 1 : RdL hB (.slice none 0 0) 1 eI [])
    all_goals (repeat' (first | refine K_seq ?_ | refine k_cond rfl ?_ | refine K_skip ?_ | refine K_exit ?_ | refine k_block ?_ | refine K_scope ?_ | refine K_label ?_ | (refine K_region (id := 6) ?_; refine mv ?_; (first | refine lnB S ?_ | refine lnS S rfl rfl ?_); (first | refine cT ?_ | refine cF ?_ | (refine cS ?_ ?_ <;> intro hc)) <;> (refine KO_nil ?_)) | (refine K_region (id := 7) ?_; refine mv ?_; refine KO_nil ?_)))
    refine k_loop (σ := Nat) (fun i h' => Hs hB h' [] ∧ i ≤ R.length) (fun i => R.length - i) (fun i => [(6, .pointer (some ⟨p, 0, none⟩)), (8, .slice none 0 0), (9, vr), (10, .int .i64 i)]) 0 (by repeat (first | exact Ks.le_nil _ | refine Ks.le_cons rfl ?_ | refine Ks.le_int ?_)) ?_ ?_
    · exact ⟨S, Nat.zero_le _⟩
    clear S
    rintro i h ⟨S, g1⟩
    all_goals (repeat' (first | refine K_seq ?_ | refine k_cond rfl ?_ | refine K_skip ?_ | refine K_exit ?_ | refine k_block ?_ | refine K_scope ?_ | refine K_label ?_ | (refine K_region (id := 8) ?_; refine mv ?_; refine mv ?_; (first | refine lnB S ?_ | refine lnS S rfl rfl ?_); (first | refine cT ?_ | refine cF ?_ | (refine cS ?_ ?_ <;> intro hc)) <;> (refine KO_nil ?_))))
    · have hil : i < R.length := by omega
      have em : ((i : Int) + 1) % (R.length : Int) = (((i + 1) % R.length : Nat) : Int) := by push_cast; rfl
      have hml : (i + 1) % R.length < R.length := Nat.mod_lt _ (by omega)
      obtain ⟨t, ht1, ht2⟩ := tieOf_adj H (RG.adj i hil)
      all_goals (repeat' (first | refine K_seq ?_ | refine k_cond rfl ?_ | refine K_skip ?_ | refine K_exit ?_ | refine k_block ?_ | refine K_scope ?_ | refine K_label ?_ | (refine K_draw (id := 10) ?_; refine mv ?_; refine mv ?_; refine mv ?_; (first | refine ixB S ?_ | refine ixS2 S rfl rfl ?_); (first | refine lB S rfl rfl ?_ | refine lES2 S rfl rfl ?_ | refine lEB S ?_ | refine lH S ?_); refine mv ?_; refine mv ?_; (first | refine ad ?_ | refine vl ?_); refine mv ?_; (first | refine lnB S ?_ | refine lnS S rfl rfl ?_); (first | refine rm ?_ | refine vl ?_); (first | refine ixB S ?_ | refine ixS2 S rfl rfl ?_); (first | refine lB S rfl rfl ?_ | refine lES2 S rfl rfl ?_ | refine lEB S ?_ | refine lH S ?_))))
      simp only [Int.toNat_natCast, em]
      (refine KO_fn rfl rfl rfl rfl rfl ((tiedO_ok S.wf (hbk.ext w S.ext) H (R.getD i default) (R.getD ((i + 1) % R.length) default) (some t) ht1).mono ?_); rintro _ h ⟨rfl, x⟩) <;> (replace S := S.join0 x; clear x; refine mv ?_; refine vl ?_; refine vl ?_; refine mv ?_; refine mv ?_; refine KO_nil ?_)
      all_goals (repeat' (first | refine K_seq ?_ | refine k_cond rfl ?_ | refine K_skip ?_ | refine K_exit ?_ | refine k_block ?_ | refine K_scope ?_ | refine K_label ?_ | (refine K_region (id := 11) ?_; refine mv ?_; refine vl ?_; refine mv ?_; (first | refine off ?_ | refine mv ?_); (first | refine off ?_ | (first | refine cT ?_ | refine cF ?_ | (refine cS ?_ ?_ <;> intro hc))) <;> (refine vl ?_; refine KO_nil ?_)) | (refine K_region (id := 13) ?_; refine mv ?_; refine KO_nil ?_)))
      refine k_loop (σ := Nat) (fun k h' => Hs hB h' [] ∧ k ≤ i) (fun k => i - k) (fun k => [(6, .pointer (some ⟨p, 0, none⟩)), (8, .slice none 0 0), (9, vr), (10, .int .i64 i), (13, .int .i64 k)]) 0 (by repeat (first | exact Ks.le_nil _ | refine Ks.le_cons rfl ?_ | refine Ks.le_int ?_)) ?_ ?_
      · exact ⟨S, Nat.zero_le _⟩
      clear S
      rintro k h ⟨S, k1⟩
      all_goals (repeat' (first | refine K_seq ?_ | refine k_cond rfl ?_ | refine K_skip ?_ | refine K_exit ?_ | refine k_block ?_ | refine K_scope ?_ | refine K_label ?_ | (refine K_region (id := 14) ?_; refine mv ?_; refine mv ?_; (first | refine cT ?_ | refine cF ?_ | (refine cS ?_ ?_ <;> intro hc)) <;> (refine KO_nil ?_))))
      · have hki : k < i := by omega
        have hnd := RG.nd k i hki hil
        all_goals (repeat' (first | refine K_seq ?_ | refine k_cond rfl ?_ | refine K_skip ?_ | refine K_exit ?_ | refine k_block ?_ | refine K_scope ?_ | refine K_label ?_ | (refine K_draw (id := 16) ?_; refine mv ?_; refine mv ?_; (first | refine ixB S ?_ | refine ixS2 S rfl rfl ?_); (first | refine lB S rfl rfl ?_ | refine lES2 S rfl rfl ?_ | refine lEB S ?_ | refine lH S ?_); refine mv ?_; refine mv ?_; (first | refine ixB S ?_ | refine ixS2 S rfl rfl ?_); (first | refine lB S rfl rfl ?_ | refine lES2 S rfl rfl ?_ | refine lEB S ?_ | refine lH S ?_); (refine tS ?_ ?_ <;> intro hc) <;> (refine KO_nil ?_))))
        all_goals (try simp only [Int.toNat_natCast] at *)
        · exact absurd hc hnd
        · all_goals (repeat' (first | refine K_seq ?_ | refine k_cond rfl ?_ | refine K_skip ?_ | refine K_exit ?_ | refine k_block ?_ | refine K_scope ?_ | refine K_label ?_ | (refine K_region (id := 15) ?_; refine mv ?_; (first | refine ad ?_ | refine vl ?_); refine mv ?_; refine KO_nil ?_)))
          refine ⟨k + 1, ?_, ?_, (by repeat (first | exact Ks.le_nil _ | refine Ks.le_cons rfl ?_ | refine Ks.le_int ?_))⟩
          · show i - (k + 1) < i - k; omega
          · exact ⟨S, by omega⟩
      · all_goals (repeat' (first | refine K_seq ?_ | refine k_cond rfl ?_ | refine K_skip ?_ | refine K_exit ?_ | refine k_block ?_ | refine K_scope ?_ | refine K_label ?_ | (refine K_region (id := 9) ?_; refine mv ?_; (first | refine ad ?_ | refine vl ?_); refine mv ?_; refine KO_nil ?_)))
        refine ⟨i + 1, ?_, ?_, (by repeat (first | exact Ks.le_nil _ | refine Ks.le_cons rfl ?_ | refine Ks.le_int ?_))⟩
        · show R.length - (i + 1) < R.length - i; omega
        · exact ⟨S, by omega⟩
    · obtain rfl : i = R.length := by omega
      have hodd : (R.length : Int) % 2 = 1 := by have := RG.odd; omega
      skip
      all_goals (repeat' (first | refine K_seq ?_ | refine k_cond rfl ?_ | refine K_skip ?_ | refine K_exit ?_ | refine k_block ?_ | refine K_scope ?_ | refine K_label ?_ | (refine K_region (id := 18) ?_; refine mv ?_; (first | refine lnB S ?_ | refine lnS S rfl rfl ?_); (first | refine cT ?_ | refine cF ?_ | (refine cS ?_ ?_ <;> intro hc)) <;> (refine mv ?_; (first | refine off ?_ | refine mv ?_); (first | refine off ?_ | (first | refine lnB S ?_ | refine lnS S rfl rfl ?_)); (first | refine off ?_ | (first | refine rm ?_ | refine vl ?_)); (first | refine off ?_ | (first | refine cT ?_ | refine cF ?_ | (refine cS ?_ ?_ <;> intro hc))) <;> (refine vl ?_; refine mv ?_; (first | refine off ?_ | refine mv ?_); (first | refine off ?_ | (first | refine lnB S ?_ | refine lnS S rfl rfl ?_)); (first | refine off ?_ | (first | refine cT ?_ | refine cF ?_ | (refine cS ?_ ?_ <;> intro hc))) <;> (refine vl ?_; refine mv ?_; (first | (refine off ?_; refine vl ?_; refine mv ?_; refine KO_nil ?_) | skip)))))))
      (refine KO_fn rfl rfl rfl rfl rfl ((awake_okS S.wf).mono ?_); rintro _ h ⟨rfl, x⟩) <;> (replace S := S.join0 x; clear x; refine vl ?_; refine mv ?_; refine KO_nil ?_)
      all_goals (repeat' (first | refine K_seq ?_ | refine k_cond rfl ?_ | refine K_skip ?_ | refine K_exit ?_ | refine k_block ?_ | refine K_scope ?_ | refine K_label ?_ | (refine K_region (id := 18) ?_; refine mv ?_; (first | refine lnB S ?_ | refine lnS S rfl rfl ?_); (first | refine cT ?_ | refine cF ?_ | (refine cS ?_ ?_ <;> intro hc)) <;> (refine mv ?_; (first | refine off ?_ | refine mv ?_); (first | refine off ?_ | (first | refine lnB S ?_ | refine lnS S rfl rfl ?_)); (first | refine off ?_ | (first | refine rm ?_ | refine vl ?_)); (first | refine off ?_ | (first | refine cT ?_ | refine cF ?_ | (refine cS ?_ ?_ <;> intro hc))) <;> (refine vl ?_; refine mv ?_; (first | refine off ?_ | refine mv ?_); (first | refine off ?_ | (first | refine lnB S ?_ | refine lnS S rfl rfl ?_)); (first | refine off ?_ | (first | refine cT ?_ | refine cF ?_ | (refine cS ?_ ?_ <;> intro hc))) <;> (refine vl ?_; refine mv ?_; (first | (refine off ?_; refine vl ?_; refine mv ?_; refine KO_nil ?_) | skip)))))))
      refine K_ret ⟨_, rfl, ?_⟩
      rfl
  · have hbk := Hs.bkRd (S.pick : Hs _ h [bookR p r])
    have hC := Rd.of_sl S .here
    have hb5 : h.get b5 = some (.cells [vg.val, vt.val] 32 none false) := blk_get S (.there (.there .here))
    have hrg := HR.rg.ext w S.ext
    have hgl := HR.len
    have hcl := C.len
    have h64 := H.l64
    have w2 := w
    clear w
    have w := S.wf
    replace S := Hs.start w
    obtain ⟨hB, hnm⟩ : ∃ x, x = h := ⟨_, rfl⟩; subst hnm
    simp only at hrg hgl
    have hnil := (Rd.none_ hB 1 : RdL hB (.slice none 0 0) 1 eS [])
    all_goals (repeat' (first | refine K_seq ?_ | refine k_cond rfl ?_ | refine K_skip ?_ | refine K_exit ?_ | refine k_block ?_ | refine K_scope ?_ | refine K_label ?_ | (refine K_region (id := 6) ?_; refine mv ?_; (first | refine lnB S ?_ | refine lnS S rfl rfl ?_); (first | refine cT ?_ | refine cF ?_ | (refine cS ?_ ?_ <;> intro hc)) <;> (refine KO_nil ?_)) | (refine K_region (id := 19) ?_; refine mv ?_; (first | refine lnB S ?_ | refine lnS S rfl rfl ?_); (first | refine vl ?_ | refine fB S ?_ | refine fS S rfl rfl ?_ | refine fA ?_); (first | refine lB S rfl rfl ?_ | refine lES2 S rfl rfl ?_ | refine lEB S ?_ | refine lH S ?_); (first | refine lnB S ?_ | refine lnS S rfl rfl ?_); (first | refine cT ?_ | refine cF ?_ | (refine cS ?_ ?_ <;> intro hc)) <;> (refine KO_nil ?_)) | (refine K_region (id := 21) ?_; refine mv ?_; refine KO_nil ?_)))
    refine k_loop (σ := Nat) (fun i h' => Hs hB h' [] ∧ i ≤ cs.length) (fun i => cs.length - i) (fun i => [(5, .pointer (some ⟨b5, 0, none⟩)), (6, .pointer (some ⟨p, 0, none⟩)), (8, vi), (14, .int .i64 i)]) 0 (by repeat (first | exact Ks.le_nil _ | refine Ks.le_cons rfl ?_ | refine Ks.le_int ?_)) ?_ ?_
    · exact ⟨S, Nat.zero_le _⟩
    clear S
    rintro i h ⟨S, g1⟩
    all_goals (repeat' (first | refine K_seq ?_ | refine k_cond rfl ?_ | refine K_skip ?_ | refine K_exit ?_ | refine k_block ?_ | refine K_scope ?_ | refine K_label ?_ | (refine K_region (id := 22) ?_; refine mv ?_; refine mv ?_; (first | refine lnB S ?_ | refine lnS S rfl rfl ?_); (first | refine cT ?_ | refine cF ?_ | (refine cS ?_ ?_ <;> intro hc)) <;> (refine KO_nil ?_))))
    · have hil : i < cs.length := by omega
      have hb := C.b i hil
      have ei : (gs.getD i default).name = gnm r i := by
        have := HR.at_ (show i < gs.length by omega)
        unfold gnm; rw [← this]
      (repeat (refine K_seq ?_)); first | refine K_joinR (σ := Unit) (fun _ h' => Hs hB h' []) (fun _ => [(5, .pointer (some ⟨b5, 0, none⟩)), (6, .pointer (some ⟨p, 0, none⟩)), (8, vi), (14, .int .i64 i)]) ?_ ?_ | refine K_join (σ := Unit) (fun _ h' => Hs hB h' []) (fun _ => [(5, .pointer (some ⟨b5, 0, none⟩)), (6, .pointer (some ⟨p, 0, none⟩)), (8, vi), (14, .int .i64 i)]) ?_ ?_
      · all_goals (repeat' (first | refine K_seq ?_ | refine k_cond rfl ?_ | refine K_skip ?_ | refine K_exit ?_ | refine k_block ?_ | refine K_scope ?_ | refine K_label ?_ | (refine K_region (id := 24) ?_; refine mv ?_; refine mv ?_; (first | refine ixB S ?_ | refine ixS2 S rfl rfl ?_); (first | refine lB S rfl rfl ?_ | refine lES2 S rfl rfl ?_ | refine lEB S ?_ | refine lH S ?_); (first | refine cT ?_ | refine cF ?_ | (refine cS ?_ ?_ <;> intro hc)) <;> (refine mv ?_; (first | refine off ?_ | refine mv ?_); (first | refine off ?_ | refine mv ?_); (first | refine off ?_ | (first | refine ixB S ?_ | refine ixS2 S rfl rfl ?_)); (first | refine off ?_ | (first | refine lB S rfl rfl ?_ | refine lES2 S rfl rfl ?_ | refine lEB S ?_ | refine lH S ?_)); (first | refine off ?_ | (first | refine cT ?_ | refine cF ?_ | (refine cS ?_ ?_ <;> intro hc))) <;> (refine vl ?_; refine KO_nil ?_)))))
        all_goals simp only [Int.toNat_natCast] at *
        all_goals first
          | exact ⟨(), S, ((by repeat (first | exact Ks.le_nil _ | refine Ks.le_cons rfl ?_ | refine Ks.le_int ?_)))⟩
          | (exfalso; omega)
      clear S
      rintro - h S
      skip
      all_goals (repeat' (first | refine K_seq ?_ | refine k_cond rfl ?_ | refine K_skip ?_ | refine K_exit ?_ | refine k_block ?_ | refine K_scope ?_ | refine K_label ?_ | (refine K_region (id := 26) ?_; refine mv ?_; refine KO_nil ?_)))
      refine k_loop (σ := Nat) (fun k h' => Hs hB h' [] ∧ k ≤ i) (fun k => i - k) (fun k => [(5, .pointer (some ⟨b5, 0, none⟩)), (6, .pointer (some ⟨p, 0, none⟩)), (8, vi), (14, .int .i64 i), (15, .int .i64 k)]) 0 (by repeat (first | exact Ks.le_nil _ | refine Ks.le_cons rfl ?_ | refine Ks.le_int ?_)) ?_ ?_
      · exact ⟨S, Nat.zero_le _⟩
      clear S
      rintro k h ⟨S, k1⟩
      all_goals (repeat' (first | refine K_seq ?_ | refine k_cond rfl ?_ | refine K_skip ?_ | refine K_exit ?_ | refine k_block ?_ | refine K_scope ?_ | refine K_label ?_ | (refine K_region (id := 27) ?_; refine mv ?_; refine mv ?_; (first | refine cT ?_ | refine cF ?_ | (refine cS ?_ ?_ <;> intro hc)) <;> (refine KO_nil ?_))))
      · have hki : k < i := by omega
        have ek : (gs.getD k default).name = gnm r k := by
          have := HR.at_ (show k < gs.length by omega)
          unfold gnm; rw [← this]
        all_goals (repeat' (first | refine K_seq ?_ | refine k_cond rfl ?_ | refine K_skip ?_ | refine K_exit ?_ | refine k_block ?_ | refine K_scope ?_ | refine K_label ?_ | (refine K_draw (id := 29) ?_; refine mv ?_; (first | refine vl ?_ | refine fB S ?_ | refine fS S rfl rfl ?_ | refine fA ?_); (first | refine lB S rfl rfl ?_ | refine lES2 S rfl rfl ?_ | refine lEB S ?_ | refine lH S ?_); refine mv ?_; (first | refine ixB S ?_ | refine ixS2 S rfl rfl ?_); (first | refine vl ?_ | refine fB S ?_ | refine fS S rfl rfl ?_ | refine fA ?_); (first | refine lB S rfl rfl ?_ | refine lES2 S rfl rfl ?_ | refine lEB S ?_ | refine lH S ?_); (first | refine vl ?_ | refine fB S ?_ | refine fS S rfl rfl ?_ | refine fA ?_); (first | refine lB S rfl rfl ?_ | refine lES2 S rfl rfl ?_ | refine lEB S ?_ | refine lH S ?_); refine mv ?_; (first | refine ixB S ?_ | refine ixS2 S rfl rfl ?_); (first | refine vl ?_ | refine fB S ?_ | refine fS S rfl rfl ?_ | refine fA ?_); (first | refine lB S rfl rfl ?_ | refine lES2 S rfl rfl ?_ | refine lEB S ?_ | refine lH S ?_))))
        simp only [Int.toNat_natCast, ei, ek]
        (refine KO_fn rfl rfl rfl rfl rfl ((tiedC_ok S.wf (hbk.ext w S.ext) H (gnm r i) (gnm r k)).mono ?_); rintro _ h ⟨⟨t, ht, rfl⟩ | ⟨ht, rfl⟩, x⟩) <;> (replace S := S.join0 x; clear x; refine mv ?_; refine vl ?_; refine vl ?_; refine mv ?_; refine mv ?_; refine KO_nil ?_)
        · have hne : t.k = 2 → cs.getD i default ≠ cs.getD k default := fun q => C.ne i k hil (by omega) (q ▸ adj_tieOf ht)
          skip
          all_goals (repeat' (first | refine K_seq ?_ | refine k_cond rfl ?_ | refine K_skip ?_ | refine K_exit ?_ | refine k_block ?_ | refine K_scope ?_ | refine K_label ?_ | (refine K_draw (id := 30) ?_; refine mv ?_; refine mv ?_; (first | refine off ?_ | refine mv ?_); (first | refine off ?_ | (first | refine cT ?_ | refine cF ?_ | (refine cS ?_ ?_ <;> intro hc))) <;> (refine vl ?_; refine mv ?_; (first | refine off ?_ | refine mv ?_); (first | refine off ?_ | refine mv ?_); (first | refine off ?_ | (first | refine ixB S ?_ | refine ixS2 S rfl rfl ?_)); (first | refine off ?_ | (first | refine lB S rfl rfl ?_ | refine lES2 S rfl rfl ?_ | refine lEB S ?_ | refine lH S ?_)); (first | refine off ?_ | refine mv ?_); (first | refine off ?_ | refine mv ?_); (first | refine off ?_ | (first | refine ixB S ?_ | refine ixS2 S rfl rfl ?_)); (first | refine off ?_ | (first | refine lB S rfl rfl ?_ | refine lES2 S rfl rfl ?_ | refine lEB S ?_ | refine lH S ?_)); (first | refine off ?_ | (first | refine cT ?_ | refine cF ?_ | (refine cS ?_ ?_ <;> intro hc))) <;> (refine vl ?_; refine KO_nil ?_)))))
          all_goals (try simp only [Int.toNat_natCast] at *)
          · exact absurd (by assumption) (hne (by assumption))
          · skip
            all_goals (repeat' (first | refine K_seq ?_ | refine k_cond rfl ?_ | refine K_skip ?_ | refine K_exit ?_ | refine k_block ?_ | refine K_scope ?_ | refine K_label ?_ | (refine K_region (id := 28) ?_; refine mv ?_; (first | refine ad ?_ | refine vl ?_); refine mv ?_; refine KO_nil ?_)))
            refine ⟨k + 1, ?_, ?_, (by repeat (first | exact Ks.le_nil _ | refine Ks.le_cons rfl ?_ | refine Ks.le_int ?_))⟩
            · show i - (k + 1) < i - k; omega
            · exact ⟨S, by omega⟩
          · skip
            all_goals (repeat' (first | refine K_seq ?_ | refine k_cond rfl ?_ | refine K_skip ?_ | refine K_exit ?_ | refine k_block ?_ | refine K_scope ?_ | refine K_label ?_ | (refine K_region (id := 28) ?_; refine mv ?_; (first | refine ad ?_ | refine vl ?_); refine mv ?_; refine KO_nil ?_)))
            refine ⟨k + 1, ?_, ?_, (by repeat (first | exact Ks.le_nil _ | refine Ks.le_cons rfl ?_ | refine Ks.le_int ?_))⟩
            · show i - (k + 1) < i - k; omega
            · exact ⟨S, by omega⟩
        · skip
          all_goals (repeat' (first | refine K_seq ?_ | refine k_cond rfl ?_ | refine K_skip ?_ | refine K_exit ?_ | refine k_block ?_ | refine K_scope ?_ | refine K_label ?_ | (refine K_region (id := 28) ?_; refine mv ?_; (first | refine ad ?_ | refine vl ?_); refine mv ?_; refine KO_nil ?_) | (refine K_draw (id := 30) ?_; refine mv ?_; refine mv ?_; (first | refine off ?_ | refine mv ?_); (first | refine off ?_ | (first | refine cT ?_ | refine cF ?_ | (refine cS ?_ ?_ <;> intro hc))) <;> (refine vl ?_; refine mv ?_; (first | refine off ?_ | refine mv ?_); (first | refine off ?_ | refine mv ?_); (first | refine off ?_ | (first | refine ixB S ?_ | refine ixS2 S rfl rfl ?_)); (first | refine off ?_ | (first | refine lB S rfl rfl ?_ | refine lES2 S rfl rfl ?_ | refine lEB S ?_ | refine lH S ?_)); (first | refine off ?_ | refine mv ?_); (first | refine off ?_ | refine mv ?_); (first | refine off ?_ | (first | refine ixB S ?_ | refine ixS2 S rfl rfl ?_)); (first | refine off ?_ | (first | refine lB S rfl rfl ?_ | refine lES2 S rfl rfl ?_ | refine lEB S ?_ | refine lH S ?_)); (first | refine off ?_ | (first | refine cT ?_ | refine cF ?_ | (refine cS ?_ ?_ <;> intro hc))) <;> (refine vl ?_; refine KO_nil ?_)))))
          refine ⟨k + 1, ?_, ?_, (by repeat (first | exact Ks.le_nil _ | refine Ks.le_cons rfl ?_ | refine Ks.le_int ?_))⟩
          · show i - (k + 1) < i - k; omega
          · exact ⟨S, by omega⟩
      · all_goals (repeat' (first | refine K_seq ?_ | refine k_cond rfl ?_ | refine K_skip ?_ | refine K_exit ?_ | refine k_block ?_ | refine K_scope ?_ | refine K_label ?_ | (refine K_region (id := 23) ?_; refine mv ?_; (first | refine ad ?_ | refine vl ?_); refine mv ?_; refine KO_nil ?_)))
        refine ⟨i + 1, ?_, ?_, (by repeat (first | exact Ks.le_nil _ | refine Ks.le_cons rfl ?_ | refine Ks.le_int ?_))⟩
        · show cs.length - (i + 1) < cs.length - i; omega
        · exact ⟨S, by omega⟩
    · obtain rfl : i = cs.length := by omega
      skip
      have hz0 : 0 < cs.length → cs.getD 0 default = 0 := fun q => by
        rcases C.z 0 q with z | ⟨k, k1, -⟩
        · exact z
        · omega
      all_goals (repeat' (first | refine K_seq ?_ | refine k_cond rfl ?_ | refine K_skip ?_ | refine K_exit ?_ | refine k_block ?_ | refine K_scope ?_ | refine K_label ?_ | (refine K_region (id := 32) ?_; refine mv ?_; (first | refine lnB S ?_ | refine lnS S rfl rfl ?_); (first | refine cT ?_ | refine cF ?_ | (refine cS ?_ ?_ <;> intro hc)) <;> (refine mv ?_; (first | refine off ?_ | refine mv ?_); (first | refine off ?_ | (first | refine ixB S ?_ | refine ixS2 S rfl rfl ?_)); (first | refine off ?_ | (first | refine lB S rfl rfl ?_ | refine lES2 S rfl rfl ?_ | refine lEB S ?_ | refine lH S ?_)); (first | refine off ?_ | (first | refine cT ?_ | refine cF ?_ | (refine cS ?_ ?_ <;> intro hc))) <;> (refine vl ?_; refine mv ?_; (first | (refine off ?_; refine vl ?_; refine mv ?_; refine KO_nil ?_) | skip))))))
      · (refine KO_fn rfl rfl rfl rfl rfl ((awake_okS S.wf).mono ?_); rintro _ h ⟨rfl, x⟩) <;> (replace S := S.join0 x; clear x; refine vl ?_; refine mv ?_; refine KO_nil ?_)
        all_goals (repeat' (first | refine K_seq ?_ | refine k_cond rfl ?_ | refine K_skip ?_ | refine K_exit ?_ | refine k_block ?_ | refine K_scope ?_ | refine K_label ?_ | (refine K_region (id := 32) ?_; refine mv ?_; (first | refine lnB S ?_ | refine lnS S rfl rfl ?_); (first | refine cT ?_ | refine cF ?_ | (refine cS ?_ ?_ <;> intro hc)) <;> (refine mv ?_; (first | refine off ?_ | refine mv ?_); (first | refine off ?_ | (first | refine ixB S ?_ | refine ixS2 S rfl rfl ?_)); (first | refine off ?_ | (first | refine lB S rfl rfl ?_ | refine lES2 S rfl rfl ?_ | refine lEB S ?_ | refine lH S ?_)); (first | refine off ?_ | (first | refine cT ?_ | refine cF ?_ | (refine cS ?_ ?_ <;> intro hc))) <;> (refine vl ?_; refine mv ?_; (first | (refine off ?_; refine vl ?_; refine mv ?_; refine KO_nil ?_) | skip))))))
        refine K_ret ⟨_, rfl, ?_⟩
        rfl
      · (refine KO_fn rfl rfl rfl rfl rfl ((awake_okS S.wf).mono ?_); rintro _ h ⟨rfl, x⟩) <;> (replace S := S.join0 x; clear x; refine vl ?_; refine mv ?_; refine KO_nil ?_)
        all_goals (repeat' (first | refine K_seq ?_ | refine k_cond rfl ?_ | refine K_skip ?_ | refine K_exit ?_ | refine k_block ?_ | refine K_scope ?_ | refine K_label ?_))
        refine K_ret ⟨_, rfl, ?_⟩
        rfl
      · exact absurd (hz0 (by omega)) (by assumption)
end Go.Proofs.Xx

/-
  The core of BookCamps.
-/
namespace Go.Proofs.Xx
open Go Go.Proofs
set_option linter.unusedSimpArgs false
set_option linter.unusedVariables false
set_option linter.unusedSectionVars false
set_option maxRecDepth 100000

theorem bookCamps_core [Flag] (h : AH) (us : List Value) (w : WfH h) (a : ArgsR Tryz.prog h Tryz.f10.params.toList us) : Fn Tryz.prog Xh 10 us h (fun x _ => x = .bool true) := by
  rw [show Tryz.f10.params.toList = [37, 38] by kernel_rfl] at a
  obtain ⟨n0, r0, us, rfl, a0, a⟩ := a.cons_inv
  obtain ⟨n1, r1, us, rfl, a1, a⟩ := a.cons_inv
  obtain rfl := a.nil_inv
  obtain ⟨va, la, rfl, ra, la1, -, la2⟩ := a0.e16s
  obtain ⟨vb, lb, rfl, rb, lb1, -, lb2⟩ := a1.e8s
  unfold maxLen at la1 lb1
  exact bookCamps_true w va vb la lb ra rb (by omega) (by omega) la2 lb2
end Go.Proofs.Xx

/-
  What lies in every world that fits: a number for the longest needle of a quick search; the functions that are known.
-/
namespace Go.Proofs.Xx
open Go Go.RowKit Go.Proofs
theorem Xh_none [Flag] (f : FuncId) (h1 : f ≠ 19) (h2 : f ≠ 203) (h3 : f ≠ 182) (h4 : f ≠ 222) (h5 : f ≠ 184) (h6 : f ≠ 194) (h7 : f ≠ 135) (h8 : f ≠ 187) (h9 : f ≠ 88) (us : List Value) (h : AH) : Xh f us h = none := by
  have e : ∀ n, f ≠ n → Nat.beq f n = false := fun n q => by rw [Bool.eq_false_iff]; intro q'; exact q (Nat.eq_of_beq_eq_true q')
  unfold Xh withDigits withKnown Xd withIns X0 withIdx withOvl withCmp withBytes externNoEscape
  simp only [e _ h1, e _ h2, e _ h3, e _ h4, e _ h5, e _ h6, e _ h7, e _ h8, e _ h9]
theorem max_there {W : World} (h : W.ShapedOpen Tryz.prog) : 1 < W.heap.size ∧ ∃ m el fr, W.heap[0]? = some (.cells #[.int .i64 m] el fr) := by
  have h0 : ((begin Tryz.prog (fun _ _ => 0) default).world.heap[0]?).bind Obj.row? = some (#[.int .i64 0], 3) := by kernel_rfl
  obtain ⟨m, hm⟩ := cell_of_shapedOpen_int h (g := 0) (t := 3) (of_decide_eq_true (by kernel_rfl)) h0 rfl (by kernel_rfl) (by kernel_rfl) Tryz.underlying3
  obtain ⟨cs, hh, hs, -⟩ := h.1 0 _ 3 (of_decide_eq_true (by kernel_rfl)) h0
  refine ⟨?_, m, 3, (0, 0), ?_⟩
  · have h1 : (((begin Tryz.prog (fun _ _ => 0) default).world.heap[1]?).bind Obj.row?).isSome = true := by kernel_rfl
    obtain ⟨⟨z, t⟩, h1⟩ := Option.isSome_iff_exists.1 h1
    obtain ⟨cs, hh, -⟩ := h.1 1 z t (of_decide_eq_true (by kernel_rfl)) h1
    exact (Array.getElem?_eq_some_iff.1 hh).1
  · rw [hh]
    have : cs = #[.int .i64 m] := by
      simp only [World.cell?, hh] at hm
      obtain ⟨l⟩ := cs
      match l, hs, hm with
      | [x], _, hm => simp at hm; rw [hm]
      | [], hs, _ => cases hs
      | _ :: _ :: _, hs, _ => simp at hs
    rw [this]
theorem cells_there {W : World} (h : W.ShapedOpen Tryz.prog) : ∃ (k : Nat) (cc : Array Value) (el : TypeId) (fr : Nat × Nat), W.heap[k]? = some (.cells cc el fr) := by
  obtain ⟨-, m, el, fr, q⟩ := max_there h
  exact ⟨0, _, el, fr, q⟩
theorem glob_there [Flag] (hf : Flag.b = false) {W : World} (h : W.ShapedOpen Tryz.prog) : Glob.ok W.heap.size W.heap :=
  ⟨(max_there h).1, (max_there h).2, fun q => (by rw [hf] at q; cases q)⟩
end Go.Proofs.Xx
