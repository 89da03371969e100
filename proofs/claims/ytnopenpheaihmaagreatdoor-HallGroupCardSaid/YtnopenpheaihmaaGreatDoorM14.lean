/-
  hall.Compose of ints.
-/
import Derived.Test.YtnopenpheaihmaaGreatDoorM13
import Derived.Test.YtnopenpheaihmaaGreatDoorM10
import Derived.Test.YtnopenpheaihmaaGreatDoorM11
import Derived.Test.YtnopenpheaihmaaGreatDoorM8

namespace Go.Proofs.Xx
open Go Go.Proofs
set_option linter.unusedSimpArgs false
set_option linter.unusedVariables false

def compTo (p q : List Int) (i : Nat) : List Int := (q.take i).map (fun x => p.getD x.toNat 0) ++ List.replicate (q.length - i) 0
theorem compTo_zero (p q : List Int) : ints (compTo p q 0) = zeroRow [.int .i64 0] q.length := by rw [zeroRow_one]; simp [compTo, ints]
theorem compTo_succ {p q : List Int} {i : Nat} (hi : i < q.length) : (compTo p q i).set i (p.getD (q[i]).toNat 0) = compTo p q (i + 1) := by
  unfold compTo
  have h1 : ((q.take i).map (fun x => p.getD x.toNat 0)).length = i := by simp; omega
  rw [List.set_append_right _ _ (by omega), h1, Nat.sub_self, List.take_succ_eq_append_getElem hi, List.map_append]
  rw [show q.length - i = (q.length - (i + 1)) + 1 by omega, List.replicate_succ]
  simp
def compose (p q : List Int) : List Int := q.map (fun x => p.getD x.toNat 0)
theorem compTo_all (p q : List Int) : compTo p q q.length = compose p q := by simp [compTo, compose]
def compOk (p q : List Int) : Bool := decide (p.length = q.length) && (permOk p && permOk q)

theorem compose_ints {h : AH} {v u : Value} {p q : List Int} (w : WfH h) (rp : RdI h v p) (rq : RdI h u q) (hp : p.length < 2^30) (hq : q.length < 2^30) :
    Fn Tryz.prog Xh 60 [v, u] h (fun x h' => RdI h' x (if compOk p q then compose p q else []) ∧ Ext h h') := by
  refine Fn_K rfl Tryz.func60 rfl rfl ?_
  refine K_seq (K_region (KO_val rfl rfl rfl (KO_nil ?_)))
  refine K_seq (K_seq (K_region (KO.mono (R' := fun L' h' => Ext h h' ∧ Ks.le [(0, v), (1, u), (21, .bool (!compOk p q))] L') ?_ ?_)))
  · refine KO_val rfl rfl rfl ?_
    refine KO_len rfl rfl rfl (rp.len und23) rfl ?_
    refine KO_val rfl rfl rfl ?_
    refine KO_len rfl rfl rfl (rq.len und23) rfl ?_
    by_cases hl : p.length = q.length
    · refine KO_bin rfl rfl rfl rfl (neq_i64 (v := false) (decide_eq_true (by omega))) rfl ?_
      refine KO_val rfl rfl rfl ?_
      refine KO_val rfl rfl rfl ?_
      refine KO_fn rfl rfl rfl rfl rfl ((permutation_ok w rp hp).mono ?_)
      rintro x h1 ⟨rfl, x1⟩
      cases hpp : permOk p with
      | true =>
        iterate 4 refine KO_val rfl rfl rfl ?_
        refine KO_fn rfl rfl rfl rfl rfl ((permutation_ok x1.wf (rq.ext w x1) hq).mono ?_)
        rintro x h2 ⟨rfl, x2⟩
        refine KO_val rfl rfl rfl ?_
        refine KO_val rfl rfl rfl (KO_nil ?_)
        refine ⟨x1.trans x2, Ks.le_cons rfl (Ks.le_cons rfl (Ks.le_cons ?_ (Ks.le_nil _)))⟩
        rw [show compOk p q = permOk q by simp [compOk, hl, hpp]]; rfl
      | false =>
        iterate 3 refine KO_val rfl rfl rfl ?_
        iterate 3 refine KO_off rfl rfl ?_
        refine KO_val rfl rfl rfl (KO_nil ?_)
        refine ⟨x1, Ks.le_cons rfl (Ks.le_cons rfl (Ks.le_cons ?_ (Ks.le_nil _)))⟩
        rw [show compOk p q = false by simp [compOk, hpp]]; rfl
    · refine KO_bin rfl rfl rfl rfl (neq_i64 (v := true) (decide_eq_false (by omega))) rfl ?_
      refine KO_val rfl rfl rfl ?_
      iterate 3 refine KO_off rfl rfl ?_
      iterate 2 refine KO_val rfl rfl rfl ?_
      iterate 3 refine KO_off rfl rfl ?_
      refine KO_val rfl rfl rfl (KO_nil ?_)
      refine ⟨Ext.refl w, Ks.le_cons rfl (Ks.le_cons rfl (Ks.le_cons ?_ (Ks.le_nil _)))⟩
      rw [show compOk p q = false by simp [compOk, hl]]; rfl
  rintro L' h1 ⟨x1, hle⟩
  refine K.le hle ?_
  cases hok : compOk p q with
  | false =>
    refine K_cond rfl ?_
    refine K_seq (K_region (KO_val rfl rfl rfl (KO_nil ?_)))
    refine K_ret ⟨_, rfl, ?_, x1⟩
    exact Rd.none_ _ 1
  | true =>
    have hh : p.length = q.length ∧ permOk p = true ∧ permOk q = true := by simpa [compOk] using hok
    obtain ⟨hl, hpp, hqq⟩ := hh
    have hin : ∀ x ∈ q, 0 ≤ x ∧ x < q.length := (of_decide_eq_true hqq).1
    have rp1 := rp.ext w x1
    have rq1 := rq.ext w x1
    refine K_cond rfl (K_skip ?_)
    refine K_seq (K_region ?_)
    refine KO_val rfl rfl rfl ?_
    refine KO_len rfl rfl rfl (rp1.len und23) rfl ?_
    rw [hl]
    obtain ⟨s, h2, m1, m2, m3⟩ := make_own x1.wf el23 z3 by3 (n := q.length) (by omega)
    refine KO_make rfl rfl rfl rfl m1 rfl ?_
    refine KO_val rfl rfl rfl (KO_nil ?_)
    rw [← compTo_zero p q] at m2
    have x2 := x1.trans m3
    refine K_seq (K_seq (K_region ?_))
    refine KO_val rfl rfl rfl ?_
    refine KO_len rfl rfl rfl (m2.rd.len und23) rfl ?_
    refine KO_val rfl rfl rfl (KO_nil ?_)
    refine K_block ?_
    refine K_loop (fun m L h3 => Ext h h3 ∧ ∃ i : Nat, m + i = q.length ∧ Own h3 s h1.next 3 1 q.length (ints (compTo p q i)) ∧ L = [(0, v), (1, u), (5, s), (26, .int .i64 q.length), (27, .int .i64 i)]) ?_ q.length
      ⟨x2, 0, rfl, m2, rfl⟩ (by repeat (first | exact Ks.le_nil _ | refine Ks.le_cons rfl ?_))
    rintro m L h3 ⟨x3, i, him, own, rfl⟩
    have rp3 := rp.ext w x3
    have rq3 := rq.ext w x3
    refine K_seq (K_region (KO_val rfl rfl rfl (KO_nil ?_)))
    refine K_seq ?_
    refine K_cond2 rfl (fun hv => ?_) (fun hv => ?_)
    · have hv := of_decide_eq_true hv
      have hi : i < q.length := by omega
      refine K_skip ?_
      refine K_seq (K_block (K_seq (K_region ?_)))
      iterate 2 refine KO_val rfl rfl rfl ?_
      refine KO_nil ?_
      obtain ⟨a, ha1, ha2⟩ := rq3.at1 und23 sz3 agg3 (ik := .i64) (ints_get (List.getElem?_eq_getElem hi))
      obtain ⟨y1, y2⟩ := hin q[i] (List.getElem_mem hi)
      obtain ⟨k, hk⟩ := Int.eq_ofNat_of_zero_le y1
      have hkl : k < p.length := by omega
      obtain ⟨b, hb1, hb2⟩ := rp3.at1 und23 sz3 agg3 (ik := .i64) (ints_get (List.getElem?_eq_getElem hkl))
      obtain ⟨d, o1, o2, o3⟩ := own.set und23 sz3 (ik := .i64) hi (x := .int .i64 p[k]) rfl rfl
      refine K_region ?_
      iterate 5 refine KO_val rfl rfl rfl ?_
      refine KO_index rfl rfl rfl rfl ha1 rfl ?_
      refine KO_load rfl rfl rfl ha2 rfl ?_
      refine KO_index rfl rfl rfl rfl (by rw [hk]; exact hb1) rfl ?_
      refine KO_load rfl rfl rfl hb2 rfl ?_
      refine KO_index rfl rfl rfl rfl o1 rfl ?_
      refine KO_store rfl rfl rfl rfl o2 rfl (KO_nil ?_)
      refine K_region ?_
      refine KO_bin rfl rfl rfl rfl (add_i64 (c := ((i + 1 : Nat) : Int)) (by omega) (by omega) (by omega)) rfl ?_
      refine KO_val rfl rfl rfl (KO_nil ?_)
      have hnext : (ints (compTo p q i)).set i (.int .i64 p[k]) = ints (compTo p q (i + 1)) := by
        rw [ints_set, ← compTo_succ hi]
        have : p.getD (q[i]).toNat 0 = p[k] := by
          rw [hk, List.getD_eq_getElem?_getD]
          show p[k]?.getD 0 = p[k]
          rw [List.getElem?_eq_getElem hkl]; rfl
        rw [this]
      rw [hnext] at o3 ⊢
      refine ⟨m - 1, _, by omega, ⟨x3.put x1.next (x3.wf.lt own.obj) _, i + 1, by omega, o3, rfl⟩, ?_⟩
      repeat (first | exact Ks.le_nil _ | refine Ks.le_cons rfl ?_)
    · have hv := of_decide_eq_false hv
      have hil : i = q.length := by omega
      subst hil
      refine K_exit ?_
      show K Tryz.prog Xh _ _ _ _ _ _
      refine K_seq (K_region ?_)
      iterate 2 refine KO_val rfl rfl rfl ?_
      refine KO_nil ?_
      refine K_ret ⟨_, rfl, ?_, x3⟩
      have := own.rd
      rw [compTo_all] at this
      show Rd h3 s 1 (compose p q).length (ints (compose p q))
      rw [show (compose p q).length = q.length by simp [compose]]; exact this
end Go.Proofs.Xx

/-
  trestlelaw01.perms and HallPerms.
-/
namespace Go.Proofs.Xx
open Go Go.Proofs
set_option linter.unusedSimpArgs false
set_option linter.unusedVariables false

def nums (n : Nat) : List Int := (List.range n).map (fun (k : Nat) => (k : Int))
end Go.Proofs.Xx

/-
  The turns of a table are a group.
-/
namespace Go.Proofs.Xx
open Go Go.Proofs
set_option linter.unusedSimpArgs false
set_option linter.unusedVariables false

abbrev InB (t : Tab) (k : Int) : Prop := 0 ≤ k ∧ k < tsize t
/-- A function of the seats keeps the table. -/
def KeepF (t : Tab) (f : Int → Int) : Prop := ∀ k, InB t k → (openP t k ↔ openP t (f k)) ∧ ∀ m, InB t m → (besideP t k m ↔ besideP t (f k) (f m)) ∧ (acrossP t k m ↔ acrossP t (f k) (f m))
theorem besideP_self (t : Tab) (k : Int) : ¬ besideP t k k := fun h => h.1 rfl
theorem acrossP_self (t : Tab) (k : Int) : ¬ acrossP t k k := fun h => h.1 rfl
theorem keepP_iff {t : Tab} {p : List Int} {f : Int → Int} (hl : p.length = (tsize t).toNat) (e : ∀ k : Nat, k < p.length → pAt p k = f k) : KeepP t p ↔ KeepF t f := by
  constructor
  · intro h
    have H : ∀ a b : Nat, a < p.length → b < p.length → (besideP t a b ↔ besideP t (f a) (f b)) ∧ (acrossP t a b ↔ acrossP t (f a) (f b)) := by
      intro a b ha hb
      rcases Nat.lt_trichotomy a b with q | rfl | q
      · have := (h b hb).2 a q
        unfold KeepM at this
        rw [e a ha, e b hb] at this
        exact ⟨(besideP_symm t _ _).trans (this.1.trans (besideP_symm t _ _)), (acrossP_symm t _ _).trans (this.2.trans (acrossP_symm t _ _))⟩
      · exact ⟨⟨fun z => absurd z (besideP_self t _), fun z => absurd z (besideP_self t _)⟩, ⟨fun z => absurd z (acrossP_self t _), fun z => absurd z (acrossP_self t _)⟩⟩
      · have := (h a ha).2 b q
        unfold KeepM at this
        rw [e a ha, e b hb] at this
        exact this
    intro k hk
    obtain ⟨k, rfl⟩ := Int.eq_ofNat_of_zero_le hk.1
    have hk' : k < p.length := by have := hk.2; omega
    have h1 := (h k hk').1
    rw [e k hk'] at h1
    refine ⟨h1, fun m hm => ?_⟩
    obtain ⟨m, rfl⟩ := Int.eq_ofNat_of_zero_le hm.1
    exact H k m hk' (by have := hm.2; omega)
  · intro h k hk
    have i : InB t k := ⟨by omega, by omega⟩
    refine ⟨by rw [e k hk]; exact (h k i).1, fun m hm => ?_⟩
    unfold KeepM
    rw [e k hk, e m (by omega)]
    exact (h k i).2 m ⟨by omega, by omega⟩
section
variable {t : Tab}
theorem KeepF.mul {f g : Int → Int} (hf : KeepF t f) (hg : KeepF t g) (b : ∀ k, InB t k → InB t (g k)) : KeepF t fun k => f (g k) := fun k hk =>
  ⟨(hg k hk).1.trans (hf _ (b k hk)).1, fun m hm => ⟨((hg k hk).2 m hm).1.trans ((hf _ (b k hk)).2 _ (b m hm)).1, ((hg k hk).2 m hm).2.trans ((hf _ (b k hk)).2 _ (b m hm)).2⟩⟩
theorem KeepF.congr {f g : Int → Int} (hf : KeepF t f) (e : ∀ k, InB t k → f k = g k) : KeepF t g := fun k hk =>
  ⟨by rw [← e k hk]; exact (hf k hk).1, fun m hm => by rw [← e k hk, ← e m hm]; exact (hf k hk).2 m hm⟩
theorem KeepF.inv {f g : Int → Int} (hf : KeepF t f) (b : ∀ k, InB t k → InB t (g k)) (e : ∀ k, InB t k → f (g k) = k) : KeepF t g := fun k hk => by
  have h1 := (hf _ (b k hk)).1
  rw [e k hk] at h1
  refine ⟨h1.symm, fun m hm => ?_⟩
  have h2 := (hf _ (b k hk)).2 _ (b m hm)
  rw [e k hk, e m hm] at h2
  exact ⟨h2.1.symm, h2.2.symm⟩
theorem KeepF.one : KeepF t fun k => k := fun k hk => ⟨Iff.rfl, fun m hm => ⟨Iff.rfl, Iff.rfl⟩⟩
theorem acc_iff {st : List Int} (hst : StOk t st) {j : Nat} : acc t st j ↔ KeepF t (mvg t j) ∧ ∀ x, x ∈ st → mvg t j x = x := by
  unfold acc
  rw [keepP_iff (cand_len t j) fun k hk => cand_at (by rw [cand_len] at hk; exact hk)]
  refine and_congr Iff.rfl ⟨fun h x hx => ?_, fun h x hx => ?_⟩
  all_goals
    have b := hst x hx
    have := h x hx
    have e := cand_at (t := t) (j := j) (k := x.toNat) (by omega)
    rw [show ((x.toNat : Nat) : Int) = x by omega] at e
  · rw [← e]; exact this
  · rw [e]; exact this
theorem stOk_nil : StOk t [] := fun x hx => by cases hx
/-- A turn. -/
def Trn (t : Tab) (p : List Int) : Prop := ∃ j, j < mvn t ∧ KeepF t (mvg t j) ∧ p = cand t j
theorem acc_nil {j : Nat} : acc t [] j ↔ KeepF t (mvg t j) := (acc_iff stOk_nil).trans ⟨fun h => h.1, fun h => ⟨h, fun x hx => by cases hx⟩⟩
theorem TurnL.trn {ls : List (List Int)} (H : TurnL t [] ls) (p : List Int) : p ∈ ls ↔ Trn t p :=
  (H.mem p).trans (exists_congr fun j => and_congr Iff.rfl (and_congr acc_nil Iff.rfl))
theorem Trn.len {p : List Int} (h : Trn t p) : p.length = (tsize t).toNat := by
  obtain ⟨j, -, -, rfl⟩ := h
  exact cand_len t j
theorem mvg_in (hs : TabS t) {j : Nat} (hj : j < mvn t) (k : Int) (hk : InB t k) : InB t (mvg t j k) := mvg_b hs hj hk
theorem Trn.bnd (hs : TabS t) {p : List Int} (h : Trn t p) {k : Nat} (hk : k < (tsize t).toNat) : 0 ≤ pAt p k ∧ pAt p k < tsize t := by
  obtain ⟨j, hj, -, rfl⟩ := h
  exact cand_b hs hj hk
theorem nums_len (n : Nat) : (nums n).length = n := by simp [nums]
theorem nums_at {n k : Nat} (h : k < n) : pAt (nums n) k = k := by simp [nums, pAt, List.getD_eq_getElem?_getD, h]
theorem cand_zero (hs : TabS t) : cand t 0 = nums (tsize t).toNat := by
  refine (cand_is (nums_len _) fun k hk => ?_).symm
  rw [nums_at hk, mvg_one hs ⟨by omega, by omega⟩]
theorem Trn.one (hs : TabS t) : Trn t (nums (tsize t).toNat) := ⟨0, by have := mvn_pos hs; omega, KeepF.one.congr fun k hk => (mvg_one hs hk).symm, (cand_zero hs).symm⟩
theorem compose_at {p q : List Int} {k : Nat} (h : k < q.length) : pAt (compose p q) k = pAt p (pAt q k).toNat := by
  simp [compose, pAt, List.getD_eq_getElem?_getD, h]
theorem compose_cand (hs : TabS t) {i j m : Nat} (hj : j < mvn t) (e : ∀ k, 0 ≤ k → k < tsize t → mvg t i (mvg t j k) = mvg t m k) : compose (cand t i) (cand t j) = cand t m := by
  refine cand_is (by simp [compose, cand_len]) fun k hk => ?_
  have b := mvg_b hs hj (k := k) ⟨by omega, by omega⟩
  have e1 := cand_at (t := t) (j := i) (k := (mvg t j k).toNat) (by omega)
  rw [compose_at (by rw [cand_len]; exact hk), cand_at hk, e1, ← e k (by omega) (by omega), show (((mvg t j k).toNat : Nat) : Int) = mvg t j k by omega]
theorem Trn.mul (hs : TabS t) {p q : List Int} (hp : Trn t p) (hq : Trn t q) : Trn t (compose p q) := by
  obtain ⟨i, hi, ki, rfl⟩ := hp
  obtain ⟨j, hj, kj, rfl⟩ := hq
  obtain ⟨m, hm, e⟩ := mvg_mul hs hi hj
  exact ⟨m, hm, (ki.mul kj (mvg_in hs hj)).congr fun k hk => e k hk.1 hk.2, compose_cand hs hj e⟩
theorem cand_inj (hs : TabS t) {j : Nat} (hj : j < mvn t) {x y : Int} (hx : InB t x) (hy : InB t y) (e : mvg t j x = mvg t j y) : x = y := by
  obtain ⟨m, hm, h⟩ := mvg_inv hs hj
  rw [← (h x hx.1 hx.2).2, ← (h y hy.1 hy.2).2, e]
theorem cand_nodup (hs : TabS t) {j : Nat} (hj : j < mvn t) : (cand t j).Nodup := by
  refine nodup_map List.nodup_range fun x y hx hy e => ?_
  rw [List.mem_range] at hx hy
  have := cand_inj hs hj (x := (x : Nat)) (y := (y : Nat)) ⟨by omega, by omega⟩ ⟨by omega, by omega⟩ e
  omega
theorem mem_pAt {p : List Int} {x : Int} : x ∈ p ↔ ∃ k, k < p.length ∧ pAt p k = x := by
  rw [List.mem_iff_getElem]
  constructor
  · rintro ⟨k, hk, rfl⟩; exact ⟨k, hk, by simp [pAt, List.getD_eq_getElem?_getD, hk]⟩
  · rintro ⟨k, hk, rfl⟩; exact ⟨k, hk, by simp [pAt, List.getD_eq_getElem?_getD, hk]⟩
theorem cand_perm (hs : TabS t) {j : Nat} (hj : j < mvn t) : permOk (cand t j) = true := by
  refine decide_eq_true ⟨fun x hx => ?_, cand_nodup hs hj⟩
  obtain ⟨k, hk, rfl⟩ := mem_pAt.1 hx
  rw [cand_len] at hk ⊢
  have := cand_b hs hj hk
  omega
theorem Trn.perm (hs : TabS t) {p : List Int} (h : Trn t p) : permOk p = true := by
  obtain ⟨j, hj, -, rfl⟩ := h
  exact cand_perm hs hj
theorem pAt_inj {p : List Int} (nd : p.Nodup) {i j : Nat} (hi : i < p.length) (hj : j < p.length) (e : pAt p i = pAt p j) : i = j := by
  have e : p[i] = p[j] := by simpa [pAt, List.getD_eq_getElem?_getD, hi, hj] using e
  have nd := List.pairwise_iff_getElem.1 nd
  rcases Nat.lt_trichotomy i j with q | q | q
  · exact absurd e (nd i j hi hj q)
  · exact q
  · exact absurd e.symm (nd j i hj hi q)
theorem pAt_set (p : List Int) {k : Nat} (hk : k < p.length) (x : Int) (j : Nat) : pAt (p.set k x) j = if k = j then x else pAt p j := by
  simp only [pAt, List.getD_eq_getElem?_getD, List.getElem?_set]
  by_cases q : k = j
  · subst q; simp [hk]
  · rw [if_neg q, if_neg q]
/-- The inverse undoes a permutation. -/
theorem invTo_at {p : List Int} (h : permOk p = true) : ∀ i, i ≤ p.length → ∀ k, k < i → pAt (invTo p i) (pAt p k).toNat = k
  | 0, _, k, hk => by omega
  | i + 1, hi, k, hk => by
    have hp := of_decide_eq_true h
    have b : ∀ k, k < p.length → 0 ≤ pAt p k ∧ pAt p k < p.length := fun k hk => hp.1 _ (mem_pAt.2 ⟨k, hk, rfl⟩)
    have e : p.getD i 0 = pAt p i := rfl
    have bi := b i (by omega)
    have bk := b k (by omega)
    rw [invTo_succ, e, pAt_set _ (by rw [invTo_length]; omega)]
    split
    · rename_i q
      have := pAt_inj hp.2 (i := i) (j := k) (by omega) (by omega) (by omega)
      rw [this]
    · rename_i q
      refine invTo_at h i (by omega) k ?_
      rcases Nat.lt_or_ge k i with z | z
      · exact z
      · obtain rfl : k = i := by omega
        exact absurd rfl q
theorem inv_cand (hs : TabS t) {j m : Nat} (hj : j < mvn t) (hm : m < mvn t) (e : ∀ k, 0 ≤ k → k < tsize t → mvg t j (mvg t m k) = k) : invTo (cand t j) (cand t j).length = cand t m := by
  refine cand_is (by rw [invTo_length, cand_len]) fun k hk => ?_
  have b := mvg_b hs hm (k := k) ⟨by omega, by omega⟩
  have := invTo_at (cand_perm hs hj) _ (Nat.le_refl _) (mvg t m k).toNat (by rw [cand_len]; omega)
  rw [cand_at (by omega), show (((mvg t m k).toNat : Nat) : Int) = mvg t m k by omega, e k (by omega) (by omega), Int.toNat_natCast] at this
  exact this
abbrev invT (p : List Int) : List Int := invTo p p.length
theorem Trn.inv (hs : TabS t) {p : List Int} (h : Trn t p) : Trn t (invT p) ∧ compose p (invT p) = nums (tsize t).toNat := by
  obtain ⟨j, hj, kj, rfl⟩ := h
  obtain ⟨m, hm, e⟩ := mvg_inv hs hj
  have e1 := inv_cand hs hj hm fun k k1 k2 => (e k k1 k2).1
  unfold invT
  rw [e1]
  refine ⟨⟨m, hm, kj.inv (mvg_in hs hm) fun k hk => (e k hk.1 hk.2).1, rfl⟩, ?_⟩
  rw [compose_cand hs hm (m := 0) fun k k1 k2 => by rw [(e k k1 k2).1, mvg_one hs ⟨k1, k2⟩], cand_zero hs]
theorem Trn.one_mul (hs : TabS t) {p : List Int} (h : Trn t p) : compose (nums (tsize t).toNat) p = p := by
  refine ext_pAt (by simp [compose]) fun k hk => ?_
  rw [show (compose (nums (tsize t).toNat) p).length = p.length by simp [compose], h.len] at hk
  have b := h.bnd hs hk
  rw [compose_at (by rw [h.len]; exact hk), nums_at (by omega)]
  omega
/-! the identity is the first -/
def numsF : Nat → Int → List Int
  | 0, _ => []
  | n + 1, s => s :: numsF n (s + 1)
theorem numsF_len : ∀ n s, (numsF n s).length = n
  | 0, _ => rfl
  | n + 1, s => by simp [numsF, numsF_len n]
theorem numsF_at : ∀ n s k, k < n → pAt (numsF n s) k = s + k
  | n + 1, s, 0, _ => by simp [numsF, pAt]
  | n + 1, s, k + 1, h => by
    have := numsF_at n (s + 1) k (by omega)
    simp only [pAt, numsF, List.getD_cons_succ] at this ⊢
    rw [this]; omega
theorem nums_eq (n : Nat) : nums n = numsF n 0 := ext_pAt (by rw [nums_len, numsF_len]) fun k hk => by
  rw [nums_len] at hk
  rw [nums_at hk, numsF_at n 0 k hk]; omega
theorem numsF_least : ∀ (l : List Int) (s : Int), l.Nodup → (∀ x, x ∈ l → s ≤ x) → ¬ ltL l (numsF l.length s)
  | [], _, _, _ => fun h => h
  | a :: l, s, nd, b => by
    rw [List.nodup_cons] at nd
    rintro (h | ⟨rfl, h⟩)
    · have := b a (.head _); omega
    · refine numsF_least l (a + 1) nd.2 (fun x hx => ?_) h
      have := b x (.tail _ hx)
      have : x ≠ a := fun q => nd.1 (by rw [← q]; exact hx)
      omega
theorem Trn.least (hs : TabS t) {p : List Int} (h : Trn t p) : ¬ ltL p (nums (tsize t).toNat) := by
  have hp := of_decide_eq_true (h.perm hs)
  have := numsF_least p 0 hp.2 fun x hx => (hp.1 x hx).1
  rw [h.len, ← nums_eq] at this
  exact this
/-- The first turn is the identity. -/
theorem TurnL.first (hs : TabS t) {p : List Int} {ls : List (List Int)} (H : TurnL t [] (p :: ls)) : p = nums (tsize t).toNat := by
  have T := H.trn
  have h1 := (T _).2 (Trn.one hs)
  rcases List.mem_cons.1 h1 with q | q
  · exact q.symm
  · exact absurd ((List.pairwise_cons.1 H.srt).1 _ q) (((T p).1 (.head _)).least hs)
theorem TurnL.ne (hs : TabS t) {ls : List (List Int)} (H : TurnL t [] ls) : ls ≠ [] := fun q => by
  subst q
  have := (H.trn _).2 (Trn.one hs)
  cases this
end
end Go.Proofs.Xx

/-
  The reference's mirrored spots are the program's moves.
-/
namespace Go.Proofs.Xx
open Go Go.Proofs
set_option linter.unusedSimpArgs false
set_option linter.unusedVariables false

/-- The mirrored place of a spot. -/
def fX (c : Nat) (a x : Int) : Int := if c / 2 = 1 then a - 1 - x else x
def fY (c : Nat) (y : Int) : Int := if c % 2 = 1 then 2 - y else y
section
variable {a b k : Int}
end
section
variable {t : Tab}
end
end Go.Proofs.Xx

/-
  The reference's candidates, its keeps and its order of lists.
-/
namespace Go.Proofs.Xx
open Go Go.Proofs
set_option linter.unusedSimpArgs false
set_option linter.unusedVariables false
set_option maxRecDepth 100000

def rcount (t : Tab) : Nat := if t.shape = 1 then (2 * t.A).toNat else if t.shape = 2 then 4 else 2
def CandV (t : Tab) (c : Nat) (k : Int) (x : Int) : Prop := (c < mvn t → x = mvg t c k) ∧ (mvn t ≤ c → k < t.A)
end Go.Proofs.Xx

/-
  The reference's turns; the turns that keep given seats.
-/
namespace Go.Proofs.Xx
open Go Go.Proofs
set_option linter.unusedSimpArgs false
set_option linter.unusedVariables false
set_option maxRecDepth 100000

/-- The candidates before c that keep the table, in order. -/
structure Ins (t : Tab) (c : Nat) (LL : List PL) : Prop where
  srt : (LL.map (·.2)).Pairwise ltL
  mem : ∀ p, p ∈ LL.map (·.2) ↔ ∃ j, j < c ∧ j < mvn t ∧ acc t [] j ∧ p = cand t j
  len : LL.length ≤ c
theorem Ins.zero {t : Tab} : Ins t 0 [] := ⟨.nil, fun p => ⟨fun h => (List.not_mem_nil h).elim, fun ⟨j, h, _⟩ => by omega⟩, Nat.le_refl _⟩
theorem Ins.there {t : Tab} {c : Nat} {LL : List PL} (T : Ins t c LL) (a : c < mvn t → acc t [] c → cand t c ∈ LL.map (·.2)) : Ins t (c + 1) LL := by
  refine ⟨T.srt, fun p => ?_, by have := T.len; omega⟩
  constructor
  · intro h
    obtain ⟨j, h1, h2⟩ := (T.mem p).1 h
    exact ⟨j, by omega, h2⟩
  · rintro ⟨j, h1, h2, h3, rfl⟩
    rcases Nat.lt_or_ge j c with q | q
    · exact (T.mem _).2 ⟨j, q, h2, h3, rfl⟩
    · obtain rfl : j = c := by omega
      exact a h2 h3
theorem Ins.put {t : Tab} {c : Nat} {LL : List PL} (T : Ins t c LL) (hc : c < mvn t) (a : acc t [] c) (s : SlV) {i : Nat} (hi : i ≤ LL.length) (lo : ∀ j, j < i → ltL (lAt (LL.map (·.2)) j) (cand t c)) (hh : i < LL.length → ltL (cand t c) (lAt (LL.map (·.2)) i)) : Ins t (c + 1) (LL.take i ++ [(s, cand t c)] ++ LL.drop i) := by
  have e : (LL.take i ++ [(s, cand t c)] ++ LL.drop i).map (·.2) = (LL.map (·.2)).take i ++ [cand t c] ++ (LL.map (·.2)).drop i := by simp [List.map_take, List.map_drop]
  refine ⟨?_, fun p => ?_, ?_⟩
  · rw [e]
    exact ins_pw T.srt (fun j h1 _ => lo j h1) fun q => hh (by simpa using q)
  · rw [e, ins_mem, T.mem]
    constructor
    · rintro (rfl | ⟨j, h1, h2⟩)
      · exact ⟨c, by omega, hc, a, rfl⟩
      · exact ⟨j, by omega, h2⟩
    · rintro ⟨j, h1, h2, h3, rfl⟩
      rcases Nat.lt_or_ge j c with q | q
      · exact .inr ⟨j, q, h2, h3, rfl⟩
      · obtain rfl : j = c := by omega
        exact .inl rfl
  · have := T.len
    simp; omega
theorem Ins.turn {t : Tab} {c : Nat} {LL : List PL} (T : Ins t c LL) (h : mvn t ≤ c) : TurnL t [] (LL.map (·.2)) :=
  ⟨T.srt, fun p => (T.mem p).trans ⟨fun ⟨j, _, h⟩ => ⟨j, h⟩, fun ⟨j, h1, h2⟩ => ⟨j, by omega, h1, h2⟩⟩⟩
theorem Ins.lens {t : Tab} {c : Nat} {LL : List PL} (T : Ins t c LL) {x : PL} (hx : x ∈ LL) : x.2.length = (tsize t).toNat := by
  obtain ⟨j, -, -, -, e⟩ := (T.mem x.2).1 (List.mem_map_of_mem hx)
  rw [e, cand_len]
/-! the turns that keep given seats -/
def okN (st : List Int) (k : Nat) (p : List Int) : Bool := decide (∀ m, m < k → pAt p (pAt st m).toNat = pAt st m)
end Go.Proofs.Xx

/-
  Counting the images of a seat; filtered turns.
-/
namespace Go.Proofs.Xx
open Go Go.Proofs
set_option linter.unusedSimpArgs false
set_option linter.unusedVariables false
open Classical

theorem StayL.turn {t : Tab} {st : List Int} {ls : List (List Int)} (H : StayL t st ls) (h1 : chk t = 0) (h2 : StOk t st) : TurnL t st ls := by
  rcases H with ⟨-, -, h⟩ | ⟨h, -⟩
  · exact h
  · exact absurd ⟨h1, h2⟩ h
def seenB (x : Nat) (ls : List (List Int)) (i y : Nat) : Prop := ∃ j, j < i ∧ (pAt (lAt ls j) x).toNat = y
noncomputable def nSeen (x n : Nat) (ls : List (List Int)) (i : Nat) : Nat := sumN n (fun y => if seenB x ls i y then 1 else 0)
/-- The turns among the first i that keep st. -/
def nKeep (st : List Int) (ls : List (List Int)) (i : Nat) : Nat := ((ls.take i).filter (okN st st.length)).length
end Go.Proofs.Xx

/-
  HallOrbit: orbit and stabilizer of a seat.
-/
namespace Go.Proofs.Xx
open Go Go.Proofs
set_option linter.unusedSimpArgs false
set_option linter.unusedVariables false
set_option maxRecDepth 100000

section
variable {P : Program} {X : Extern} {ops : Array Oper} {os : List Oper} {o : Oper} {sz : Nat} {h h0 : AH} {rs : List Rs} {R : Ks → AH → Prop}
/-- Steps that stand ahead of a float. -/
inductive HSteps (P : Program) (ops : Array Oper) (sz : Nat) (h : AH) : Ks → List Nat → Ks → Prop where
  | nil {L : Ks} : HSteps P ops sz h L [] L
  | cons {L L1 L' : Ks} {k : Nat} {ks : List Nat} {ok : Oper} {v : Value} {h' : AH} (hok : ops[k]? = some ok) (hg : guardA ops L.tree ok.guard = some true) (ha : aOp P L.tree h ok.op = some (.val v h')) (hd : putK sz L ok.dst v = some L1) (r : HSteps P ops sz h L1 ks L') : HSteps P ops sz h L (k :: ks) L'
theorem HSteps.mv {L L1 L' : Ks} {k : Nat} {ks : List Nat} {ok : Oper} {v : Value} {x : Operand} (hok : ops[k]? = some ok) (hm : ok.op = .move x) (hx : kA L x = some v) (hg : guardA ops L.tree ok.guard = some true) (hd : putK sz L ok.dst v = some L1) (r : HSteps P ops sz h L1 ks L') : HSteps P ops sz h L (k :: ks) L' :=
  .cons (h' := h) hok hg (by rw [hm]; simp only [aOp, tree_le hx, nextOf]) hd r
theorem HSteps.run {L L' : Ks} {ks : List Nat} (s : HSteps P ops sz h L ks L') : ∀ {t : Tr Value}, Kn t L → Kn (ks.foldl (stepH P ops sz h) t) L' := by
  induction s with
  | nil => intro t hk; exact hk
  | @cons _ _ _ k _ _ _ _ hok hg ha hd r ih =>
    intro t hk
    obtain ⟨t1, e1, k1⟩ := putK_ok hk hd
    rw [List.foldl_cons]
    have : stepH P ops sz h t k = t1 := by
      unfold stepH
      simp only [hok, guardA_le hk.tle hg, aOp_le hk.tle ha, e1]
    rw [this]
    exact ih k1
theorem HintOk.many {L L' : Ks} {j : Nat} {ks : List Nat} {o : Oper} {x : Option Nat} {c : List Value} {e : TypeId} (hp : predsOf ops (masks ops.toList []) j = ks) (ho : ops[j]? = some o) (s : HSteps P ops sz h L ks L') (hf : aFloat P L'.tree o.op = some (x, c, e)) : HintOk P ops sz L h j c e := fun t hk => by
  unfold hintObj
  rw [ho, hp]
  simp only [aFloat_le (s.run hk).tle hf]
end
theorem StayL.out {t : Tab} {st : List Int} {L : List PL} {z : Int} (h : StayL t st (L.map (·.2))) (hz : z ∈ st) (hq : ¬ z < tsize t) : L = [] := by
  rcases h with ⟨-, q, -⟩ | ⟨-, q⟩
  · exact absurd (q z hz).2 hq
  · simpa using q
end Go.Proofs.Xx

/-
  The distance is a metric; blocks part the places.
-/
namespace Go.Proofs.Xx
set_option linter.unusedVariables false

section
variable {N : Int → Int → Prop} {n : Nat}
/-- The distance, 99 where there is no way. -/
def FarIs (N : Int → Int → Prop) (n x y : Nat) (v : Int) : Prop := (∃ e : Nat, IsDist N n x e y ∧ v = e) ∨ (v = 99 ∧ ∀ e, ¬ Wk N n x e y)
theorem FarIs.unique {x y : Nat} {v v' : Int} (h : FarIs N n x y v) (g : FarIs N n x y v') : v = v' := by
  rcases h with ⟨e, h1, h2⟩ | ⟨h1, h2⟩ <;> rcases g with ⟨e', g1, g2⟩ | ⟨g1, g2⟩
  · have := h1.unique g1; omega
  · exact absurd h1.1 (g2 e)
  · exact absurd g1.1 (h2 e')
  · omega
theorem IsDist.symm (hN : ∀ x y, N x y → N y x) {x y e : Nat} (hx : x < n) (hy : y < n) (h : IsDist N n x e y) : IsDist N n y e x :=
  ⟨h.1.symm hN hx hy, fun d hd w => h.2 d hd (w.symm hN hy hx)⟩
theorem FarIs.symm (hN : ∀ x y, N x y → N y x) {x y : Nat} {v : Int} (hx : x < n) (hy : y < n) (h : FarIs N n x y v) : FarIs N n y x v := by
  rcases h with ⟨e, h1, h2⟩ | ⟨h1, h2⟩
  · exact .inl ⟨e, h1.symm hN hx hy, h2⟩
  · exact .inr ⟨h1, fun e w => h2 e (w.symm hN hy hx)⟩
theorem FarIs.lt {x y : Nat} {v : Int} (hx : x < n) (hy : y < n) (hn : n ≤ 24) (h : FarIs N n x y v) : v < 99 ↔ ∃ e, Wk N n x e y := by
  rcases h with ⟨e, h1, h2⟩ | ⟨h1, h2⟩
  · have := h1.lt hx hy
    exact ⟨fun _ => ⟨e, h1.1⟩, fun _ => by omega⟩
  · exact ⟨fun q => by omega, fun ⟨e, q⟩ => absurd q (h2 e)⟩
theorem FarIs.zero {x y : Nat} {v : Int} (h : FarIs N n x y v) : v = 0 ↔ x = y := by
  rcases h with ⟨e, h1, h2⟩ | ⟨h1, h2⟩
  · constructor
    · intro q
      have : e = 0 := by omega
      subst this; exact (show y = x from h1.1).symm
    · intro q
      subst q
      rcases Nat.eq_zero_or_pos e with q | q
      · omega
      · exact absurd rfl (h1.2 0 q)
  · exact ⟨fun q => by omega, fun q => by subst q; exact absurd rfl (h2 0)⟩
theorem FarIs.one {x y : Nat} {v : Int} (hx : x < n) (hI : ∀ x, ¬ N x x) (h : FarIs N n x y v) : v = 1 ↔ N x y := by
  have w1 : N x y → Wk N n x 1 y := fun q => ⟨x, hx, rfl, q⟩
  have back : Wk N n x 1 y → N x y := fun ⟨z, hz, e, q⟩ => by
    have : z = x := e
    subst this; exact q
  rcases h with ⟨e, h1, h2⟩ | ⟨h1, h2⟩
  · constructor
    · intro q
      have : e = 1 := by omega
      subst this; exact back h1.1
    · intro q
      have le : e ≤ 1 := Nat.le_of_not_lt fun z => h1.2 1 z (w1 q)
      rcases Nat.eq_zero_or_pos e with z | z
      · subst z
        have : y = x := h1.1
        subst this; exact absurd q (hI _)
      · omega
  · exact ⟨fun q => by omega, fun q => absurd (w1 q) (h2 1)⟩

/-! ### counting -/
open Classical in
noncomputable def cnt (p : Nat → Prop) : Nat → Nat
  | 0 => 0
  | m + 1 => cnt p m + (if p m then 1 else 0)
/-- How many places the first K blocks have together. -/
noncomputable def sumL : List (List Int) → Nat
  | [] => 0
  | b :: bs => b.length + sumL bs
end
end Go.Proofs.Xx

/-
  Turns keep the distances; a hall of one table.
-/
namespace Go.Proofs.Xx
open Go Go.Proofs
set_option linter.unusedSimpArgs false
set_option linter.unusedVariables false

theorem Wk.map {N : Int → Int → Prop} {n s : Nat} (f : Nat → Nat) (hf : ∀ a b : Nat, a < n → b < n → N a b → N (f a) (f b)) (hn : ∀ a, a < n → f a < n) : ∀ {d y : Nat}, y < n → Wk N n s d y → Wk N n (f s) d (f y)
  | 0, y, _, h => by
    have h : y = s := h
    show f y = f s
    rw [h]
  | d + 1, y, hy, ⟨x, hx, h1, h2⟩ => ⟨f x, hn x hx, Wk.map f hf hn hx h1, hf x y hx hy h2⟩
theorem IsDist.map {N : Int → Int → Prop} {n s : Nat} (f g : Nat → Nat) (hf : ∀ a b : Nat, a < n → b < n → N a b → N (f a) (f b)) (hn : ∀ a, a < n → f a < n) (hg : ∀ a b : Nat, a < n → b < n → N a b → N (g a) (g b)) (gn : ∀ a, a < n → g a < n) (gf : ∀ a, a < n → g (f a) = a) {d y : Nat} (hs : s < n) (hy : y < n) (h : IsDist N n s d y) : IsDist N n (f s) d (f y) :=
  ⟨h.1.map f hf hn hy, fun e he w => h.2 e he (by
    have := w.map g hg gn (hn y hy)
    rw [gf s hs, gf y hy] at this
    exact this)⟩
section
variable {t : Tab}
theorem KeepF.near {f : Int → Int} (h : KeepF t f) {a b : Int} (ha : InB t a) (hb : InB t b) : nearP t a b ↔ nearP t (f a) (f b) := or_congr ((h a ha).2 b hb).1 ((h a ha).2 b hb).2
theorem Trn.dist (hs : TabS t) {p : List Int} (h : Trn t p) {k m e : Nat} (hk : k < (tsize t).toNat) (hm : m < (tsize t).toNat) : IsDist (nearP t) (tsize t).toNat k e m ↔ IsDist (nearP t) (tsize t).toNat (pAt p k).toNat e (pAt p m).toNat := by
  obtain ⟨j, hj, kj, rfl⟩ := h
  obtain ⟨i, hi, hinv⟩ := mvg_inv hs hj
  have ki : KeepF t (mvg t i) := kj.inv (mvg_in hs hi) fun k hk => (hinv k hk.1 hk.2).1
  rw [cand_at hk, cand_at hm]
  have H : ∀ j, j < mvn t → KeepF t (mvg t j) → (∀ a b : Nat, a < (tsize t).toNat → b < (tsize t).toNat → nearP t a b → nearP t ((mvg t j a).toNat : Nat) ((mvg t j b).toNat : Nat)) ∧ ∀ a : Nat, a < (tsize t).toNat → (mvg t j a).toNat < (tsize t).toNat := by
    intro j hj kj
    refine ⟨fun a b ha hb q => ?_, fun a ha => ?_⟩
    · have ba := mvg_b hs hj (k := a) ⟨by omega, by omega⟩
      have bb := mvg_b hs hj (k := b) ⟨by omega, by omega⟩
      rw [show (((mvg t j a).toNat : Nat) : Int) = mvg t j a by omega, show (((mvg t j b).toNat : Nat) : Int) = mvg t j b by omega]
      exact (kj.near ⟨by omega, by omega⟩ ⟨by omega, by omega⟩).1 q
    · have ba := mvg_b hs hj (k := a) ⟨by omega, by omega⟩
      omega
  have Hj := H j hj kj
  have Hi := H i hi ki
  have gf : ∀ a : Nat, a < (tsize t).toNat → (mvg t i ((mvg t j a).toNat : Nat)).toNat = a := fun a ha => by
    have ba := mvg_b hs hj (k := a) ⟨by omega, by omega⟩
    rw [show (((mvg t j a).toNat : Nat) : Int) = mvg t j a by omega, (hinv a (by omega) (by omega)).2]; omega
  have fg : ∀ a : Nat, a < (tsize t).toNat → (mvg t j ((mvg t i a).toNat : Nat)).toNat = a := fun a ha => by
    have ba := mvg_b hs hi (k := a) ⟨by omega, by omega⟩
    rw [show (((mvg t i a).toNat : Nat) : Int) = mvg t i a by omega, (hinv a (by omega) (by omega)).1]; omega
  constructor
  · exact fun h => h.map (fun a => (mvg t j a).toNat) (fun a => (mvg t i a).toNat) Hj.1 Hj.2 Hi.1 Hi.2 gf hk hm
  · intro h
    have := h.map (fun a => (mvg t i a).toNat) (fun a => (mvg t j a).toNat) Hi.1 Hi.2 Hj.1 Hj.2 fg (Hj.2 k hk) (Hj.2 m hm)
    have this : IsDist (nearP t) (tsize t).toNat (mvg t i ((mvg t j k).toNat : Nat)).toNat e (mvg t i ((mvg t j m).toNat : Nat)).toNat := this
    rw [gf k hk, gf m hm] at this
    exact this
/-- A turn as a function of the seats keeps the table. -/
theorem Trn.keep {p : List Int} (h : Trn t p) {k m : Nat} (hk : k < (tsize t).toNat) (hm : m < (tsize t).toNat) : (openP t k ↔ openP t (pAt p k)) ∧ (besideP t k m ↔ besideP t (pAt p k) (pAt p m)) ∧ (acrossP t k m ↔ acrossP t (pAt p k) (pAt p m)) := by
  obtain ⟨j, hj, kj, rfl⟩ := h
  rw [cand_at hk, cand_at hm]
  exact ⟨(kj k ⟨by omega, by omega⟩).1, (kj k ⟨by omega, by omega⟩).2 m ⟨by omega, by omega⟩⟩
end
/-! a hall of one table -/
section
variable {l : List Tab} {n : Nat}
theorem where1 (hv : ValidL l) (hl : l.length = 1) (hn : tsize (tb l 0) = n) {k : Nat} (hk : k < n) : WhereI l k 0 k := ⟨hv, by omega, by omega, by simp [sumT]⟩
theorem where1' (hv : ValidL l) (hl : l.length = 1) (hn : tsize (tb l 0) = n) {x : Int} (hx : 0 ≤ x ∧ x < n) : WhereI l x 0 x.toNat := by
  have := where1 hv hl hn (k := x.toNat) (by omega)
  rwa [show ((x.toNat : Nat) : Int) = x by omega] at this
theorem open1 (hv : ValidL l) (hl : l.length = 1) (hn : tsize (tb l 0) = n) {x : Int} (hx : 0 ≤ x ∧ x < n) : OpenR l x ↔ openP (tb l 0) x := by
  have w := where1' hv hl hn hx
  have e : ((x.toNat : Nat) : Int) = x := by omega
  constructor
  · rintro ⟨i, k, q, h⟩
    obtain ⟨rfl, rfl⟩ := w.unique q
    rwa [e] at h
  · exact fun h => ⟨0, x.toNat, w, by rwa [e]⟩
theorem both1 {P : Tab → Int → Int → Prop} (hv : ValidL l) (hl : l.length = 1) (hn : tsize (tb l 0) = n) {x y : Int} (hx : 0 ≤ x ∧ x < n) (hy : 0 ≤ y ∧ y < n) : BothP P l x y ↔ P (tb l 0) x y := by
  have w1 := where1' hv hl hn hx
  have w2 := where1' hv hl hn hy
  have e1 : ((x.toNat : Nat) : Int) = x := by omega
  have e2 : ((y.toNat : Nat) : Int) = y := by omega
  constructor
  · rintro ⟨i, k, m, q1, q2, h⟩
    obtain ⟨rfl, rfl⟩ := w1.unique q1
    obtain ⟨-, rfl⟩ := w2.unique q2
    rwa [e1, e2] at h
  · exact fun h => ⟨0, x.toNat, y.toNat, w1, w2, by rwa [e1, e2]⟩
theorem dist1 (hv : ValidL l) (hl : l.length = 1) (hn : tsize (tb l 0) = n) {x y d : Int} {f : Bool} (hx : 0 ≤ x ∧ x < n) (hy : 0 ≤ y ∧ y < n) (h : DistR l x y d f) : (f = true ∧ ∃ e : Nat, d = e ∧ IsDist (nearP (tb l 0)) n x.toNat e y.toNat) ∨ (f = false ∧ d = 0 ∧ ∀ e, ¬ IsDist (nearP (tb l 0)) n x.toNat e y.toNat) := by
  have w1 := where1' hv hl hn hx
  have w2 := where1' hv hl hn hy
  have en : (tsize (tb l 0)).toNat = n := by omega
  rcases h with ⟨h1, i, k, m, e, q1, q2, h2, h3⟩ | ⟨h1, h2, h3⟩
  · obtain ⟨rfl, rfl⟩ := w1.unique q1
    obtain ⟨-, rfl⟩ := w2.unique q2
    rw [en] at h3
    exact .inl ⟨h1, e, h2, h3⟩
  · refine .inr ⟨h1, h2, fun e q => h3 0 _ _ e w1 w2 ?_⟩
    rw [en]; exact q
theorem dist_same (hv : ValidL l) (hl : l.length = 1) (hn : tsize (tb l 0) = n) (hs : TabS (tb l 0)) {p : List Int} (h : Trn (tb l 0) p) {k z : Nat} (hk : k < n) (hz : z < n) {d d' : Int} {f f' : Bool} (D1 : DistR l k z d f) (D2 : DistR l (pAt p k) (pAt p z) d' f') : d = d' ∧ f = f' := by
  have en : (tsize (tb l 0)).toNat = n := by omega
  have b1 := h.bnd hs (k := k) (by omega)
  have b2 := h.bnd hs (k := z) (by omega)
  have i := fun e => h.dist hs (k := k) (m := z) (e := e) (by omega) (by omega)
  rw [en] at i
  have g1 := dist1 hv hl hn ⟨by omega, by omega⟩ ⟨by omega, by omega⟩ D1
  have g2 := dist1 hv hl hn ⟨by omega, by omega⟩ ⟨by omega, by omega⟩ D2
  rw [Int.toNat_natCast, Int.toNat_natCast] at g1
  rcases g1 with ⟨rfl, e, rfl, g1⟩ | ⟨rfl, rfl, g1⟩ <;> rcases g2 with ⟨rfl, e', rfl, g2⟩ | ⟨rfl, rfl, g2⟩
  · have := ((i e).1 g1).unique g2
    exact ⟨by rw [this], rfl⟩
  · exact absurd ((i e).1 g1) (g2 e)
  · exact absurd ((i e').2 g2) (g1 e')
  · exact ⟨rfl, rfl⟩
end
end Go.Proofs.Xx
