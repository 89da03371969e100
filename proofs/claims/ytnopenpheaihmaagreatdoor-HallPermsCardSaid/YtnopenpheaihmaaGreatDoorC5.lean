/-
  hall.Compose of ints.
-/
import Derived.Test.YtnopenpheaihmaaGreatDoorC4
namespace Go.Proofs.Xx
open Go Go.Proofs
set_option linter.unusedSimpArgs false
set_option linter.unusedVariables false

def compTo (p q : List Int) (i : Nat) : List Int := (q.take i).map (fun x => p.getD x.toNat 0) ++ List.replicate (q.length - i) 0
theorem compTo_length {p q : List Int} {i : Nat} (hi : i ≤ q.length) : (compTo p q i).length = q.length := by simp [compTo]; omega
theorem compTo_zero (p q : List Int) : ints (compTo p q 0) = zeroRow [.int .i64 0] q.length := by rw [zeroRow_one]; simp [compTo, ints]
theorem compTo_succ {p q : List Int} {i : Nat} (hi : i < q.length) : (compTo p q i).set i (p.getD (q[i]).toNat 0) = compTo p q (i + 1) := by
  unfold compTo
  have h1 : ((q.take i).map (fun x => p.getD x.toNat 0)).length = i := by simp; omega
  rw [List.set_append_right _ _ (by omega), h1, Nat.sub_self, List.take_succ_eq_append_getElem hi, List.map_append]
  rw [show q.length - i = (q.length - (i + 1)) + 1 by omega, List.replicate_succ]
  simp
def compose (p q : List Int) : List Int := q.map (fun x => p.getD x.toNat 0)
theorem compTo_all (p q : List Int) : compTo p q q.length = compose p q := by simp [compTo, compose]
def compOk (p q : List Int) : Bool := decide (p.length = q.length) && (permOk p && permOk q)

theorem compose_ints {h : AH} {v u : Value} {p q : List Int} (w : WfH h) (rp : RdI h v p) (rq : RdI h u q) (hp : p.length < 2^30) (hq : q.length < 2^30) :
    Fn Tryz.prog Xh 60 [v, u] h (fun x h' => RdI h' x (if compOk p q then compose p q else []) ∧ Ext h h') := by
  refine Fn_K rfl Tryz.func60 rfl rfl ?_
  refine K_seq (K_region (KO_val rfl rfl rfl (KO_nil ?_)))
  refine K_seq (K_seq (K_region (KO.mono (R' := fun L' h' => Ext h h' ∧ Ks.le [(0, v), (1, u), (21, .bool (!compOk p q))] L') ?_ ?_)))
  · refine KO_val rfl rfl rfl ?_
    refine KO_len rfl rfl rfl (rp.len und23) rfl ?_
    refine KO_val rfl rfl rfl ?_
    refine KO_len rfl rfl rfl (rq.len und23) rfl ?_
    by_cases hl : p.length = q.length
    · refine KO_bin rfl rfl rfl rfl (neq_i64 (v := false) (decide_eq_true (by omega))) rfl ?_
      refine KO_val rfl rfl rfl ?_
      refine KO_val rfl rfl rfl ?_
      refine KO_fn rfl rfl rfl rfl rfl ((permutation_ok w rp hp).mono ?_)
      rintro x h1 ⟨rfl, x1⟩
      cases hpp : permOk p with
      | true =>
        iterate 4 refine KO_val rfl rfl rfl ?_
        refine KO_fn rfl rfl rfl rfl rfl ((permutation_ok x1.wf (rq.ext w x1) hq).mono ?_)
        rintro x h2 ⟨rfl, x2⟩
        refine KO_val rfl rfl rfl ?_
        refine KO_val rfl rfl rfl (KO_nil ?_)
        refine ⟨x1.trans x2, Ks.le_cons rfl (Ks.le_cons rfl (Ks.le_cons ?_ (Ks.le_nil _)))⟩
        rw [show compOk p q = permOk q by simp [compOk, hl, hpp]]; rfl
      | false =>
        iterate 3 refine KO_val rfl rfl rfl ?_
        iterate 3 refine KO_off rfl rfl ?_
        refine KO_val rfl rfl rfl (KO_nil ?_)
        refine ⟨x1, Ks.le_cons rfl (Ks.le_cons rfl (Ks.le_cons ?_ (Ks.le_nil _)))⟩
        rw [show compOk p q = false by simp [compOk, hpp]]; rfl
    · refine KO_bin rfl rfl rfl rfl (neq_i64 (v := true) (decide_eq_false (by omega))) rfl ?_
      refine KO_val rfl rfl rfl ?_
      iterate 3 refine KO_off rfl rfl ?_
      iterate 2 refine KO_val rfl rfl rfl ?_
      iterate 3 refine KO_off rfl rfl ?_
      refine KO_val rfl rfl rfl (KO_nil ?_)
      refine ⟨Ext.refl w, Ks.le_cons rfl (Ks.le_cons rfl (Ks.le_cons ?_ (Ks.le_nil _)))⟩
      rw [show compOk p q = false by simp [compOk, hl]]; rfl
  rintro L' h1 ⟨x1, hle⟩
  refine K.le hle ?_
  cases hok : compOk p q with
  | false =>
    refine K_cond rfl ?_
    refine K_seq (K_region (KO_val rfl rfl rfl (KO_nil ?_)))
    refine K_ret ⟨_, rfl, ?_, x1⟩
    exact Rd.none_ _ 1
  | true =>
    have hh : p.length = q.length ∧ permOk p = true ∧ permOk q = true := by simpa [compOk] using hok
    obtain ⟨hl, hpp, hqq⟩ := hh
    have hin : ∀ x ∈ q, 0 ≤ x ∧ x < q.length := (of_decide_eq_true hqq).1
    have rp1 := rp.ext w x1
    have rq1 := rq.ext w x1
    refine K_cond rfl (K_skip ?_)
    refine K_seq (K_region ?_)
    refine KO_val rfl rfl rfl ?_
    refine KO_len rfl rfl rfl (rp1.len und23) rfl ?_
    rw [hl]
    obtain ⟨s, h2, m1, m2, m3⟩ := make_own x1.wf el23 z3 by3 (n := q.length) (by omega)
    refine KO_make rfl rfl rfl rfl m1 rfl ?_
    refine KO_val rfl rfl rfl (KO_nil ?_)
    rw [← compTo_zero p q] at m2
    have x2 := x1.trans m3
    refine K_seq (K_seq (K_region ?_))
    refine KO_val rfl rfl rfl ?_
    refine KO_len rfl rfl rfl (m2.rd.len und23) rfl ?_
    refine KO_val rfl rfl rfl (KO_nil ?_)
    refine K_block ?_
    refine K_loop (fun m L h3 => Ext h h3 ∧ ∃ i : Nat, m + i = q.length ∧ Own h3 s h1.next 3 1 q.length (ints (compTo p q i)) ∧ L = [(0, v), (1, u), (5, s), (26, .int .i64 q.length), (27, .int .i64 i)]) ?_ q.length
      ⟨x2, 0, rfl, m2, rfl⟩ (by repeat (first | exact Ks.le_nil _ | refine Ks.le_cons rfl ?_))
    rintro m L h3 ⟨x3, i, him, own, rfl⟩
    have rp3 := rp.ext w x3
    have rq3 := rq.ext w x3
    refine K_seq (K_region (KO_val rfl rfl rfl (KO_nil ?_)))
    refine K_seq ?_
    refine K_cond2 rfl (fun hv => ?_) (fun hv => ?_)
    · have hv := of_decide_eq_true hv
      have hi : i < q.length := by omega
      refine K_skip ?_
      refine K_seq (K_block (K_seq (K_region ?_)))
      iterate 2 refine KO_val rfl rfl rfl ?_
      refine KO_nil ?_
      obtain ⟨a, ha1, ha2⟩ := rq3.at1 und23 sz3 agg3 (ik := .i64) (ints_get (List.getElem?_eq_getElem hi))
      obtain ⟨y1, y2⟩ := hin q[i] (List.getElem_mem hi)
      obtain ⟨k, hk⟩ := Int.eq_ofNat_of_zero_le y1
      have hkl : k < p.length := by omega
      obtain ⟨b, hb1, hb2⟩ := rp3.at1 und23 sz3 agg3 (ik := .i64) (ints_get (List.getElem?_eq_getElem hkl))
      obtain ⟨d, o1, o2, o3⟩ := own.set und23 sz3 (ik := .i64) hi (x := .int .i64 p[k]) rfl rfl
      refine K_region ?_
      iterate 5 refine KO_val rfl rfl rfl ?_
      refine KO_index rfl rfl rfl rfl ha1 rfl ?_
      refine KO_load rfl rfl rfl ha2 rfl ?_
      refine KO_index rfl rfl rfl rfl (by rw [hk]; exact hb1) rfl ?_
      refine KO_load rfl rfl rfl hb2 rfl ?_
      refine KO_index rfl rfl rfl rfl o1 rfl ?_
      refine KO_store rfl rfl rfl rfl o2 rfl (KO_nil ?_)
      refine K_region ?_
      refine KO_bin rfl rfl rfl rfl (add_i64 (c := ((i + 1 : Nat) : Int)) (by omega) (by omega) (by omega)) rfl ?_
      refine KO_val rfl rfl rfl (KO_nil ?_)
      have hnext : (ints (compTo p q i)).set i (.int .i64 p[k]) = ints (compTo p q (i + 1)) := by
        rw [ints_set, ← compTo_succ hi]
        have : p.getD (q[i]).toNat 0 = p[k] := by
          rw [hk, List.getD_eq_getElem?_getD]
          show p[k]?.getD 0 = p[k]
          rw [List.getElem?_eq_getElem hkl]; rfl
        rw [this]
      rw [hnext] at o3 ⊢
      refine ⟨m - 1, _, by omega, ⟨x3.put x1.next (x3.wf.lt own.obj) _, i + 1, by omega, o3, rfl⟩, ?_⟩
      repeat (first | exact Ks.le_nil _ | refine Ks.le_cons rfl ?_)
    · have hv := of_decide_eq_false hv
      have hil : i = q.length := by omega
      subst hil
      refine K_exit ?_
      show K Tryz.prog Xh _ _ _ _ _ _
      refine K_seq (K_region ?_)
      iterate 2 refine KO_val rfl rfl rfl ?_
      refine KO_nil ?_
      refine K_ret ⟨_, rfl, ?_, x3⟩
      have := own.rd
      rw [compTo_all] at this
      show Rd h3 s 1 (compose p q).length (ints (compose p q))
      rw [show (compose p q).length = q.length by simp [compose]]; exact this
end Go.Proofs.Xx
