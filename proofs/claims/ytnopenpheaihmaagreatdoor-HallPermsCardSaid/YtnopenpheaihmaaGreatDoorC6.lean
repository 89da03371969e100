/-
  trestlelaw01.perms and HallPerms.
-/
import Derived.Test.YtnopenpheaihmaaGreatDoorC5
namespace Go.Proofs.Xx
open Go Go.Proofs
set_option linter.unusedSimpArgs false
set_option linter.unusedVariables false

theorem perm_of_sub : ∀ (p q : List Int), p.Nodup → (∀ x ∈ p, x ∈ q) → p.length = q.length → p.Perm q
  | [], q, _, _, h => by
    have : q = [] := List.length_eq_zero_iff.1 h.symm
    subst this; exact .refl _
  | x :: p, q, hn, hs, h => by
    rw [List.nodup_cons] at hn
    have hx := hs x (by simp)
    have h1 := perm_of_sub p (q.erase x) hn.2 (fun y hy => (List.mem_erase_of_ne (by intro e; subst e; exact hn.1 hy)).2 (hs y (by simp [hy]))) (by rw [List.length_erase_of_mem hx]; simp at h; omega)
    exact (h1.cons x).trans (List.perm_cons_erase hx).symm
def nums (n : Nat) : List Int := (List.range n).map (fun (k : Nat) => (k : Int))
theorem nums_nodup (n : Nat) : (nums n).Nodup := by
  unfold nums
  rw [List.nodup_iff_pairwise_ne, List.pairwise_map]
  exact (List.nodup_iff_pairwise_ne.1 List.nodup_range).imp (fun h e => h (by omega))
theorem mem_nums {n : Nat} {x : Int} : x ∈ nums n ↔ 0 ≤ x ∧ x < n := by
  unfold nums
  rw [List.mem_map]
  constructor
  · rintro ⟨k, hk, rfl⟩
    have := List.mem_range.1 hk
    omega
  · rintro ⟨h1, h2⟩
    exact ⟨x.toNat, List.mem_range.2 (by omega), by omega⟩
theorem refPerm_eq (l : List Int) : refPerm l = permOk l := by
  unfold refPerm permOk
  rw [decide_eq_decide]
  constructor
  · intro h
    have hp : (nums l.length).Perm l := perm_of_sub _ _ (nums_nodup _) (fun x hx => by
      obtain ⟨h1, h2⟩ := mem_nums.1 hx
      have := h x.toNat (by omega)
      rwa [show ((x.toNat : Nat) : Int) = x by omega] at this) (by simp [nums])
    exact ⟨fun x hx => mem_nums.1 (hp.mem_iff.2 hx), hp.nodup_iff.1 (nums_nodup _)⟩
  · rintro ⟨h1, h2⟩ i hi
    have hp : l.Perm (nums l.length) := perm_of_sub _ _ h2 (fun x hx => mem_nums.2 (h1 x hx)) (by simp [nums])
    exact hp.mem_iff.2 (mem_nums.2 (by omega))

theorem perms_true {h : AH} {v u : Value} {p q : List Int} (w : WfH h) (rp : RdI h v p) (rq : RdI h u q) (hp : p.length < 2^20) (hq : q.length < 2^20) :
    Fn Tryz.prog Xh 26 [v, u] h (fun x h' => x = .bool true ∧ Ext h h') := by
  refine Fn_K rfl Tryz.func26 rfl rfl ?_
  refine K_seq (K_region (KO_val rfl rfl rfl (KO_nil ?_)))
  refine K_seq (K_region ?_)
  refine KO_val rfl rfl rfl ?_
  refine KO_fn rfl rfl rfl rfl rfl ((clone_ints w rp (by omega)).mono ?_)
  rintro c h1 ⟨rc, x1⟩
  refine KO_val rfl rfl rfl ?_
  refine KO_fn rfl rfl rfl rfl rfl ((clone_ints x1.wf (rq.ext w x1) (by omega)).mono ?_)
  rintro d h2 ⟨rd, x2'⟩
  have x2 := x1.trans x2'
  have rc2 := rc.ext x1.wf x2'
  iterate 2 refine KO_val rfl rfl rfl ?_
  refine KO_nil ?_
  refine K_seq (K_region ?_)
  iterate 2 refine KO_val rfl rfl rfl ?_
  refine KO_nil ?_
  have rp2 := rp.ext w x2
  have rq2 := rq.ext w x2
  refine K_seq (K_seq (K_region ?_))
  refine KO_val rfl rfl rfl ?_
  refine KO_fn rfl rfl rfl rfl rfl ((permutation_ref rp2 (by omega)).mono ?_)
  rintro x hm ⟨rfl, rfl⟩
  refine KO_nil ?_
  rw [refPerm_eq]
  refine K.mono (c := .cond _ _ _) (Q := fun x L' h' => x = .norm ∧ ∃ s7 s8, Ext hm h' ∧ RdI h' s7 (if compOk p q then compose p q else []) ∧ RdI h' s8 (if permOk p then invTo p p.length else []) ∧
    Ks.le [(0, v), (1, u), (5, c), (6, d), (7, s7), (8, s8)] L') ?_ ?_
  · refine K_cond rfl ?_
    cases hpp : permOk p with
    | false =>
      refine K_skip ⟨rfl, .slice none 0 0, .slice none 0 0, Ext.refl x2.wf, ?_, Rd.none_ _ 1, (by repeat (first | exact Ks.le_nil _ | refine Ks.le_cons rfl ?_))⟩
      rw [show compOk p q = false by simp [compOk, hpp]]
      exact Rd.none_ _ 1
    | true =>
      have hin : ∀ x ∈ p, 0 ≤ x ∧ x < p.length := (of_decide_eq_true hpp).1
      refine K_seq (K_region ?_)
      refine KO_val rfl rfl rfl ?_
      refine KO_len rfl rfl rfl (rp2.len und23) rfl ?_
      obtain ⟨s, h3, m1, m2, m3⟩ := make_own x2.wf el23 z3 by3 (n := p.length) (by omega)
      refine KO_make rfl rfl rfl rfl m1 rfl ?_
      refine KO_val rfl rfl rfl (KO_nil ?_)
      rw [← invTo_zero] at m2
      have rp3 := rp2.ext x2.wf m3
      refine K_seq (K_seq (K_region ?_))
      refine KO_val rfl rfl rfl ?_
      refine KO_len rfl rfl rfl (rp3.len und23) rfl ?_
      refine KO_val rfl rfl rfl (KO_nil ?_)
      refine K_block ?_
      refine K_loop (fun m L h4 => Ext hm h4 ∧ ∃ i : Nat, m + i = p.length ∧ Own h4 s hm.next 3 1 p.length (ints (invTo p i)) ∧
        L = [(0, v), (1, u), (5, c), (6, d), (7, .slice none 0 0), (8, s), (22, v), (23, .int .i64 p.length), (24, .int .i64 i)]) ?_ p.length
        ⟨m3, 0, rfl, m2, rfl⟩ (by repeat (first | exact Ks.le_nil _ | refine Ks.le_cons rfl ?_))
      rintro m L h4 ⟨x4, i, him, own, rfl⟩
      have rp4 := rp2.ext x2.wf x4
      refine K_seq (K_region (KO_val rfl rfl rfl (KO_nil ?_)))
      refine K_seq ?_
      refine K_cond2 rfl (fun hv => ?_) (fun hv => ?_)
      · have hv := of_decide_eq_true hv
        have hi : i < p.length := by omega
        refine K_skip ?_
        refine K_seq (K_block (K_seq (K_region ?_)))
        obtain ⟨a, hp1, hp2⟩ := rp4.at1 und23 sz3 agg3 (ik := .i64) (ints_get (List.getElem?_eq_getElem hi))
        refine KO_val rfl rfl rfl ?_
        refine KO_index rfl rfl rfl rfl hp1 rfl ?_
        refine KO_load rfl rfl rfl hp2 rfl ?_
        refine KO_val rfl rfl rfl ?_
        refine KO_val rfl rfl rfl (KO_nil ?_)
        obtain ⟨y1, y2⟩ := hin p[i] (List.getElem_mem hi)
        obtain ⟨k, hk⟩ := Int.eq_ofNat_of_zero_le y1
        have hkl : k < p.length := by omega
        obtain ⟨b, o1, o2, o3⟩ := own.set und23 sz3 (ik := .i64) hkl (x := .int .i64 i) rfl rfl
        refine K_region ?_
        iterate 3 refine KO_val rfl rfl rfl ?_
        refine KO_index rfl rfl rfl rfl (by rw [hk]; exact o1) rfl ?_
        refine KO_store rfl rfl rfl rfl o2 rfl (KO_nil ?_)
        refine K_region ?_
        refine KO_bin rfl rfl rfl rfl (add_i64 (c := ((i + 1 : Nat) : Int)) (by omega) (by omega) (by omega)) rfl ?_
        refine KO_val rfl rfl rfl (KO_nil ?_)
        have hnext : (ints (invTo p i)).set k (.int .i64 i) = ints (invTo p (i + 1)) := by
          rw [ints_set, invTo_succ]
          have : (p.getD i 0).toNat = k := by
            rw [List.getD_eq_getElem?_getD, List.getElem?_eq_getElem hi, Option.getD_some, hk]; simp
          rw [this]
        rw [hnext] at o3 ⊢
        refine ⟨m - 1, _, by omega, ⟨x4.put (Nat.le_refl _) (x4.wf.lt own.obj) _, i + 1, by omega, o3, rfl⟩, ?_⟩
        repeat (first | exact Ks.le_nil _ | refine Ks.le_cons rfl ?_)
      · have hv := of_decide_eq_false hv
        have hil : i = p.length := by omega
        subst hil
        have r8 : RdI h4 s (invTo p p.length) := by
          show Rd h4 s 1 (invTo p p.length).length (ints (invTo p p.length))
          rw [invTo_length]; exact own.rd
        have rq4 := rq2.ext x2.wf x4
        refine K_exit ?_
        show K Tryz.prog Xh _ _ _ _ _ _
        refine K_seq (K_region ?_)
        refine KO_val rfl rfl rfl ?_
        refine KO_fn rfl rfl rfl rfl rfl ((permutation_ref rq4 (by omega)).mono ?_)
        rintro x h5 ⟨rfl, rfl⟩
        rw [refPerm_eq]
        refine KO_val rfl rfl rfl ?_
        cases hqq : permOk q with
        | false =>
          iterate 5 refine KO_off rfl rfl ?_
          refine KO_val rfl rfl rfl (KO_nil ?_)
          refine K_cond rfl (K_skip ⟨rfl, .slice none 0 0, s, x4, ?_, r8, (by repeat (first | exact Ks.le_nil _ | refine Ks.le_cons rfl ?_))⟩)
          rw [show compOk p q = false by simp [compOk, hqq]]
          exact Rd.none_ _ 1
        | true =>
          have hinq : ∀ x ∈ q, 0 ≤ x ∧ x < q.length := (of_decide_eq_true hqq).1
          refine KO_val rfl rfl rfl ?_
          refine KO_len rfl rfl rfl (rp4.len und23) rfl ?_
          refine KO_val rfl rfl rfl ?_
          refine KO_len rfl rfl rfl (rq4.len und23) rfl ?_
          refine KO_bin rfl rfl rfl rfl (eql_i64 rfl) rfl ?_
          refine KO_val rfl rfl rfl (KO_nil ?_)
          refine K_cond2 rfl (fun hv => ?_) (fun hv => ?_)
          rotate_left
          · have hne : p.length ≠ q.length := fun e => by have := of_decide_eq_false hv; omega
            refine K_skip ⟨rfl, .slice none 0 0, s, x4, ?_, r8, (by repeat (first | exact Ks.le_nil _ | refine Ks.le_cons rfl ?_))⟩
            rw [show compOk p q = false by simp [compOk, hne]]
            exact Rd.none_ _ 1
          · have hl : p.length = q.length := by have := of_decide_eq_true hv; omega
            rw [show compOk p q = true by simp [compOk, hpp, hqq, hl]]
            refine K_seq (K_region ?_)
            refine KO_val rfl rfl rfl ?_
            refine KO_len rfl rfl rfl (rq4.len und23) rfl ?_
            refine KO_val rfl rfl rfl (KO_nil ?_)
            refine K_block ?_
            refine K_loop (fun m L h6 => Ext h5 h6 ∧ ∃ (i : Nat) (t : Value), m + i = q.length ∧ Gr h5 h6 t 3 1 i (ints (compose p (q.take i))) ∧
              L = [(0, v), (1, u), (5, c), (6, d), (7, t), (8, s), (43, u), (44, .int .i64 q.length), (45, .int .i64 i)]) ?_ q.length
              ⟨Ext.refl x4.wf, 0, _, rfl, Gr.nil _ _ _ _, rfl⟩ (by repeat (first | exact Ks.le_nil _ | refine Ks.le_cons rfl ?_))
            rintro m L h6 ⟨x6, i, t, him, gr, rfl⟩
            have rp6 := rp4.ext x4.wf x6
            have rq6 := rq4.ext x4.wf x6
            refine K_seq (K_region (KO_val rfl rfl rfl (KO_nil ?_)))
            refine K_seq ?_
            refine K_cond2 rfl (fun hv => ?_) (fun hv => ?_)
            · have hv := of_decide_eq_true hv
              have hi : i < q.length := by omega
              refine K_skip ?_
              refine K_seq (K_block (K_seq (K_region ?_)))
              obtain ⟨a, ha1, ha2⟩ := rq6.at1 und23 sz3 agg3 (ik := .i64) (ints_get (List.getElem?_eq_getElem hi))
              refine KO_index rfl rfl rfl rfl ha1 rfl ?_
              refine KO_load rfl rfl rfl ha2 rfl ?_
              refine KO_val rfl rfl rfl (KO_nil ?_)
              obtain ⟨y1, y2⟩ := hinq q[i] (List.getElem_mem hi)
              obtain ⟨k, hk⟩ := Int.eq_ofNat_of_zero_le y1
              have hkl : k < p.length := by omega
              obtain ⟨b, hb1, hb2⟩ := rp6.at1 und23 sz3 agg3 (ik := .i64) (ints_get (List.getElem?_eq_getElem hkl))
              refine K_region ?_
              iterate 3 refine KO_val rfl rfl rfl ?_
              refine KO_index rfl rfl rfl rfl (by rw [hk]; exact hb1) rfl ?_
              refine KO_load rfl rfl rfl hb2 rfl ?_
              refine KO_bslice rfl rfl rfl (build1 el23 z3 rfl (by decide) h6) rfl ?_
              have x7 : Ext h5 (h6.add (.cells [.int .i64 p[k]] 3 none false)) := x6.add _
              have g7 := gr.ext x6.wf ((Ext.refl x6.wf).add (.cells [.int .i64 p[k]] 3 none false))
              have r7 : Rd (h6.add (.cells [.int .i64 p[k]] 3 none false)) (.slice (some ⟨h6.next, 0, none⟩) 1 1) 1 1 [.int .i64 p[k]] := .inr ⟨h6.next, 0, 1, _, 3, none, false, rfl, by rw [AH.get_add, if_pos rfl], rfl⟩
              obtain ⟨t', h8, a1, a2, a3⟩ := append_gr (tx := 23) el23 z3 by3 und23 g7 x7 r7 rfl (by omega)
              refine KO_append rfl rfl rfl rfl a1 rfl ?_
              refine KO_val rfl rfl rfl (KO_nil ?_)
              refine K_region ?_
              refine KO_bin rfl rfl rfl rfl (add_i64 (c := ((i + 1 : Nat) : Int)) (by omega) (by omega) (by omega)) rfl ?_
              refine KO_val rfl rfl rfl (KO_nil ?_)
              have hnext : ints (compose p (q.take i)) ++ [.int .i64 p[k]] = ints (compose p (q.take (i + 1))) := by
                rw [List.take_succ_eq_append_getElem hi]
                simp only [compose, ints, List.map_append, List.map_cons, List.map_nil]
                have : p.getD (q[i]).toNat 0 = p[k] := by
                  rw [hk, List.getD_eq_getElem?_getD]
                  show p[k]?.getD 0 = p[k]
                  rw [List.getElem?_eq_getElem hkl]; rfl
                rw [this]
              rw [hnext] at a2
              refine ⟨m - 1, _, by omega, ⟨a3, i + 1, t', by omega, a2, rfl⟩, ?_⟩
              repeat (first | exact Ks.le_nil _ | refine Ks.le_cons rfl ?_)
            · have hv := of_decide_eq_false hv
              have hil : i = q.length := by omega
              subst hil
              rw [List.take_length] at gr
              refine K_exit ?_
              refine ⟨rfl, t, s, x4.trans x6, ?_, r8.ext x4.wf x6, (by repeat (first | exact Ks.le_nil _ | refine Ks.le_cons rfl ?_))⟩
              show Rd h6 t 1 (compose p q).length (ints (compose p q))
              rw [show (compose p q).length = q.length by simp [compose]]; exact gr.rd
  · rintro x L' h' ⟨rfl, s7, s8, xm, r7, r8, hle⟩
    have rc4 : RdI h' c p := rc2.ext x2.wf xm
    have rd4 : RdI h' d q := rd.ext x2.wf xm
    have x4 := x2.trans xm
    have rp4 := rp.ext w x4
    have rq4 := rq.ext w x4
    show K Tryz.prog Xh _ _ _ _ _ _
    refine K.le hle ?_
    refine K_seq (K_region ?_)
    iterate 2 refine KO_val rfl rfl rfl ?_
    refine KO_fn rfl rfl rfl rfl rfl ((compose_ints x4.wf rc4 rd4 (by omega) (by omega)).mono ?_)
    rintro y h5 ⟨ry, x5⟩
    refine KO_val rfl rfl rfl ?_
    have l1 : (if compOk p q then compose p q else []).length < 2^30 := by split <;> simp [compose] <;> omega
    refine KO_fn rfl rfl rfl rfl rfl ((equal_ints ry (r7.ext x4.wf x5) l1 l1).mono ?_)
    rintro z h6 ⟨hz, rfl⟩
    rw [decide_eq_true rfl] at hz
    subst hz
    iterate 2 refine KO_val rfl rfl rfl ?_
    refine KO_fn rfl rfl rfl rfl rfl ((invert_ints x5.wf (rc4.ext x4.wf x5) (by omega)).mono ?_)
    rintro y2 h7 ⟨ry2, x7⟩
    refine KO_val rfl rfl rfl ?_
    have l2 : (if permOk p then invTo p p.length else []).length < 2^30 := by split <;> simp [invTo_length] <;> omega
    have x57 := x5.trans x7
    refine KO_fn rfl rfl rfl rfl rfl ((equal_ints ry2 (r8.ext x4.wf x57) l2 l2).mono ?_)
    rintro z h8 ⟨hz, rfl⟩
    rw [decide_eq_true rfl] at hz
    subst hz
    iterate 4 refine KO_val rfl rfl rfl ?_
    refine KO_fn rfl rfl rfl rfl rfl ((equal_ints (rc4.ext x4.wf x57) (rp4.ext x4.wf x57) (by omega) (by omega)).mono ?_)
    rintro z h9 ⟨hz, rfl⟩
    rw [decide_eq_true rfl] at hz
    subst hz
    iterate 4 refine KO_val rfl rfl rfl ?_
    refine KO_fn rfl rfl rfl rfl rfl ((equal_ints (rd4.ext x4.wf x57) (rq4.ext x4.wf x57) (by omega) (by omega)).mono ?_)
    rintro z h10 ⟨hz, rfl⟩
    rw [decide_eq_true rfl] at hz
    subst hz
    iterate 2 refine KO_val rfl rfl rfl ?_
    refine KO_nil ?_
    refine K_ret ⟨_, rfl, rfl, x4.trans x57⟩

theorem hallPerms_true {h : AH} {v u : Value} {p q : List Int} (w : WfH h) (rp : RdI h v p) (rq : RdI h u q) :
    Fn Tryz.prog Xh 8 [v, u] h (fun x h' => x = .bool true ∧ Ext h h') := by
  refine Fn_K rfl Tryz.func8 rfl rfl ?_
  refine K_seq (K_region (KO_val rfl rfl rfl (KO_nil ?_)))
  refine K_seq (K_region (KO.mono (R' := fun L' h' => Ext h h' ∧ Ks.le [(4, .bool true)] L') ?_ ?_))
  · refine KO_val rfl rfl rfl ?_
    refine KO_len rfl rfl rfl (rp.len und23) rfl ?_
    by_cases h1 : p.length > 60
    · refine KO_bin rfl rfl rfl rfl (gtr_i64 (v := true) (decide_eq_true (by omega))) rfl ?_
      refine KO_val rfl rfl rfl ?_
      iterate 3 refine KO_off rfl rfl ?_
      iterate 2 refine KO_val rfl rfl rfl ?_
      iterate 8 refine KO_off rfl rfl ?_
      iterate 2 refine KO_val rfl rfl rfl ?_
      refine KO_fn rfl rfl rfl rfl rfl (Fn_known rfl ?_)
      iterate 2 refine KO_val rfl rfl rfl ?_
      refine KO_nil ⟨Ext.refl w, Ks.le_cons rfl (Ks.le_nil _)⟩
    · refine KO_bin rfl rfl rfl rfl (gtr_i64 (v := false) (decide_eq_false (by omega))) rfl ?_
      iterate 2 refine KO_val rfl rfl rfl ?_
      refine KO_len rfl rfl rfl (rq.len und23) rfl ?_
      by_cases h2 : q.length > 60
      · refine KO_bin rfl rfl rfl rfl (gtr_i64 (v := true) (decide_eq_true (by omega))) rfl ?_
        iterate 2 refine KO_val rfl rfl rfl ?_
        iterate 8 refine KO_off rfl rfl ?_
        iterate 2 refine KO_val rfl rfl rfl ?_
        refine KO_fn rfl rfl rfl rfl rfl (Fn_known rfl ?_)
        iterate 2 refine KO_val rfl rfl rfl ?_
        refine KO_nil ⟨Ext.refl w, Ks.le_cons rfl (Ks.le_nil _)⟩
      · refine KO_bin rfl rfl rfl rfl (gtr_i64 (v := false) (decide_eq_false (by omega))) rfl ?_
        iterate 4 refine KO_val rfl rfl rfl ?_
        refine KO_fn rfl rfl rfl rfl rfl ((perms_true w rp rq (by omega) (by omega)).mono ?_)
        rintro x h3 ⟨rfl, x3⟩
        iterate 3 refine KO_val rfl rfl rfl ?_
        refine KO_fn rfl rfl rfl rfl rfl ((perms_true x3.wf (rq.ext w x3) (rp.ext w x3) (by omega) (by omega)).mono ?_)
        rintro x h4 ⟨rfl, x4⟩
        iterate 3 refine KO_val rfl rfl rfl ?_
        refine KO_fn rfl rfl rfl rfl rfl (Fn_known rfl ?_)
        iterate 2 refine KO_val rfl rfl rfl ?_
        refine KO_nil ⟨x3.trans x4, Ks.le_cons rfl (Ks.le_nil _)⟩
  · rintro L' h' ⟨x, hle⟩
    refine K.le hle ?_
    refine K_ret ⟨_, rfl, rfl, x⟩
end Go.Proofs.Xx
