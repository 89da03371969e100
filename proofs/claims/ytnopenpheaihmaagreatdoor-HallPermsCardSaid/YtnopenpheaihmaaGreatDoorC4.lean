/-
  slices.Clone, hall.Invert, hall.Compose of ints.
-/
import Derived.Test.YtnopenpheaihmaaGreatDoorC3
import Derived.Test.YtnopenpheaihmaaGreatDoorB8
namespace Go.Proofs.Xx
open Go Go.Proofs
set_option linter.unusedSimpArgs false
set_option linter.unusedVariables false

theorem clone_ints {h : AH} {v : Value} {a : List Int} (w : WfH h) (r : RdI h v a) (hl : a.length < 2^30) :
    Fn Tryz.prog Xh 49 [v] h (fun x h' => RdI h' x a ∧ Ext h h') := by
  refine Fn_K rfl Tryz.func49 rfl rfl ?_
  refine K_seq (K_region (KO_val rfl rfl rfl (KO_nil ?_)))
  rcases r with ⟨rfl, h0, hc⟩ | ⟨b, o, cap, cc, e, s, q, rfl, h1, h2⟩
  · refine K_seq (K_seq (K_region ?_))
    refine KO_val rfl rfl rfl ?_
    refine KO_bin rfl rfl rfl rfl (v := .bool true) (by simp only [aBin, und23]; rfl) rfl (KO_nil ?_)
    refine K_cond rfl ?_
    refine K_seq (K_region (KO_val rfl rfl rfl (KO_nil ?_)))
    refine K_ret ⟨_, rfl, ?_, Ext.refl w⟩
    have : a = [] := List.length_eq_zero_iff.1 h0
    subst this
    exact Rd.none_ h 1
  · have r : RdI h (.slice (some ⟨b, o, none⟩) a.length cap) a := .inr ⟨b, o, cap, cc, e, s, q, rfl, h1, h2⟩
    refine K_seq (K_seq (K_region ?_))
    refine KO_val rfl rfl rfl ?_
    refine KO_bin rfl rfl rfl rfl (v := .bool false) (by simp only [aBin, und23]; rfl) rfl (KO_nil ?_)
    refine K_cond rfl (K_skip ?_)
    refine K_seq (K_region ?_)
    refine KO_bslice rfl rfl rfl (build0 el23 z3 h) rfl ?_
    refine KO_val rfl rfl rfl ?_
    have x1 : Ext h (h.add (.cells [] 3 none false)) := (Ext.refl w).add _
    have g : Gr h (h.add (.cells [] 3 none false)) (.slice (some ⟨h.next, 0, none⟩) 0 0) 3 1 0 [] := .inr ⟨h.next, none, rfl, by rw [AH.get_add, if_pos rfl], rfl, Nat.le_refl _, .inl rfl⟩
    obtain ⟨v', h', a1, a2, a3⟩ := append_gr (tx := 23) el23 z3 by3 und23 g x1 (r.ext w x1) (ints_one a) (by omega)
    refine KO_append rfl rfl rfl rfl a1 rfl ?_
    refine KO_val rfl rfl rfl (KO_nil ?_)
    refine K_ret ⟨_, rfl, ?_, a3⟩
    have := a2.rd
    rw [Nat.zero_add] at this
    exact this

/-- What 'q[x] = i' for each i and x of l makes of q. -/
def invStep (l : List Int) (q : List Int) (i : Nat) : List Int := q.set (l.getD i 0).toNat (i : Int)
def invTo (l : List Int) (i : Nat) : List Int := (List.range i).foldl (invStep l) (List.replicate l.length 0)
theorem invTo_length (l : List Int) : ∀ i, (invTo l i).length = l.length
  | 0 => by simp [invTo]
  | i + 1 => by
    have := invTo_length l i
    unfold invTo at this ⊢
    rw [List.range_succ, List.foldl_append]
    simp only [List.foldl_cons, List.foldl_nil, invStep, List.length_set]
    exact this
theorem invTo_succ (l : List Int) (i : Nat) : invTo l (i + 1) = (invTo l i).set (l.getD i 0).toNat (i : Int) := by
  unfold invTo
  rw [List.range_succ, List.foldl_append]; rfl
theorem invTo_zero (l : List Int) : ints (invTo l 0) = zeroRow [.int .i64 0] l.length := by
  rw [zeroRow_one]; simp [invTo, ints]

theorem invert_ints {h : AH} {v : Value} {l : List Int} (w : WfH h) (r : RdI h v l) (hl : l.length < 2^30) :
    Fn Tryz.prog Xh 58 [v] h (fun x h' => RdI h' x (if permOk l then invTo l l.length else []) ∧ Ext h h') := by
  refine Fn_K rfl Tryz.func58 rfl rfl ?_
  refine K_seq (K_region (KO_val rfl rfl rfl (KO_nil ?_)))
  refine K_seq (K_seq (K_region ?_))
  refine KO_val rfl rfl rfl ?_
  refine KO_fn rfl rfl rfl rfl rfl ((permutation_ok w r hl).mono ?_)
  rintro x h1 ⟨rfl, x1⟩
  refine KO_val rfl rfl rfl (KO_nil ?_)
  have r1 := r.ext w x1
  cases hp : permOk l with
  | false =>
    refine K_cond rfl ?_
    refine K_seq (K_region (KO_val rfl rfl rfl (KO_nil ?_)))
    refine K_ret ⟨_, rfl, ?_, x1⟩
    exact Rd.none_ _ 1
  | true =>
    have hin : ∀ x ∈ l, 0 ≤ x ∧ x < l.length := (of_decide_eq_true hp).1
    refine K_cond rfl (K_skip ?_)
    refine K_seq (K_region ?_)
    refine KO_val rfl rfl rfl ?_
    refine KO_len rfl rfl rfl (r1.len und23) rfl ?_
    obtain ⟨s, h2, m1, m2, m3⟩ := make_own x1.wf el23 z3 by3 (n := l.length) (by omega)
    refine KO_make rfl rfl rfl rfl m1 rfl ?_
    refine KO_val rfl rfl rfl (KO_nil ?_)
    rw [← invTo_zero] at m2
    have x2 := x1.trans m3
    have r2 := r.ext w x2
    refine K_seq (K_seq (K_region ?_))
    refine KO_val rfl rfl rfl ?_
    refine KO_len rfl rfl rfl (r2.len und23) rfl ?_
    refine KO_val rfl rfl rfl (KO_nil ?_)
    refine K_block ?_
    refine K_loop (fun m L h3 => Ext h h3 ∧ ∃ i : Nat, m + i = l.length ∧ Own h3 s h1.next 3 1 l.length (ints (invTo l i)) ∧ L = [(3, s), (12, v), (13, .int .i64 l.length), (14, .int .i64 i)]) ?_ l.length
      ⟨x2, 0, rfl, m2, rfl⟩ (by repeat (first | exact Ks.le_nil _ | refine Ks.le_cons rfl ?_))
    rintro m L h3 ⟨x3, i, him, own, rfl⟩
    have r3 := r.ext w x3
    refine K_seq (K_region (KO_val rfl rfl rfl (KO_nil ?_)))
    refine K_seq ?_
    refine K_cond2 rfl (fun hv => ?_) (fun hv => ?_)
    · have hv := of_decide_eq_true hv
      have hi : i < l.length := by omega
      refine K_skip ?_
      refine K_seq (K_block (K_seq (K_region ?_)))
      obtain ⟨p, hp1, hp2⟩ := r3.at1 und23 sz3 agg3 (ik := .i64) (ints_get (List.getElem?_eq_getElem hi))
      refine KO_val rfl rfl rfl ?_
      refine KO_index rfl rfl rfl rfl hp1 rfl ?_
      refine KO_load rfl rfl rfl hp2 rfl ?_
      refine KO_val rfl rfl rfl ?_
      refine KO_val rfl rfl rfl (KO_nil ?_)
      obtain ⟨y1, y2⟩ := hin l[i] (List.getElem_mem hi)
      obtain ⟨k, hk⟩ := Int.eq_ofNat_of_zero_le y1
      have hkl : k < l.length := by omega
      obtain ⟨p2, o1, o2, o3⟩ := own.set und23 sz3 (ik := .i64) hkl (x := .int .i64 i) rfl rfl
      refine K_region ?_
      iterate 3 refine KO_val rfl rfl rfl ?_
      refine KO_index rfl rfl rfl rfl (by rw [hk]; exact o1) rfl ?_
      refine KO_store rfl rfl rfl rfl o2 rfl (KO_nil ?_)
      refine K_region ?_
      refine KO_bin rfl rfl rfl rfl (add_i64 (c := ((i + 1 : Nat) : Int)) (by omega) (by omega) (by omega)) rfl ?_
      refine KO_val rfl rfl rfl (KO_nil ?_)
      have hnext : (ints (invTo l i)).set k (.int .i64 i) = ints (invTo l (i + 1)) := by
        rw [ints_set, invTo_succ]
        have : (l.getD i 0).toNat = k := by
          rw [List.getD_eq_getElem?_getD, List.getElem?_eq_getElem hi, Option.getD_some, hk]; simp
        rw [this]
      rw [hnext] at o3 ⊢
      refine ⟨m - 1, _, by omega, ⟨x3.put x1.next (x3.wf.lt own.obj) _, i + 1, by omega, o3, rfl⟩, ?_⟩
      repeat (first | exact Ks.le_nil _ | refine Ks.le_cons rfl ?_)
    · have hv := of_decide_eq_false hv
      have hil : i = l.length := by omega
      subst hil
      refine K_exit ?_
      show K Tryz.prog Xh _ _ _ _ _ _
      refine K_seq (K_region ?_)
      iterate 2 refine KO_val rfl rfl rfl ?_
      refine KO_nil ?_
      refine K_ret ⟨_, rfl, ?_, x3⟩
      have := own.rd
      show Rd h3 s 1 (invTo l l.length).length (ints (invTo l l.length))
      rw [invTo_length]; exact this
end Go.Proofs.Xx
