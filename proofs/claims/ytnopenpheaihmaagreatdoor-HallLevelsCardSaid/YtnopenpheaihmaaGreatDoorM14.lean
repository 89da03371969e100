/-
  HallLevels: the order of honour goes by levels.
-/
import Derived.Test.YtnopenpheaihmaaGreatDoorM12
import Derived.Test.YtnopenpheaihmaaGreatDoorM13
import Derived.Test.YtnopenpheaihmaaGreatDoorM7
import Derived.Test.YtnopenpheaihmaaGreatDoorRows
import Derived.Lib.LaidTab

namespace Go.Proofs.Xx
open Go Go.Proofs
set_option linter.unusedSimpArgs false
set_option linter.unusedVariables false
set_option maxRecDepth 100000

theorem lvl_lev {n : Nat} {ld : List Int} {k : Nat} (h : k < ld.length) : (lvl n ld).getD k default = lev n ld k := by rw [lvl_get n ld k h]; rfl
theorem LevR.is {l : List Tab} {a d : Int} {i k n : Nat} {ld : List Int} (h : LevR l a d) (w : WhereI l a i k) (hn : tsize (tb l i) = n) (D : DistL (nearP (tb l i)) n (tHon (tb l i)).toNat ld) : d = lev n ld k := by
  have hnn : (tsize (tb l i)).toNat = n := by omega
  rcases h with ⟨i', k', ld', w', D', e⟩ | ⟨-, h⟩
  · obtain ⟨rfl, rfl⟩ := w.unique w'
    rw [hnn] at D' e
    obtain rfl := D.unique D'
    rw [e, lvl_lev]
    have := w.2.2.1
    rw [D.1]; omega
  · exact absurd w (h _ _)
theorem NbR.is {l : List Tab} {a : Int} {i k n : Nat} {out : List Int} (h : NbR l a out) (w : WhereI l a i k) (hn : tsize (tb l i) = n) : out = nbUp (nearP (tb l i)) k a n := by
  have hnn : (tsize (tb l i)).toNat = n := by omega
  rcases h with ⟨i', k', w', e⟩ | ⟨-, h⟩
  · obtain ⟨rfl, rfl⟩ := w.unique w'
    rw [e, hnn]
  · exact absurd w (h _ _)
theorem nb_in {N : Int → Int → Prop} {k a : Int} : ∀ (m j : Nat), j < (nbUp N k a m).length → ∃ q : Nat, q < m ∧ N k q ∧ (nbUp N k a m).getD j default = a - k + q
  | 0, j, h => by simp [nbUp] at h
  | m + 1, j, h => by
    unfold nbUp at h ⊢
    split at h
    · rename_i hq
      rw [if_pos hq]
      rw [List.length_append, List.length_cons, List.length_nil] at h
      rcases Nat.lt_or_ge j (nbUp N k a m).length with q | q
      · obtain ⟨x, x1, x2, x3⟩ := nb_in (a := a) m j q
        exact ⟨x, by omega, x2, by rw [getD_snoc1 _ _ q]; exact x3⟩
      · exact ⟨m, by omega, hq, by rw [getD_snoc2 _ _ (show j = (nbUp N k a m).length by omega)]⟩
    · rename_i hq
      rw [if_neg hq]
      obtain ⟨x, x1, x2, x3⟩ := nb_in (a := a) m j h
      exact ⟨x, by omega, x2, x3⟩
theorem nb_has {N : Int → Int → Prop} {k a : Int} : ∀ (m q : Nat), q < m → N k q → ∃ j, j < (nbUp N k a m).length ∧ (nbUp N k a m).getD j default = a - k + q
  | 0, q, h, _ => by omega
  | m + 1, q, h, hn => by
    unfold nbUp
    rcases Nat.lt_or_ge q m with q1 | q1
    · obtain ⟨j, j1, j2⟩ := nb_has (a := a) m q q1 hn
      split
      · exact ⟨j, by simp; omega, by rw [getD_snoc1 _ _ j1]; exact j2⟩
      · exact ⟨j, j1, j2⟩
    · obtain rfl : q = m := by omega
      rw [if_pos hn]
      exact ⟨(nbUp N k a q).length, by simp, by rw [getD_snoc2 _ _ rfl]⟩
theorem DistR.is {l : List Tab} {a b d : Int} {f : Bool} {i k m n : Nat} (h : DistR l a b d f) (w1 : WhereI l a i k) (w2 : WhereI l b i m) (hn : tsize (tb l i) = n) : f = true ↔ ∃ e, Wk (nearP (tb l i)) n k e m := by
  have hnn : (tsize (tb l i)).toNat = n := by omega
  rcases h with ⟨rfl, i', k', m', e, q1, q2, -, q3⟩ | ⟨rfl, -, q⟩
  · obtain ⟨rfl, rfl⟩ := w1.unique q1
    obtain ⟨-, rfl⟩ := w2.unique q2
    rw [hnn] at q3
    exact ⟨fun _ => ⟨e, q3.1⟩, fun _ => rfl⟩
  · refine ⟨fun q => (by cases q), fun ⟨e, he⟩ => ?_⟩
    obtain ⟨e', -, h2⟩ := he.least
    exact absurd (by rw [hnn]; exact h2) (q i k m e' w1 w2)
theorem HonR.is {l : List Tab} {i n : Nat} {out : List Int} (h : HonR l i out) (hi : i < l.length) (hv : ValidL l) (hn : tsize (tb l i) = n) : ∃ ld, DistL (nearP (tb l i)) n (tHon (tb l i)).toNat ld ∧ HonL (fun x => (lvl n ld).getD (x - sumT l i).toNat default) (sumT l i) n out := by
  rcases h with ⟨i', n', ld, e, h1, h2, h3, h4, h5⟩ | ⟨h1, -⟩
  · obtain rfl : i = i' := by omega
    obtain rfl : n = n' := by omega
    exact ⟨ld, h4, h5⟩
  · exact absurd ⟨by omega, by omega, hv⟩ h1
theorem nearP_symm' (t : Tab) (x y : Int) (h : nearP t x y) : nearP t y x := by
  rcases h with h | h
  · exact .inl ((besideP_symm t x y).1 h)
  · exact .inr ((acrossP_symm t x y).1 h)

set_option maxHeartbeats 2000000 in
theorem hallLevels_true {h0 : AH} (w : WfH h0) (v : Value) (cs : List Cod) (A : CodesA h0 v cs) : Fn Tryz.prog Xh 11 [v] h0 (fun x _ => x = .bool true) := by
  have S := Hs.start w
  refine Fn_K rfl Tryz.func11 rfl rfl ?_
  all_goals (repeat' (first | refine K_seq ?_ | refine k_cond rfl ?_ | refine K_skip ?_ | refine K_exit ?_ | refine k_block ?_ | refine K_scope ?_ | (refine K_region (id := 0) ?_; refine mv ?_; refine KO_nil ?_) | (refine K_region (id := 1) ?_; refine mv ?_)))
  (refine KO_fn rfl rfl rfl rfl rfl ((madeAll_ok S.wf v cs (A.ext w S.ext)).mono ?_); rintro u g ⟨l, hm, x⟩) <;> (replace S := S.join2 x; clear x; refine mv ?_; refine KO_nil ?_)
  have H := hm.hallR S .here (.there .here)
  have w1 := S.wf
  have hr := H.rd
  have hle := hm.le
  have hv := hm.valid
  replace S := Hs.start w1
  all_goals (repeat' (first | refine K_seq ?_ | refine k_cond rfl ?_ | refine K_skip ?_ | refine K_exit ?_ | refine k_block ?_ | refine K_scope ?_ | (refine K_region (id := 2) ?_; refine mv ?_; refine KO_nil ?_) | (refine K_region (id := 3) ?_; refine mv ?_; (first | refine lnB S ?_ | refine lnS S rfl rfl ?_); refine mv ?_; refine KO_nil ?_)))
  refine k_loop (σ := Nat) (fun i h' => Hs g h' [] ∧ i ≤ l.length) (fun i => l.length - i) (fun i => [(3, u), (4, .int .i64 (sumT l i)), (19, u), (20, .int .i64 l.length), (21, .int .i64 i)]) 0 (by repeat (first | exact Ks.le_nil _ | refine Ks.le_cons rfl ?_ | refine Ks.le_int ?_)) ?_ ?_
  · exact ⟨S, Nat.zero_le _⟩
  clear S
  rintro i h ⟨S, h1⟩
  have b1 := sumT_le l i
  all_goals (repeat' (first | refine K_seq ?_ | refine k_cond rfl ?_ | refine K_skip ?_ | refine K_exit ?_ | refine k_block ?_ | refine K_scope ?_ | (refine K_region (id := 4) ?_; (first | refine cT ?_ | refine cF ?_ | (refine cS ?_ ?_ <;> intro hc)) <;> (refine KO_nil ?_)) | (refine K_region (id := 5) ?_; refine mv ?_; refine mv ?_; refine KO_nil ?_) | (refine K_region (id := 6) ?_; refine mv ?_; refine mv ?_; (first | refine ixB S ?_ | refine ixS2 S rfl rfl ?_); (first | refine lB S rfl rfl ?_ | refine lES2 S rfl rfl ?_ | refine lEB S ?_ | refine lH S ?_)) | (refine K_region (id := 33) ?_; refine mv ?_)))
  · (try simp only [Int.toNat_natCast] at *)
    have hi : i < l.length := by omega
    have hts := hm.sz hi
    have t1 := tsize_le (tb l i)
    have hsv := hm.seats hi
    have hfv := hm.first hi
    have hpos := hts.pos
    (refine KO_fn rfl rfl rfl rfl rfl ((seats_ok S.wf (tb l i) ((H.ext w1 S.ext).tab i hi)).mono ?_); rintro _ h ⟨rfl, x⟩) <;> (replace S := S.join0 x; clear x; rw [hsv]; refine mv ?_; refine KO_nil ?_)
    obtain ⟨n, hn⟩ := Int.eq_ofNat_of_zero_le t1.1
    simp only [hn]
    all_goals (repeat' (first | refine K_seq ?_ | refine k_cond rfl ?_ | refine K_skip ?_ | refine K_exit ?_ | refine k_block ?_ | refine K_scope ?_ | (refine K_region (id := 7) ?_; refine mv ?_; refine mv ?_)))
    (refine KO_fn rfl rfl rfl rfl rfl ((honour_ok S.wf u l (H.ext w1 S.ext) i).mono ?_); rintro va h ⟨out, ho, hol, x⟩) <;> (replace S := S.join1 x; clear x; refine mv ?_; refine KO_nil ?_)
    obtain ⟨ld, D, HL⟩ := ho.is hi hv hn
    have hs := hon_lt hts.b hpos
    obtain ⟨s, hsn⟩ : ∃ s, s = (tHon (tb l i)).toNat := ⟨_, rfl⟩
    have hslt : s < n := by omega
    have D0 := D
    rw [← hsn] at D
    have hlen := HL.len
    have hsym := nearP_symm' (tb l i)
    obtain ⟨f, hf⟩ : ∃ f, f = sumT l i := ⟨_, rfl⟩
    have hs1 : sumT l (i + 1) = sumT l i + tsize (tb l i) := rfl
    rw [← hf] at HL hfv b1 hs1
    rw [← hf]
    obtain ⟨key, hkd⟩ : ∃ key : Int → Int, key = fun x : Int => (lvl n ld).getD (x - f).toNat default := ⟨_, rfl⟩
    rw [← hkd] at HL
    have hkey : ∀ k : Nat, k < n → key (f + k) = lev n ld k := fun k hk => by
      rw [hkd]
      show (lvl n ld).getD (f + (k : Int) - f).toNat default = _
      rw [show (f + (k : Int) - f).toNat = k by omega, lvl_lev (by rw [D.1]; exact hk)]
    have hat : ∀ j, j < out.length → ∃ k : Nat, k < n ∧ out.getD j default = f + k := fun j hj => by
      have := HL.mem_ hj
      exact ⟨(out.getD j default - f).toNat, by omega, by omega⟩
    have hwh : ∀ k : Nat, k < n → WhereI l (f + k) i k := fun k hk => ⟨hv, hi, by omega, by omega⟩
    have hz := fun {j : Nat} (hj : j < out.length) => HL.zero hslt (fun k hk => by rw [hkey k hk]; exact lev_zero hslt D hk) (fun k hk => by rw [hkey k hk]; exact (lev_bound hslt D hk).1) hj
    all_goals (repeat' (first | refine K_seq ?_ | refine k_cond rfl ?_ | refine K_skip ?_ | refine K_exit ?_ | refine k_block ?_ | refine K_scope ?_ | (refine K_region (id := 8) ?_; refine mv ?_; (first | refine cT ?_ | refine cF ?_ | (refine cS ?_ ?_ <;> intro hc)) <;> (refine mv ?_; (first | refine off ?_ | refine mv ?_); (first | refine off ?_ | (first | refine lnB S ?_ | refine lnS S rfl rfl ?_)); (first | refine off ?_ | refine mv ?_); (first | refine off ?_ | (first | refine cT ?_ | refine cF ?_ | (refine cS ?_ ?_ <;> intro hc))) <;> (refine vl ?_; refine mv ?_; (first | refine off ?_ | refine mv ?_); (first | refine off ?_ | refine mv ?_); (first | (refine off ?_; (first | refine off ?_ | refine mv ?_); (first | refine off ?_ | (first | refine cT ?_ | refine cF ?_ | (refine cS ?_ ?_ <;> intro hc))) <;> (refine vl ?_; refine KO_nil ?_)) | skip))))))
    (refine KO_fn rfl rfl rfl rfl rfl ((first_ok S.wf u l (H.ext w1 S.ext) i).mono ?_); rintro _ h ⟨rfl, x⟩) <;> (replace S := S.join0 x; clear x; rw [hfv]; (first | refine off ?_ | refine mv ?_); (first | refine off ?_ | (first | refine cT ?_ | refine cF ?_ | (refine cS ?_ ?_ <;> intro hc))) <;> (refine vl ?_; refine KO_nil ?_))
    all_goals (repeat' (first | refine K_seq ?_ | refine k_cond rfl ?_ | refine K_skip ?_ | refine K_exit ?_ | refine k_block ?_ | refine K_scope ?_ | (refine K_region (id := 9) ?_; refine mv ?_; refine KO_nil ?_) | (refine K_region (id := 10) ?_; refine mv ?_; (first | refine lnB S ?_ | refine lnS S rfl rfl ?_); refine mv ?_; refine KO_nil ?_)))
    refine k_loop (σ := Nat) (fun j h' => Hs g h' [.sl va 3 1 eI out] ∧ j ≤ n) (fun j => n - j) (fun j => [(3, u), (4, .int .i64 f), (5, .int .i64 i), (6, .int .i64 n), (7, va), (19, u), (20, .int .i64 l.length), (21, .int .i64 i), (47, va), (48, .int .i64 n), (49, .int .i64 j)]) 0 (by repeat (first | exact Ks.le_nil _ | refine Ks.le_cons rfl ?_ | refine Ks.le_int ?_)) ?_ ?_
    · exact ⟨S, Nat.zero_le _⟩
    clear S
    rintro j h ⟨S, g1⟩
    all_goals (repeat' (first | refine K_seq ?_ | refine k_cond rfl ?_ | refine K_skip ?_ | refine K_exit ?_ | refine k_block ?_ | refine K_scope ?_ | (refine K_region (id := 11) ?_; (first | refine cT ?_ | refine cF ?_ | (refine cS ?_ ?_ <;> intro hc)) <;> (refine KO_nil ?_)) | (refine K_region (id := 12) ?_; refine mv ?_; (first | refine ixB S ?_ | refine ixS2 S rfl rfl ?_); (first | refine lB S rfl rfl ?_ | refine lES2 S rfl rfl ?_ | refine lEB S ?_ | refine lH S ?_); refine mv ?_; refine mv ?_; refine KO_nil ?_)))
    · have hj : j < out.length := by omega
      obtain ⟨k, hk, ek⟩ := hat j hj
      have hzj := hz hj
      rw [ek, hkey k hk] at hzj
      have lb := lev_bound hslt D hk
      (try simp only [Int.toNat_natCast])
      rw [ek]
      all_goals (repeat' (first | refine K_seq ?_ | refine k_cond rfl ?_ | refine K_skip ?_ | refine K_exit ?_ | refine k_block ?_ | refine K_scope ?_ | (refine K_region (id := 13) ?_; refine mv ?_; refine mv ?_)))
      (refine KO_fn rfl rfl rfl rfl rfl ((hallLevel_ok S.wf u l (H.ext w1 S.ext) (f + k) (by omega)).mono ?_); rintro _ h ⟨d, rfl, hd, x⟩) <;> (replace S := S.join0 x; clear x; obtain rfl := hd.is (hwh k hk) hn D0; refine mv ?_; refine KO_nil ?_)
      have lz : (lev n ld k = 0 ∧ j = 0) ∨ (lev n ld k ≠ 0 ∧ j ≠ 0) := by
        by_cases q : j = 0
        · exact .inl ⟨hzj.2 q, q⟩
        · exact .inr ⟨fun z => q (hzj.1 z), q⟩
      refine K_cut (σ := Unit) (fun _ h' => Hs g h' [.sl va 3 1 eI out]) (fun _ => [(3, u), (4, .int .i64 f), (5, .int .i64 i), (6, .int .i64 n), (7, va), (8, .int .i64 j), (9, .int .i64 (f + k)), (10, .int .i64 (lev n ld k)), (19, u), (20, .int .i64 l.length), (21, .int .i64 i), (47, va), (48, .int .i64 n), (49, .int .i64 j)]) ?_ ?_
      · rcases lz with ⟨z1, z2⟩ | ⟨z1, z2⟩
        · all_goals (repeat' (first | refine K_seq ?_ | refine k_cond rfl ?_ | refine K_skip ?_ | refine K_exit ?_ | refine k_block ?_ | refine K_scope ?_ | (refine K_region (id := 14) ?_; refine mv ?_; refine mv ?_; (first | refine cT ?_ | refine cF ?_ | (refine cS ?_ ?_ <;> intro hc)) <;> (refine mv ?_; (first | refine off ?_ | refine mv ?_); (first | refine off ?_ | refine mv ?_); (first | refine off ?_ | refine mv ?_); (first | refine off ?_ | (first | refine ad ?_ | refine vl ?_)); (first | refine off ?_ | (first | refine cT ?_ | refine cF ?_ | (refine cS ?_ ?_ <;> intro hc))) <;> (refine vl ?_; refine mv ?_; (first | refine off ?_ | refine mv ?_); (first | refine off ?_ | (first | refine cT ?_ | refine cF ?_ | (refine cS ?_ ?_ <;> intro hc))) <;> ((first | refine off ?_ | refine mv ?_); (first | refine off ?_ | (first | refine cT ?_ | refine cF ?_ | (refine cS ?_ ?_ <;> intro hc))) <;> ((first | refine off ?_ | refine vl ?_); refine vl ?_; refine mv ?_; (first | refine off ?_ | refine mv ?_); (first | refine off ?_ | refine mv ?_); (first | refine off ?_ | (first | refine cT ?_ | refine cF ?_ | (refine cS ?_ ?_ <;> intro hc))) <;> (refine vl ?_; refine KO_nil ?_))))))))
          exact ⟨(), S, ((by repeat (first | exact Ks.le_nil _ | refine Ks.le_cons rfl ?_ | refine Ks.le_int ?_)))⟩
        · all_goals (repeat' (first | refine K_seq ?_ | refine k_cond rfl ?_ | refine K_skip ?_ | refine K_exit ?_ | refine k_block ?_ | refine K_scope ?_ | (refine K_region (id := 14) ?_; refine mv ?_; refine mv ?_; (first | refine cT ?_ | refine cF ?_ | (refine cS ?_ ?_ <;> intro hc)) <;> (refine mv ?_; (first | refine off ?_ | refine mv ?_); (first | refine off ?_ | refine mv ?_); (first | refine off ?_ | refine mv ?_); (first | refine off ?_ | (first | refine ad ?_ | refine vl ?_)); (first | refine off ?_ | (first | refine cT ?_ | refine cF ?_ | (refine cS ?_ ?_ <;> intro hc))) <;> (refine vl ?_; refine mv ?_; (first | refine off ?_ | refine mv ?_); (first | refine off ?_ | (first | refine cT ?_ | refine cF ?_ | (refine cS ?_ ?_ <;> intro hc))) <;> ((first | refine off ?_ | refine mv ?_); (first | refine off ?_ | (first | refine cT ?_ | refine cF ?_ | (refine cS ?_ ?_ <;> intro hc))) <;> ((first | refine off ?_ | refine vl ?_); refine vl ?_; refine mv ?_; (first | refine off ?_ | refine mv ?_); (first | refine off ?_ | refine mv ?_); (first | refine off ?_ | (first | refine cT ?_ | refine cF ?_ | (refine cS ?_ ?_ <;> intro hc))) <;> (refine vl ?_; refine KO_nil ?_))))))))
          exact ⟨(), S, ((by repeat (first | exact Ks.le_nil _ | refine Ks.le_cons rfl ?_ | refine Ks.le_int ?_)))⟩
      clear S
      rintro - h S
      refine K_cut (σ := Unit) (fun _ h' => Hs g h' [.sl va 3 1 eI out]) (fun _ => [(3, u), (4, .int .i64 f), (5, .int .i64 i), (6, .int .i64 n), (7, va), (8, .int .i64 j), (9, .int .i64 (f + k)), (10, .int .i64 (lev n ld k)), (19, u), (20, .int .i64 l.length), (21, .int .i64 i), (47, va), (48, .int .i64 n), (49, .int .i64 j)]) ?_ ?_
      · rcases Nat.eq_zero_or_pos j with z | z
        · all_goals (repeat' (first | refine K_seq ?_ | refine k_cond rfl ?_ | refine K_skip ?_ | refine K_exit ?_ | refine k_block ?_ | refine K_scope ?_ | (refine K_region (id := 16) ?_; refine mv ?_; (first | refine cT ?_ | refine cF ?_ | (refine cS ?_ ?_ <;> intro hc)) <;> (refine mv ?_; (first | refine off ?_ | refine mv ?_); (first | refine off ?_ | refine mv ?_); (first | refine off ?_ | refine mv ?_); (first | refine off ?_ | (first | refine sb ?_ | refine vl ?_)); (first | refine off ?_ | (first | refine ixB S ?_ | refine ixS2 S rfl rfl ?_)); (first | refine off ?_ | (first | refine lB S rfl rfl ?_ | refine lES2 S rfl rfl ?_ | refine lEB S ?_ | refine lH S ?_)); (first | (refine off ?_; (first | refine off ?_ | refine mv ?_); (first | refine off ?_ | (first | refine cT ?_ | refine cF ?_ | (refine cS ?_ ?_ <;> intro hc))) <;> ((first | refine off ?_ | refine mv ?_); (first | refine off ?_ | refine mv ?_); (first | refine off ?_ | refine mv ?_); (first | refine off ?_ | refine mv ?_); (first | refine off ?_ | (first | refine sb ?_ | refine vl ?_)); (first | refine off ?_ | (first | refine ixB S ?_ | refine ixS2 S rfl rfl ?_)); (first | refine off ?_ | (first | refine lB S rfl rfl ?_ | refine lES2 S rfl rfl ?_ | refine lEB S ?_ | refine lH S ?_)); (first | (refine off ?_; (first | refine off ?_ | refine mv ?_); (first | refine off ?_ | (first | refine cT ?_ | refine cF ?_ | (refine cS ?_ ?_ <;> intro hc))) <;> ((first | refine off ?_ | refine mv ?_); (first | refine off ?_ | refine mv ?_); (first | refine off ?_ | refine mv ?_); (first | refine off ?_ | (first | refine sb ?_ | refine vl ?_)); (first | refine off ?_ | (first | refine ixB S ?_ | refine ixS2 S rfl rfl ?_)); (first | refine off ?_ | (first | refine lB S rfl rfl ?_ | refine lES2 S rfl rfl ?_ | refine lEB S ?_ | refine lH S ?_)); (first | refine off ?_ | refine mv ?_); (first | refine off ?_ | (first | refine cT ?_ | refine cF ?_ | (refine cS ?_ ?_ <;> intro hc))) <;> ((first | refine off ?_ | refine vl ?_); (first | refine off ?_ | refine vl ?_); refine vl ?_; refine KO_nil ?_))) | skip))) | skip)))))
          exact ⟨(), S, ((by repeat (first | exact Ks.le_nil _ | refine Ks.le_cons rfl ?_ | refine Ks.le_int ?_)))⟩
        · obtain ⟨k0, hk0, ek0⟩ := hat (j - 1) (by omega)
          have hlx := HL.at_ (show j - 1 < j by omega) hj
          rw [ek, ek0] at hlx
          unfold lexi at hlx
          rw [hkey k hk, hkey k0 hk0] at hlx
          have ek1 : out.getD ((j : Int) - 1).toNat default = f + k0 := by rw [toNat_pred]; exact ek0
          all_goals (repeat' (first | refine K_seq ?_ | refine k_cond rfl ?_ | refine K_skip ?_ | refine K_exit ?_ | refine k_block ?_ | refine K_scope ?_ | (refine K_region (id := 16) ?_; refine mv ?_; (first | refine cT ?_ | refine cF ?_ | (refine cS ?_ ?_ <;> intro hc)) <;> (refine mv ?_; (first | refine off ?_ | refine mv ?_); (first | refine off ?_ | refine mv ?_); (first | refine off ?_ | refine mv ?_); (first | refine off ?_ | (first | refine sb ?_ | refine vl ?_)); (first | refine off ?_ | (first | refine ixB S ?_ | refine ixS2 S rfl rfl ?_)); (first | refine off ?_ | (first | refine lB S rfl rfl ?_ | refine lES2 S rfl rfl ?_ | refine lEB S ?_ | refine lH S ?_)); (first | (refine off ?_; (first | refine off ?_ | refine mv ?_); (first | refine off ?_ | (first | refine cT ?_ | refine cF ?_ | (refine cS ?_ ?_ <;> intro hc))) <;> ((first | refine off ?_ | refine mv ?_); (first | refine off ?_ | refine mv ?_); (first | refine off ?_ | refine mv ?_); (first | refine off ?_ | refine mv ?_); (first | refine off ?_ | (first | refine sb ?_ | refine vl ?_)); (first | refine off ?_ | (first | refine ixB S ?_ | refine ixS2 S rfl rfl ?_)); (first | refine off ?_ | (first | refine lB S rfl rfl ?_ | refine lES2 S rfl rfl ?_ | refine lEB S ?_ | refine lH S ?_)); (first | (refine off ?_; (first | refine off ?_ | refine mv ?_); (first | refine off ?_ | (first | refine cT ?_ | refine cF ?_ | (refine cS ?_ ?_ <;> intro hc))) <;> ((first | refine off ?_ | refine mv ?_); (first | refine off ?_ | refine mv ?_); (first | refine off ?_ | refine mv ?_); (first | refine off ?_ | (first | refine sb ?_ | refine vl ?_)); (first | refine off ?_ | (first | refine ixB S ?_ | refine ixS2 S rfl rfl ?_)); (first | refine off ?_ | (first | refine lB S rfl rfl ?_ | refine lES2 S rfl rfl ?_ | refine lEB S ?_ | refine lH S ?_)); (first | refine off ?_ | refine mv ?_); (first | refine off ?_ | (first | refine cT ?_ | refine cF ?_ | (refine cS ?_ ?_ <;> intro hc))) <;> ((first | refine off ?_ | refine vl ?_); (first | refine off ?_ | refine vl ?_); refine vl ?_; refine KO_nil ?_))) | skip))) | skip)))))
          rw [toNat_pred, ek0]
          (refine KO_fn rfl rfl rfl rfl rfl ((hallLevel_ok S.wf u l (H.ext w1 S.ext) (f + k0) (by omega)).mono ?_); rintro _ h ⟨d, rfl, hd, x⟩) <;> (replace S := S.join0 x; clear x; obtain rfl := hd.is (hwh k0 hk0) hn D0; (first | refine off ?_ | refine mv ?_); (first | refine off ?_ | (first | refine cT ?_ | refine cF ?_ | (refine cS ?_ ?_ <;> intro hc))) <;> ((first | refine off ?_ | refine mv ?_); (first | refine off ?_ | refine mv ?_); (first | refine off ?_ | refine mv ?_); (first | refine off ?_ | refine mv ?_); (first | refine off ?_ | (first | refine sb ?_ | refine vl ?_)); (first | refine off ?_ | (first | refine ixB S ?_ | refine ixS2 S rfl rfl ?_)); (first | refine off ?_ | (first | refine lB S rfl rfl ?_ | refine lES2 S rfl rfl ?_ | refine lEB S ?_ | refine lH S ?_)); (first | (refine off ?_; (first | refine off ?_ | refine mv ?_); (first | refine off ?_ | (first | refine cT ?_ | refine cF ?_ | (refine cS ?_ ?_ <;> intro hc))) <;> ((first | refine off ?_ | refine mv ?_); (first | refine off ?_ | refine mv ?_); (first | refine off ?_ | refine mv ?_); (first | refine off ?_ | (first | refine sb ?_ | refine vl ?_)); (first | refine off ?_ | (first | refine ixB S ?_ | refine ixS2 S rfl rfl ?_)); (first | refine off ?_ | (first | refine lB S rfl rfl ?_ | refine lES2 S rfl rfl ?_ | refine lEB S ?_ | refine lH S ?_)); (first | refine off ?_ | refine mv ?_); (first | refine off ?_ | (first | refine cT ?_ | refine cF ?_ | (refine cS ?_ ?_ <;> intro hc))) <;> ((first | refine off ?_ | refine vl ?_); (first | refine off ?_ | refine vl ?_); refine vl ?_; refine KO_nil ?_))) | skip)))
          rw [toNat_pred, ek0]
          (refine KO_fn rfl rfl rfl rfl rfl ((hallLevel_ok S.wf u l (H.ext w1 S.ext) (f + k0) (by omega)).mono ?_); rintro _ h ⟨d, rfl, hd, x⟩) <;> (replace S := S.join0 x; clear x; obtain rfl := hd.is (hwh k0 hk0) hn D0; (first | refine off ?_ | refine mv ?_); (first | refine off ?_ | (first | refine cT ?_ | refine cF ?_ | (refine cS ?_ ?_ <;> intro hc))) <;> ((first | refine off ?_ | refine mv ?_); (first | refine off ?_ | refine mv ?_); (first | refine off ?_ | refine mv ?_); (first | refine off ?_ | (first | refine sb ?_ | refine vl ?_)); (first | refine off ?_ | (first | refine ixB S ?_ | refine ixS2 S rfl rfl ?_)); (first | refine off ?_ | (first | refine lB S rfl rfl ?_ | refine lES2 S rfl rfl ?_ | refine lEB S ?_ | refine lH S ?_)); (first | refine off ?_ | refine mv ?_); (first | refine off ?_ | (first | refine cT ?_ | refine cF ?_ | (refine cS ?_ ?_ <;> intro hc))) <;> ((first | refine off ?_ | refine vl ?_); (first | refine off ?_ | refine vl ?_); refine vl ?_; refine KO_nil ?_)))
          all_goals (all_goals (repeat' (first | refine K_seq ?_ | refine k_cond rfl ?_ | refine K_skip ?_ | refine K_exit ?_ | refine k_block ?_ | refine K_scope ?_ | (refine K_region (id := 17) ?_; refine mv ?_; refine KO_nil ?_))))
          all_goals exact ⟨(), S, ((by repeat (first | exact Ks.le_nil _ | refine Ks.le_cons rfl ?_ | refine Ks.le_int ?_)))⟩
      clear S
      rintro - h S
      refine K_cut (σ := Bool) (fun b h' => Hs g h' [.sl va 3 1 eI out] ∧ (b = true ↔ lev n ld k = 0 ∨ lev n ld k = n)) (fun b => [(3, u), (4, .int .i64 f), (5, .int .i64 i), (6, .int .i64 n), (7, va), (8, .int .i64 j), (9, .int .i64 (f + k)), (10, .int .i64 (lev n ld k)), (11, .bool b), (19, u), (20, .int .i64 l.length), (21, .int .i64 i), (47, va), (48, .int .i64 n), (49, .int .i64 j)]) ?_ ?_
      · by_cases z : lev n ld k = 0 ∨ lev n ld k = n
        · rcases z with z | z
          · all_goals (repeat' (first | refine K_seq ?_ | refine k_cond rfl ?_ | refine K_skip ?_ | refine K_exit ?_ | refine k_block ?_ | refine K_scope ?_ | (refine K_region (id := 18) ?_; refine mv ?_; (first | refine cT ?_ | refine cF ?_ | (refine cS ?_ ?_ <;> intro hc)) <;> (refine mv ?_; (first | refine off ?_ | refine mv ?_); (first | refine off ?_ | refine mv ?_); (first | refine off ?_ | (first | refine cT ?_ | refine cF ?_ | (refine cS ?_ ?_ <;> intro hc))) <;> (refine vl ?_; refine mv ?_; refine KO_nil ?_)))))
            exact ⟨true, ⟨S, by simp [z]⟩, ((by repeat (first | exact Ks.le_nil _ | refine Ks.le_cons rfl ?_ | refine Ks.le_int ?_)))⟩
          · by_cases z2 : lev n ld k = 0
            · all_goals (repeat' (first | refine K_seq ?_ | refine k_cond rfl ?_ | refine K_skip ?_ | refine K_exit ?_ | refine k_block ?_ | refine K_scope ?_ | (refine K_region (id := 18) ?_; refine mv ?_; (first | refine cT ?_ | refine cF ?_ | (refine cS ?_ ?_ <;> intro hc)) <;> (refine mv ?_; (first | refine off ?_ | refine mv ?_); (first | refine off ?_ | refine mv ?_); (first | refine off ?_ | (first | refine cT ?_ | refine cF ?_ | (refine cS ?_ ?_ <;> intro hc))) <;> (refine vl ?_; refine mv ?_; refine KO_nil ?_)))))
              exact ⟨true, ⟨S, by simp [z]⟩, ((by repeat (first | exact Ks.le_nil _ | refine Ks.le_cons rfl ?_ | refine Ks.le_int ?_)))⟩
            · all_goals (repeat' (first | refine K_seq ?_ | refine k_cond rfl ?_ | refine K_skip ?_ | refine K_exit ?_ | refine k_block ?_ | refine K_scope ?_ | (refine K_region (id := 18) ?_; refine mv ?_; (first | refine cT ?_ | refine cF ?_ | (refine cS ?_ ?_ <;> intro hc)) <;> (refine mv ?_; (first | refine off ?_ | refine mv ?_); (first | refine off ?_ | refine mv ?_); (first | refine off ?_ | (first | refine cT ?_ | refine cF ?_ | (refine cS ?_ ?_ <;> intro hc))) <;> (refine vl ?_; refine mv ?_; refine KO_nil ?_)))))
              exact ⟨true, ⟨S, by simp [z]⟩, ((by repeat (first | exact Ks.le_nil _ | refine Ks.le_cons rfl ?_ | refine Ks.le_int ?_)))⟩
        · have z1 : lev n ld k ≠ 0 := fun q => z (.inl q)
          have z2 : lev n ld k ≠ n := fun q => z (.inr q)
          all_goals (repeat' (first | refine K_seq ?_ | refine k_cond rfl ?_ | refine K_skip ?_ | refine K_exit ?_ | refine k_block ?_ | refine K_scope ?_ | (refine K_region (id := 18) ?_; refine mv ?_; (first | refine cT ?_ | refine cF ?_ | (refine cS ?_ ?_ <;> intro hc)) <;> (refine mv ?_; (first | refine off ?_ | refine mv ?_); (first | refine off ?_ | refine mv ?_); (first | refine off ?_ | (first | refine cT ?_ | refine cF ?_ | (refine cS ?_ ?_ <;> intro hc))) <;> (refine vl ?_; refine mv ?_; refine KO_nil ?_)))))
          exact ⟨false, ⟨S, by simp [z1, z2]⟩, ((by repeat (first | exact Ks.le_nil _ | refine Ks.le_cons rfl ?_ | refine Ks.le_int ?_)))⟩
      clear S
      rintro b0 h ⟨S, hb0⟩
      all_goals (repeat' (first | refine K_seq ?_ | refine k_cond rfl ?_ | refine K_skip ?_ | refine K_exit ?_ | refine k_block ?_ | refine K_scope ?_ | (refine K_region (id := 19) ?_; refine mv ?_; refine mv ?_)))
      (refine KO_fn rfl rfl rfl rfl rfl ((hallNeighbours_ok S.wf u l (H.ext w1 S.ext) (f + k) (by omega)).mono ?_); rintro vn h ⟨nb, hnb, hnl, x⟩) <;> (replace S := S.join1 x; clear x; (first | refine lnB S ?_ | refine lnS S rfl rfl ?_); refine mv ?_; refine KO_nil ?_)
      obtain rfl := hnb.is (hwh k hk) hn
      have nin := fun m (hm : m < (nbUp (nearP (tb l i)) k (f + k) n).length) => nb_in (N := nearP (tb l i)) (k := k) (a := f + k) n m hm
      have nhas := fun q (hq : q < n) (hN : nearP (tb l i) k q) => nb_has (N := nearP (tb l i)) (k := k) (a := f + k) n q hq hN
      generalize nbUp (nearP (tb l i)) k (f + k) n = nb at S nin nhas hnl
      all_goals (repeat' (first | refine K_seq ?_ | refine k_cond rfl ?_ | refine K_skip ?_ | refine K_exit ?_ | refine k_block ?_ | refine K_scope ?_ | (refine K_region (id := 19) ?_; refine mv ?_; refine mv ?_)))
      refine k_loop (σ := Nat × Bool) (fun (m, b) h' => Hs g h' [.sl vn 3 1 eI nb, .sl va 3 1 eI out] ∧ m ≤ nb.length ∧ (b = true ↔ lev n ld k = 0 ∨ lev n ld k = n ∨ ∃ q, q < m ∧ ∃ p : Nat, p < n ∧ nb.getD q default = f + p ∧ lev n ld p - lev n ld k = -1)) (fun (m, b) => nb.length - m) (fun (m, b) => [(3, u), (4, .int .i64 f), (5, .int .i64 i), (6, .int .i64 n), (7, va), (8, .int .i64 j), (9, .int .i64 (f + k)), (10, .int .i64 (lev n ld k)), (11, .bool b), (19, u), (20, .int .i64 l.length), (21, .int .i64 i), (47, va), (48, .int .i64 n), (49, .int .i64 j), (121, vn), (122, .int .i64 nb.length), (123, .int .i64 m)]) (0, b0) (by repeat (first | exact Ks.le_nil _ | refine Ks.le_cons rfl ?_ | refine Ks.le_int ?_)) ?_ ?_
      · refine ⟨S, Nat.zero_le _, hb0.trans ⟨fun q => q.elim .inl fun q => .inr (.inl q), fun q => ?_⟩⟩
        rcases q with q | q | ⟨q, q1, -⟩
        · exact .inl q
        · exact .inr q
        · omega
      clear S hb0
      rintro ⟨m, b⟩ h ⟨S, m1, m2⟩
      all_goals (repeat' (first | refine K_seq ?_ | refine k_cond rfl ?_ | refine K_skip ?_ | refine K_exit ?_ | refine k_block ?_ | refine K_scope ?_ | (refine K_region (id := 20) ?_; (first | refine cT ?_ | refine cF ?_ | (refine cS ?_ ?_ <;> intro hc)) <;> (refine KO_nil ?_)) | (refine K_region (id := 21) ?_; (first | refine ixB S ?_ | refine ixS2 S rfl rfl ?_); (first | refine lB S rfl rfl ?_ | refine lES2 S rfl rfl ?_ | refine lEB S ?_ | refine lH S ?_); refine mv ?_; refine KO_nil ?_)))
      · (try simp only [Int.toNat_natCast])
        have hm1 : m < nb.length := by omega
        obtain ⟨p, hp, hpN, ep⟩ := nin m hm1
        have ep : nb.getD m default = f + p := by omega
        have ln := lev_near hslt hsym D hk hp hpN
        rw [ep]
        all_goals (repeat' (first | refine K_seq ?_ | refine k_cond rfl ?_ | refine K_skip ?_ | refine K_exit ?_ | refine k_block ?_ | refine K_scope ?_ | (refine K_region (id := 22) ?_; refine mv ?_; refine mv ?_)))
        (refine KO_fn rfl rfl rfl rfl rfl ((hallLevel_ok S.wf u l (H.ext w1 S.ext) (f + p) (by omega)).mono ?_); rintro _ h ⟨d, rfl, hd, x⟩) <;> (replace S := S.join0 x; clear x; obtain rfl := hd.is (hwh p hp) hn D0; refine mv ?_; (first | refine sb ?_ | refine vl ?_); refine mv ?_; refine KO_nil ?_)
        cases b
        · all_goals (repeat' (first | refine K_seq ?_ | refine k_cond rfl ?_ | refine K_skip ?_ | refine K_exit ?_ | refine k_block ?_ | refine K_scope ?_ | (refine K_region (id := 23) ?_; refine mv ?_; (first | refine cT ?_ | refine cF ?_ | (refine cS ?_ ?_ <;> intro hc)) <;> (refine mv ?_; (first | refine off ?_ | refine mv ?_); (first | refine off ?_ | (first | refine cT ?_ | refine cF ?_ | (refine cS ?_ ?_ <;> intro hc))) <;> (refine vl ?_; refine KO_nil ?_))) | (refine K_region (id := 25) ?_; refine mv ?_; refine mv ?_; (first | refine off ?_ | refine mv ?_); (first | refine off ?_ | (first | refine cT ?_ | refine cF ?_ | (refine cS ?_ ?_ <;> intro hc))) <;> (refine vl ?_; refine mv ?_; refine KO_nil ?_))))
          · all_goals (repeat' (first | refine K_seq ?_ | refine k_cond rfl ?_ | refine K_skip ?_ | refine K_exit ?_ | refine k_block ?_ | refine K_scope ?_ | (refine K_region (id := 26) ?_; (first | refine ad ?_ | refine vl ?_); refine mv ?_; refine KO_nil ?_)))
            refine ⟨(m + 1, true), ?_, ?_, (by repeat (first | exact Ks.le_nil _ | refine Ks.le_cons rfl ?_ | refine Ks.le_int ?_))⟩
            · show nb.length - (m + 1) < nb.length - m; omega
            · refine ⟨S, by omega, ⟨fun _ => .inr (.inr ⟨m, by omega, p, hp, ep, by omega⟩), fun _ => rfl⟩⟩
          · all_goals (repeat' (first | refine K_seq ?_ | refine k_cond rfl ?_ | refine K_skip ?_ | refine K_exit ?_ | refine k_block ?_ | refine K_scope ?_ | (refine K_region (id := 26) ?_; (first | refine ad ?_ | refine vl ?_); refine mv ?_; refine KO_nil ?_)))
            refine ⟨(m + 1, false), ?_, ?_, (by repeat (first | exact Ks.le_nil _ | refine Ks.le_cons rfl ?_ | refine Ks.le_int ?_))⟩
            · show nb.length - (m + 1) < nb.length - m; omega
            · refine ⟨S, by omega, ⟨fun q => (by cases q), fun q => ?_⟩⟩
              refine m2.2 ?_
              rcases q with q | q | ⟨q, q1, p', q2, q3, q4⟩
              · exact .inl q
              · exact .inr (.inl q)
              · refine .inr (.inr ⟨q, ?_, p', q2, q3, q4⟩)
                rcases Nat.lt_or_ge q m with q5 | q5
                · exact q5
                · exfalso
                  obtain rfl : q = m := by omega
                  obtain rfl : p' = p := by omega
                  omega
        · all_goals (repeat' (first | refine K_seq ?_ | refine k_cond rfl ?_ | refine K_skip ?_ | refine K_exit ?_ | refine k_block ?_ | refine K_scope ?_ | (refine K_region (id := 23) ?_; refine mv ?_; (first | refine cT ?_ | refine cF ?_ | (refine cS ?_ ?_ <;> intro hc)) <;> (refine mv ?_; (first | refine off ?_ | refine mv ?_); (first | refine off ?_ | (first | refine cT ?_ | refine cF ?_ | (refine cS ?_ ?_ <;> intro hc))) <;> (refine vl ?_; refine KO_nil ?_))) | (refine K_region (id := 25) ?_; refine mv ?_; refine mv ?_; (first | refine off ?_ | refine mv ?_); (first | refine off ?_ | (first | refine cT ?_ | refine cF ?_ | (refine cS ?_ ?_ <;> intro hc))) <;> (refine vl ?_; refine mv ?_; refine KO_nil ?_)) | (refine K_region (id := 26) ?_; (first | refine ad ?_ | refine vl ?_); refine mv ?_; refine KO_nil ?_)))
          refine ⟨(m + 1, true), ?_, ?_, (by repeat (first | exact Ks.le_nil _ | refine Ks.le_cons rfl ?_ | refine Ks.le_int ?_))⟩
          · show nb.length - (m + 1) < nb.length - m; omega
          · refine ⟨S, by omega, ⟨fun _ => ?_, fun _ => rfl⟩⟩
            rcases m2.1 rfl with q | q | ⟨q, q1, q2⟩
            · exact .inl q
            · exact .inr (.inl q)
            · exact .inr (.inr ⟨q, by omega, q2⟩)
      · obtain rfl : b = true := by
          refine m2.2 ?_
          by_cases z1 : lev n ld k = 0
          · exact .inl z1
          · by_cases z2 : lev n ld k = n
            · exact .inr (.inl z2)
            · obtain ⟨p, hp, hpN, e⟩ := lev_down hslt hsym D hk z1 z2
              obtain ⟨q, q1, q2⟩ := nhas p hp hpN
              exact .inr (.inr ⟨q, by omega, p, hp, by omega, e⟩)
        obtain ⟨k0, hk0, ek0⟩ := hat 0 (by omega)
        have hz0 := (hz (show 0 < out.length by omega)).2 rfl
        rw [ek0, hkey k0 hk0] at hz0
        obtain rfl := (lev_zero hslt D hk0).1 hz0
        have ek1 : out.getD (0 : Int).toNat default = f + k0 := ek0
        all_goals (repeat' (first | refine K_seq ?_ | refine k_cond rfl ?_ | refine K_skip ?_ | refine K_exit ?_ | refine k_block ?_ | refine K_scope ?_ | (refine K_region (id := 27) ?_; refine mv ?_; refine mv ?_; (first | refine ixB S ?_ | refine ixS2 S rfl rfl ?_); (first | refine lB S rfl rfl ?_ | refine lES2 S rfl rfl ?_ | refine lEB S ?_ | refine lH S ?_); refine mv ?_)))
        rw [ek1]
        (refine KO_fn rfl rfl rfl rfl rfl ((hallDistance_ok S.wf u l (H.ext w1 S.ext) (f + k0) (f + k) (by omega) (by omega)).mono ?_); rintro _ h ⟨dd, f2, rfl, hdr, x⟩) <;> (replace S := S.join0 x; clear x; refine mv ?_; refine vl ?_; refine vl ?_; refine mv ?_; refine mv ?_; refine KO_nil ?_)
        have hfr := (hdr.is (hwh k0 hk0) (hwh k hk) hn).trans (lev_reach hslt D hk).symm
        replace S := S.tail
        by_cases z : lev n ld k < n
        · obtain rfl : f2 = true := hfr.2 z
          all_goals (repeat' (first | refine K_seq ?_ | refine k_cond rfl ?_ | refine K_skip ?_ | refine K_exit ?_ | refine k_block ?_ | refine K_scope ?_ | (refine K_region (id := 28) ?_; refine mv ?_; refine vl ?_; refine mv ?_; (first | refine off ?_ | refine mv ?_); (first | refine off ?_ | refine mv ?_); (first | refine off ?_ | refine mv ?_); (first | refine off ?_ | (first | refine cT ?_ | refine cF ?_ | (refine cS ?_ ?_ <;> intro hc))) <;> ((first | refine off ?_ | refine vl ?_); refine vl ?_; refine KO_nil ?_)) | (refine K_region (id := 30) ?_; (first | refine ad ?_ | refine vl ?_); refine mv ?_; refine KO_nil ?_)))
          refine ⟨j + 1, ?_, ?_, (by repeat (first | exact Ks.le_nil _ | refine Ks.le_cons rfl ?_ | refine Ks.le_int ?_))⟩
          · show n - (j + 1) < n - j; omega
          · exact ⟨S, by omega⟩
        · obtain rfl : f2 = false := by
            cases f2
            · rfl
            · exact absurd (hfr.1 rfl) z
          all_goals (repeat' (first | refine K_seq ?_ | refine k_cond rfl ?_ | refine K_skip ?_ | refine K_exit ?_ | refine k_block ?_ | refine K_scope ?_ | (refine K_region (id := 28) ?_; refine mv ?_; refine vl ?_; refine mv ?_; (first | refine off ?_ | refine mv ?_); (first | refine off ?_ | refine mv ?_); (first | refine off ?_ | refine mv ?_); (first | refine off ?_ | (first | refine cT ?_ | refine cF ?_ | (refine cS ?_ ?_ <;> intro hc))) <;> ((first | refine off ?_ | refine vl ?_); refine vl ?_; refine KO_nil ?_)) | (refine K_region (id := 30) ?_; (first | refine ad ?_ | refine vl ?_); refine mv ?_; refine KO_nil ?_)))
          refine ⟨j + 1, ?_, ?_, (by repeat (first | exact Ks.le_nil _ | refine Ks.le_cons rfl ?_ | refine Ks.le_int ?_))⟩
          · show n - (j + 1) < n - j; omega
          · exact ⟨S, by omega⟩
    · all_goals (repeat' (first | refine K_seq ?_ | refine k_cond rfl ?_ | refine K_skip ?_ | refine K_exit ?_ | refine k_block ?_ | refine K_scope ?_ | (refine K_region (id := 31) ?_; refine mv ?_; refine mv ?_; (first | refine ad ?_ | refine vl ?_); refine mv ?_; refine KO_nil ?_) | (refine K_region (id := 32) ?_; (first | refine ad ?_ | refine vl ?_); refine mv ?_; refine KO_nil ?_)))
      refine ⟨i + 1, ?_, ?_, (by repeat (first | exact Ks.le_nil _ | refine Ks.le_cons rfl ?_ | refine Ks.le_int ?_))⟩
      · show l.length - (i + 1) < l.length - i; omega
      · exact ⟨S.drop, by omega⟩
  · obtain rfl : i = l.length := by omega
    all_goals (repeat' (first | refine K_seq ?_ | refine k_cond rfl ?_ | refine K_skip ?_ | refine K_exit ?_ | refine k_block ?_ | refine K_scope ?_ | (refine K_region (id := 33) ?_; refine mv ?_)))
    (refine KO_fn rfl rfl rfl rfl rfl ((count_ok S.wf u l (H.ext w1 S.ext)).mono ?_); rintro _ h ⟨rfl, x⟩) <;> (replace S := S.join0 x; clear x; rw [hm.count]; refine mv ?_; (first | refine cT ?_ | refine cF ?_ | (refine cS ?_ ?_ <;> intro hc)) <;> (refine mv ?_; (first | (refine off ?_; refine vl ?_; refine mv ?_; refine KO_nil ?_) | skip)))
    (refine KO_fn rfl rfl rfl rfl rfl ((awake_ok).mono ?_); rintro _ h ⟨rfl, rfl⟩) <;> (refine vl ?_; refine mv ?_; refine KO_nil ?_)
    all_goals (repeat' (first | refine K_seq ?_ | refine k_cond rfl ?_ | refine K_skip ?_ | refine K_exit ?_ | refine k_block ?_ | refine K_scope ?_ | (refine K_region (id := 20) ?_; (first | refine cT ?_ | refine cF ?_ | (refine cS ?_ ?_ <;> intro hc)) <;> (refine KO_nil ?_)) | (refine K_region (id := 21) ?_; (first | refine ixB S ?_ | refine ixS2 S rfl rfl ?_); (first | refine lB S rfl rfl ?_ | refine lES2 S rfl rfl ?_ | refine lEB S ?_ | refine lH S ?_); refine mv ?_; refine KO_nil ?_) | (refine K_region (id := 22) ?_; refine mv ?_; refine mv ?_) | (refine K_region (id := 23) ?_; refine mv ?_; (first | refine cT ?_ | refine cF ?_ | (refine cS ?_ ?_ <;> intro hc)) <;> (refine mv ?_; (first | refine off ?_ | refine mv ?_); (first | refine off ?_ | (first | refine cT ?_ | refine cF ?_ | (refine cS ?_ ?_ <;> intro hc))) <;> (refine vl ?_; refine KO_nil ?_))) | (refine K_region (id := 24) ?_; refine mv ?_; refine KO_nil ?_) | (refine K_region (id := 25) ?_; refine mv ?_; refine mv ?_; (first | refine off ?_ | refine mv ?_); (first | refine off ?_ | (first | refine cT ?_ | refine cF ?_ | (refine cS ?_ ?_ <;> intro hc))) <;> (refine vl ?_; refine mv ?_; refine KO_nil ?_)) | (refine K_region (id := 26) ?_; (first | refine ad ?_ | refine vl ?_); refine mv ?_; refine KO_nil ?_) | (refine K_region (id := 27) ?_; refine mv ?_; refine mv ?_; (first | refine ixB S ?_ | refine ixS2 S rfl rfl ?_); (first | refine lB S rfl rfl ?_ | refine lES2 S rfl rfl ?_ | refine lEB S ?_ | refine lH S ?_); refine mv ?_) | (refine K_region (id := 28) ?_; refine mv ?_; refine vl ?_; refine mv ?_; (first | refine off ?_ | refine mv ?_); (first | refine off ?_ | refine mv ?_); (first | refine off ?_ | refine mv ?_); (first | refine off ?_ | (first | refine cT ?_ | refine cF ?_ | (refine cS ?_ ?_ <;> intro hc))) <;> ((first | refine off ?_ | refine vl ?_); refine vl ?_; refine KO_nil ?_)) | (refine K_region (id := 29) ?_; refine mv ?_; refine KO_nil ?_) | (refine K_region (id := 30) ?_; (first | refine ad ?_ | refine vl ?_); refine mv ?_; refine KO_nil ?_)))
    refine K_ret ⟨_, rfl, ?_⟩
    rfl
theorem hallLevels_core (h : AH) (us : List Value) (w : WfH h) (a : ArgsR Tryz.prog h Tryz.f11.params.toList us) : Fn Tryz.prog Xh 11 us h (fun x _ => x = .bool true) := by
  rw [show Tryz.f11.params.toList = [35] by kernel_rfl] at a
  obtain ⟨n0, r0, us, rfl, a0, a⟩ := a.cons_inv
  obtain rfl := a.nil_inv
  obtain ⟨v, l, rfl, A⟩ := AR.codes1 a0
  exact hallLevels_true w v l A
end Go.Proofs.Xx

/-
  What is known of the listed variables (nothing is asked of them here); a block of cells that is there in every world.
-/
namespace Go.Proofs.Xx
open Go Go.RowKit Go.Proofs
instance globAny : Glob := ⟨fun _ => True⟩
theorem Xh_none (f : FuncId) (h1 : f ≠ 21) (h2 : f ≠ 200) (us : List Value) (h : AH) : Xh f us h = none := by
  have e1 : Nat.beq f 21 = false := by rw [Bool.eq_false_iff]; intro q; exact h1 (Nat.eq_of_beq_eq_true q)
  have e2 : Nat.beq f 200 = false := by rw [Bool.eq_false_iff]; intro q; exact h2 (Nat.eq_of_beq_eq_true q)
  unfold Xh withKnown externNoEscape
  simp only [e1, e2]
theorem gDe : Tryz.prog.globalNamed "math/bits.deBruijn32tab" = some 2 := by kernel_rfl
theorem gDeType : (Tryz.prog.globals[2]?).map (·.type) = some 211 := by kernel_rfl
theorem cell_block {W : World} {b o : Nat} {v : Value} (h : W.cell? ⟨b, o, none⟩ = some v) : ∃ (k : Nat) (cc : Array Value) (el : TypeId) (fr : Nat × Nat), W.heap[k]? = some (.cells cc el fr) := by
  unfold World.cell? at h
  split at h
  · rename_i c e f hc; exact ⟨b, c, e, f, hc⟩
  · cases h
theorem cells_there {W : World} {rest : List (String × DataW Unit)} (h : laidMet Tryz.prog (("math/bits.deBruijn32tab", YtnopenpheaihmaaGreatDoor.Rows.laid_math_bits_deBruijn32tab) :: rest) W) :
    ∃ (k : Nat) (cc : Array Value) (el : TypeId) (fr : Nat × Nat), W.heap[k]? = some (.cells cc el fr) := by
  have t : Lib.TabIs Tryz.prog W "math/bits.deBruijn32tab" .u8 [0, 1, 28, 2, 29, 14, 24, 3, 30, 22, 20, 15, 25, 17, 4, 8, 31, 27, 13, 23, 21, 19, 16, 7, 26, 12, 18, 6, 11, 5, 10, 9] :=
    Lib.tabIs_of_head gDe gDeType (n := 32) (e := 5) (by kernel_rfl) (by kernel_rfl) (by kernel_rfl) (by kernel_rfl) h
  exact cell_block (t.cell gDe 0 (by decide))
end Go.Proofs.Xx
