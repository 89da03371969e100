/-
  The reference's turns; the turns that keep given seats.
-/
import Derived.Test.YtnopenpheaihmaaGreatDoorM14
import Derived.Test.YtnopenpheaihmaaGreatDoorM15
import Derived.Test.YtnopenpheaihmaaGreatDoorM8
import Derived.Test.YtnopenpheaihmaaGreatDoorM10
import Derived.Test.YtnopenpheaihmaaGreatDoorM12
import Derived.Test.YtnopenpheaihmaaGreatDoorM9
import Derived.Test.YtnopenpheaihmaaGreatDoorM7
import Derived.Test.YtnopenpheaihmaaGreatDoorRows
import Derived.Lib.LaidTab
import Derived.Stop.LaidErr

namespace Go.Proofs.Xx
open Go Go.Proofs
set_option linter.unusedSimpArgs false
set_option linter.unusedVariables false
set_option maxRecDepth 100000

/-- The candidates before c that keep the table, in order. -/
structure Ins (t : Tab) (c : Nat) (LL : List PL) : Prop where
  srt : (LL.map (·.2)).Pairwise ltL
  mem : ∀ p, p ∈ LL.map (·.2) ↔ ∃ j, j < c ∧ j < mvn t ∧ acc t [] j ∧ p = cand t j
  len : LL.length ≤ c
theorem Ins.zero {t : Tab} : Ins t 0 [] := ⟨.nil, fun p => ⟨fun h => (List.not_mem_nil h).elim, fun ⟨j, h, _⟩ => by omega⟩, Nat.le_refl _⟩
theorem Ins.there {t : Tab} {c : Nat} {LL : List PL} (T : Ins t c LL) (a : c < mvn t → acc t [] c → cand t c ∈ LL.map (·.2)) : Ins t (c + 1) LL := by
  refine ⟨T.srt, fun p => ?_, by have := T.len; omega⟩
  constructor
  · intro h
    obtain ⟨j, h1, h2⟩ := (T.mem p).1 h
    exact ⟨j, by omega, h2⟩
  · rintro ⟨j, h1, h2, h3, rfl⟩
    rcases Nat.lt_or_ge j c with q | q
    · exact (T.mem _).2 ⟨j, q, h2, h3, rfl⟩
    · obtain rfl : j = c := by omega
      exact a h2 h3
theorem lAt_map {LL : List PL} {i : Nat} (h : i < LL.length) : lAt (LL.map (·.2)) i = (LL.getD i default).2 := by
  simp [lAt, List.getD_eq_getElem?_getD, h]
theorem Ins.put {t : Tab} {c : Nat} {LL : List PL} (T : Ins t c LL) (hc : c < mvn t) (a : acc t [] c) (s : SlV) {i : Nat} (hi : i ≤ LL.length) (lo : ∀ j, j < i → ltL (lAt (LL.map (·.2)) j) (cand t c)) (hh : i < LL.length → ltL (cand t c) (lAt (LL.map (·.2)) i)) : Ins t (c + 1) (LL.take i ++ [(s, cand t c)] ++ LL.drop i) := by
  have e : (LL.take i ++ [(s, cand t c)] ++ LL.drop i).map (·.2) = (LL.map (·.2)).take i ++ [cand t c] ++ (LL.map (·.2)).drop i := by simp [List.map_take, List.map_drop]
  refine ⟨?_, fun p => ?_, ?_⟩
  · rw [e]
    exact ins_pw T.srt (fun j h1 _ => lo j h1) fun q => hh (by simpa using q)
  · rw [e, ins_mem, T.mem]
    constructor
    · rintro (rfl | ⟨j, h1, h2⟩)
      · exact ⟨c, by omega, hc, a, rfl⟩
      · exact ⟨j, by omega, h2⟩
    · rintro ⟨j, h1, h2, h3, rfl⟩
      rcases Nat.lt_or_ge j c with q | q
      · exact .inr ⟨j, q, h2, h3, rfl⟩
      · obtain rfl : j = c := by omega
        exact .inl rfl
  · have := T.len
    simp; omega
theorem Ins.turn {t : Tab} {c : Nat} {LL : List PL} (T : Ins t c LL) (h : mvn t ≤ c) : TurnL t [] (LL.map (·.2)) :=
  ⟨T.srt, fun p => (T.mem p).trans ⟨fun ⟨j, _, h⟩ => ⟨j, h⟩, fun ⟨j, h1, h2⟩ => ⟨j, by omega, h1, h2⟩⟩⟩
theorem Ins.lens {t : Tab} {c : Nat} {LL : List PL} (T : Ins t c LL) {x : PL} (hx : x ∈ LL) : x.2.length = (tsize t).toNat := by
  obtain ⟨j, -, -, -, e⟩ := (T.mem x.2).1 (List.mem_map_of_mem hx)
  rw [e, cand_len]
theorem acc_keep {t : Tab} {j : Nat} : acc t [] j ↔ KeepP t (cand t j) := ⟨fun h => h.1, fun h => ⟨h, fun x hx => by cases hx⟩⟩
theorem refTurns_ok {h0 : AH} (w : WfH h0) (t : Tab) (r : TabR h0 t) (hs : TabS t) : Fn Tryz.prog Xh 68 [tabV t] h0 (fun v h' => ∃ out : List PL, TurnL t [] (out.map (·.2)) ∧ out.length ≤ 48 ∧ Hs h0 h' [.sl v 23 1 eP out, .any (LLp out)]) := by
  have S := Hs.start w
  have hcl := rcount_le hs
  have hsp := hs.shape
  have hsz := tsize_le t
  have hpos := hs.pos
  obtain ⟨-, -, hA1, hA2, -, -⟩ := hs.b
  refine Fn_K rfl Tryz.func68 rfl rfl ?_
  (repeat (refine K_seq ?_)); refine K_region (id := 0) ?_; (refine bx S ?_; clear S; intro b h S); refine mv ?_; refine KO_nil ?_
  obtain ⟨b0, hnm⟩ : ∃ x, x = b := ⟨_, rfl⟩; subst hnm
  (repeat (refine K_seq ?_)); refine K_region (id := 1) ?_; refine mv ?_; refine KO_nil ?_
  refine K_cut (σ := Int) (fun x h' => Hs h0 h' [.blk b0 (eT t) 25] ∧ x = (if t.shape = 1 then 2 * t.A else 2)) (fun x => [(1, PT b0), (3, .int .i64 x)]) ?_ ?_
  · all_goals (repeat' (first | refine K_seq ?_ | refine k_cond rfl ?_ | refine K_skip ?_ | refine K_exit ?_ | refine k_block ?_ | refine K_scope ?_ | (refine K_region (id := 2) ?_; (first | refine vl ?_ | refine fB S ?_ | refine fS S rfl rfl ?_ | refine fA ?_); (first | refine lB S rfl rfl ?_ | refine lES2 S rfl rfl ?_ | refine lEB S ?_ | refine lH S ?_); (first | refine cT ?_ | refine cF ?_ | (refine cS ?_ ?_ <;> intro hc)) <;> (refine KO_nil ?_)) | (refine K_region (id := 3) ?_; (first | refine vl ?_ | refine fB S ?_ | refine fS S rfl rfl ?_ | refine fA ?_); (first | refine lB S rfl rfl ?_ | refine lES2 S rfl rfl ?_ | refine lEB S ?_ | refine lH S ?_); (first | refine ml ?_ | refine vl ?_); refine mv ?_; refine KO_nil ?_)))
    · have hsh : t.shape = 1 := by assumption
      have s := hs.s1 hsh
      exact ⟨_, ⟨S, (if_pos hsh).symm⟩, ((by repeat (first | exact Ks.le_nil _ | refine Ks.le_cons rfl ?_ | refine Ks.le_int ?_)))⟩
    · have hsh : ¬ t.shape = 1 := by assumption
      exact ⟨_, ⟨S, (if_neg hsh).symm⟩, ((by repeat (first | exact Ks.le_nil _ | refine Ks.le_cons rfl ?_ | refine Ks.le_int ?_)))⟩
  clear S
  rintro x h ⟨S, hx⟩
  skip
  refine K_cut (σ := Unit) (fun _ h' => Hs h0 h' [.blk b0 (eT t) 25]) (fun _ => [(1, PT b0), (3, .int .i64 (rcount t))]) ?_ ?_
  · all_goals (repeat' (first | refine K_seq ?_ | refine k_cond rfl ?_ | refine K_skip ?_ | refine K_exit ?_ | refine k_block ?_ | refine K_scope ?_ | (refine K_region (id := 4) ?_; (first | refine vl ?_ | refine fB S ?_ | refine fS S rfl rfl ?_ | refine fA ?_); (first | refine lB S rfl rfl ?_ | refine lES2 S rfl rfl ?_ | refine lEB S ?_ | refine lH S ?_); (first | refine cT ?_ | refine cF ?_ | (refine cS ?_ ?_ <;> intro hc)) <;> (refine KO_nil ?_)) | (refine K_region (id := 5) ?_; refine mv ?_; refine KO_nil ?_)))
    · have hsh : t.shape = 2 := by assumption
      have e : (rcount t : Int) = 4 := by rw [rcount2 hsh]; rfl
      exact ⟨(), S, ((by repeat (first | exact Ks.le_nil _ | refine Ks.le_cons rfl ?_ | refine Ks.le_int ?_)))⟩
    · have hsh : ¬ t.shape = 2 := by assumption
      have e : (rcount t : Int) = x := by
        rw [hx]
        by_cases q : t.shape = 1
        · have s := hs.s1 q
          rw [if_pos q, rcount1 q]; omega
        · rw [if_neg q, rcount3 (by omega)]; rfl
      exact ⟨(), S, ((by repeat (first | exact Ks.le_nil _ | refine Ks.le_cons rfl ?_ | refine Ks.le_int ?_)))⟩
  clear S hx x
  rintro - h S
  skip
  all_goals (repeat' (first | refine K_seq ?_ | refine k_cond rfl ?_ | refine K_skip ?_ | refine K_exit ?_ | refine k_block ?_ | refine K_scope ?_ | (refine K_region (id := 6) ?_; refine mv ?_; refine KO_nil ?_) | (refine K_region (id := 7) ?_; refine mv ?_; refine KO_nil ?_)))
  refine k_loop (σ := Nat × SlV × List PL) (fun (c, vo, LL) h' => Hs h0 h' [.sl vo.val 23 1 eP LL, .any (LLp LL), .blk b0 (eT t) 25] ∧ c ≤ rcount t ∧ Ins t c LL) (fun (c, vo, LL) => rcount t - c) (fun (c, vo, LL) => [(1, PT b0), (3, .int .i64 (rcount t)), (4, vo.val), (5, .int .i64 c)]) (0, ⟨none, 0, 0⟩, []) (by repeat (first | exact Ks.le_nil _ | refine Ks.le_cons rfl ?_ | refine Ks.le_int ?_)) ?_ ?_
  · exact ⟨S.nilP.nilS, Nat.zero_le _, .zero⟩
  clear S
  rintro ⟨c, vo, LL⟩ h ⟨S, h1, T⟩
  all_goals (repeat' (first | refine K_seq ?_ | refine k_cond rfl ?_ | refine K_skip ?_ | refine K_exit ?_ | refine k_block ?_ | refine K_scope ?_ | (refine K_region (id := 8) ?_; refine mv ?_; refine mv ?_; (first | refine cT ?_ | refine cF ?_ | (refine cS ?_ ?_ <;> intro hc)) <;> (refine KO_nil ?_)) | (refine K_region (id := 10) ?_; (first | refine lB S rfl rfl ?_ | refine lES2 S rfl rfl ?_ | refine lEB S ?_ | refine lH S ?_); refine mv ?_) | (refine K_region (id := 20) ?_; refine mv ?_; refine mv ?_; refine KO_nil ?_)))
  · have hc : c < rcount t := by omega
    have hll := T.len
    (refine KO_fn rfl rfl rfl rfl rfl ((refCand_ok S.wf t hs c hc).mono ?_); rintro v h ⟨l, hl, x⟩) <;> (replace S := S.join1 x; clear x; refine mv ?_; refine KO_nil ?_)
    all_goals (repeat' (first | refine K_seq ?_ | refine k_cond rfl ?_ | refine K_skip ?_ | refine K_exit ?_ | refine k_block ?_ | refine K_scope ?_ | (refine K_region (id := 10) ?_; (first | refine lB S rfl rfl ?_ | refine lES2 S rfl rfl ?_ | refine lEB S ?_ | refine lH S ?_); refine mv ?_)))
    rcases hl with ⟨hc2, rfl⟩ | ⟨hc2, rfl⟩
    · have hl2 : ((cand t c).length : Int) = tsize t := by rw [cand_len]; omega
      have hcb : ∀ k, k < (cand t c).length → 0 ≤ pAt (cand t c) k ∧ pAt (cand t c) k < tsize t := fun k hk => cand_b hs hc2 (by rw [cand_len] at hk; exact hk)
      obtain ⟨pv, rfl⟩ := (Rd.of_sl S .here).isSl
      skip
      all_goals (repeat' (first | refine K_seq ?_ | refine k_cond rfl ?_ | refine K_skip ?_ | refine K_exit ?_ | refine k_block ?_ | refine K_scope ?_ | (refine K_region (id := 11) ?_; refine mv ?_; (first | refine lnB S ?_ | refine lnS S rfl rfl ?_); (first | refine cT ?_ | refine cF ?_ | (refine cS ?_ ?_ <;> intro hc)) <;> (refine mv ?_; (first | refine off ?_ | (first | refine lB S rfl rfl ?_ | refine lES2 S rfl rfl ?_ | refine lEB S ?_ | refine lH S ?_)); (first | refine off ?_ | refine mv ?_); (first | (refine off ?_; (first | refine off ?_ | refine vl ?_); refine vl ?_; refine KO_nil ?_) | skip)))))
      (refine KO_fn rfl rfl rfl rfl rfl ((refKeeps_ok S.wf t ⟨r.1.ext w S.ext, r.2⟩ hs pv.val (cand t c) (Rd.of_sl S .here) hl2 hcb).mono ?_); rintro _ h ⟨⟨rfl, hq⟩ | ⟨rfl, hq⟩, x⟩) <;> (replace S := S.join0 x; clear x; (first | refine off ?_ | refine vl ?_); refine vl ?_; refine KO_nil ?_)
      rotate_left
      · all_goals (repeat' (first | refine K_seq ?_ | refine k_cond rfl ?_ | refine K_skip ?_ | refine K_exit ?_ | refine k_block ?_ | refine K_scope ?_ | (refine K_region (id := 9) ?_; refine mv ?_; (first | refine ad ?_ | refine vl ?_); refine mv ?_; refine KO_nil ?_) | (refine K_region (id := 11) ?_; refine mv ?_; (first | refine lnB S ?_ | refine lnS S rfl rfl ?_); (first | refine cT ?_ | refine cF ?_ | (refine cS ?_ ?_ <;> intro hc)) <;> (refine mv ?_; (first | refine off ?_ | (first | refine lB S rfl rfl ?_ | refine lES2 S rfl rfl ?_ | refine lEB S ?_ | refine lH S ?_)); (first | refine off ?_ | refine mv ?_); (first | (refine off ?_; (first | refine off ?_ | refine vl ?_); refine vl ?_; refine KO_nil ?_) | skip)))))
        refine ⟨(c + 1, vo, LL), ?_, ?_, (by repeat (first | exact Ks.le_nil _ | refine Ks.le_cons rfl ?_ | refine Ks.le_int ?_))⟩
        · show rcount t - (c + 1) < rcount t - c; omega
        · exact ⟨S.del .here, by omega, T.there fun _ a => absurd a.1 hq⟩
      refine k_cond rfl ?_
      refine K_skip ?_
      (repeat (refine K_seq ?_)); refine K_region (id := 12) ?_; refine mv ?_; refine KO_nil ?_
      refine K_cut (σ := Nat) (fun i h' => Hs h0 h' [.sl pv.val 3 1 eI (cand t c), .sl vo.val 23 1 eP LL, .any (LLp LL), .blk b0 (eT t) 25] ∧ i ≤ LL.length ∧ (∀ j, j < i → ltL (lAt (LL.map (·.2)) j) (cand t c)) ∧ (i < LL.length → ¬ ltL (lAt (LL.map (·.2)) i) (cand t c))) (fun i => [(1, PT b0), (3, .int .i64 (rcount t)), (4, vo.val), (5, .int .i64 c), (6, pv.val), (7, .int .i64 i)]) ?_ ?_
      · refine k_block ?_
        refine k_loop (σ := Nat) (fun i h' => Hs h0 h' [.sl pv.val 3 1 eI (cand t c), .sl vo.val 23 1 eP LL, .any (LLp LL), .blk b0 (eT t) 25] ∧ i ≤ LL.length ∧ (∀ j, j < i → ltL (lAt (LL.map (·.2)) j) (cand t c))) (fun i => LL.length - i) (fun i => [(1, PT b0), (3, .int .i64 (rcount t)), (4, vo.val), (5, .int .i64 c), (6, pv.val), (7, .int .i64 i)]) 0 (by repeat (first | exact Ks.le_nil _ | refine Ks.le_cons rfl ?_ | refine Ks.le_int ?_)) ?_ ?_
        · exact ⟨S, Nat.zero_le _, fun j hj => absurd hj (Nat.not_lt_zero _)⟩
        clear S
        rintro i h ⟨S, g1, g2⟩
        all_goals (repeat' (first | refine K_seq ?_ | refine k_cond rfl ?_ | refine K_skip ?_ | refine K_exit ?_ | refine k_block ?_ | refine K_scope ?_ | (refine K_region (id := 13) ?_; refine mv ?_; refine mv ?_; (first | refine lnB S ?_ | refine lnS S rfl rfl ?_); (first | refine cT ?_ | refine cF ?_ | (refine cS ?_ ?_ <;> intro hc)) <;> (refine mv ?_; (first | refine off ?_ | refine mv ?_); (first | refine off ?_ | refine mv ?_); (first | refine off ?_ | (first | refine ixB S ?_ | refine ixS2 S rfl rfl ?_)); (first | refine off ?_ | (first | refine lB S rfl rfl ?_ | refine lES2 S rfl rfl ?_ | refine lEB S ?_ | refine lH S ?_)); (first | refine off ?_ | refine mv ?_); (first | (refine off ?_; (first | refine off ?_ | (first | refine cT ?_ | refine cF ?_ | (refine cS ?_ ?_ <;> intro hc))) <;> (refine vl ?_; refine KO_nil ?_)) | skip)))))
        · have hi : i < LL.length := by omega
          (try simp only [Int.toNat_natCast])
          obtain ⟨fp, k⟩ := S.anyP (.there (.there .here))
          have hm : LL.getD i default ∈ LL := mem_getD.2 ⟨i, hi, rfl⟩
          have hm1 : (LL.getD i default).2.length ≤ 1000000 := by rw [T.lens hm]; omega
          have hm2 : (cand t c).length ≤ 1000000 := by rw [cand_len]; omega
          (refine KO_fn rfl rfl rfl rfl rfl ((refCompare_ok S.wf (LL.getD i default).1.val pv.val (LL.getD i default).2 (cand t c) (k.rd hm) (Rd.of_sl S .here) hm1 hm2).mono ?_); rintro _ h ⟨d, rfl, hd, x⟩) <;> (replace S := S.join0 x; clear x; (first | refine off ?_ | (first | refine cT ?_ | refine cF ?_ | (refine cS ?_ ?_ <;> intro hc))) <;> (refine vl ?_; refine KO_nil ?_))
          all_goals (repeat' (first | refine K_seq ?_ | refine k_cond rfl ?_ | refine K_skip ?_ | refine K_exit ?_ | refine k_block ?_ | refine K_scope ?_ | (refine K_region (id := 13) ?_; refine mv ?_; refine mv ?_; (first | refine lnB S ?_ | refine lnS S rfl rfl ?_); (first | refine cT ?_ | refine cF ?_ | (refine cS ?_ ?_ <;> intro hc)) <;> (refine mv ?_; (first | refine off ?_ | refine mv ?_); (first | refine off ?_ | refine mv ?_); (first | refine off ?_ | (first | refine ixB S ?_ | refine ixS2 S rfl rfl ?_)); (first | refine off ?_ | (first | refine lB S rfl rfl ?_ | refine lES2 S rfl rfl ?_ | refine lEB S ?_ | refine lH S ?_)); (first | refine off ?_ | refine mv ?_); (first | (refine off ?_; (first | refine off ?_ | (first | refine cT ?_ | refine cF ?_ | (refine cS ?_ ?_ <;> intro hc))) <;> (refine vl ?_; refine KO_nil ?_)) | skip))) | (refine K_region (id := 14) ?_; refine mv ?_; (first | refine ad ?_ | refine vl ?_); refine mv ?_; refine KO_nil ?_)))
          · refine ⟨i + 1, ?_, ?_, (by repeat (first | exact Ks.le_nil _ | refine Ks.le_cons rfl ?_ | refine Ks.le_int ?_))⟩
            · show LL.length - (i + 1) < LL.length - i; omega
            · refine ⟨S, by omega, nxt g2 ?_⟩
              rw [lAt_map hi]
              rcases hd with ⟨q1, q2⟩ | ⟨q1, q2⟩ | ⟨q1, q2⟩
              · exact q2
              · omega
              · omega
          · refine ⟨i, ⟨S, by omega, g2, fun _ => ?_⟩, ((by repeat (first | exact Ks.le_nil _ | refine Ks.le_cons rfl ?_ | refine Ks.le_int ?_)))⟩
            rw [lAt_map hi]
            rcases hd with ⟨q1, q2⟩ | ⟨q1, q2⟩ | ⟨q1, q2⟩
            · omega
            · rw [q2]; exact ltL_irr _
            · exact fun q => ltL_asym q q2
        · exact ⟨i, ⟨S, by omega, g2, fun q => by omega⟩, ((by repeat (first | exact Ks.le_nil _ | refine Ks.le_cons rfl ?_ | refine Ks.le_int ?_)))⟩
      clear S
      rintro i h ⟨S, g1, g2, g3⟩
      skip
      refine K_cut (σ := Unit) (fun _ h' => Hs h0 h' [.sl pv.val 3 1 eI (cand t c), .sl vo.val 23 1 eP LL, .any (LLp LL), .blk b0 (eT t) 25] ∧ (i < LL.length → ltL (cand t c) (lAt (LL.map (·.2)) i))) (fun _ => [(1, PT b0), (3, .int .i64 (rcount t)), (4, vo.val), (5, .int .i64 c), (6, pv.val), (7, .int .i64 i)]) ?_ ?_
      · all_goals (repeat' (first | refine K_seq ?_ | refine k_cond rfl ?_ | refine K_skip ?_ | refine K_exit ?_ | refine k_block ?_ | refine K_scope ?_ | (refine K_region (id := 15) ?_; refine mv ?_; refine mv ?_; (first | refine lnB S ?_ | refine lnS S rfl rfl ?_); (first | refine cT ?_ | refine cF ?_ | (refine cS ?_ ?_ <;> intro hc)) <;> (refine mv ?_; (first | refine off ?_ | refine mv ?_); (first | refine off ?_ | refine mv ?_); (first | refine off ?_ | (first | refine ixB S ?_ | refine ixS2 S rfl rfl ?_)); (first | refine off ?_ | (first | refine lB S rfl rfl ?_ | refine lES2 S rfl rfl ?_ | refine lEB S ?_ | refine lH S ?_)); (first | refine off ?_ | refine mv ?_); (first | (refine off ?_; (first | refine off ?_ | (first | refine cT ?_ | refine cF ?_ | (refine cS ?_ ?_ <;> intro hc))) <;> (refine vl ?_; refine KO_nil ?_)) | skip)))))
        · have hi : i < LL.length := by omega
          (try simp only [Int.toNat_natCast])
          obtain ⟨fp, k⟩ := S.anyP (.there (.there .here))
          have hm : LL.getD i default ∈ LL := mem_getD.2 ⟨i, hi, rfl⟩
          have hm1 : (LL.getD i default).2.length ≤ 1000000 := by rw [T.lens hm]; omega
          have hm2 : (cand t c).length ≤ 1000000 := by rw [cand_len]; omega
          (refine KO_fn rfl rfl rfl rfl rfl ((refCompare_ok S.wf (LL.getD i default).1.val pv.val (LL.getD i default).2 (cand t c) (k.rd hm) (Rd.of_sl S .here) hm1 hm2).mono ?_); rintro _ h ⟨d, rfl, hd, x⟩) <;> (replace S := S.join0 x; clear x; (first | refine off ?_ | (first | refine cT ?_ | refine cF ?_ | (refine cS ?_ ?_ <;> intro hc))) <;> (refine vl ?_; refine KO_nil ?_))
          all_goals (repeat' (first | refine K_seq ?_ | refine k_cond rfl ?_ | refine K_skip ?_ | refine K_exit ?_ | refine k_block ?_ | refine K_scope ?_ | (refine K_region (id := 9) ?_; refine mv ?_; (first | refine ad ?_ | refine vl ?_); refine mv ?_; refine KO_nil ?_) | (refine K_region (id := 15) ?_; refine mv ?_; refine mv ?_; (first | refine lnB S ?_ | refine lnS S rfl rfl ?_); (first | refine cT ?_ | refine cF ?_ | (refine cS ?_ ?_ <;> intro hc)) <;> (refine mv ?_; (first | refine off ?_ | refine mv ?_); (first | refine off ?_ | refine mv ?_); (first | refine off ?_ | (first | refine ixB S ?_ | refine ixS2 S rfl rfl ?_)); (first | refine off ?_ | (first | refine lB S rfl rfl ?_ | refine lES2 S rfl rfl ?_ | refine lEB S ?_ | refine lH S ?_)); (first | refine off ?_ | refine mv ?_); (first | (refine off ?_; (first | refine off ?_ | (first | refine cT ?_ | refine cF ?_ | (refine cS ?_ ?_ <;> intro hc))) <;> (refine vl ?_; refine KO_nil ?_)) | skip)))))
          · refine ⟨(c + 1, vo, LL), ?_, ?_, (by repeat (first | exact Ks.le_nil _ | refine Ks.le_cons rfl ?_ | refine Ks.le_int ?_))⟩
            · show rcount t - (c + 1) < rcount t - c; omega
            · refine ⟨S.del .here, by omega, T.there fun _ _ => ?_⟩
              rcases hd with ⟨q1, q2⟩ | ⟨q1, q2⟩ | ⟨q1, q2⟩
              · omega
              · rw [← q2]; exact List.mem_map_of_mem hm
              · omega
          · refine ⟨(), ⟨S, fun _ => ?_⟩, ((by repeat (first | exact Ks.le_nil _ | refine Ks.le_cons rfl ?_ | refine Ks.le_int ?_)))⟩
            have g4 := g3 hi
            rw [lAt_map hi] at g4 ⊢
            rcases hd with ⟨q1, q2⟩ | ⟨q1, q2⟩ | ⟨q1, q2⟩
            · exact absurd q2 g4
            · omega
            · exact q2
        · exact ⟨(), ⟨S, fun q => by omega⟩, ((by repeat (first | exact Ks.le_nil _ | refine Ks.le_cons rfl ?_ | refine Ks.le_int ?_)))⟩
      clear S
      rintro - h ⟨S, g4⟩
      skip
      (repeat (refine K_seq ?_)); refine K_region (id := 16) ?_; refine mv ?_; refine KO_nil ?_
      replace S := S.nilS (α := PL) (e := 23) (z := 1) (enc := eP)
      (repeat (refine K_seq ?_)); refine K_region (id := 17) ?_; refine mv ?_; refine mv ?_; refine mv ?_; skip
      refine su 0 i (Rd.of_sl S (.there (.there .here))) (S.capS (.there (.there .here))) ?_
      intro vt hrt hct
      skip
      refine apd S rfl rfl hrt ?_ (hsz := by simp; omega); clear S; intro v2 h S
      refine mv ?_; refine KO_nil ?_
      (repeat (refine K_seq ?_)); refine K_region (id := 18) ?_; refine mv ?_; refine mv ?_; (refine one 1 S ?_; clear S; intro u h S)
      refine app (y0 := (pv, cand t c)) S rfl rfl ?_; clear S; intro v h S; refine mv ?_; refine KO_nil ?_
      (repeat (refine K_seq ?_)); refine K_region (id := 19) ?_; refine mv ?_; refine mv ?_; refine mv ?_; (refine dr S rfl rfl ?_; clear S; intro vq S)
      refine apd S rfl rfl (Rd.of_sl S (.there (.there .here))) ?_ (hsz := by simp; omega); clear S; intro v3 h S
      refine mv ?_; refine KO_nil ?_
      skip
      all_goals (repeat' (first | refine K_seq ?_ | refine k_cond rfl ?_ | refine K_skip ?_ | refine K_exit ?_ | refine k_block ?_ | refine K_scope ?_ | (refine K_region (id := 9) ?_; refine mv ?_; (first | refine ad ?_ | refine vl ?_); refine mv ?_; refine KO_nil ?_)))
      obtain ⟨v3, rfl⟩ := (Rd.of_sl S .here).isSl
      simp only [List.nil_append, List.drop_zero, Nat.sub_zero, Int.toNat_natCast] at S
      replace S := ((S.front (.there (.there (.there .here)))).front (.there (.there .here)))
      replace S := Hs.pushP (x := (pv, cand t c)) S
      replace S := S.subP (MM := LL.take i ++ [(pv, cand t c)] ++ LL.drop i) fun x hx => by
        simp only [List.mem_append, List.mem_singleton] at hx ⊢
        rcases hx with (hx | hx) | hx
        · exact .inl (List.mem_of_mem_take hx)
        · exact .inr hx
        · exact .inl (List.mem_of_mem_drop hx)
      replace S := (S.front (.there .here)).del (.there (.there .here))
      refine ⟨(c + 1, v3, LL.take i ++ [(pv, cand t c)] ++ LL.drop i), ?_, ?_, (by repeat (first | exact Ks.le_nil _ | refine Ks.le_cons rfl ?_ | refine Ks.le_int ?_))⟩
      · show rcount t - (c + 1) < rcount t - c; omega
      · exact ⟨S, by omega, T.put hc2 (acc_keep.2 hq) pv g1 g2 g4⟩
    · skip
      all_goals (repeat' (first | refine K_seq ?_ | refine k_cond rfl ?_ | refine K_skip ?_ | refine K_exit ?_ | refine k_block ?_ | refine K_scope ?_ | (refine K_region (id := 9) ?_; refine mv ?_; (first | refine ad ?_ | refine vl ?_); refine mv ?_; refine KO_nil ?_) | (refine K_region (id := 11) ?_; refine mv ?_; (first | refine lnB S ?_ | refine lnS S rfl rfl ?_); (first | refine cT ?_ | refine cF ?_ | (refine cS ?_ ?_ <;> intro hc)) <;> (refine mv ?_; (first | refine off ?_ | (first | refine lB S rfl rfl ?_ | refine lES2 S rfl rfl ?_ | refine lEB S ?_ | refine lH S ?_)); (first | refine off ?_ | refine mv ?_); (first | (refine off ?_; (first | refine off ?_ | refine vl ?_); refine vl ?_; refine KO_nil ?_) | skip)))))
      · refine ⟨(c + 1, vo, LL), ?_, ?_, (by repeat (first | exact Ks.le_nil _ | refine Ks.le_cons rfl ?_ | refine Ks.le_int ?_))⟩
        · show rcount t - (c + 1) < rcount t - c; omega
        · exact ⟨S.del .here, by omega, T.there fun q => by omega⟩
      · exfalso
        have hc : ¬ (([] : List Int).length : Int) = 0 := by assumption
        exact hc rfl
  · skip
    all_goals (repeat' (first | refine K_seq ?_ | refine k_cond rfl ?_ | refine K_skip ?_ | refine K_exit ?_ | refine k_block ?_ | refine K_scope ?_ | (refine K_region (id := 20) ?_; refine mv ?_; refine mv ?_; refine KO_nil ?_)))
    refine K_ret ⟨_, rfl, ?_⟩
    have := T.len
    exact ⟨LL, T.turn (by omega), by omega, S.del (.there (.there .here))⟩
/-! the turns that keep given seats -/
theorem Hs.toRd {h0 h : AH} {rs : List Rs} {α : Type} {v : Value} {e : TypeId} {z : Nat} {enc : α → List Value} {l : List α} (S : Hs h0 h (.sl v e z enc l :: rs)) : Hs h0 h (.rd v z enc l :: rs) := S.conv fun fp k => by
  rcases k with ⟨h1, h2⟩ | ⟨b, o, cc, slk, h1, h2, h3, h4, h5⟩
  · exact .inl ⟨h1, h2⟩
  · exact .inr ⟨b, o, _, cc, _, slk, false, h1, h2, h3, h4⟩
def okN (st : List Int) (k : Nat) (p : List Int) : Bool := decide (∀ m, m < k → pAt p (pAt st m).toNat = pAt st m)
theorem okN_zero {st p : List Int} : okN st 0 p = true := decide_eq_true fun m hm => by omega
theorem okN_succ {st p : List Int} {k : Nat} : okN st (k + 1) p = (okN st k p && decide (pAt p (pAt st k).toNat = pAt st k)) := by
  rw [okN, okN, ← Bool.decide_and]
  refine decide_eq_decide.2 ⟨fun h => ⟨fun m hm => h m (by omega), h k (by omega)⟩, fun h m hm => ?_⟩
  rcases Nat.lt_or_ge m k with q | q
  · exact h.1 m q
  · obtain rfl : m = k := by omega
    exact h.2
theorem okN_all {st p : List Int} : okN st st.length p = true ↔ ∀ x, x ∈ st → pAt p x.toNat = x := by
  rw [okN, decide_eq_true_iff]
  constructor
  · intro h x hx
    obtain ⟨i, hi, e⟩ := mem_getD.1 hx
    have := h i hi
    rw [show pAt st i = x from e] at this
    exact this
  · exact fun h m hm => h _ (mem_getD.2 ⟨m, hm, rfl⟩)
theorem filt_turn {t : Tab} {st : List Int} {LL : List PL} (H : TurnL t [] (LL.map (·.2))) : TurnL t st ((LL.filter fun x => okN st st.length x.2).map (·.2)) := by
  refine ⟨H.srt.sublist ((List.filter_sublist).map _), fun p => ?_⟩
  constructor
  · intro h
    obtain ⟨x, hx, rfl⟩ := List.mem_map.1 h
    obtain ⟨h1, h2⟩ := List.mem_filter.1 hx
    obtain ⟨j, hj, ha, e⟩ := (H.mem _).1 (List.mem_map_of_mem h1)
    exact ⟨j, hj, ⟨ha.1, by rw [← e]; exact okN_all.1 h2⟩, e⟩
  · rintro ⟨j, hj, ha, rfl⟩
    have := (H.mem (cand t j)).2 ⟨j, hj, ⟨ha.1, fun x hx => by cases hx⟩, rfl⟩
    obtain ⟨x, hx, e⟩ := List.mem_map.1 this
    have e : x.2 = cand t j := e
    rw [← e]
    exact List.mem_map_of_mem (List.mem_filter.2 ⟨hx, okN_all.2 (by rw [e]; exact ha.2)⟩)
theorem take_step {α : Type} [Inhabited α] {l : List α} {i : Nat} (hi : i < l.length) : l.take (i + 1) = l.take i ++ [l.getD i default] := by
  rw [List.take_add_one, List.getD_eq_getElem?_getD, List.getElem?_eq_getElem hi]; rfl
theorem filt_step {LL : List PL} {f : PL → Bool} {i : Nat} (hi : i < LL.length) : (LL.take (i + 1)).filter f = (LL.take i).filter f ++ if f (LL.getD i default) then [LL.getD i default] else [] := by
  rw [take_step hi, List.filter_append]
  congr 1
  simp only [List.filter_cons, List.filter_nil]
theorem refStay_ok {h0 : AH} (w : WfH h0) (t : Tab) (r : TabR h0 t) (hs : TabS t) (sv : Value) (st : List Int) (hsv : RdL h0 sv 1 eI st) (hsl : st.length ≤ 1000000) (hst : StOk t st) : Fn Tryz.prog Xh 71 [tabV t, sv] h0 (fun v h' => ∃ out : List PL, TurnL t st (out.map (·.2)) ∧ Hs h0 h' [.rd v 1 eP out, .any (LLp out)]) := by
  have S := Hs.start w
  have hsz := tsize_le t
  refine Fn_K rfl Tryz.func71 rfl rfl ?_
  all_goals (repeat' (first | refine K_seq ?_ | refine k_cond rfl ?_ | refine K_skip ?_ | refine K_exit ?_ | refine k_block ?_ | refine K_scope ?_ | (refine K_region (id := 0) ?_; (refine bx S ?_; clear S; intro b h S); refine mv ?_; refine KO_nil ?_) | (refine K_region (id := 1) ?_; refine mv ?_; refine KO_nil ?_) | (refine K_region (id := 2) ?_; (first | refine lB S rfl rfl ?_ | refine lES2 S rfl rfl ?_ | refine lEB S ?_ | refine lH S ?_))))
  obtain ⟨b0, hnm⟩ : ∃ x, x = b := ⟨_, rfl⟩; subst hnm
  (refine KO_fn rfl rfl rfl rfl rfl ((refTurns_ok S.wf t ⟨r.1.ext w S.ext, r.2⟩ hs).mono ?_); rintro vT h ⟨LL, hT, hl, x⟩) <;> (replace S := S.join2 x; clear x; refine mv ?_; refine KO_nil ?_)
  all_goals (repeat' (first | refine K_seq ?_ | refine k_cond rfl ?_ | refine K_skip ?_ | refine K_exit ?_ | refine k_block ?_ | refine K_scope ?_ | (refine K_region (id := 3) ?_; refine mv ?_; refine KO_nil ?_)))
  have hlen : ∀ x, x ∈ LL → x.2.length = (tsize t).toNat := fun x hx => (hT.trn _).1 (List.mem_map_of_mem hx) |>.len
  refine k_loop (σ := Nat × SlV) (fun (i, vo) h' => Hs h0 h' [.sl vo.val 23 1 eP ((LL.take i).filter fun x => okN st st.length x.2), .sl vT 23 1 eP LL, .any (LLp LL), .blk b0 (eT t) 25] ∧ i ≤ LL.length) (fun (i, vo) => LL.length - i) (fun (i, vo) => [(1, sv), (5, vo.val), (6, vT), (7, .int .i64 i)]) (0, ⟨none, 0, 0⟩) (by repeat (first | exact Ks.le_nil _ | refine Ks.le_cons rfl ?_ | refine Ks.le_int ?_)) ?_ ?_
  · exact ⟨S.nilS, Nat.zero_le _⟩
  clear S
  rintro ⟨i, vo⟩ h ⟨S, h1⟩
  all_goals (repeat' (first | refine K_seq ?_ | refine k_cond rfl ?_ | refine K_skip ?_ | refine K_exit ?_ | refine k_block ?_ | refine K_scope ?_ | (refine K_region (id := 4) ?_; refine mv ?_; refine mv ?_; (first | refine lnB S ?_ | refine lnS S rfl rfl ?_); (first | refine cT ?_ | refine cF ?_ | (refine cS ?_ ?_ <;> intro hc)) <;> (refine KO_nil ?_))))
  · have hi : i < LL.length := by omega
    (repeat (refine K_seq ?_)); refine K_region (id := 6) ?_; refine mv ?_; refine KO_nil ?_
    (repeat (refine K_seq ?_)); refine K_region (id := 7) ?_; refine mv ?_; refine KO_nil ?_
    have hm : LL.getD i default ∈ LL := mem_getD.2 ⟨i, hi, rfl⟩
    have hx := hlen _ hm
    refine K_join1 (σ := Bool) (fun q h' => Hs h0 h' [.sl vo.val 23 1 eP ((LL.take i).filter fun x => okN st st.length x.2), .sl vT 23 1 eP LL, .any (LLp LL), .blk b0 (eT t) 25] ∧ q = okN st st.length (LL.getD i default).2) (fun q => [(1, sv), (5, vo.val), (6, vT), (7, .int .i64 i), (8, .bool q)]) ?_ ?_
    · refine k_block ?_
      have S0 := S
      have wh := S.wf
      obtain ⟨fp, k⟩ := S.anyP (.there (.there .here))
      have hp := k.rd hm
      have hTv := Rd.of_sl S (.there .here)
      have hsh := hsv.ext w S.ext
      clear hsv
      replace S := Hs.start wh
      refine k_loop (σ := Nat × Bool) (fun (k, q) h' => Hs h h' [] ∧ k ≤ st.length ∧ q = okN st k (LL.getD i default).2) (fun (k, q) => st.length - k) (fun (k, q) => [(1, sv), (5, vo.val), (6, vT), (7, .int .i64 i), (8, .bool q), (9, .int .i64 k)]) (0, true) (by repeat (first | exact Ks.le_nil _ | refine Ks.le_cons rfl ?_ | refine Ks.le_int ?_)) ?_ ?_
      · exact ⟨S, Nat.zero_le _, okN_zero.symm⟩
      clear S
      rintro ⟨k, q⟩ h' ⟨S, g1, g2⟩
      all_goals (repeat' (first | refine K_seq ?_ | refine k_cond rfl ?_ | refine K_skip ?_ | refine K_exit ?_ | refine k_block ?_ | refine K_scope ?_ | (refine K_region (id := 8) ?_; refine mv ?_; refine mv ?_; (first | refine lnB S ?_ | refine lnS S rfl rfl ?_); (first | refine cT ?_ | refine cF ?_ | (refine cS ?_ ?_ <;> intro hc)) <;> (refine KO_nil ?_))))
      · have hk : k < st.length := by omega
        have hb := hst _ (mem_getD.2 ⟨k, hk, rfl⟩)
        cases q
        · all_goals (repeat' (first | refine K_seq ?_ | refine k_cond rfl ?_ | refine K_skip ?_ | refine K_exit ?_ | refine k_block ?_ | refine K_scope ?_ | (refine K_region (id := 9) ?_; refine mv ?_; (first | refine ad ?_ | refine vl ?_); refine mv ?_; refine KO_nil ?_) | (refine K_draw (id := 10) ?_; refine mv ?_; refine mv ?_; (first | refine off ?_ | refine mv ?_); (first | refine off ?_ | refine mv ?_); (first | refine off ?_ | (first | refine ixB S ?_ | refine ixS2 S rfl rfl ?_)); (first | refine off ?_ | (first | refine lB S rfl rfl ?_ | refine lES2 S rfl rfl ?_ | refine lEB S ?_ | refine lH S ?_)); (first | refine off ?_ | refine mv ?_); (first | refine off ?_ | refine mv ?_); (first | refine off ?_ | (first | refine ixB S ?_ | refine ixS2 S rfl rfl ?_)); (first | refine off ?_ | (first | refine lB S rfl rfl ?_ | refine lES2 S rfl rfl ?_ | refine lEB S ?_ | refine lH S ?_)); (first | refine off ?_ | (first | refine ixB S ?_ | refine ixS2 S rfl rfl ?_)); (first | refine off ?_ | (first | refine lB S rfl rfl ?_ | refine lES2 S rfl rfl ?_ | refine lEB S ?_ | refine lH S ?_)); (first | refine off ?_ | refine mv ?_); (first | refine off ?_ | refine mv ?_); (first | refine off ?_ | (first | refine ixB S ?_ | refine ixS2 S rfl rfl ?_)); (first | refine off ?_ | (first | refine lB S rfl rfl ?_ | refine lES2 S rfl rfl ?_ | refine lEB S ?_ | refine lH S ?_)); (first | refine off ?_ | (first | refine cT ?_ | refine cF ?_ | (refine cS ?_ ?_ <;> intro hc))) <;> (refine vl ?_; refine mv ?_; refine KO_nil ?_))))
          refine ⟨(k + 1, false), ?_, ?_, (by repeat (first | exact Ks.le_nil _ | refine Ks.le_cons rfl ?_ | refine Ks.le_int ?_))⟩
          · show st.length - (k + 1) < st.length - k; omega
          · exact ⟨S, by omega, by rw [okN_succ, ← g2]; rfl⟩
        · (repeat (first | refine K_seq ?_ | refine k_block ?_))
          refine K_draw (id := 10) ?_
          iterate 4 refine mv ?_
          refine ixB S ?_
          refine lEB S ?_
          simp only [Int.toNat_natCast]
          iterate 2 refine mv ?_
          refine ixB S ?_
          refine lEB S ?_
          simp only [Int.toNat_natCast]
          refine ixB S ?_ (hr := hp) (ha := ⟨hb.1, by omega⟩)
          refine lEB S ?_ (hr := hp) (hk := by omega)
          (first | refine off ?_ | refine mv ?_); (first | refine off ?_ | refine mv ?_); (first | refine off ?_ | (first | refine ixB S ?_ | refine ixS2 S rfl rfl ?_)); (first | refine off ?_ | (first | refine lB S rfl rfl ?_ | refine lES2 S rfl rfl ?_ | refine lEB S ?_ | refine lH S ?_)); (first | refine off ?_ | (first | refine cT ?_ | refine cF ?_ | (refine cS ?_ ?_ <;> intro hc))) <;> (refine vl ?_; refine mv ?_; refine KO_nil ?_)
          · all_goals (repeat' (first | refine K_seq ?_ | refine k_cond rfl ?_ | refine K_skip ?_ | refine K_exit ?_ | refine k_block ?_ | refine K_scope ?_ | (refine K_region (id := 9) ?_; refine mv ?_; (first | refine ad ?_ | refine vl ?_); refine mv ?_; refine KO_nil ?_)))
            refine ⟨(k + 1, true), ?_, ?_, (by repeat (first | exact Ks.le_nil _ | refine Ks.le_cons rfl ?_ | refine Ks.le_int ?_))⟩
            · show st.length - (k + 1) < st.length - k; omega
            · refine ⟨S, by omega, ?_⟩
              rw [okN_succ, ← g2, decide_eq_true (by assumption)]; rfl
          · all_goals (repeat' (first | refine K_seq ?_ | refine k_cond rfl ?_ | refine K_skip ?_ | refine K_exit ?_ | refine k_block ?_ | refine K_scope ?_ | (refine K_region (id := 9) ?_; refine mv ?_; (first | refine ad ?_ | refine vl ?_); refine mv ?_; refine KO_nil ?_)))
            refine ⟨(k + 1, false), ?_, ?_, (by repeat (first | exact Ks.le_nil _ | refine Ks.le_cons rfl ?_ | refine Ks.le_int ?_))⟩
            · show st.length - (k + 1) < st.length - k; omega
            · refine ⟨S, by omega, ?_⟩
              rw [okN_succ, ← g2, decide_eq_false (by assumption)]; rfl
      · have hk : k = st.length := by omega
        subst hk
        exact ⟨q, ⟨S0.join0 S, g2⟩, ((by repeat (first | exact Ks.le_nil _ | refine Ks.le_cons rfl ?_ | refine Ks.le_int ?_)))⟩
    clear S
    rintro q h ⟨S, hq⟩
    cases q
    · skip
      all_goals (repeat' (first | refine K_seq ?_ | refine k_cond rfl ?_ | refine K_skip ?_ | refine K_exit ?_ | refine k_block ?_ | refine K_scope ?_ | (refine K_region (id := 5) ?_; refine mv ?_; (first | refine ad ?_ | refine vl ?_); refine mv ?_; refine KO_nil ?_) | (refine K_region (id := 11) ?_; refine mv ?_; refine KO_nil ?_)))
      refine ⟨(i + 1, vo), ?_, ?_, (by repeat (first | exact Ks.le_nil _ | refine Ks.le_cons rfl ?_ | refine Ks.le_int ?_))⟩
      · show LL.length - (i + 1) < LL.length - i; omega
      · refine ⟨?_, by omega⟩
        rw [filt_step hi, ← hq]
        simpa using S
    · skip
      all_goals (repeat' (first | refine K_seq ?_ | refine k_cond rfl ?_ | refine K_skip ?_ | refine K_exit ?_ | refine k_block ?_ | refine K_scope ?_ | (refine K_region (id := 11) ?_; refine mv ?_; refine KO_nil ?_) | (refine K_region (id := 12) ?_; refine mv ?_; refine mv ?_; refine mv ?_; (first | refine ixB S ?_ | refine ixS2 S rfl rfl ?_); (first | refine lB S rfl rfl ?_ | refine lES2 S rfl rfl ?_ | refine lEB S ?_ | refine lH S ?_); (refine one 1 S ?_; clear S; intro u h S))))
      refine app (y0 := (LL.getD i default)) S rfl rfl ?_; clear S; intro v h S; refine mv ?_; refine KO_nil ?_
      all_goals (repeat' (first | refine K_seq ?_ | refine k_cond rfl ?_ | refine K_skip ?_ | refine K_exit ?_ | refine k_block ?_ | refine K_scope ?_ | (refine K_region (id := 5) ?_; refine mv ?_; (first | refine ad ?_ | refine vl ?_); refine mv ?_; refine KO_nil ?_) | (refine K_region (id := 12) ?_; refine mv ?_; refine mv ?_; refine mv ?_; (first | refine ixB S ?_ | refine ixS2 S rfl rfl ?_); (first | refine lB S rfl rfl ?_ | refine lES2 S rfl rfl ?_ | refine lEB S ?_ | refine lH S ?_); (refine one 1 S ?_; clear S; intro u h S))))
      obtain ⟨v2, rfl⟩ := (Rd.of_sl S .here).isSl
      refine ⟨(i + 1, v2), ?_, ?_, (by repeat (first | exact Ks.le_nil _ | refine Ks.le_cons rfl ?_ | refine Ks.le_int ?_))⟩
      · show LL.length - (i + 1) < LL.length - i; omega
      · refine ⟨?_, by omega⟩
        rw [filt_step hi, ← hq]
        exact S
  · skip
    all_goals (repeat' (first | refine K_seq ?_ | refine k_cond rfl ?_ | refine K_skip ?_ | refine K_exit ?_ | refine k_block ?_ | refine K_scope ?_ | (refine K_region (id := 13) ?_; refine mv ?_; refine mv ?_; refine KO_nil ?_)))
    refine K_ret ⟨_, rfl, ?_⟩
    have e : i = LL.length := by omega
    subst e
    rw [List.take_length] at S
    replace S := ((S.toRd.front (.there (.there .here))).subP (MM := LL.filter fun x => okN st st.length x.2) fun x hx => (List.mem_filter.1 hx).1).front (.there .here)
    exact ⟨_, filt_turn hT, (S.del (.there (.there .here))).del (.there (.there .here))⟩
end Go.Proofs.Xx

/-
  Lists of lists: read as such; written to.
-/
namespace Go.Proofs.Xx
open Go Go.Proofs
set_option linter.unusedSimpArgs false
set_option linter.unusedVariables false
set_option maxRecDepth 100000

theorem RLL.ofP {h : AH} {v : Value} {LL : List PL} {fp : Fp} (hr : RdL h v 1 eP LL) (k : LLp LL h fp) : RLL h v (LL.map (·.2)) := by
  refine ⟨LL.map (·.1.val), ?_, by simp, fun j hj => ?_⟩
  · have e : (LL.map (·.1.val)).flatMap eV = LL.flatMap eP := by rw [List.flatMap_map]; rfl
    show Rd h v 1 (LL.map (·.1.val)).length ((LL.map (·.1.val)).flatMap eV)
    rw [List.length_map, e]; exact hr
  · have hj : j < LL.length := by simpa using hj
    have := k.rd (mem_getD.2 ⟨j, hj, rfl⟩)
    simpa [List.getD_eq_getElem?_getD, hj] using this
theorem TurnL.len {t : Tab} {st : List Int} {ls : List (List Int)} (H : TurnL t st ls) : ls.length ≤ mvn t := by
  have := nodup_len (m := (List.range (mvn t)).map (cand t)) (pw_nodup ltL_irr H.srt) fun p hp => by
    obtain ⟨j, hj, -, rfl⟩ := (H.mem p).1 hp
    exact List.mem_map_of_mem (List.mem_range.2 hj)
  simpa using this
theorem StayL.len {t : Tab} {st : List Int} {ls : List (List Int)} (H : StayL t st ls) : ls.length ≤ 48 := by
  rcases H with ⟨h1, -, h⟩ | ⟨-, rfl⟩
  · have := h.len
    have := mvn_le (tabS_chk h1)
    omega
  · exact Nat.zero_le _
theorem StayL.lens {t : Tab} {st : List Int} {ls : List (List Int)} (H : StayL t st ls) {p : List Int} (hp : p ∈ ls) : p.length = (tsize t).toNat := by
  rcases H with ⟨-, -, h⟩ | ⟨-, rfl⟩
  · obtain ⟨j, -, -, rfl⟩ := (h.mem p).1 hp
    exact cand_len t j
  · cases hp
theorem StayL.lensD {t : Tab} {st : List Int} {ls : List (List Int)} (H : StayL t st ls) {j : Nat} (hj : j < ls.length) : (ls.getD j default).length ≤ 1000000 := by
  have := H.lens (mem_getD.2 ⟨j, hj, rfl⟩)
  have := tsize_le t
  omega
theorem TurnL.same {t : Tab} {s : SlV} {st : List Int} {ls : List (List Int)} (H : TurnL { t with os := s } st ls) : TurnL t st ls := ⟨H.srt, fun p => H.mem p⟩
theorem StayL.same {t u : Tab} {st : List Int} {ls : List (List Int)} (e : SameTab u t) (H : StayL u st ls) : StayL t st ls := by
  unfold SameTab at e
  generalize u.os = s at e
  subst e
  rcases H with ⟨h1, h2, h3⟩ | ⟨h1, h2⟩
  · exact .inl ⟨h1, h2, h3.same⟩
  · exact .inr ⟨h1, h2⟩
/-- The lists of LL may be written to. -/
def LLw (LL : List PL) (h : AH) (fp : Fp) : Prop := ∀ x, x ∈ LL → (x.1.val = .slice none 0 0 ∧ x.2 = []) ∨ ∃ b o cc slk, x.1.val = .slice (some ⟨b, o, none⟩) x.2.length x.2.length ∧ h.get b = some (.cells cc 3 slk false) ∧ fp b ∧ o + x.2.length ≤ cc.length
theorem LLp.weak {LL : List PL} {h : AH} {fp : Fp} (k : LLp LL h fp) : LLw LL h fp := fun x hx => by
  obtain ⟨f, f1, f2⟩ := k x hx
  rcases f2 with ⟨q1, q2⟩ | ⟨b, o, cc, slk, h1, h2, h3, h4, h5, h6⟩
  · exact .inl ⟨q1, q2⟩
  · refine .inr ⟨b, o, cc, slk, h1, h2, f1 b h3, ?_⟩
    rcases h5 with h5 | ⟨h5, h7⟩
    · omega
    · rw [h5]; simpa using h7
theorem LLw.ok {LL : List PL} {h : AH} {fp : Fp} (k : LLw LL h fp) : (Rs.any (LLw LL)).ok h fp := fun h' q x hx => by
  rcases k x hx with q1 | ⟨b, o, cc, slk, h1, h2, h3, h4⟩
  · exact .inl q1
  · exact .inr ⟨b, o, cc, slk, h1, by rw [q b h3]; exact h2, h3, h4⟩
theorem Hs.weakP {h0 h : AH} {rs : List Rs} {LL : List PL} (S : Hs h0 h (.any (LLp LL) :: rs)) : Hs h0 h (.any (LLw LL) :: rs) := S.conv fun fp k => ((k h fun _ _ => rfl).weak).ok
theorem LLw.rd {LL : List PL} {h : AH} {fp : Fp} (k : LLw LL h fp) {x : PL} (hx : x ∈ LL) : ∃ c, Rd h x.1.val 1 x.2.length c := by
  rcases k x hx with ⟨q1, q2⟩ | ⟨b, o, cc, slk, h1, h2, h3, h4⟩
  · rw [q1, q2]; exact ⟨_, Rd.none_ h 1⟩
  · rw [h1]
    have : takeAt cc o (x.2.length * 1) = some ((cc.drop o).take x.2.length) := by
      unfold takeAt
      rw [Nat.mul_one]
      have z : Nat.beq ((cc.drop o).take x.2.length).length x.2.length = true := by
        rw [show ((cc.drop o).take x.2.length).length = x.2.length by simp; omega]
        exact Nat.beq_refl _
      simp only [z]
    exact ⟨_, .inr ⟨b, o, _, cc, _, slk, false, rfl, h2, this⟩⟩
theorem any_store {h0 h : AH} {rs : List Rs} {LL : List PL} (S : Hs h0 h (.any (LLw LL) :: rs)) {x : PL} (hx : x ∈ LL) {k : Nat} (hk : k < x.2.length) (u : Int) : ∃ h', aStore Tryz.prog 3 (elA x.1.val 1 k 0) (.int .i64 u) h = some h' ∧ Hs h0 h' (.any (LLw LL) :: rs) := by
  obtain ⟨fp, k1, k2⟩ := (At.here : At (.any (LLw LL) :: rs) _).ok S.sep
  have k3 := k1 h fun _ _ => rfl
  rcases k3 x hx with ⟨q1, q2⟩ | ⟨b, o, cc, slk, h1, h2, h3, h4⟩
  · rw [q2] at hk; exact absurd hk (Nat.not_lt_zero _)
  have hst : storeC Tryz.prog 3 cc (o + k * 1 + 0) (.int .i64 u) = some (splice cc (o + k * 1 + 0) [.int .i64 u]) := by
    unfold storeC
    rw [show sizeT Tryz.prog 3 = some 1 by kernel_rfl, show (Value.int .i64 u).cells.toList = [.int .i64 u] from rfl]
    have z : Nat.ble (o + k * 1 + 0 + [Value.int .i64 u].length) cc.length = true := Nat.ble_eq_true_of_le (by simp; omega)
    simp only [z]; rfl
  have hsl : (splice cc (o + k * 1 + 0) [Value.int .i64 u]).length = cc.length := spl_len (by simp; omega)
  refine ⟨_, by rw [h1]; exact aStore_storeC h2 hst, ?_⟩
  refine S.turn .here (Nat.le_refl _) (S.wf.put (k2 b h3).2.1 _) fun fq q1 q2 => ?_
  have k4 := q1 h fun _ _ => rfl
  have hb : fq b := by
    rcases k4 x hx with ⟨g1, g2⟩ | ⟨b', o', cc', slk', g1, g2, g3, g4⟩
    · rw [g2] at hk; exact absurd hk (Nat.not_lt_zero _)
    · rw [h1] at g1; cases g1; exact g3
  refine ⟨fun j _ hj => by rw [AH.get_put, if_neg]; intro q; subst q; exact hj hb, fq, LLw.ok fun y hy => ?_, fun j hj => ⟨(q2 j hj).2, .inl hj⟩⟩
  rcases k4 y hy with g | ⟨b', o', cc', slk', g1, g2, g3, g4⟩
  · exact .inl g
  · by_cases e : b' = b
    · subst e
      rw [h2] at g2
      cases g2
      exact .inr ⟨b', o', _, slk, g1, by rw [AH.get_put, if_pos rfl], g3, by rw [hsl]; exact g4⟩
    · exact .inr ⟨b', o', cc', slk', g1, by rw [AH.get_put, if_neg e]; exact g2, g3, g4⟩
section
variable {X : Extern} {sz : Nat} {L : Ks} {h h0 : AH} {rs : List Rs} {ops : Array Oper} {os : List Oper} {o : Oper} {R : Ks → AH → Prop}
theorem stW {L' : Ks} {x yo : Operand} {LL : List PL} {u : Int} (S : Hs h0 h (.any (LLw LL) :: rs)) (p : PL) (k : Nat) (hp : p ∈ LL) (hk : k < p.2.length) (w : ∀ h', Hs h0 h' (.any (LLw LL) :: rs) → KO Tryz.prog X sz ops os L' h' R) (ho : o.op = .store 3 x yo := by exact rfl) (hg : guardA ops L.tree o.guard = some true := by exact rfl)
    (hx : kA L x = some (elA p.1.val 1 k 0) := by exact rfl) (hy : kA L yo = some (.int .i64 u) := by exact rfl) (hq : putK sz L o.dst (.tuple #[]) = some L' := by exact rfl) : KO Tryz.prog X sz ops (o :: os) L h R := by
  obtain ⟨h', q1, q2⟩ := any_store S hp hk u
  exact KO_store ho hg hx hy q1 hq (w h' q2)
end
section
variable {P : Program} {sz : Nat} {L : Ks} {h h0 : AH} {rs : List Rs} {ops : Array Oper}
theorem HintOk.ld {j : Nat} (k : Nat) {o ok : Oper} {x : Option Nat} {y : Operand} {ty e e2 : TypeId} {b : Nat} {c c2 : List Value} {v : Value} {L' : Ks} (S : Hs h0 h rs) (hi : At rs (.blk b c e)) (hp : predsOf ops (masks ops.toList []) j = [k] := by decide +kernel) (ho : ops[j]? = some o := by exact rfl) (hok : ops[k]? = some ok := by exact rfl) (hko : ok.op = .load ty y := by exact rfl)
    (hy : kA L y = some (.pointer (some ⟨b, 0, none⟩)) := by exact rfl) (hv : loadC P ty c 0 = some v := by exact rfl) (hg : guardA ops L.tree ok.guard = some true := by exact rfl) (hd : putK sz L ok.dst v = some L' := by exact rfl) (hf : aFloat P L'.tree o.op = some (x, c2, e2) := by exact rfl) : HintOk P ops sz L h j c2 e2 :=
  HintOk.one (h' := h) hp ho hok hg (by rw [hko]; simp only [aOp, tree_le hy, aLoad_loadC (blk_get S hi), hv, nextOf]) hd hf
end
end Go.Proofs.Xx

/-
  A copy of a hall, as one's own.
-/
namespace Go.Proofs.Xx
open Go Go.Proofs
set_option linter.unusedSimpArgs false
set_option linter.unusedVariables false
set_option maxRecDepth 100000

theorem copyR_ok {h0 : AH} (w : WfH h0) (v : Value) (l : List Tab) (hr : RdL h0 v 7 eT l) (hl : l.length ≤ 1000) (ht : ∀ i, i < l.length → TabR h0 (tb l i)) : Fn Tryz.prog Xh 66 [v] h0 (fun u h' => ∃ l2, SameAll l2 l ∧ Hs h0 h' [.sl u 25 7 eT l2, .any (OpnR l l2 l.length)]) := by
  have S := Hs.start w
  refine Fn_K rfl Tryz.func66 rfl rfl ?_
  all_goals (repeat' (first | refine K_seq ?_ | refine k_cond rfl ?_ | refine K_skip ?_ | refine K_exit ?_ | refine k_block ?_ | refine K_scope ?_ | (refine K_region (id := 0) ?_; refine mv ?_; refine KO_nil ?_) | (refine K_region (id := 1) ?_; refine mv ?_; refine KO_nil ?_) | (refine K_region (id := 2) ?_; refine mv ?_; (first | refine lnB S ?_ | refine lnS S rfl rfl ?_); refine mv ?_; refine KO_nil ?_)))
  refine k_loop (σ := Nat × List Tab × Value) (fun (i, l2, vo) h' => Hs h0 h' [.sl vo 25 7 eT l2, .any (OpnR l l2 i)] ∧ i ≤ l.length ∧ l2.length = i ∧ ∀ j, j < i → SameTab (tb l2 j) (tb l j)) (fun (i, l2, vo) => l.length - i) (fun (i, l2, vo) => [(3, vo), (6, v), (7, .int .i64 l.length), (8, .int .i64 i)]) (0, [], .slice none 0 0) (by repeat (first | exact Ks.le_nil _ | refine Ks.le_cons rfl ?_ | refine Ks.le_int ?_)) ?_ ?_
  · exact ⟨(S.anyS fun _ j hj => absurd hj (Nat.not_lt_zero _)).nilS, Nat.zero_le _, rfl, fun j hj => absurd hj (Nat.not_lt_zero _)⟩
  clear S
  rintro ⟨i, l2, vo⟩ h ⟨S, h1, h2, h3⟩
  all_goals (repeat' (first | refine K_seq ?_ | refine k_cond rfl ?_ | refine K_skip ?_ | refine K_exit ?_ | refine k_block ?_ | refine K_scope ?_ | (refine K_region (id := 3) ?_; (first | refine cT ?_ | refine cF ?_ | (refine cS ?_ ?_ <;> intro hc)) <;> (refine KO_nil ?_)) | (refine K_region (id := 4) ?_; (first | refine ixB S ?_ | refine ixS2 S rfl rfl ?_); (first | refine lB S rfl rfl ?_ | refine lES2 S rfl rfl ?_ | refine lEB S ?_ | refine lH S ?_); (refine al S ?_; clear S; intro b h S); (first | (refine sB S rfl rfl ?_; clear S; intro h S) | (refine sE2 S rfl rfl ?_; clear S; intro h S)); refine KO_nil ?_) | (refine K_region (id := 8) ?_; refine mv ?_; refine mv ?_; refine KO_nil ?_)))
  · (try simp only [Int.toNat_natCast] at *)
    have hi : i < l.length := by omega
    obtain ⟨hov, hnm, hol⟩ := ht i hi
    refine K_drawF1 (id := 5) (j1 := 3) (rd := [(3, (0, 1)), (6, (0, 2))]) (fun b1 => [some b1, some (b)]) S (HintOk.direct) ?_; clear S; intro b1 h S; refine KX_cons ?_; (first | (refine vl ?_ <;> refine KO_nil ⟨⟨by (first | exact True.intro | exact Or.inl rfl | exact Or.inr rfl | exact Or.inr (congrArg some (blkOf_elA _ _ _ _)) | exact ⟨Or.inl rfl, rfl⟩ | exact ⟨Or.inr rfl, rfl⟩), rfl⟩, ?_⟩) | (refine fB S ?_ <;> refine KO_nil ⟨⟨by (first | exact True.intro | exact Or.inl rfl | exact Or.inr rfl | exact Or.inr (congrArg some (blkOf_elA _ _ _ _)) | exact ⟨Or.inl rfl, rfl⟩ | exact ⟨Or.inr rfl, rfl⟩), rfl⟩, ?_⟩) | (refine fS S rfl rfl ?_ <;> refine KO_nil ⟨⟨by (first | exact True.intro | exact Or.inl rfl | exact Or.inr rfl | exact Or.inr (congrArg some (blkOf_elA _ _ _ _)) | exact ⟨Or.inl rfl, rfl⟩ | exact ⟨Or.inr rfl, rfl⟩), rfl⟩, ?_⟩) | (refine fA ?_ <;> refine KO_nil ⟨⟨by (first | exact True.intro | exact Or.inl rfl | exact Or.inr rfl | exact Or.inr (congrArg some (blkOf_elA _ _ _ _)) | exact ⟨Or.inl rfl, rfl⟩ | exact ⟨Or.inr rfl, rfl⟩), rfl⟩, ?_⟩)); refine KX_cons ?_; (first | (refine lB S rfl rfl ?_ <;> refine KO_nil ⟨⟨by (first | exact True.intro | exact Or.inl rfl | exact Or.inr rfl | exact Or.inr (congrArg some (blkOf_elA _ _ _ _)) | exact ⟨Or.inl rfl, rfl⟩ | exact ⟨Or.inr rfl, rfl⟩), rfl⟩, ?_⟩) | (refine lES2 S rfl rfl ?_ <;> refine KO_nil ⟨⟨by (first | exact True.intro | exact Or.inl rfl | exact Or.inr rfl | exact Or.inr (congrArg some (blkOf_elA _ _ _ _)) | exact ⟨Or.inl rfl, rfl⟩ | exact ⟨Or.inr rfl, rfl⟩), rfl⟩, ?_⟩) | (refine lEB S ?_ <;> refine KO_nil ⟨⟨by (first | exact True.intro | exact Or.inl rfl | exact Or.inr rfl | exact Or.inr (congrArg some (blkOf_elA _ _ _ _)) | exact ⟨Or.inl rfl, rfl⟩ | exact ⟨Or.inr rfl, rfl⟩), rfl⟩, ?_⟩) | (refine lH S ?_ <;> refine KO_nil ⟨⟨by (first | exact True.intro | exact Or.inl rfl | exact Or.inr rfl | exact Or.inr (congrArg some (blkOf_elA _ _ _ _)) | exact ⟨Or.inl rfl, rfl⟩ | exact ⟨Or.inr rfl, rfl⟩), rfl⟩, ?_⟩))
    ((refine KX_cons ?_; first | refine KO_fn rfl rfl rfl rfl rfl ((clone_ok S.wf (tb l i).ov (tb l i).opn (hov.ext w S.ext) (by omega)).mono ?_)); rintro u h x) <;> ((refine KO_nil ⟨⟨True.intro, ?_⟩, ?_⟩; (focus ((show keepsX _ _ _ _ _; simp only [keepsX]; (repeat' (first | exact True.intro | refine And.intro ?_ ?_)); all_goals (intro hw; first | exact True.intro | exact rfl | exact x.ext.old _ S.bB | exact x.ext.old _ (S.bR (by first | omega | grind)) | exact x.ext.old _ (S.bX (by assumption) (by assumption) (by first | omega | grind)) | exact x.ext.old _ (S.bY (by assumption) (by assumption)) | (refine x.ext.old _ ?_; assumption) | exact absurd hw (by decide +kernel)))))); replace S := S.join1 x; clear x; refine fl S rfl rfl S.gB ?_)
    refine KX_cons ?_; refine apd S rfl rfl (rd_blk eI [(-7 : Int)] S.gB) ?_; have S0 := S; clear S; intro v2 h S; refine KO_nil ⟨⟨True.intro, ?_⟩, ?_⟩; (focus ((show keepsX _ _ _ _ _; simp only [keepsX]; (repeat' (first | exact True.intro | refine And.intro ?_ ?_)); all_goals (intro hw; first | exact True.intro | exact (S.gB).trans (S0.gB).symm | exact absurd hw (by decide +kernel))))); clear S0; (refine KX_cons ?_; (first | (refine vl ?_ <;> refine KO_nil ⟨⟨by (first | exact True.intro | exact Or.inl rfl | exact Or.inr rfl | exact Or.inr (congrArg some (blkOf_elA _ _ _ _)) | exact ⟨Or.inl rfl, rfl⟩ | exact ⟨Or.inr rfl, rfl⟩), rfl⟩, ?_⟩) | (refine fB S ?_ <;> refine KO_nil ⟨⟨by (first | exact True.intro | exact Or.inl rfl | exact Or.inr rfl | exact Or.inr (congrArg some (blkOf_elA _ _ _ _)) | exact ⟨Or.inl rfl, rfl⟩ | exact ⟨Or.inr rfl, rfl⟩), rfl⟩, ?_⟩) | (refine fS S rfl rfl ?_ <;> refine KO_nil ⟨⟨by (first | exact True.intro | exact Or.inl rfl | exact Or.inr rfl | exact Or.inr (congrArg some (blkOf_elA _ _ _ _)) | exact ⟨Or.inl rfl, rfl⟩ | exact ⟨Or.inr rfl, rfl⟩), rfl⟩, ?_⟩) | (refine fA ?_ <;> refine KO_nil ⟨⟨by (first | exact True.intro | exact Or.inl rfl | exact Or.inr rfl | exact Or.inr (congrArg some (blkOf_elA _ _ _ _)) | exact ⟨Or.inl rfl, rfl⟩ | exact ⟨Or.inr rfl, rfl⟩), rfl⟩, ?_⟩)); refine KX_cons ?_; (first | (refine lB S rfl rfl ?_ <;> refine KO_nil ⟨⟨by (first | exact True.intro | exact Or.inl rfl | exact Or.inr rfl | exact Or.inr (congrArg some (blkOf_elA _ _ _ _)) | exact ⟨Or.inl rfl, rfl⟩ | exact ⟨Or.inr rfl, rfl⟩), rfl⟩, ?_⟩) | (refine lES2 S rfl rfl ?_ <;> refine KO_nil ⟨⟨by (first | exact True.intro | exact Or.inl rfl | exact Or.inr rfl | exact Or.inr (congrArg some (blkOf_elA _ _ _ _)) | exact ⟨Or.inl rfl, rfl⟩ | exact ⟨Or.inr rfl, rfl⟩), rfl⟩, ?_⟩) | (refine lEB S ?_ <;> refine KO_nil ⟨⟨by (first | exact True.intro | exact Or.inl rfl | exact Or.inr rfl | exact Or.inr (congrArg some (blkOf_elA _ _ _ _)) | exact ⟨Or.inl rfl, rfl⟩ | exact ⟨Or.inr rfl, rfl⟩), rfl⟩, ?_⟩) | (refine lH S ?_ <;> refine KO_nil ⟨⟨by (first | exact True.intro | exact Or.inl rfl | exact Or.inr rfl | exact Or.inr (congrArg some (blkOf_elA _ _ _ _)) | exact ⟨Or.inl rfl, rfl⟩ | exact ⟨Or.inr rfl, rfl⟩), rfl⟩, ?_⟩)); refine KX_cons ?_; (first | (refine lnB S ?_ <;> refine KO_nil ⟨⟨by (first | exact True.intro | exact Or.inl rfl | exact Or.inr rfl | exact Or.inr (congrArg some (blkOf_elA _ _ _ _)) | exact ⟨Or.inl rfl, rfl⟩ | exact ⟨Or.inr rfl, rfl⟩), rfl⟩, ?_⟩) | (refine lnS S rfl rfl ?_ <;> refine KO_nil ⟨⟨by (first | exact True.intro | exact Or.inl rfl | exact Or.inr rfl | exact Or.inr (congrArg some (blkOf_elA _ _ _ _)) | exact ⟨Or.inl rfl, rfl⟩ | exact ⟨Or.inr rfl, rfl⟩), rfl⟩, ?_⟩)))
    refine KX_cons ?_; refine th (tb l i).opn.length S rfl rfl ?_; clear S; intro v3 S; obtain ⟨s3, rfl⟩ := (Rd.of_rd S .here).isSl; refine KO_nil ⟨⟨True.intro, rfl⟩, ?_⟩; (refine KX_cons ?_; (first | (refine vl ?_ <;> refine KO_nil ⟨⟨by (first | exact True.intro | exact Or.inl rfl | exact Or.inr rfl | exact Or.inr (congrArg some (blkOf_elA _ _ _ _)) | exact ⟨Or.inl rfl, rfl⟩ | exact ⟨Or.inr rfl, rfl⟩), rfl⟩, ?_⟩) | (refine fB S ?_ <;> refine KO_nil ⟨⟨by (first | exact True.intro | exact Or.inl rfl | exact Or.inr rfl | exact Or.inr (congrArg some (blkOf_elA _ _ _ _)) | exact ⟨Or.inl rfl, rfl⟩ | exact ⟨Or.inr rfl, rfl⟩), rfl⟩, ?_⟩) | (refine fS S rfl rfl ?_ <;> refine KO_nil ⟨⟨by (first | exact True.intro | exact Or.inl rfl | exact Or.inr rfl | exact Or.inr (congrArg some (blkOf_elA _ _ _ _)) | exact ⟨Or.inl rfl, rfl⟩ | exact ⟨Or.inr rfl, rfl⟩), rfl⟩, ?_⟩) | (refine fA ?_ <;> refine KO_nil ⟨⟨by (first | exact True.intro | exact Or.inl rfl | exact Or.inr rfl | exact Or.inr (congrArg some (blkOf_elA _ _ _ _)) | exact ⟨Or.inl rfl, rfl⟩ | exact ⟨Or.inr rfl, rfl⟩), rfl⟩, ?_⟩)); refine KX_cons ?_; (first | ((refine sB S rfl rfl ?_; have S0 := S; clear S; intro h S); refine KO_nil ⟨⟨True.intro, ?_⟩, ?_⟩; (focus ((show keepsX _ _ _ _ _; simp only [keepsX]; (repeat' (first | exact True.intro | refine And.intro ?_ ?_)); all_goals (intro hw; first | exact True.intro | exact (S.gB).trans (S0.gB).symm | exact absurd hw (by decide +kernel))))); clear S0) | ((refine sE2 S rfl rfl ?_; have S0 := S; clear S; intro h S); refine KO_nil ⟨⟨True.intro, ?_⟩, ?_⟩; (focus ((show keepsX _ _ _ _ _; simp only [keepsX]; (repeat' (first | exact True.intro | refine And.intro ?_ ?_)); all_goals (intro hw; first | exact True.intro | exact (S.gB).trans (S0.gB).symm | exact absurd hw (by decide +kernel))))); clear S0)); refine KX_nil ?_)
    all_goals (repeat' (first | refine K_seq ?_ | refine k_cond rfl ?_ | refine K_skip ?_ | refine K_exit ?_ | refine k_block ?_ | refine K_scope ?_ | (refine K_region (id := 6) ?_; refine mv ?_; (first | refine lB S rfl rfl ?_ | refine lES2 S rfl rfl ?_ | refine lEB S ?_ | refine lH S ?_); (refine one 7 S ?_; clear S; intro u h S))))
    refine app (y0 := { tb l i with os := s3 }) S rfl rfl ?_; clear S; intro v h S; refine mv ?_; refine KO_nil ?_
    all_goals (repeat' (first | refine K_seq ?_ | refine k_cond rfl ?_ | refine K_skip ?_ | refine K_exit ?_ | refine k_block ?_ | refine K_scope ?_ | (refine K_region (id := 7) ?_; (first | refine ad ?_ | refine vl ?_); refine mv ?_; refine KO_nil ?_)))
    refine ⟨(i + 1, l2 ++ [{ tb l i with os := s3 }], v), ?_, ?_, (by repeat (first | exact Ks.le_nil _ | refine Ks.le_cons rfl ?_ | refine Ks.le_int ?_))⟩
    · show l.length - (i + 1) < l.length - i; omega
    · have hg0 : ∀ (y : Tab) (j : Nat), j < i → tb (l2 ++ [y]) j = tb l2 j := fun y j hj => by
        simp only [tb, List.getD_eq_getElem?_getD, List.getElem?_append_left (show j < l2.length by omega)]
      have hg1 : ∀ (y : Tab), tb (l2 ++ [y]) i = y := fun y => by
        simp only [tb, List.getD_eq_getElem?_getD, List.getElem?_append_right (show l2.length ≤ i by omega), h2, Nat.sub_self, List.getElem?_cons_zero, Option.getD_some]
      generalize hy : ({ tb l i with os := s3 } : Tab) = y at S
      have S := ((((S.del (.there (.there .here))).del (.there (.there .here))).front (.there (.there .here))).front (.there (.there .here)))
      have S := S.merge (r := .any (OpnR l (l2 ++ [y]) (i + 1))) (fun f1 f2 k1 k2 h'' hh j hj => by
        rcases Nat.lt_or_ge j i with q | q
        · rw [hg0 y j q]
          exact k2 h'' (fun b hb => hh b (.inr hb)) j q
        · obtain rfl : j = i := by omega
          have k1 := k1.local fun b hb => hh b (.inl hb)
          rw [hg1 y, ← hy]
          rcases k1 with ⟨e1, e2⟩ | ⟨bb, o, cap, cc, e, sk, r, e1, e2, -, e3⟩
          · have hnil : (tb l j).opn = [] := by
              cases q1 : (tb l j).opn with
              | nil => rfl
              | cons a t => rw [q1] at e2; simp at e2
            exact .inl ⟨e1, show (tb l j).opn.length = 0 by rw [hnil]; rfl, show (tb l j).opn.flatMap eI = [] by rw [hnil]; rfl⟩
          · rw [List.take_left'] at e1 e3 <;> first | rfl | skip
            exact .inr ⟨bb, o, cap, cc, e, sk, r, e1, e2, e3⟩)
      refine ⟨S.front (.there .here), by omega, by simp; omega, fun j hj => ?_⟩
      show SameTab (tb (l2 ++ [y]) j) (tb l j)
      rcases Nat.lt_or_ge j i with q | q
      · rw [hg0 y j q]; exact h3 j q
      · obtain rfl : j = i := by omega
        rw [hg1 y, ← hy]; rfl
  · refine K_ret ⟨_, rfl, ?_⟩
    have hil : i = l.length := by omega
    subst hil
    exact ⟨l2, ⟨by omega, fun j hj => h3 j (by omega)⟩, S⟩
end Go.Proofs.Xx

/-
  HallChecks: for the row.
-/
namespace Go.Proofs.Xx
open Go Go.Proofs
set_option linter.unusedSimpArgs false
set_option linter.unusedVariables false
set_option maxRecDepth 100000

theorem HallA.few {h : AH} {v : Value} {l : List Tab} (A : HallA h v l) (f : FewP l) : HallR h v l :=
  ⟨A.rd, fun i hi => ⟨(A.tab i hi).rd, by have := f.2 i hi; omega, by have := f.2 i hi; omega⟩, by have := f.1; omega, A.cap⟩
end Go.Proofs.Xx

/-
  HallTurns: the turns agree with the reference's, and the caller may write to them.
-/
namespace Go.Proofs.Xx
open Go Go.Proofs
set_option linter.unusedSimpArgs false
set_option linter.unusedVariables false
set_option maxRecDepth 100000

theorem lawTurns1_ok {h0 : AH} (w : WfH h0) {b : Nat} {n : Int} (hb : h0.get b = some (.cells [.int .i64 n] 3 none false)) (x : Int) : Fn Tryz.prog Xh 70 [.int .i64 x, PT b] h0 (fun v h' => BoolIs v (x < 0 ∨ n ≤ x) ∧ Hs h0 h' []) := by
  have S := Hs.start w
  refine Fn_K rfl Tryz.func70 rfl rfl ?_
  all_goals (repeat' (first | refine K_seq ?_ | refine k_cond rfl ?_ | refine K_skip ?_ | refine K_exit ?_ | refine k_block ?_ | refine K_scope ?_ | (refine K_region (id := 0) ?_; refine mv ?_; refine KO_nil ?_) | (refine K_region (id := 1) ?_; refine mv ?_; (first | refine cT ?_ | refine cF ?_ | (refine cS ?_ ?_ <;> intro hc)) <;> (refine mv ?_; (first | refine off ?_ | refine mv ?_); (first | refine off ?_ | (first | refine lB S rfl rfl ?_ | refine lES2 S rfl rfl ?_ | refine lEB S ?_ | refine lH S ?_)); (first | refine off ?_ | (first | refine cT ?_ | refine cF ?_ | (refine cS ?_ ?_ <;> intro hc))) <;> (refine vl ?_; refine mv ?_; refine KO_nil ?_)))))
  all_goals (refine K_ret ⟨_, rfl, ?_⟩)
  · exact ⟨.inl ⟨rfl, .inl (by omega)⟩, S⟩
  · exact ⟨.inl ⟨rfl, .inr (by omega)⟩, S⟩
  · exact ⟨.inr ⟨rfl, by omega⟩, S⟩
theorem lawTurns_ok {h0 : AH} (w : WfH h0) (t : Tab) (r : TabR h0 t) (sv : Value) (st : List Int) (hsv : RdL h0 sv 1 eI st) (hst : st.length ≤ 30) : Fn Tryz.prog Xh 20 [tabV t, sv] h0 (fun v _ => v = .bool true) := by
  have S := Hs.start w
  have hsz := tsize_le t
  refine Fn_K rfl Tryz.func20 rfl rfl ?_
  (repeat (refine K_seq ?_)); refine K_region (id := 0) ?_; (refine bx S ?_; clear S; intro b h S); refine mv ?_; refine KO_nil ?_
  obtain ⟨b0, hnm⟩ : ∃ x, x = b := ⟨_, rfl⟩; subst hnm
  skip
  refine K_seq ?_
  refine K_drawF2 (id := 1) (j1 := 1) (j2 := 7) (rd := [(1, (0, 0)), (4, (1, 2)), (7, (0, 2))]) (fun b1 b2 => [some b1, none, some b2]) S (HintOk.ld 0 S .here) (HintOk.direct) ?_; clear S; intro b1 b2 h S; refine KX_cons ?_; (first | (refine lB S rfl rfl ?_ <;> refine KO_nil ⟨⟨by (first | exact True.intro | exact Or.inl rfl | exact Or.inr rfl | exact Or.inr (congrArg some (blkOf_elA _ _ _ _)) | exact ⟨Or.inl rfl, rfl⟩ | exact ⟨Or.inr rfl, rfl⟩), rfl⟩, ?_⟩) | (refine lES2 S rfl rfl ?_ <;> refine KO_nil ⟨⟨by (first | exact True.intro | exact Or.inl rfl | exact Or.inr rfl | exact Or.inr (congrArg some (blkOf_elA _ _ _ _)) | exact ⟨Or.inl rfl, rfl⟩ | exact ⟨Or.inr rfl, rfl⟩), rfl⟩, ?_⟩) | (refine lEB S ?_ <;> refine KO_nil ⟨⟨by (first | exact True.intro | exact Or.inl rfl | exact Or.inr rfl | exact Or.inr (congrArg some (blkOf_elA _ _ _ _)) | exact ⟨Or.inl rfl, rfl⟩ | exact ⟨Or.inr rfl, rfl⟩), rfl⟩, ?_⟩) | (refine lH S ?_ <;> refine KO_nil ⟨⟨by (first | exact True.intro | exact Or.inl rfl | exact Or.inr rfl | exact Or.inr (congrArg some (blkOf_elA _ _ _ _)) | exact ⟨Or.inl rfl, rfl⟩ | exact ⟨Or.inr rfl, rfl⟩), rfl⟩, ?_⟩)); refine fl S rfl rfl S.gB ?_
  have ht1 : ∀ i, i < [t].length → TabR h (tb [t] i) := fun i hi => by
    obtain rfl : i = 0 := by simpa using hi
    exact ⟨r.1.ext w S.ext, r.2⟩
  ((refine KX_cons ?_; first | refine KO_fn rfl rfl rfl rfl rfl ((copyR_ok S.wf _ [t] (rd_blk (z := 7) eT [t] (blk_get S (.there .here))) (by simp) ht1).mono ?_)); rintro u h ⟨l2, sa, x⟩) <;> ((refine KO_nil ⟨⟨True.intro, ?_⟩, ?_⟩; (focus ((show keepsX _ _ _ _ _; simp only [keepsX]; (repeat' (first | exact True.intro | refine And.intro ?_ ?_)); all_goals (intro hw; first | exact True.intro | exact rfl | exact x.ext.old _ S.bB | exact x.ext.old _ (S.bR (by first | omega | grind)) | exact x.ext.old _ (S.bX (by assumption) (by assumption) (by first | omega | grind)) | exact x.ext.old _ (S.bY (by assumption) (by assumption)) | (refine x.ext.old _ ?_; assumption) | exact absurd hw (by decide +kernel)))))); replace S := S.join2 x; clear x; have sl : l2.length = 1 := sa.1; (refine KX_set [some (b1), some (blkS u), some (b2)] (And.intro rfl (And.intro trivial (And.intro rfl trivial))) ?_); refine KX_cons ?_; (first | (refine ixB S ?_ <;> refine KO_nil ⟨⟨by (first | exact True.intro | exact Or.inl rfl | exact Or.inr rfl | exact Or.inr (congrArg some (blkOf_elA _ _ _ _)) | exact ⟨Or.inl rfl, rfl⟩ | exact ⟨Or.inr rfl, rfl⟩), rfl⟩, ?_⟩) | (refine ixS2 S rfl rfl ?_ <;> refine KO_nil ⟨⟨by (first | exact True.intro | exact Or.inl rfl | exact Or.inr rfl | exact Or.inr (congrArg some (blkOf_elA _ _ _ _)) | exact ⟨Or.inl rfl, rfl⟩ | exact ⟨Or.inr rfl, rfl⟩), rfl⟩, ?_⟩)); refine KX_cons ?_; (first | (refine lB S rfl rfl ?_ <;> refine KO_nil ⟨⟨by (first | exact True.intro | exact Or.inl rfl | exact Or.inr rfl | exact Or.inr (congrArg some (blkOf_elA _ _ _ _)) | exact ⟨Or.inl rfl, rfl⟩ | exact ⟨Or.inr rfl, rfl⟩), rfl⟩, ?_⟩) | (refine lES2 S rfl rfl ?_ <;> refine KO_nil ⟨⟨by (first | exact True.intro | exact Or.inl rfl | exact Or.inr rfl | exact Or.inr (congrArg some (blkOf_elA _ _ _ _)) | exact ⟨Or.inl rfl, rfl⟩ | exact ⟨Or.inr rfl, rfl⟩), rfl⟩, ?_⟩) | (refine lEB S ?_ <;> refine KO_nil ⟨⟨by (first | exact True.intro | exact Or.inl rfl | exact Or.inr rfl | exact Or.inr (congrArg some (blkOf_elA _ _ _ _)) | exact ⟨Or.inl rfl, rfl⟩ | exact ⟨Or.inr rfl, rfl⟩), rfl⟩, ?_⟩) | (refine lH S ?_ <;> refine KO_nil ⟨⟨by (first | exact True.intro | exact Or.inl rfl | exact Or.inr rfl | exact Or.inr (congrArg some (blkOf_elA _ _ _ _)) | exact ⟨Or.inl rfl, rfl⟩ | exact ⟨Or.inr rfl, rfl⟩), rfl⟩, ?_⟩)); refine KX_cons ?_; (first | (refine mv ?_ <;> refine KO_nil ⟨⟨by (first | exact True.intro | exact Or.inl rfl | exact Or.inr rfl | exact Or.inr (congrArg some (blkOf_elA _ _ _ _)) | exact ⟨Or.inl rfl, rfl⟩ | exact ⟨Or.inr rfl, rfl⟩), rfl⟩, ?_⟩)))
  ((refine KX_cons ?_; first | refine KO_fn rfl rfl rfl rfl rfl ((clone_ok S.wf sv st (hsv.ext w S.ext) (by omega)).mono ?_)); rintro u2 h x) <;> ((refine KO_nil ⟨⟨True.intro, ?_⟩, ?_⟩; (focus ((show keepsX _ _ _ _ _; simp only [keepsX]; (repeat' (first | exact True.intro | refine And.intro ?_ ?_)); all_goals (intro hw; first | exact True.intro | exact rfl | exact x.ext.old _ S.bB | exact x.ext.old _ (S.bR (by first | omega | grind)) | exact x.ext.old _ (S.bX (by assumption) (by assumption) (by first | omega | grind)) | exact x.ext.old _ (S.bY (by assumption) (by assumption)) | (refine x.ext.old _ ?_; assumption) | exact absurd hw (by decide +kernel)))))); replace S := S.join1 x; clear x; refine fl S rfl rfl S.gB ?_; refine KX_cons ?_; (first | ((refine sB S rfl rfl ?_; have S0 := S; clear S; intro h S); refine KO_nil ⟨⟨True.intro, ?_⟩, ?_⟩; (focus ((show keepsX _ _ _ _ _; simp only [keepsX]; (repeat' (first | exact True.intro | refine And.intro ?_ ?_)); all_goals (intro hw; first | exact True.intro | exact (S.gB).trans (S0.gB).symm | exact absurd hw (by decide +kernel))))); clear S0) | ((refine sE2 S rfl rfl ?_; have S0 := S; clear S; intro h S); refine KO_nil ⟨⟨True.intro, ?_⟩, ?_⟩; (focus ((show keepsX _ _ _ _ _; simp only [keepsX]; (repeat' (first | exact True.intro | refine And.intro ?_ ?_)); all_goals (intro hw; first | exact True.intro | exact (S.gB).trans (S0.gB).symm | exact absurd hw (by decide +kernel))))); clear S0)); refine KX_cons ?_; (first | (refine mv ?_ <;> refine KO_nil ⟨⟨by (first | exact True.intro | exact Or.inl rfl | exact Or.inr rfl | exact Or.inr (congrArg some (blkOf_elA _ _ _ _)) | exact ⟨Or.inl rfl, rfl⟩ | exact ⟨Or.inr rfl, rfl⟩), rfl⟩, ?_⟩)); refine KX_nil ?_)
  have e2 : SameTab (l2.getD (0 : Int).toNat default) t := sa.2 0 (by omega)
  have r2 : TabR h (l2.getD (0 : Int).toNat default) := by
    obtain ⟨fp, k⟩ := S.anyP (.there (.there .here))
    have q := (sameTab_iff _ _).1 e2
    refine ⟨?_, by rw [q.1]; exact r.2.1, by rw [q.2.2.2.2.2.2]; exact r.2.2⟩
    rw [q.2.2.2.2.2.2]; exact k 0 (by simp)
  generalize (l2.getD (0 : Int).toNat default) = t2 at S e2 r2 ⊢
  skip
  all_goals (repeat' (first | refine K_seq ?_ | refine k_cond rfl ?_ | refine K_skip ?_ | refine K_exit ?_ | refine k_block ?_ | refine K_scope ?_ | (refine K_region (id := 2) ?_; refine mv ?_; refine mv ?_; refine KO_nil ?_)))
  have wg := S.wf
  have hb0 := blk_get S (.there (.there (.there (.there (.there .here)))))
  have hb2 := blk_get S (.there (.there (.there .here)))
  have hu2 := Rd.of_sl S .here
  have rt : TabR h t := ⟨r.1.ext w S.ext, r.2⟩
  have hsv := hsv.ext w S.ext
  clear r w
  replace S := Hs.start wg
  skip
  refine K_join (σ := Value × Value × List (List Int) × List (List Int)) (fun (va, vb, A, B) h' => Hs h h' [] ∧ StayL t [] A ∧ StayL t st B ∧ RLL h' va A ∧ RLL h' vb B) (fun (va, vb, A, B) => [(1, sv), (2, PT b0), (5, PT b2), (6, u2), (7, va), (8, vb)]) ?_ ?_
  · all_goals (repeat' (first | refine K_seq ?_ | refine k_cond rfl ?_ | refine K_skip ?_ | refine K_exit ?_ | refine k_block ?_ | refine K_scope ?_ | (refine K_region (id := 3) ?_; (first | refine lB S rfl rfl ?_ | refine lES2 S rfl rfl ?_ | refine lEB S ?_ | refine lH S ?_))))
    (refine KO_fn rfl rfl rfl rfl rfl ((refCheck_ok S.wf t (rt.ext wg S.ext)).mono ?_); rintro _ h ⟨rfl, x⟩) <;> (replace S := S.join0 x; clear x; (first | refine cT ?_ | refine cF ?_ | (refine cS ?_ ?_ <;> intro hc)) <;> (refine KO_nil ?_))
    all_goals (repeat' (first | refine K_seq ?_ | refine k_cond rfl ?_ | refine K_skip ?_ | refine K_exit ?_ | refine k_block ?_ | refine K_scope ?_ | (refine K_region (id := 3) ?_; (first | refine lB S rfl rfl ?_ | refine lES2 S rfl rfl ?_ | refine lEB S ?_ | refine lH S ?_))))
    · have hchk : chk t = 0 := by assumption
      have hs := tabS_chk hchk
      all_goals (repeat' (first | refine K_seq ?_ | refine k_cond rfl ?_ | refine K_skip ?_ | refine K_exit ?_ | refine k_block ?_ | refine K_scope ?_ | (refine K_region (id := 4) ?_; (first | refine lB S rfl rfl ?_ | refine lES2 S rfl rfl ?_ | refine lEB S ?_ | refine lH S ?_))))
      (refine KO_fn rfl rfl rfl rfl rfl ((refTurns_ok S.wf t (rt.ext wg S.ext) hs).mono ?_); rintro vA h ⟨A, hA, hAl, x⟩) <;> (replace S := S.join2 x; clear x; refine mv ?_; refine KO_nil ?_)
      all_goals (repeat' (first | refine K_seq ?_ | refine k_cond rfl ?_ | refine K_skip ?_ | refine K_exit ?_ | refine k_block ?_ | refine K_scope ?_ | (refine K_region (id := 4) ?_; (first | refine lB S rfl rfl ?_ | refine lES2 S rfl rfl ?_ | refine lEB S ?_ | refine lH S ?_)) | (refine K_region (id := 5) ?_; (first | refine lB S rfl rfl ?_ | refine lES2 S rfl rfl ?_ | refine lEB S ?_ | refine lH S ?_))))
      (refine KO_fn rfl rfl rfl rfl rfl ((refSize_ok S.wf t).mono ?_); rintro _ h ⟨rfl, x⟩) <;> (replace S := S.join0 x; clear x; (refine al S ?_; clear S; intro b h S); (first | (refine sB S rfl rfl ?_; clear S; intro h S) | (refine sE2 S rfl rfl ?_; clear S; intro h S)); refine KO_nil ?_)
      all_goals (repeat' (first | refine K_seq ?_ | refine k_cond rfl ?_ | refine K_skip ?_ | refine K_exit ?_ | refine k_block ?_ | refine K_scope ?_ | (refine K_region (id := 5) ?_; (first | refine lB S rfl rfl ?_ | refine lES2 S rfl rfl ?_ | refine lEB S ?_ | refine lH S ?_)) | (refine K_region (id := 6) ?_; refine mv ?_; refine vl ?_)))
      obtain ⟨bz, hnm⟩ : ∃ x, x = b := ⟨_, rfl⟩; subst hnm
      have hA2 : StayL t [] (A.map (·.2)) := .inl ⟨hchk, stOk_nil, hA⟩
      (refine KO_fn rfl rfl rfl rfl rfl ((containsFunc_ok S.wf sv st (hsv.ext wg S.ext) (by omega) (70, #[PT bz]) (fun x => x < 0 ∨ tsize t ≤ x) (fun h1 i x _ _ => lawTurns1_ok x.wf (x.get S.wf (blk_get S .here)) _)).mono ?_); rintro _ h ⟨⟨rfl, hq⟩ | ⟨rfl, hq⟩, x⟩) <;> (replace S := S.join0 x; clear x; refine vl ?_; refine KO_nil ?_)
      · all_goals (repeat' (first | refine K_seq ?_ | refine k_cond rfl ?_ | refine K_skip ?_ | refine K_exit ?_ | refine k_block ?_ | refine K_scope ?_ | (refine K_region (id := 6) ?_; refine mv ?_; refine vl ?_)))
        have hno : StayL t st [] := .inr ⟨fun q => (by
          obtain ⟨i, hi, hq⟩ := hq
          have := q.2 _ (mem_getD.2 ⟨i, hi, rfl⟩)
          omega), rfl⟩
        obtain ⟨fp, k⟩ := S.anyP (.there (.there .here))
        exact ⟨(vA, .slice none 0 0, A.map (·.2), []), ⟨S.drop, hA2, hno, RLL.ofP (Rd.of_sl S (.there .here)) k, RLL.nil⟩, ((by repeat (first | exact Ks.le_nil _ | refine Ks.le_cons rfl ?_ | refine Ks.le_int ?_)))⟩
      · have hso : StOk t st := fun x hx => by
          obtain ⟨i, hi, rfl⟩ := mem_getD.1 hx
          have : ¬ (st.getD i default < 0 ∨ tsize t ≤ st.getD i default) := fun q => hq ⟨i, hi, q⟩
          omega
        all_goals (repeat' (first | refine K_seq ?_ | refine k_cond rfl ?_ | refine K_skip ?_ | refine K_exit ?_ | refine k_block ?_ | refine K_scope ?_ | (refine K_region (id := 6) ?_; refine mv ?_; refine vl ?_) | (refine K_region (id := 7) ?_; (first | refine lB S rfl rfl ?_ | refine lES2 S rfl rfl ?_ | refine lEB S ?_ | refine lH S ?_); refine mv ?_)))
        (refine KO_fn rfl rfl rfl rfl rfl ((refStay_ok S.wf t (rt.ext wg S.ext) hs sv st (hsv.ext wg S.ext) (by omega) hso).mono ?_); rintro vB h ⟨B, hB, x⟩) <;> (replace S := S.join2 x; clear x; refine mv ?_; refine KO_nil ?_)
        all_goals (repeat' (first | refine K_seq ?_ | refine k_cond rfl ?_ | refine K_skip ?_ | refine K_exit ?_ | refine k_block ?_ | refine K_scope ?_ | (refine K_region (id := 7) ?_; (first | refine lB S rfl rfl ?_ | refine lES2 S rfl rfl ?_ | refine lEB S ?_ | refine lH S ?_); refine mv ?_)))
        obtain ⟨fp, k⟩ := S.anyP (.there .here)
        obtain ⟨fp2, k2⟩ := S.anyP (.there (.there (.there (.there .here))))
        exact ⟨(vA, vB, A.map (·.2), B.map (·.2)), ⟨S.drop, hA2, .inl ⟨hchk, hso, hB⟩, RLL.ofP (Rd.of_sl S (.there (.there (.there .here)))) k2, RLL.ofP (Rd.of_rd S .here) k⟩, ((by repeat (first | exact Ks.le_nil _ | refine Ks.le_cons rfl ?_ | refine Ks.le_int ?_)))⟩
    · have hchk : ¬ chk t = 0 := by assumption
      exact ⟨(.slice none 0 0, .slice none 0 0, [], []), ⟨S, .inr ⟨fun q => hchk q.1, rfl⟩, .inr ⟨fun q => hchk q.1, rfl⟩, RLL.nil, RLL.nil⟩, ((by repeat (first | exact Ks.le_nil _ | refine Ks.le_cons rfl ?_ | refine Ks.le_int ?_)))⟩
  rintro ⟨va, vb, A, B⟩ g ⟨S1, hA, hB, rA, rB⟩
  clear S
  have wh := S1.wf
  replace hb0 := S1.ext.get wg hb0
  replace hb2 := S1.ext.get wg hb2
  replace hu2 := hu2.ext wg S1.ext
  replace rt := rt.ext wg S1.ext
  replace r2 := r2.ext wg S1.ext
  replace hsv := hsv.ext wg S1.ext
  clear S1 wg
  have S := Hs.start wh
  have hAl := hA.len
  have hBl := hB.len
  skip
  all_goals (repeat' (first | refine K_seq ?_ | refine k_cond rfl ?_ | refine K_skip ?_ | refine K_exit ?_ | refine k_block ?_ | refine K_scope ?_ | (refine K_region (id := 8) ?_; (first | refine lB S rfl rfl ?_ | refine lES2 S rfl rfl ?_ | refine lEB S ?_ | refine lH S ?_))))
  (refine KO_fn rfl rfl rfl rfl rfl ((turns_ok S.wf t2 (r2.ext wh S.ext)).mono ?_); rintro v h ⟨out, ho, x⟩) <;> (replace S := S.join2 x; clear x; refine mv ?_; refine KO_nil ?_)
  have e1 : out.map (·.2) = A := (ho.same e2).eq hA
  have hol := ho.len
  have hol2 : out.length ≤ 48 := by simpa using hol
  obtain ⟨fp, kk⟩ := S.anyP (.there .here)
  all_goals (repeat' (first | refine K_seq ?_ | refine k_cond rfl ?_ | refine K_skip ?_ | refine K_exit ?_ | refine k_block ?_ | refine K_scope ?_ | (refine K_region (id := 8) ?_; (first | refine lB S rfl rfl ?_ | refine lES2 S rfl rfl ?_ | refine lEB S ?_ | refine lH S ?_)) | (refine K_region (id := 9) ?_; refine mv ?_; refine mv ?_)))
  (refine KO_fn rfl rfl rfl rfl rfl ((sameLists_ok S.wf v va (out.map (·.2)) A (RLL.ofP (Rd.of_rd S .here) kk) (rA.ext wh S.ext) (by omega) (by omega) (fun j hj => ho.lensD hj) (fun j hj => hA.lensD hj)).mono ?_); rintro _ h ⟨⟨rfl, hq⟩ | ⟨rfl, hq⟩, x⟩) <;> (replace S := S.join0 x; clear x; refine vl ?_; refine KO_nil ?_)
  rotate_left
  · exact absurd e1 hq
  clear kk fp
  all_goals (repeat' (first | refine K_seq ?_ | refine k_cond rfl ?_ | refine K_skip ?_ | refine K_exit ?_ | refine k_block ?_ | refine K_scope ?_ | (refine K_region (id := 9) ?_; refine mv ?_; refine mv ?_) | (refine K_region (id := 11) ?_; refine mv ?_; (first | refine lnB S ?_ | refine lnS S rfl rfl ?_); refine mv ?_; refine KO_nil ?_)))
  replace S := (S.front (.there .here)).weakP
  have hlen : ∀ x, x ∈ out → x.2.length ≤ 1000 := fun x hx => by
    have := ho.lens (List.mem_map_of_mem hx)
    have := tsize_le t2
    omega
  refine k_loop (σ := Nat) (fun i h' => Hs g h' [.any (LLw out), .rd v 1 eP out] ∧ i ≤ out.length) (fun i => out.length - i) (fun i => [(1, sv), (2, PT b0), (5, PT b2), (6, u2), (7, va), (8, vb), (41, v), (42, .int .i64 out.length), (43, .int .i64 i)]) 0 (by repeat (first | exact Ks.le_nil _ | refine Ks.le_cons rfl ?_ | refine Ks.le_int ?_)) ?_ ?_
  · exact ⟨S, Nat.zero_le _⟩
  clear S
  rintro i h ⟨S, hi1⟩
  all_goals (repeat' (first | refine K_seq ?_ | refine k_cond rfl ?_ | refine K_skip ?_ | refine K_exit ?_ | refine k_block ?_ | refine K_scope ?_ | (refine K_region (id := 12) ?_; (first | refine cT ?_ | refine cF ?_ | (refine cS ?_ ?_ <;> intro hc)) <;> (refine KO_nil ?_)) | (refine K_region (id := 13) ?_; (first | refine ixB S ?_ | refine ixS2 S rfl rfl ?_); (first | refine lB S rfl rfl ?_ | refine lES2 S rfl rfl ?_ | refine lEB S ?_ | refine lH S ?_); refine mv ?_; refine KO_nil ?_)))
  · have hi : i < out.length := by omega
    (try simp only [Int.toNat_natCast])
    have hx : out.getD i default ∈ out := mem_getD.2 ⟨i, hi, rfl⟩
    generalize out.getD i default = x at hx ⊢
    have hxl := hlen x hx
    obtain ⟨fp, kk⟩ := S.anyP .here
    obtain ⟨c, hc⟩ := kk.rd hx
    (repeat (refine K_seq ?_))
    refine K_region (id := 14) ?_
    refine mv ?_
    refine m_len rfl rfl rfl rfl hc rfl ?_
    refine mv ?_; refine KO_nil ?_
    clear hc c kk fp
    all_goals (repeat' (first | refine K_seq ?_ | refine k_cond rfl ?_ | refine K_skip ?_ | refine K_exit ?_ | refine k_block ?_ | refine K_scope ?_ | (refine K_region (id := 15) ?_; (first | refine cT ?_ | refine cF ?_ | (refine cS ?_ ?_ <;> intro hc)) <;> (refine KO_nil ?_))))
    refine k_loop (σ := Nat) (fun j h' => Hs g h' [.any (LLw out), .rd v 1 eP out] ∧ j ≤ x.2.length) (fun j => x.2.length - j) (fun j => [(1, sv), (2, PT b0), (5, PT b2), (6, u2), (7, va), (8, vb), (12, x.1.val), (41, v), (42, .int .i64 out.length), (43, .int .i64 i), (48, .int .i64 x.2.length), (49, .int .i64 j)]) 0 (by repeat (first | exact Ks.le_nil _ | refine Ks.le_cons rfl ?_ | refine Ks.le_int ?_)) ?_ ?_
    · exact ⟨S, Nat.zero_le _⟩
    clear S
    rintro j h ⟨S, hj1⟩
    all_goals (repeat' (first | refine K_seq ?_ | refine k_cond rfl ?_ | refine K_skip ?_ | refine K_exit ?_ | refine k_block ?_ | refine K_scope ?_ | (refine K_region (id := 15) ?_; (first | refine cT ?_ | refine cF ?_ | (refine cS ?_ ?_ <;> intro hc)) <;> (refine KO_nil ?_)) | (refine K_region (id := 16) ?_; refine mv ?_; refine mv ?_; refine KO_nil ?_)))
    · have hj : j < x.2.length := by omega
      obtain ⟨fp, kk⟩ := S.anyP .here
      obtain ⟨c, hc⟩ := kk.rd hx
      (repeat (refine K_seq ?_))
      refine K_region (id := 17) ?_
      refine mv ?_
      refine mv ?_
      refine m_idx rfl rfl rfl rfl rfl hc (by omega) rfl ?_
      refine stW S x j hx hj ?_
      clear S hc c kk fp
      intro h S
      refine KO_nil ?_
      all_goals (repeat' (first | refine K_seq ?_ | refine k_cond rfl ?_ | refine K_skip ?_ | refine K_exit ?_ | refine k_block ?_ | refine K_scope ?_ | (refine K_region (id := 18) ?_; (first | refine ad ?_ | refine vl ?_); refine mv ?_; refine KO_nil ?_)))
      refine ⟨j + 1, ?_, ?_, (by repeat (first | exact Ks.le_nil _ | refine Ks.le_cons rfl ?_ | refine Ks.le_int ?_))⟩
      · show x.2.length - (j + 1) < x.2.length - j; omega
      · exact ⟨S, by omega⟩
    · all_goals (repeat' (first | refine K_seq ?_ | refine k_cond rfl ?_ | refine K_skip ?_ | refine K_exit ?_ | refine k_block ?_ | refine K_scope ?_ | (refine K_region (id := 19) ?_; (first | refine ad ?_ | refine vl ?_); refine mv ?_; refine KO_nil ?_)))
      refine ⟨i + 1, ?_, ?_, (by repeat (first | exact Ks.le_nil _ | refine Ks.le_cons rfl ?_ | refine Ks.le_int ?_))⟩
      · show out.length - (i + 1) < out.length - i; omega
      · exact ⟨S, by omega⟩
  · replace S := S.drop
    skip
    all_goals (repeat' (first | refine K_seq ?_ | refine k_cond rfl ?_ | refine K_skip ?_ | refine K_exit ?_ | refine k_block ?_ | refine K_scope ?_ | (refine K_region (id := 20) ?_; (first | refine lB S rfl rfl ?_ | refine lES2 S rfl rfl ?_ | refine lEB S ?_ | refine lH S ?_))))
    (refine KO_fn rfl rfl rfl rfl rfl ((turns_ok S.wf t2 (r2.ext wh S.ext)).mono ?_); rintro v2 h ⟨out2, ho2, x⟩) <;> (replace S := S.join2 x; clear x; refine mv ?_)
    have e3 : out2.map (·.2) = A := (ho2.same e2).eq hA
    have hl2 := ho2.len
    obtain ⟨fp, kk⟩ := S.anyP (.there .here)
    (refine KO_fn rfl rfl rfl rfl rfl ((sameLists_ok S.wf v2 va (out2.map (·.2)) A (RLL.ofP (Rd.of_rd S .here) kk) (rA.ext wh S.ext) (by omega) (by omega) (fun j hj => ho2.lensD hj) (fun j hj => hA.lensD hj)).mono ?_); rintro _ h ⟨⟨rfl, hq⟩ | ⟨rfl, hq⟩, x⟩) <;> (replace S := S.join0 x; clear x; refine mv ?_; (first | refine off ?_ | (first | refine lB S rfl rfl ?_ | refine lES2 S rfl rfl ?_ | refine lEB S ?_ | refine lH S ?_)); (first | refine off ?_ | refine mv ?_); (first | (refine off ?_; (first | refine off ?_ | refine mv ?_); (first | (refine off ?_; refine vl ?_; refine mv ?_; (first | refine off ?_ | (first | refine lB S rfl rfl ?_ | refine lES2 S rfl rfl ?_ | refine lEB S ?_ | refine lH S ?_)); (first | refine off ?_ | (first | refine lB S rfl rfl ?_ | refine lES2 S rfl rfl ?_ | refine lEB S ?_ | refine lH S ?_)); (first | (refine off ?_; refine vl ?_; refine mv ?_; (first | refine off ?_ | refine mv ?_); (first | refine off ?_ | refine mv ?_); (first | (refine off ?_; refine vl ?_; refine mv ?_; refine KO_nil ?_) | skip)) | skip)) | skip)) | skip))
    rotate_left
    · exact absurd e3 hq
    clear kk fp hq
    replace S := S.drop
    (refine KO_fn rfl rfl rfl rfl rfl ((stay_ok S.wf t2 (r2.ext wh S.ext) u2 st (hu2.ext wh S.ext) (by omega)).mono ?_); rintro v3 h ⟨out3, ho3, x⟩) <;> (replace S := S.join2 x; clear x; (first | refine off ?_ | refine mv ?_); (first | (refine off ?_; refine vl ?_; refine mv ?_; (first | refine off ?_ | (first | refine lB S rfl rfl ?_ | refine lES2 S rfl rfl ?_ | refine lEB S ?_ | refine lH S ?_)); (first | refine off ?_ | (first | refine lB S rfl rfl ?_ | refine lES2 S rfl rfl ?_ | refine lEB S ?_ | refine lH S ?_)); (first | (refine off ?_; refine vl ?_; refine mv ?_; (first | refine off ?_ | refine mv ?_); (first | refine off ?_ | refine mv ?_); (first | (refine off ?_; refine vl ?_; refine mv ?_; refine KO_nil ?_) | skip)) | skip)) | skip))
    have e4 : out3.map (·.2) = B := (ho3.same e2).eq hB
    have hl3 := ho3.len
    obtain ⟨fp, kk⟩ := S.anyP (.there .here)
    (refine KO_fn rfl rfl rfl rfl rfl ((sameLists_ok S.wf v3 vb (out3.map (·.2)) B (RLL.ofP (Rd.of_rd S .here) kk) (rB.ext wh S.ext) (by omega) (by omega) (fun j hj => ho3.lensD hj) (fun j hj => hB.lensD hj)).mono ?_); rintro _ h ⟨⟨rfl, hq⟩ | ⟨rfl, hq⟩, x⟩) <;> (replace S := S.join0 x; clear x; refine vl ?_; refine mv ?_; (first | refine off ?_ | (first | refine lB S rfl rfl ?_ | refine lES2 S rfl rfl ?_ | refine lEB S ?_ | refine lH S ?_)); (first | refine off ?_ | (first | refine lB S rfl rfl ?_ | refine lES2 S rfl rfl ?_ | refine lEB S ?_ | refine lH S ?_)); (first | (refine off ?_; refine vl ?_; refine mv ?_; (first | refine off ?_ | refine mv ?_); (first | refine off ?_ | refine mv ?_); (first | (refine off ?_; refine vl ?_; refine mv ?_; refine KO_nil ?_) | skip)) | skip))
    rotate_left
    · exact absurd e4 hq
    clear kk fp hq
    replace S := S.drop
    have hl6 : t2.opn.length ≤ 1000000 := Nat.le_trans r2.2.2 (by decide)
    have hl7 : t.opn.length ≤ 1000000 := Nat.le_trans rt.2.2 (by decide)
    (refine KO_fn rfl rfl rfl rfl rfl ((sameTable_ok S.wf t2 t (r2.1.ext wh S.ext) (rt.1.ext wh S.ext) hl6 hl7).mono ?_); rintro _ h ⟨⟨rfl, hq⟩ | ⟨rfl, hq⟩, x⟩) <;> (replace S := S.join0 x; clear x; refine vl ?_; refine mv ?_; (first | refine off ?_ | refine mv ?_); (first | refine off ?_ | refine mv ?_); (first | (refine off ?_; refine vl ?_; refine mv ?_; refine KO_nil ?_) | skip))
    rotate_left
    · exact absurd e2 hq
    (refine KO_fn rfl rfl rfl rfl rfl ((equal_ok S.wf u2 sv st st (hu2.ext wh S.ext) (hsv.ext wh S.ext) (by omega) (by omega)).mono ?_); rintro _ h ⟨⟨rfl, hq⟩ | ⟨rfl, hq⟩, x⟩) <;> (replace S := S.join0 x; clear x; refine vl ?_; refine mv ?_; refine KO_nil ?_)
    rotate_left
    · exact absurd rfl hq
    all_goals (repeat' (first | refine K_seq ?_ | refine k_cond rfl ?_ | refine K_skip ?_ | refine K_exit ?_ | refine k_block ?_ | refine K_scope ?_ | (refine K_region (id := 20) ?_; (first | refine lB S rfl rfl ?_ | refine lES2 S rfl rfl ?_ | refine lEB S ?_ | refine lH S ?_))))
    refine K_ret ⟨_, rfl, ?_⟩
    rfl
theorem hallTurns_true {h0 : AH} (w : WfH h0) (t : Tab) (A : TabA h0 t) (sv : Value) (st : List Int) (hsv : RdL h0 sv 1 eI st) (hst : st.length ≤ maxLen) : Fn Tryz.prog Xh 3 [tabV t, sv] h0 (fun x _ => x = .bool true) := by
  have S := Hs.start w
  refine Fn_K rfl Tryz.func3 rfl rfl ?_
  all_goals (repeat' (first | refine K_seq ?_ | refine k_cond rfl ?_ | refine K_skip ?_ | refine K_exit ?_ | refine k_block ?_ | refine K_scope ?_ | (refine K_region (id := 0) ?_; (refine bx S ?_; clear S; intro b h S); refine mv ?_; refine KO_nil ?_) | (refine K_region (id := 1) ?_; (first | refine lB S rfl rfl ?_ | refine lES2 S rfl rfl ?_ | refine lEB S ?_ | refine lH S ?_); (refine one 7 S ?_; clear S; intro u h S))))
  have hr0 := Rd.of_sl S .here
  have hr : RdL h u 7 eT [t] := hr0
  have ht1 : ∀ i, i < [t].length → RdL h (tb [t] i).ov 1 eI (tb [t] i).opn ∧ (tb [t] i).name.length ≤ maxLen ∧ (tb [t] i).opn.length ≤ maxLen := fun i hi => by
    obtain rfl : i = 0 := by simpa using hi
    exact ⟨A.rd.ext w S.ext, A.name, A.opn⟩
  (refine KO_fn rfl rfl rfl rfl rfl ((few_ok S.wf u [t] hr (by simp [maxLen]) ht1).mono ?_); rintro _ h ⟨⟨rfl, hq⟩ | ⟨rfl, hq⟩, x⟩) <;> (replace S := S.join0 x; clear x; refine vl ?_; refine mv ?_; (first | refine off ?_ | refine mv ?_); (first | refine off ?_ | (first | refine lnB S ?_ | refine lnS S rfl rfl ?_)); (first | refine off ?_ | (first | refine cT ?_ | refine cF ?_ | (refine cS ?_ ?_ <;> intro hc))) <;> (refine vl ?_; refine mv ?_; (first | refine off ?_ | (first | refine lB S rfl rfl ?_ | refine lES2 S rfl rfl ?_ | refine lEB S ?_ | refine lH S ?_)); (first | refine off ?_ | refine mv ?_); (first | (refine off ?_; refine vl ?_; refine mv ?_; (first | (refine off ?_; refine vl ?_; refine mv ?_; refine KO_nil ?_) | skip)) | skip)))
  · (refine KO_fn rfl rfl rfl rfl rfl ((awake_ok).mono ?_); rintro _ h ⟨rfl, rfl⟩) <;> (refine vl ?_; refine mv ?_; refine KO_nil ?_)
    all_goals (repeat' (first | refine K_seq ?_ | refine k_cond rfl ?_ | refine K_skip ?_ | refine K_exit ?_ | refine k_block ?_ | refine K_scope ?_))
    refine K_ret ⟨_, rfl, ?_⟩
    rfl
  · have f := hq.2 0 (by simp)
    have f1 : t.name.length ≤ 40 := f.1
    have f2 : t.opn.length ≤ 40 := f.2
    (refine KO_fn rfl rfl rfl rfl rfl ((lawTurns_ok S.wf t ⟨A.rd.ext w S.ext, by omega, by omega⟩ sv st (hsv.ext w S.ext) (by omega)).mono ?_); rintro _ h rfl) <;> (refine vl ?_; refine mv ?_; (first | (refine off ?_; refine vl ?_; refine mv ?_; refine KO_nil ?_) | skip))
    (refine KO_fn rfl rfl rfl rfl rfl ((awake_ok).mono ?_); rintro _ h ⟨rfl, rfl⟩) <;> (refine vl ?_; refine mv ?_; refine KO_nil ?_)
    all_goals (repeat' (first | refine K_seq ?_ | refine k_cond rfl ?_ | refine K_skip ?_ | refine K_exit ?_ | refine k_block ?_ | refine K_scope ?_))
    refine K_ret ⟨_, rfl, ?_⟩
    rfl
  · (refine KO_fn rfl rfl rfl rfl rfl ((awake_ok).mono ?_); rintro _ h ⟨rfl, rfl⟩) <;> (refine vl ?_; refine mv ?_; refine KO_nil ?_)
    all_goals (repeat' (first | refine K_seq ?_ | refine k_cond rfl ?_ | refine K_skip ?_ | refine K_exit ?_ | refine k_block ?_ | refine K_scope ?_))
    refine K_ret ⟨_, rfl, ?_⟩
    rfl
theorem hallTurns_core (h : AH) (us : List Value) (w : WfH h) (a : ArgsR Tryz.prog h Tryz.f3.params.toList us) : Fn Tryz.prog Xh 3 us h (fun x _ => x = .bool true) := by
  rw [show Tryz.f3.params.toList = [25, 23] by kernel_rfl] at a
  obtain ⟨n0, r0, us, rfl, a0, a⟩ := a.cons_inv
  obtain ⟨n1, r1, us, rfl, a1, a⟩ := a.cons_inv
  obtain rfl := a.nil_inv
  obtain ⟨t, rfl, A⟩ := AR.tab1 a0
  obtain ⟨v, l, rfl, h1, h2, h3⟩ := AR.ints1 (e := 3) a1 (by kernel_rfl) (by kernel_rfl) (by kernel_rfl)
  exact hallTurns_true w t A v l h1 h2
end Go.Proofs.Xx

/-
  What is known of the listed variables (nothing is asked of them here); a block of cells that is there in every world.
-/
namespace Go.Proofs.Xx
open Go Go.RowKit Go.Proofs
theorem Xh_none (f : FuncId) (h1 : f ≠ 21) (h2 : f ≠ 200) (h3 : f ≠ 224) (h4 : f ≠ 111) (h5 : f ≠ 108) (h6 : f ≠ 121) (h7 : f ≠ 228) (us : List Value) (h : AH) : Xh f us h = none := by
  have e : ∀ n, f ≠ n → Nat.beq f n = false := fun n q => by rw [Bool.eq_false_iff]; intro q'; exact q (Nat.eq_of_beq_eq_true q')
  unfold Xh withDec withDigits withKnown withBytes externNoEscape
  simp only [e _ h1, e _ h2, e _ h3, e _ h4, e _ h5, e _ h6, e _ h7]
theorem gDe : Tryz.prog.globalNamed "math/bits.deBruijn32tab" = some 2 := by kernel_rfl
theorem gDeType : (Tryz.prog.globals[2]?).map (·.type) = some 211 := by kernel_rfl
theorem cell_block {W : World} {b o : Nat} {v : Value} (h : W.cell? ⟨b, o, none⟩ = some v) : ∃ (k : Nat) (cc : Array Value) (el : TypeId) (fr : Nat × Nat), W.heap[k]? = some (.cells cc el fr) := by
  unfold World.cell? at h
  split at h
  · rename_i c e f hc; exact ⟨b, c, e, f, hc⟩
  · cases h
theorem cells_there {W : World} {rest : List (String × DataW Unit)} (h : laidMet Tryz.prog (("math/bits.deBruijn32tab", YtnopenpheaihmaaGreatDoor.Rows.laid_math_bits_deBruijn32tab) :: rest) W) :
    ∃ (k : Nat) (cc : Array Value) (el : TypeId) (fr : Nat × Nat), W.heap[k]? = some (.cells cc el fr) := by
  have t : Lib.TabIs Tryz.prog W "math/bits.deBruijn32tab" .u8 [0, 1, 28, 2, 29, 14, 24, 3, 30, 22, 20, 15, 25, 17, 4, 8, 31, 27, 13, 23, 21, 19, 16, 7, 26, 12, 18, 6, 11, 5, 10, 9] :=
    Lib.tabIs_of_head gDe gDeType (n := 32) (e := 5) (by kernel_rfl) (by kernel_rfl) (by kernel_rfl) (by kernel_rfl) h
  exact cell_block (t.cell gDe 0 (by decide))
theorem gPowType : (Tryz.prog.globals[1]?).map (·.type) = some 206 := by kernel_rfl
theorem pow10_there {W : World} {x y : String × DataW Unit} {rest : List (String × DataW Unit)} (h : laidMet Tryz.prog (x :: y :: ("internal/strconv.uint64pow10", YtnopenpheaihmaaGreatDoor.Rows.laid_internal_strconv_uint64pow10) :: rest) W) :
    Glob.ok W.heap.size W.heap := by
  have t : Lib.TabIs Tryz.prog W "internal/strconv.uint64pow10" .u64 Lib.pow10Tab :=
    Lib.tabIs_of_head gPow gPowType (n := 20) (e := 177) (by kernel_rfl) (by kernel_rfl) (by kernel_rfl) (by kernel_rfl) (laidMet.tail (laidMet.tail h))
  unfold Lib.TabIs World.var? at t
  rw [gPow] at t
  simp only [Option.bind_some] at t
  split at t
  · rename_i cs el fr hc
    cases t
    exact ⟨(Array.getElem?_eq_some_iff.1 hc).1, el, fr, hc⟩
  · cases t
end Go.Proofs.Xx
