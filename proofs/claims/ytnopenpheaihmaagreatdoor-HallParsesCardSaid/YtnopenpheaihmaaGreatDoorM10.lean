/-
  HallParses: Parse of any text returns what the document specifies.
-/
import Derived.Test.YtnopenpheaihmaaGreatDoorM9
import Derived.Test.YtnopenpheaihmaaGreatDoorM8
import Derived.Test.YtnopenpheaihmaaGreatDoorM6
import Derived.Test.YtnopenpheaihmaaGreatDoorRows
import Derived.Lib.LaidTab
import Derived.Stop.LaidErr

namespace Go.Proofs.Xx
open Go Go.Proofs
set_option linter.unusedSimpArgs false
set_option linter.unusedVariables false
set_option maxRecDepth 100000

set_option maxHeartbeats 1000000 in
theorem refParse_ok {h0 : AH} (w : WfH h0) (s : List UInt8) : Fn Tryz.prog Xh 81 [str s] h0 (fun v h' => ∃ u l2 i e, v = .tuple #[u, .int .i64 i, .int .i64 e] ∧ ParsedR s l2 i e ∧ HallR h' u l2 ∧ Hs h0 h' []) := by
  have S := Hs.start w
  refine Fn_K rfl Tryz.func81 rfl rfl ?_
  all_goals (repeat' (first | refine K_seq ?_ | refine k_cond rfl ?_ | refine K_skip ?_ | (refine K_region (id := 0) ?_; refine mv ?_; refine mv ?_; refine mv ?_; refine KO_nil ?_) | (refine K_region (id := 1) ?_; refine mv ?_; refine tl ?_; (first | (refine cS ?_ ?_ <;> intro hc)) <;> (refine KO_nil ?_)) | (refine K_region (id := 2) ?_; refine mv ?_; refine mv ?_; refine mv ?_; refine KO_nil ?_)))
  · have hl : 65536 < s.length := by omega
    refine K_ret ⟨_, rfl, ?_⟩
    exact ⟨_, [], 0, 7, rfl, .inr ⟨0, by unfold parseR; rw [if_pos hl], rfl, rfl, by decide⟩, hallR_nil _, S⟩
  have hl : s.length ≤ 65536 := by omega
  have hp0 : parseR s = prs [] 0 (spl 10 s) := by unfold parseR; rw [if_neg (by omega)]
  all_goals (repeat' (first | (refine K_region (id := 3) ?_; refine mv ?_)))
  (refine KO_fn rfl rfl rfl rfl rfl ((refLines_ok S.wf s (by omega)).mono ?_); rintro _ h ⟨vls, b0, ls, rfl, hls, x⟩) <;> (replace S := S.join1 x; clear x; refine mv ?_; refine vl ?_; refine vl ?_; refine mv ?_; refine mv ?_; refine KO_nil ?_)
  have hlen := splL_len 10 s
  have hcs : s.countP (· == 10) ≤ s.length := List.countP_le_length
  have hwl := fun w (h : w ∈ spl 10 s) => spl_le 10 s w h
  obtain ⟨L, hL⟩ : ∃ L, L = spl 10 s := ⟨_, rfl⟩
  rw [← hL] at hp0 hlen hwl hls
  have hpre : ∀ i, i < ls.length → ls.getD i default = L.getD i default ∧ i < L.length ∧ (b0 = true → i + 1 < ls.length → i + 1 < L.length) ∧ (b0 = false → i + 1 < L.length) := fun i hi => by
    rcases hls with ⟨rfl, ini, w, q1, q2, q3⟩ | ⟨rfl, q⟩
    · rw [q2]; exact ⟨rfl, hi, fun _ q => q, fun q => (by cases q)⟩
    · rw [q]
      exact ⟨(getD_snoc1 _ _ hi).symm, (by simp; omega), fun q => (by cases q), fun _ => (by simp; omega)⟩
  have hLl : ls.length ≤ L.length := by
    rcases hls with ⟨rfl, ini, w, q1, q2, q3⟩ | ⟨rfl, q⟩
    · rw [q2]; exact Nat.le_refl _
    · rw [q]; simp
  all_goals (repeat' (first | refine K_seq ?_ | refine k_block ?_ | (refine K_region (id := 4) ?_; refine mv ?_; refine KO_nil ?_) | (refine K_region (id := 5) ?_; refine mv ?_; refine KO_nil ?_)))
  refine k_loop (σ := Nat × List Tab × List Tab × Value) (fun (i, l2, l, vo) h' => Hs h0 h' [.sl vls 9 1 eS ls, .sl vo 25 7 eT l2, .any (OpnA l2)] ∧ parseR s = prs l i (L.drop i) ∧ i ≤ ls.length ∧ Acc l2 l ∧ (b0 = true → i < ls.length)) (fun (i, l2, l, vo) => ls.length - i) (fun (i, l2, l, vo) => [(0, str s), (5, vls), (6, .bool b0), (7, vo), (8, .int .i64 i)]) (0, [], [], .slice none 0 0) (by repeat (first | exact Ks.le_nil _ | refine Ks.le_cons rfl ?_)) ?_ ?_
  · refine ⟨(S.nilO.nilS).front (.there (.there .here)), hp0, Nat.zero_le _, .nil, fun q => ?_⟩
    rcases hls with ⟨-, ini, w, q1, -⟩ | ⟨q1, -⟩
    · show 0 < ls.length; rw [q1]; simp
    · rw [q] at q1; cases q1
  clear S
  rintro ⟨i, l2, l, vo⟩ h ⟨S, hp, hi, ha, hb⟩
  have bad : ∀ (e : Int) (h' : AH), Hs h0 h' [] → prs l i (L.drop i) = .bad i e → e ≠ 0 → ∃ u l2 i' e', (Value.tuple #[.slice none 0 0, .int .i64 i, .int .i64 e] : Value) = .tuple #[u, .int .i64 i', .int .i64 e'] ∧ ParsedR s l2 i' e' ∧ HallR h' u l2 ∧ Hs h0 h' [] := fun e h' S q he =>
    ⟨_, [], _, _, rfl, .inr ⟨i, hp.trans q, rfl, rfl, he⟩, hallR_nil _, S⟩
  all_goals (repeat' (first | refine K_seq ?_ | refine k_cond rfl ?_ | refine K_skip ?_ | refine K_exit ?_ | refine k_block ?_ | (refine K_region (id := 6) ?_; refine mv ?_; refine mv ?_; refine lnS S rfl rfl ?_; (first | (refine cS ?_ ?_ <;> intro hc)) <;> (refine KO_nil ?_))))
  rotate_left
  · have hie : i = ls.length := by omega
    rcases hls with ⟨q, -⟩ | ⟨q, hq⟩
    · have := hb q; omega
    · have e : L.drop i = [[]] := by rw [hq, hie, List.drop_left]
      rw [e, prs_nil] at hp
      skip
      all_goals (repeat' (first | (refine K_region (id := 22) ?_; refine mv ?_; refine mv ?_; refine mv ?_; refine mv ?_; refine KO_nil ?_)))
      refine K_ret ⟨_, rfl, ?_⟩
      exact ⟨vo, l2, 0, 0, rfl, .inl ⟨l, hp, ha.same, rfl, rfl⟩, hallR_acc S (.there .here) (.there (.there .here)) ha, S.drop⟩
  have hil : i < ls.length := by omega
  obtain ⟨g1, g2, g3, g4⟩ := hpre i hil
  obtain ⟨lw, hlw⟩ : ∃ lw, lw = L.getD i default := ⟨_, rfl⟩
  have hld : L.drop i = lw :: L.drop (i + 1) := by
    rw [List.drop_eq_getElem_cons g2, hlw]
    simp [List.getD_eq_getElem?_getD, g2]
  have hlw2 : lw.length ≤ 65536 := by
    have : lw ∈ L := by rw [hlw]; exact memD g2
    have := hwl lw this
    omega
  rw [← hlw] at g1
  rw [hld] at bad hp
  all_goals (repeat' (first | (refine K_region (id := 8) ?_; refine mv ?_; refine mv ?_; refine ixS2 S rfl rfl ?_; refine lES2 S rfl rfl ?_)))
  (try simp only [Int.toNat_natCast])
  rw [g1]
  (refine KO_fn rfl rfl rfl rfl rfl ((refLine_ok S.wf lw (by omega)).mono ?_); rintro _ h ⟨tt, bb, rfl, hR, hnl, x⟩) <;> (replace S := S.join1 x; clear x; refine mv ?_; refine vl ?_; refine vl ?_; (refine al S ?_; clear S; intro b h S); (first | (refine sB S rfl rfl ?_; clear S; intro h S)); refine mv ?_; refine KO_nil ?_)
  all_goals (repeat' (refine K_seq ?_))
  obtain ⟨bt, hnm⟩ : ∃ x, x = b := ⟨_, rfl⟩; subst hnm
  obtain ⟨r, hr⟩ : ∃ r, r = L.drop (i + 1) := ⟨_, rfl⟩
  have hrl : r = [] → lw ≠ [] := fun q => by
    have hlr : L.length ≤ i + 1 := by
      have := congrArg List.length hr
      rw [q] at this
      simp at this; omega
    rcases hls with ⟨rfl, ini, u, q1, q2, q3⟩ | ⟨rfl, hq⟩
    · have e : i = ini.length := by
        have h1 := congrArg List.length q1
        have h2 := congrArg List.length q2
        simp at h1; omega
      rw [hlw, q2, q1, e]
      simpa using q3
    · have := g4 rfl; omega
  have hrn : (b0 = true → i + 1 < ls.length) → r ≠ [] := fun q e => by
    have h1 : i + 1 < L.length := by
      cases b0
      · exact g4 rfl
      · exact g3 rfl (q rfl)
    have := congrArg List.length hr
    rw [e] at this
    simp at this; omega
  rw [← hr] at bad hp
  rcases hR with ⟨rfl, hP, hT⟩ | ⟨rfl, hP⟩
  rotate_left
  · all_goals (repeat' (first | refine K_seq ?_ | refine k_cond rfl ?_ | (refine K_region (id := 9) ?_; refine mv ?_; refine vl ?_; refine mv ?_; refine off ?_; refine off ?_; refine off ?_; refine off ?_; refine off ?_; refine off ?_; (refine off ?_) <;> ((refine off ?_); refine vl ?_; refine KO_nil ?_)) | (refine K_region (id := 10) ?_; refine mv ?_; refine mv ?_; refine mv ?_; refine mv ?_; refine KO_nil ?_)))
    refine K_ret ⟨_, rfl, ?_⟩
    refine bad 3 _ S.drop ?_ (by decide)
    by_cases q : r = []
    · rw [q]; exact prs_last (hrl q)
    · exact prs_form q hP
  (repeat (refine K_seq ?_)); first | refine K_join (σ := Unit) (fun _ h' => Hs h0 h' [.blk bt (eT tt) 25, .rd tt.ov 1 eI tt.opn, .sl vls 9 1 eS ls, .sl vo 25 7 eT l2, .any (OpnA l2)] ∧ (b0 = true → i + 1 < ls.length)) (fun _ => [(0, str s), (5, vls), (6, .bool b0), (7, vo), (8, .int .i64 i), (9, PT bt)]) ?_ ?_
  · cases b0
    · all_goals (repeat' (first | refine k_cond rfl ?_ | refine K_skip ?_ | (refine K_region (id := 9) ?_; refine mv ?_; refine vl ?_; refine mv ?_; refine mv ?_; refine mv ?_; refine off ?_; refine off ?_; refine off ?_; refine off ?_; (refine off ?_) <;> ((refine vl ?_); refine vl ?_; refine KO_nil ?_))))
      exact ⟨(), ⟨S, fun q => by cases q⟩, ((by repeat (first | exact Ks.le_nil _ | refine Ks.le_cons rfl ?_)))⟩
    · all_goals (repeat' (first | refine K_seq ?_ | refine k_cond rfl ?_ | refine K_skip ?_ | (refine K_region (id := 9) ?_; refine mv ?_; refine vl ?_; refine mv ?_; refine mv ?_; refine mv ?_; refine mv ?_; refine mv ?_; (first | (refine lnS S rfl rfl ?_)); (first | (refine sb ?_)); (first | (first | (refine cS ?_ ?_ <;> intro hc))) <;> ((refine vl ?_); refine vl ?_; refine KO_nil ?_)) | (refine K_region (id := 10) ?_; refine mv ?_; refine mv ?_; refine mv ?_; refine mv ?_; refine KO_nil ?_)))
      · refine K_ret ⟨_, rfl, ?_⟩
        refine bad 3 _ S.drop ?_ (by decide)
        have e : r = [] := by
          rcases hls with ⟨-, ini, u, q1, q2, q3⟩ | ⟨q, -⟩
          · rw [hr, q2]
            exact List.drop_of_length_le (by omega)
          · cases q
        rw [e]; exact prs_last (hrl e)
      · exact ⟨(), ⟨S, fun _ => by omega⟩, ((by repeat (first | exact Ks.le_nil _ | refine Ks.le_cons rfl ?_)))⟩
  clear S
  rintro - h ⟨S, hb2⟩
  have hne := hrn hb2
  have hck := hT.chk
  skip
  all_goals (repeat' (first | refine K_seq ?_ | (refine K_region (id := 11) ?_; refine lB S rfl rfl ?_)))
  (refine KO_fn rfl rfl rfl rfl rfl ((refCheck_okL S.wf tt ⟨Rd.of_rd S (.there .here), hnl.1, hnl.2⟩).mono ?_); rintro _ h ⟨rfl, x⟩) <;> (replace S := S.join0 x; clear x; refine mv ?_; refine KO_nil ?_)
  all_goals (repeat' (first | refine K_seq ?_ | refine k_cond rfl ?_ | refine K_skip ?_ | (refine K_region (id := 12) ?_; refine mv ?_; (first | (refine cS ?_ ?_ <;> intro hc)) <;> (refine KO_nil ?_))))
  · all_goals (repeat' (first | (refine K_region (id := 13) ?_; refine mv ?_; refine mv ?_; refine mv ?_; refine mv ?_; refine mv ?_; refine KO_nil ?_)))
    refine K_ret ⟨_, rfl, ?_⟩
    have hc9 : chk (lineT (spl 32 lw)) ≠ 0 := by rw [← hck]; exact hc
    have := prs_chk (acc := l) (i := i) hne hP hc9
    rw [← hck] at this
    exact bad _ _ S.drop this hc
  have hcz : chk tt = 0 := Classical.not_not.1 hc
  rw [hcz] at hck
  have hnm := ha.name hT
  have h17 := ha.len
  all_goals (repeat' (first | refine k_block ?_ | (refine K_region (id := 14) ?_; refine mv ?_; refine KO_nil ?_)))
  refine k_loop (σ := Nat) (fun k h' => Hs h0 h' [.blk bt (eT tt) 25, .rd tt.ov 1 eI tt.opn, .sl vls 9 1 eS ls, .sl vo 25 7 eT l2, .any (OpnA l2)] ∧ k ≤ l2.length ∧ ∀ j, j < k → ¬ (tb l2 j).name = tt.name) (fun k => l2.length - k) (fun k => [(0, str s), (5, vls), (6, .bool b0), (7, vo), (8, .int .i64 i), (9, PT bt), (12, .int .i64 k)]) 0 (by repeat (first | exact Ks.le_nil _ | refine Ks.le_cons rfl ?_)) ?_ ?_
  · exact ⟨S, Nat.zero_le _, fun j hj => absurd hj (Nat.not_lt_zero _)⟩
  clear S
  rintro k h ⟨S, hk1, hk2⟩
  all_goals (repeat' (first | refine K_seq ?_ | refine k_cond rfl ?_ | refine K_skip ?_ | refine K_exit ?_ | refine k_block ?_ | (refine K_region (id := 15) ?_; refine mv ?_; refine mv ?_; refine lnS S rfl rfl ?_; (first | (refine cS ?_ ?_ <;> intro hc)) <;> (refine KO_nil ?_)) | (refine K_draw (id := 17) ?_; refine mv ?_; refine mv ?_; refine ixS2 S rfl rfl ?_; refine fS S rfl rfl ?_; refine lES2 S rfl rfl ?_; refine vl ?_; refine lB S rfl rfl ?_; (refine tS ?_ ?_ <;> intro hc) <;> (refine KO_nil ?_))))
  · have hk : k < l2.length := by omega
    (try simp only [Int.toNat_natCast] at *)
    all_goals (repeat' (first | (refine K_region (id := 18) ?_; refine mv ?_; refine mv ?_; refine mv ?_; refine mv ?_; refine KO_nil ?_)))
    refine K_ret ⟨_, rfl, ?_⟩
    exact bad 5 _ S.drop (prs_dup hne hP hck.symm (hnm.1 ⟨k, hk, by assumption⟩)) (by decide)
  · have hk : k < l2.length := by omega
    (try simp only [Int.toNat_natCast] at *)
    all_goals (repeat' (first | (refine K_region (id := 16) ?_; refine mv ?_; refine ad ?_; refine mv ?_; refine KO_nil ?_)))
    refine ⟨k + 1, ?_, ?_, (by repeat (first | exact Ks.le_nil _ | refine Ks.le_cons rfl ?_))⟩
    · show l2.length - (k + 1) < l2.length - k; omega
    · exact ⟨S, by omega, nxtD hk2 (by assumption)⟩
  have hnd : ¬ ∃ j, j < l.length ∧ (tb l j).name = (lineT (spl 32 lw)).name := fun q => by
    obtain ⟨j, hj, e⟩ := hnm.2 q
    exact hk2 j (by omega) e
  have hll := ha.same.1
  skip
  all_goals (repeat' (first | refine K_seq ?_ | refine k_cond rfl ?_ | refine K_skip ?_ | (refine K_region (id := 19) ?_; refine mv ?_; refine lnS S rfl rfl ?_; (first | (refine cS ?_ ?_ <;> intro hc)) <;> (refine KO_nil ?_))))
  · all_goals (repeat' (first | (refine K_region (id := 20) ?_; refine mv ?_; refine mv ?_; refine mv ?_; refine mv ?_; refine KO_nil ?_)))
    refine K_ret ⟨_, rfl, ?_⟩
    exact bad 7 _ S.drop (prs_many hne hP hck.symm hnd (by omega)) (by decide)
  · have h16 : l2.length ≠ 16 := by omega
    all_goals (repeat' (first | (refine K_region (id := 21) ?_; refine mv ?_; refine lB S rfl rfl ?_; (refine one 7 S ?_; clear S; intro u h S))))
    refine app (y0 := tt) S rfl rfl ?_; clear S; intro v h S; refine mv ?_; refine KO_nil ?_
    all_goals (repeat' (first | (refine K_region (id := 7) ?_; refine mv ?_; refine ad ?_; refine mv ?_; refine KO_nil ?_)))
    refine ⟨(i + 1, l2 ++ [tt], l ++ [lineT (spl 32 lw)], v), ?_, ?_, (by repeat (first | exact Ks.le_nil _ | refine Ks.le_cons rfl ?_))⟩
    · show ls.length - (i + 1) < ls.length - i; omega
    · replace S := S.del (.there .here)
      replace S := (S.front (.there (.there (.there .here)))).front (.there (.there .here))
      exact ⟨((S.pushOpn).front (.there .here)).front (.there (.there .here)), hp.trans ((prs_go hne hP hck.symm hnd (by omega)).trans (by rw [hr])), (by show i + 1 ≤ ls.length; omega), ha.push hT hcz h16, hb2⟩
theorem SameAll.both {a b l : List Tab} (h1 : SameAll a l) (h2 : SameAll b l) : SameAll a b := ⟨by rw [h1.1, h2.1], fun i hi => (sameTab_iff _ _).2 (by
  have q1 := (sameTab_iff _ _).1 (h1.2 i hi)
  have q2 := (sameTab_iff _ _).1 (h2.2 i (by rw [h2.1, ← h1.1]; exact hi))
  exact ⟨q1.1.trans q2.1.symm, q1.2.1.trans q2.2.1.symm, q1.2.2.1.trans q2.2.2.1.symm, q1.2.2.2.1.trans q2.2.2.2.1.symm, q1.2.2.2.2.1.trans q2.2.2.2.2.1.symm, q1.2.2.2.2.2.1.trans q2.2.2.2.2.2.1.symm, q1.2.2.2.2.2.2.trans q2.2.2.2.2.2.2.symm⟩)⟩
theorem ParsedR.uniq {s : List UInt8} {l2 l3 : List Tab} {i e i' e' : Int} (a : ParsedR s l2 i e) (b : ParsedR s l3 i' e') : SameAll l2 l3 ∧ i = i' ∧ e = e' := by
  rcases a with ⟨l, h1, h2, rfl, rfl⟩ | ⟨k, h1, rfl, rfl, h2⟩ <;> rcases b with ⟨m, g1, g2, rfl, rfl⟩ | ⟨k', g1, rfl, rfl, g2⟩
  · rw [h1] at g1; cases g1
    exact ⟨h2.both g2, rfl, rfl⟩
  · rw [h1] at g1; cases g1
  · rw [h1] at g1; cases g1
  · rw [h1] at g1; cases g1
    exact ⟨.nil, rfl, rfl⟩
theorem parses_ok {h0 : AH} (w : WfH h0) (s : List UInt8) : Fn Tryz.prog Xh 27 [str s] h0 (fun v h' => v = .bool true ∧ Hs h0 h' []) := by
  have S := Hs.start w
  refine Fn_K rfl Tryz.func27 rfl rfl ?_
  all_goals (repeat' (first | refine K_seq ?_ | (refine K_region (id := 0) ?_; refine mv ?_; refine KO_nil ?_) | (refine K_region (id := 1) ?_; refine mv ?_)))
  (refine KO_fn rfl rfl rfl rfl rfl ((parse_ok S.wf s).mono ?_); rintro _ h ⟨u, l2, i, e, rfl, hp, hu, x⟩) <;> (replace S := S.join0 x; clear x; refine mv ?_; refine vl ?_; refine vl ?_; refine vl ?_; refine mv ?_; refine mv ?_; refine mv ?_; refine KO_nil ?_)
  have w1 := S.wf
  have T := S
  replace S := Hs.start w1
  all_goals (repeat' (refine K_seq ?_))
  all_goals (repeat' (first | (refine K_region (id := 2) ?_; refine mv ?_)))
  (refine KO_fn rfl rfl rfl rfl rfl ((refParse_ok S.wf s).mono ?_); rintro _ h ⟨u2, l3, i2, e2, rfl, hp2, hu2, x⟩) <;> (replace S := S.join0 x; clear x; refine mv ?_; refine vl ?_; refine vl ?_; refine vl ?_; refine mv ?_; refine mv ?_; refine mv ?_; refine KO_nil ?_)
  obtain ⟨hsa, rfl, rfl⟩ := hp.uniq hp2
  have hu' := hu.ext w1 S.ext
  all_goals (repeat' (first | refine K_seq ?_ | (refine K_region (id := 3) ?_; refine mv ?_; refine mv ?_)))
  (refine KO_fn rfl rfl rfl rfl rfl ((same_ok S.wf u u2 l2 l3 hu'.rd hu2.rd hu'.tab hu2.tab hu'.len hu2.len).mono ?_); rintro _ h ⟨⟨rfl, q⟩ | ⟨rfl, q⟩, x⟩) <;> (replace S := S.join0 x; clear x; refine mv ?_; (first | refine off ?_ | refine mv ?_); (first | refine off ?_ | refine mv ?_); (first | refine off ?_ | (refine cT ?_)) <;> (refine vl ?_; refine mv ?_; (first | refine off ?_ | refine mv ?_); (first | refine off ?_ | refine mv ?_); (first | refine off ?_ | (refine cT ?_)) <;> (refine vl ?_; refine mv ?_; refine KO_nil ?_)))
  rotate_left
  · exact absurd hsa q
  all_goals (repeat' (fail))
  refine K_ret ⟨_, rfl, ?_⟩
  exact ⟨rfl, T.join0 S⟩
theorem hallParses_true {h0 : AH} (w : WfH h0) (s : List UInt8) (hs : s.length ≤ maxLen) : Fn Tryz.prog Xh 9 [str s] h0 (fun x _ => x = .bool true) := by
  have S := Hs.start w
  refine Fn_K rfl Tryz.func9 rfl rfl ?_
  all_goals (repeat' (first | refine K_seq ?_ | (refine K_region (id := 0) ?_; refine mv ?_; refine KO_nil ?_) | (refine K_region (id := 1) ?_; refine mv ?_; refine tl ?_; (first | (refine cS ?_ ?_ <;> intro hc)) <;> (refine mv ?_; (first | refine off ?_ | refine mv ?_); (first | refine off ?_ | refine tl ?_); (first | refine off ?_ | (first | (refine cS ?_ ?_ <;> intro hc))) <;> (refine vl ?_; refine mv ?_; (first | refine off ?_ | refine mv ?_); (first | (refine off ?_; refine vl ?_; refine mv ?_; (skip)) | skip))))))
  · (refine KO_fn rfl rfl rfl rfl rfl ((awake_ok).mono ?_); rintro _ h ⟨rfl, rfl⟩) <;> (refine vl ?_; refine mv ?_; refine KO_nil ?_)
    all_goals (repeat' (fail))
    refine K_ret ⟨_, rfl, ?_⟩
    rfl
  all_goals
    (refine KO_fn rfl rfl rfl rfl rfl ((parses_ok S.wf s).mono ?_); rintro _ h ⟨rfl, x⟩) <;> (replace S := S.join0 x; clear x; refine vl ?_; refine mv ?_; (skip))
    (refine KO_fn rfl rfl rfl rfl rfl ((awake_ok).mono ?_); rintro _ h ⟨rfl, rfl⟩) <;> (refine vl ?_; refine mv ?_; refine KO_nil ?_)
    all_goals (repeat' (fail))
    refine K_ret ⟨_, rfl, ?_⟩
    rfl
theorem hallParses_core (h : AH) (us : List Value) (w : WfH h) (a : ArgsR Tryz.prog h Tryz.f9.params.toList us) : Fn Tryz.prog Xh 9 us h (fun x _ => x = .bool true) := by
  rw [show Tryz.f9.params.toList = [9] by kernel_rfl] at a
  obtain ⟨n0, r0, us, rfl, a0, a⟩ := a.cons_inv
  obtain rfl := a.nil_inv
  obtain ⟨s, rfl, hs⟩ := a0.str1 (by kernel_rfl)
  exact hallParses_true w s hs
end Go.Proofs.Xx

/-
  What is known of the listed variables (nothing is asked of them here); a block of cells that is there in every world.
-/
namespace Go.Proofs.Xx
open Go Go.RowKit Go.Proofs
theorem Xh_none (f : FuncId) (h1 : f ≠ 21) (h2 : f ≠ 200) (h3 : f ≠ 224) (h4 : f ≠ 111) (h5 : f ≠ 108) (h6 : f ≠ 121) (h7 : f ≠ 228) (us : List Value) (h : AH) : Xh f us h = none := by
  have e : ∀ n, f ≠ n → Nat.beq f n = false := fun n q => by rw [Bool.eq_false_iff]; intro q'; exact q (Nat.eq_of_beq_eq_true q')
  unfold Xh withDec withDigits withKnown withBytes externNoEscape
  simp only [e _ h1, e _ h2, e _ h3, e _ h4, e _ h5, e _ h6, e _ h7]
theorem gDe : Tryz.prog.globalNamed "math/bits.deBruijn32tab" = some 2 := by kernel_rfl
theorem gDeType : (Tryz.prog.globals[2]?).map (·.type) = some 211 := by kernel_rfl
theorem cell_block {W : World} {b o : Nat} {v : Value} (h : W.cell? ⟨b, o, none⟩ = some v) : ∃ (k : Nat) (cc : Array Value) (el : TypeId) (fr : Nat × Nat), W.heap[k]? = some (.cells cc el fr) := by
  unfold World.cell? at h
  split at h
  · rename_i c e f hc; exact ⟨b, c, e, f, hc⟩
  · cases h
theorem cells_there {W : World} {rest : List (String × DataW Unit)} (h : laidMet Tryz.prog (("math/bits.deBruijn32tab", YtnopenpheaihmaaGreatDoor.Rows.laid_math_bits_deBruijn32tab) :: rest) W) :
    ∃ (k : Nat) (cc : Array Value) (el : TypeId) (fr : Nat × Nat), W.heap[k]? = some (.cells cc el fr) := by
  have t : Lib.TabIs Tryz.prog W "math/bits.deBruijn32tab" .u8 [0, 1, 28, 2, 29, 14, 24, 3, 30, 22, 20, 15, 25, 17, 4, 8, 31, 27, 13, 23, 21, 19, 16, 7, 26, 12, 18, 6, 11, 5, 10, 9] :=
    Lib.tabIs_of_head gDe gDeType (n := 32) (e := 5) (by kernel_rfl) (by kernel_rfl) (by kernel_rfl) (by kernel_rfl) h
  exact cell_block (t.cell gDe 0 (by decide))
theorem gPowType : (Tryz.prog.globals[1]?).map (·.type) = some 206 := by kernel_rfl
theorem pow10_there {W : World} {x y : String × DataW Unit} {rest : List (String × DataW Unit)} (h : laidMet Tryz.prog (x :: y :: ("internal/strconv.uint64pow10", YtnopenpheaihmaaGreatDoor.Rows.laid_internal_strconv_uint64pow10) :: rest) W) :
    Glob.ok W.heap.size W.heap := by
  have t : Lib.TabIs Tryz.prog W "internal/strconv.uint64pow10" .u64 Lib.pow10Tab :=
    Lib.tabIs_of_head gPow gPowType (n := 20) (e := 177) (by kernel_rfl) (by kernel_rfl) (by kernel_rfl) (by kernel_rfl) (laidMet.tail (laidMet.tail h))
  unfold Lib.TabIs World.var? at t
  rw [gPow] at t
  simp only [Option.bind_some] at t
  split at t
  · rename_i cs el fr hc
    cases t
    exact ⟨(Array.getElem?_eq_some_iff.1 hc).1, el, fr, hc⟩
  · cases t
end Go.Proofs.Xx
