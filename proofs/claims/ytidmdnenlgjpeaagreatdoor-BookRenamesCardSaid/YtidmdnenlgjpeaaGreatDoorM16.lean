/-
  Rename.
-/
import Derived.Test.YtidmdnenlgjpeaaGreatDoorM14
import Derived.Test.YtidmdnenlgjpeaaGreatDoorM15
import Derived.Test.YtidmdnenlgjpeaaGreatDoorM13
import Derived.Test.YtidmdnenlgjpeaaGreatDoorM8
import Derived.Test.YtidmdnenlgjpeaaGreatDoorM9
import Derived.Test.YtidmdnenlgjpeaaGreatDoorRows
import Derived.Lib.LaidTab
import Derived.Stop.LaidErr
import Derived.Shelf.Vars

namespace Go.Proofs.Xx
open Go Go.Proofs
set_option linter.unusedSimpArgs false
set_option linter.unusedVariables false
set_option linter.unusedSectionVars false
set_option maxRecDepth 100000
set_option maxHeartbeats 4000000

def mmT (f t : List UInt8) (ts : List Ti) (j : Nat) : List Ti := (ts.take j).map (renT f t) ++ ts.drop j
theorem mmT_len (f t : List UInt8) (ts : List Ti) (j : Nat) (hj : j ≤ ts.length) : (mmT f t ts j).length = ts.length := by simp [mmT]; omega
theorem mmT_get (f t : List UInt8) (ts : List Ti) (j : Nat) (hj : j < ts.length) : (mmT f t ts j).getD j default = ts.getD j default := by
  unfold mmT
  rw [gA2 (by simp; omega), List.length_map, List.length_take, Nat.min_eq_left (by omega), Nat.sub_self, List.getD_eq_getElem?_getD, List.getD_eq_getElem?_getD, List.getElem?_drop]; rfl
theorem mmT_set (f t : List UInt8) (ts : List Ti) (j : Nat) (hj : j < ts.length) : (mmT f t ts j).set j (renT f t (ts.getD j default)) = mmT f t ts (j + 1) := by
  unfold mmT
  rw [List.set_append_right _ _ (by simp; omega), take_succ_getD hj, List.map_append, List.append_assoc]
  congr 1
  rw [List.length_map, List.length_take, Nat.min_eq_left (by omega), Nat.sub_self, List.drop_eq_getElem_cons hj, List.set_cons_zero]
  rfl
theorem Hs.tgRen {h0 h : AH} {rs : List Rs} {gs : List Gst} {i : Nat} {t : List UInt8} (S : Hs h0 h (tgR gs :: rs)) (hi : i < gs.length) : Hs h0 h (tgR (gs.set i { gs.getD i default with name := t }) :: rs) := S.conv fun fp k h' q g hg => by
  rcases List.mem_or_eq_of_mem_set hg with z | z
  · exact k h' q g z
  · subst z
    exact k h' q (gs.getD i default) (mem_getD hi)
theorem ren_nodup {r : Rl} {f t : List UInt8} (H : RO r) (ht : gat r.us t = none) : ((r.ts.map (renT f t)).map fun x => (x.a, x.b)).Nodup := by
  rw [List.map_map, List.Nodup, List.pairwise_map]
  refine List.Pairwise.imp_of_mem ?_ H.ts
  intro x y hx hy hb e
  obtain ⟨x1, -, x3, x4⟩ := H.tt x hx
  obtain ⟨y1, -, y3, y4⟩ := H.tt y hy
  have xa : x.a ≠ t := fun q => x3 (q ▸ ht)
  have xb : x.b ≠ t := fun q => x4 (q ▸ ht)
  have ya : y.a ≠ t := fun q => y3 (q ▸ ht)
  have yb : y.b ≠ t := fun q => y4 (q ▸ ht)
  have e1 : (renT f t x).a = (renT f t y).a := congrArg Prod.fst e
  have e2 : (renT f t x).b = (renT f t y).b := congrArg Prod.snd e
  have key : (x.a = y.a ∧ x.b = y.b) ∨ (x.a = y.b ∧ x.b = y.a) := by
    unfold renT at e1 e2
    rcases tiOf_set (renN f t x.a) (renN f t x.b) x.k with ⟨p1, p2⟩ | ⟨p1, p2⟩ <;> rcases tiOf_set (renN f t y.a) (renN f t y.b) y.k with ⟨g1, g2⟩ | ⟨g1, g2⟩ <;> rw [p1, g1] at e1 <;> rw [p2, g2] at e2
    · exact .inl ⟨renN_inj xa ya e1, renN_inj xb yb e2⟩
    · exact .inr ⟨renN_inj xa yb e1, renN_inj xb ya e2⟩
    · exact .inr ⟨renN_inj xa yb e2, renN_inj xb ya e1⟩
    · exact .inl ⟨renN_inj xa ya e2, renN_inj xb yb e1⟩
  rcases key with ⟨k1, k2⟩ | ⟨k1, k2⟩
  · rcases hb with q | q
    · rw [k1] at q; exact sLt_irr _ q
    · rw [k2] at q; exact sLt_irr _ q.2
  · rw [k1, k2] at x1
    exact sLt_asymm x1 y1
theorem TS_of {m : List Ti} (s : Srt bef 0 m.length m) (hn : (m.map fun x => (x.a, x.b)).Nodup) : TS m := by
  unfold TS
  rw [List.pairwise_iff_getElem]
  intro i j hi hj hij
  have h1 := s i j (Nat.zero_le _) hij hj
  rw [List.getD_eq_getElem?_getD, List.getD_eq_getElem?_getD, List.getElem?_eq_getElem hj, List.getElem?_eq_getElem hi] at h1
  rcases bef_tri m[i] m[j] with q | q | q
  · exact q
  · exfalso
    have := List.pairwise_iff_getElem.1 hn i j (by simpa using hi) (by simpa using hj) hij
    simp only [List.getElem_map] at this
    exact this (by rw [q.1, q.2])
  · exact absurd q h1
variable [Flag]
theorem rename_ok {h0 h : AH} {rs : List Rs} {p : Nat} {r : Rl} (S : Hs h0 h (bookR p r :: rs)) (H : RO r) (f t : List UInt8) :
    Fn Tryz.prog Xh 40 [.pointer (some ⟨p, 0, none⟩), str f, str t] h (fun v h' => (gat r.us f = none ∧ v = .int .i64 6 ∧ Hs h0 h' (bookR p r :: rs)) ∨ (gat r.us f ≠ none ∧ ¬ nameP t ∧ v = .int .i64 4 ∧ Hs h0 h' (bookR p r :: rs)) ∨ (gat r.us f ≠ none ∧ nameP t ∧ gat r.us t ≠ none ∧ v = .int .i64 5 ∧ Hs h0 h' (bookR p r :: rs)) ∨ (∃ i r', gat r.us f = some i ∧ nameP t ∧ gat r.us t = none ∧ Ren r r' i t ∧ v = .int .i64 0 ∧ Hs h0 h' (bookR p r' :: rs))) := by
  obtain ⟨⟨vg, vt, m, mp, gs⟩, ⟨q1, q2⟩, S⟩ := S.unpack
  have e1 : gs.length = r.us.length := by rw [← q1]; simp
  have h64 := H.l64
  have h256 := H.l256
  dsimp only [bkL, List.cons_append, List.nil_append] at q1 q2 S
  refine Fn_K rfl Tryz.func40 rfl rfl ?_
  all_goals (repeat' (first | refine K_seq ?_ | (refine K_region (id := 0) ?_; refine mv ?_; refine KO_nil ?_) | (refine K_region (id := 1) ?_; refine mv ?_)))
  (refine KO_fn rfl rfl rfl rfl rfl ((bnone_ok S.wf (blk_get S .here)).mono ?_); rintro _ h ⟨rfl, x⟩) <;> (replace S := S.join0 x; clear x; refine KO_nil ?_)
  all_goals (repeat' (first | refine K_seq ?_ | refine k_cond rfl ?_ | refine K_skip ?_ | (refine K_region (id := 3) ?_; refine mv ?_; refine vl ?_; refine vl ?_; refine lB S rfl rfl ?_; refine mv ?_)))
  refine lk S (.there (.there (.there .here))) (fun y hy => ?_) (fun hy => ?_)
  all_goals rw [q2] at hy
  rotate_left
  · simp only [okV]
    (refine mv ?_; refine vl ?_; refine vl ?_; refine mv ?_; refine mv ?_; refine KO_nil ?_)
    skip
    all_goals (repeat' (first | refine K_seq ?_ | refine k_cond rfl ?_ | (refine K_region (id := 4) ?_; refine mv ?_; refine vl ?_; refine KO_nil ?_) | (refine K_region (id := 5) ?_; refine mv ?_; refine KO_nil ?_)))
    refine K_ret ⟨_, rfl, ?_⟩
    refine .inl ⟨?_, rfl, S.bk vg vt m mp gs q1 q2⟩
    cases hq : gat r.us f with
    | none => rfl
    | some z => rw [hq] at hy; cases hy
  simp only [okV]
  (refine mv ?_; refine vl ?_; refine vl ?_; refine mv ?_; refine mv ?_; refine KO_nil ?_)
  cases hq : gat r.us f with
  | none => rw [hq] at hy; cases hy
  | some i =>
  rw [hq] at hy; cases hy
  obtain ⟨z1, z2, z3⟩ := gat_some hq
  have hil : i < gs.length := by omega
  skip
  all_goals (repeat' (first | refine K_seq ?_ | refine k_cond rfl ?_ | refine K_skip ?_ | (refine K_region (id := 4) ?_; refine mv ?_; refine vl ?_; refine KO_nil ?_) | (refine K_region (id := 6) ?_; refine mv ?_)))
  (refine KO_fn rfl rfl rfl rfl rfl ((name_ok t).mono ?_); rintro _ _ ⟨⟨rfl, hn⟩ | ⟨rfl, hn⟩, rfl⟩) <;> (refine vl ?_; refine KO_nil ?_)
  rotate_left
  · all_goals (repeat' (first | refine K_seq ?_ | refine k_cond rfl ?_ | (refine K_region (id := 7) ?_; refine mv ?_; refine KO_nil ?_)))
    refine K_ret ⟨_, rfl, ?_⟩
    exact .inr (.inl ⟨by simp, hn, rfl, S.bk vg vt m mp gs q1 q2⟩)
  all_goals (repeat' (first | refine K_seq ?_ | refine k_cond rfl ?_ | refine K_skip ?_ | (refine K_region (id := 8) ?_; refine mv ?_; refine vl ?_; refine vl ?_; refine lB S rfl rfl ?_; refine mv ?_)))
  refine lk S (.there (.there (.there .here))) (fun y hy => ?_) (fun hy => ?_)
  all_goals rw [q2] at hy
  · simp only [okV]
    (refine mv ?_; refine vl ?_; refine vl ?_; refine mv ?_; refine mv ?_; refine KO_nil ?_)
    skip
    all_goals (repeat' (first | refine K_seq ?_ | refine k_cond rfl ?_ | (refine K_region (id := 9) ?_; refine mv ?_; refine KO_nil ?_) | (refine K_region (id := 10) ?_; refine mv ?_; refine KO_nil ?_)))
    refine K_ret ⟨_, rfl, ?_⟩
    refine .inr (.inr (.inl ⟨by simp, hn, fun q => ?_, rfl, S.bk vg vt m mp gs q1 q2⟩))
    rw [q] at hy; cases hy
  have ht : gat r.us t = none := by
    cases hq : gat r.us t with
    | none => rfl
    | some z => rw [hq] at hy; cases hy
  simp only [okV]
  (refine mv ?_; refine vl ?_; refine vl ?_; refine mv ?_; refine mv ?_; refine KO_nil ?_)
  skip
  all_goals (repeat' (first | refine K_seq ?_ | refine k_cond rfl ?_ | refine K_skip ?_ | (refine K_region (id := 9) ?_; refine mv ?_; refine KO_nil ?_)))
  (repeat (refine K_seq ?_)); refine K_region (id := 11) ?_; refine mv ?_; refine vl ?_; refine vl ?_; refine vl ?_; refine lB S rfl rfl ?_; refine mv ?_; refine mv ?_; refine ixS2 S rfl rfl ?_; refine fS S rfl rfl ?_
  refine sE2 (y := { gs.getD (Int.ofNat i).toNat default with name := t }) S rfl rfl ?_; clear S; intro h S
  (refine KO_nil ?_)
  obtain ⟨gs', hgs'⟩ : ∃ gs', gs' = gs.set i { gs.getD i default with name := t } := ⟨_, rfl⟩
  replace S : Hs h0 h (.blk p [vg.val, vt.val, .map (some m)] 86 :: .sl vg.val 24 9 eG gs' :: .sl vt.val 111 3 eTi r.ts :: .mp m (.int .i64) mp :: tgR gs :: rs) := by rw [hgs']; exact S
  have hgl' : gs'.length = gs.length := by rw [hgs']; simp
  have hus : gs'.map (·.toGu) = renU r.us i t := by
    rw [hgs', List.map_set, q1]
    unfold renU
    congr 1
    rw [← q1, map_getD (f := fun g : Gst => g.toGu) hil]
  all_goals (repeat' (first | refine K_seq ?_ | refine k_block ?_ | (refine K_region (id := 12) ?_; refine mv ?_; refine vl ?_; refine vl ?_; refine vl ?_; refine lB S rfl rfl ?_; refine lnS S rfl rfl ?_; refine mv ?_; refine KO_nil ?_)))
  replace S : Hs h0 h (.blk p [vg.val, vt.val, .map (some m)] 86 :: .sl vg.val 24 9 eG gs' :: .sl vt.val 111 3 eTi (mmT f t r.ts 0) :: .mp m (.int .i64) mp :: tgR gs :: rs) := S
  refine k_loop (σ := Nat) (fun j h' => Hs h0 h' (.blk p [vg.val, vt.val, .map (some m)] 86 :: .sl vg.val 24 9 eG gs' :: .sl vt.val 111 3 eTi (mmT f t r.ts j) :: .mp m (.int .i64) mp :: tgR gs :: rs) ∧ j ≤ r.ts.length) (fun j => r.ts.length - j) (fun j => [(0, .pointer (some ⟨p, 0, none⟩)), (1, str f), (2, str t), (52, vt.val), (53, .int .i64 r.ts.length), (54, .int .i64 j)]) 0 (by repeat (first | exact Ks.le_nil _ | refine Ks.le_cons rfl ?_)) ?_ ?_
  · exact ⟨S, Nat.zero_le _⟩
  clear S
  rintro j h ⟨S, k1⟩
  have hml := mmT_len f t r.ts j k1
  all_goals (repeat' (first | refine K_seq ?_ | refine k_cond rfl ?_ | refine K_skip ?_ | refine K_exit ?_ | refine k_block ?_ | (refine K_region (id := 13) ?_; (first | (refine cS ?_ ?_ <;> intro hc)) <;> (refine KO_nil ?_))))
  · have hjl : j < r.ts.length := by omega
    have hmg := mmT_get f t r.ts j hjl
    have hms := mmT_set f t r.ts j hjl
    all_goals (repeat' (first | refine K_seq ?_ | (refine K_region (id := 14) ?_; refine mv ?_; refine ixS2 S rfl rfl ?_; refine lES2 S rfl rfl ?_; (refine al S ?_; clear S; intro b h S); refine mv ?_; (first | (refine sB S rfl rfl ?_; clear S; intro h S)); refine KO_nil ?_)))
    obtain ⟨b12, hnm⟩ : ∃ x, x = b := ⟨_, rfl⟩; subst hnm
    simp only [Int.toNat_natCast, hmg] at S
    generalize r.ts.getD j default = tx at S hms
    replace S : Hs h0 h (.blk b12 [str tx.a, str tx.b, .int .u8 tx.k] 111 :: .blk p [vg.val, vt.val, .map (some m)] 86 :: .sl vg.val 24 9 eG gs' :: .sl vt.val 111 3 eTi (mmT f t r.ts j) :: .mp m (.int .i64) mp :: tgR gs :: rs) := S
    (repeat (refine K_seq ?_)); first | refine K_join (σ := Unit) (fun _ h' => Hs h0 h' (.blk b12 [str (renN f t tx.a), str tx.b, .int .u8 tx.k] 111 :: .blk p [vg.val, vt.val, .map (some m)] 86 :: .sl vg.val 24 9 eG gs' :: .sl vt.val 111 3 eTi (mmT f t r.ts j) :: .mp m (.int .i64) mp :: tgR gs :: rs)) (fun _ => [(0, .pointer (some ⟨p, 0, none⟩)), (1, str f), (2, str t), (11, .int .i64 j), (12, .pointer (some ⟨b12, 0, none⟩)), (52, vt.val), (53, .int .i64 r.ts.length), (54, .int .i64 j)]) ?_ ?_
    · all_goals (repeat' (first | refine k_cond rfl ?_ | refine K_skip ?_ | (refine K_region (id := 15) ?_; refine vl ?_; refine lB S rfl rfl ?_; refine mv ?_; (refine tS ?_ ?_ <;> intro hc) <;> (refine KO_nil ?_)) | (refine K_region (id := 16) ?_; refine mv ?_; refine vl ?_; (first | (refine sB S rfl rfl ?_; clear S; intro h S)); refine KO_nil ?_)))
      · refine ⟨(), ?_, ((by repeat (first | exact Ks.le_nil _ | refine Ks.le_cons rfl ?_)))⟩
        rw [hc, renN_f]; exact S
      · refine ⟨(), ?_, ((by repeat (first | exact Ks.le_nil _ | refine Ks.le_cons rfl ?_)))⟩
        rw [renN_o hc]; exact S
    clear S
    rintro - h S
    skip
    (repeat (refine K_seq ?_)); first | refine K_join (σ := Unit) (fun _ h' => Hs h0 h' (.blk b12 [str (renN f t tx.a), str (renN f t tx.b), .int .u8 tx.k] 111 :: .blk p [vg.val, vt.val, .map (some m)] 86 :: .sl vg.val 24 9 eG gs' :: .sl vt.val 111 3 eTi (mmT f t r.ts j) :: .mp m (.int .i64) mp :: tgR gs :: rs)) (fun _ => [(0, .pointer (some ⟨p, 0, none⟩)), (1, str f), (2, str t), (11, .int .i64 j), (12, .pointer (some ⟨b12, 0, none⟩)), (52, vt.val), (53, .int .i64 r.ts.length), (54, .int .i64 j)]) ?_ ?_
    · all_goals (repeat' (first | refine k_cond rfl ?_ | refine K_skip ?_ | (refine K_region (id := 17) ?_; refine vl ?_; refine lB S rfl rfl ?_; refine mv ?_; (refine tS ?_ ?_ <;> intro hc) <;> (refine KO_nil ?_)) | (refine K_region (id := 18) ?_; refine mv ?_; refine vl ?_; (first | (refine sB S rfl rfl ?_; clear S; intro h S)); refine KO_nil ?_)))
      · refine ⟨(), ?_, ((by repeat (first | exact Ks.le_nil _ | refine Ks.le_cons rfl ?_)))⟩
        rw [hc, renN_f]; exact S
      · refine ⟨(), ?_, ((by repeat (first | exact Ks.le_nil _ | refine Ks.le_cons rfl ?_)))⟩
        rw [renN_o hc]; exact S
    clear S
    rintro - h S
    skip
    (repeat (refine K_seq ?_)); refine K_drawX (id := 19) [(4, (0, 1))] [some (p)] ?_; refine KX_cons ?_; (first | (refine mv ?_ <;> refine KO_nil ⟨⟨by (first | exact True.intro), rfl⟩, ?_⟩)); refine KX_cons ?_; (first | (refine vl ?_ <;> refine KO_nil ⟨⟨by (first | exact True.intro), rfl⟩, ?_⟩)); refine KX_cons ?_; (first | (refine vl ?_ <;> refine KO_nil ⟨⟨by (first | exact True.intro), rfl⟩, ?_⟩)); refine KX_cons ?_; (first | (refine vl ?_ <;> refine KO_nil ⟨⟨by (first | exact True.intro), rfl⟩, ?_⟩)); refine KX_cons ?_; (first | (refine lB S rfl rfl ?_ <;> refine KO_nil ⟨⟨by (first | exact Or.inr rfl), rfl⟩, ?_⟩)); refine KX_cons ?_; (first | (refine mv ?_ <;> refine KO_nil ⟨⟨by (first | exact True.intro), rfl⟩, ?_⟩)); refine KX_cons ?_; (first | (refine vl ?_ <;> refine KO_nil ⟨⟨by (first | exact True.intro), rfl⟩, ?_⟩)); refine KX_cons ?_; (first | (refine lB S rfl rfl ?_ <;> refine KO_nil ⟨⟨by (first | exact True.intro), rfl⟩, ?_⟩)); refine KX_cons ?_; (first | (refine vl ?_ <;> refine KO_nil ⟨⟨by (first | exact True.intro), rfl⟩, ?_⟩)); refine KX_cons ?_; (first | (refine lB S rfl rfl ?_ <;> refine KO_nil ⟨⟨by (first | exact True.intro), rfl⟩, ?_⟩)); refine KX_cons ?_; (first | (refine vl ?_ <;> refine KO_nil ⟨⟨by (first | exact True.intro), rfl⟩, ?_⟩)); refine KX_cons ?_; (first | (refine lB S rfl rfl ?_ <;> refine KO_nil ⟨⟨by (first | exact True.intro), rfl⟩, ?_⟩))
    ((refine KX_cons ?_; first | refine KO_fn rfl rfl rfl rfl rfl ((pair_ok S.wf (renN f t tx.a) (renN f t tx.b) tx.k).mono ?_)); rintro _ h ⟨rfl, x⟩) <;> ((refine KO_nil ⟨⟨True.intro, ?_⟩, ?_⟩; (focus ((show keepsX _ _ _ _ _; simp only [keepsX]; (repeat' (first | exact True.intro | refine And.intro ?_ ?_)); all_goals (intro hw; first | exact x.ext.old _ S.bB))))); replace S := S.join0 x; clear x; refine KX_cons ?_; (first | (refine ixS2 S rfl rfl ?_ <;> refine KO_nil ⟨⟨by (first | exact True.intro), rfl⟩, ?_⟩)); refine KX_cons ?_; (first | ((refine sE2 S rfl rfl ?_; have S0 := S; clear S; intro h S); refine KO_nil ⟨⟨True.intro, ?_⟩, ?_⟩; (focus ((show keepsX _ _ _ _ _; simp only [keepsX]; (repeat' (first | exact True.intro | refine And.intro ?_ ?_)); all_goals (intro hw; first | exact (S.gB).trans (S0.gB).symm)))); clear S0)); refine KX_nil ?_)
    simp only [Int.toNat_natCast] at S
    skip
    all_goals (repeat' (first | (refine K_region (id := 20) ?_; refine ad ?_; refine mv ?_; refine KO_nil ?_)))
    refine ⟨j + 1, ?_, ?_, (by repeat (first | exact Ks.le_nil _ | refine Ks.le_cons rfl ?_))⟩
    · show r.ts.length - (j + 1) < r.ts.length - j; omega
    · refine ⟨?_, by omega⟩
      (try dsimp only)
      rw [← hms]; exact S.tail
  · obtain rfl : j = r.ts.length := by omega
    have em : mmT f t r.ts r.ts.length = r.ts.map (renT f t) := by unfold mmT; simp
    rw [em] at S
    skip
    all_goals (repeat' (first | (refine K_region (id := 21) ?_; refine mv ?_; refine vl ?_; refine vl ?_; refine vl ?_; refine lB S rfl rfl ?_)))
    have S := (show Hs h0 h (.sl vt.val 111 3 eTi (r.ts.map (renT f t)) :: .blk p [vg.val, vt.val, .map (some m)] 86 :: .sl vg.val 24 9 eG gs' :: .mp m (.int .i64) mp :: tgR gs :: rs) from S.pick)
    have hlr : (r.ts.map (renT f t)).length < 260 := by rw [List.length_map]; omega
    (refine KO_fn rfl rfl rfl rfl rfl ((sort_t S hlr).mono ?_); rintro _ h ⟨ts', s1, s2, S⟩) <;> (refine KO_nil ?_)
    all_goals (repeat' (first | refine K_seq ?_ | (refine K_region (id := 22) ?_; refine mv ?_)))
    have S := (show Hs h0 h (.mp m (.int .i64) mp :: .blk p [vg.val, vt.val, .map (some m)] 86 :: .sl vg.val 24 9 eG gs' :: .sl vt.val 111 3 eTi ts' :: tgR gs :: rs) from S.pick)
    have hnd : ∀ a b, a < b → b < gs'.length → (gs'.getD a default).name ≠ (gs'.getD b default).name := fun a b hab hb => by
      have g : ∀ k, k < gs'.length → (gs'.getD k default).name = ((renU r.us i t).getD k default).name := fun k hk => by rw [← hus, map_getD (f := fun g : Gst => g.toGu) hk]
      rw [g a (by omega), g b hb]
      exact renU_nd H z1 ht a b hab (by rw [renU_len]; omega)
    have hl64 : gs'.length ≤ 64 := by omega
    (refine KO_fn rfl rfl rfl rfl rfl ((index_ok S hl64 hnd).mono ?_); rintro _ h ⟨mp', a1, S⟩) <;> (refine KO_nil ?_)
    all_goals (repeat' (first | refine K_seq ?_ | (refine K_region (id := 23) ?_; refine mv ?_; refine KO_nil ?_)))
    refine K_ret ⟨_, rfl, ?_⟩
    have sp := s1.perm
    have R : Ren r ⟨renU r.us i t, ts'⟩ i t := by
      refine ⟨rfl, by rw [z2]; exact sp, ?_⟩
      refine TS_of (by rw [sp.length_eq]; exact s2) ?_
      exact (sp.map _).nodup_iff.2 (ren_nodup H ht)
    rw [hus] at a1
    have S := (show Hs h0 h (tgR gs :: .mp m (.int .i64) mp' :: .blk p [vg.val, vt.val, .map (some m)] 86 :: .sl vg.val 24 9 eG gs' :: .sl vt.val 111 3 eTi ts' :: rs) from S.pick)
    have S := S.tgRen (t := t) hil
    rw [← hgs'] at S
    exact .inr (.inr (.inr ⟨i, _, rfl, hn, ht, R, rfl, S.bk (r := ⟨renU r.us i t, ts'⟩) vg vt m mp' gs' hus a1⟩))
end Go.Proofs.Xx

/-
  BookRenames.
-/
namespace Go.Proofs.Xx
open Go Go.Proofs
set_option linter.unusedSimpArgs false
set_option linter.unusedVariables false
set_option linter.unusedSectionVars false
set_option maxRecDepth 100000
set_option maxHeartbeats 4000000

theorem num_cons {k : Nat} {c : UInt8} (hc : lowB c) : nameP ([c] ++ num k) := by
  obtain ⟨h1, h2, h3⟩ := num_name k
  refine ⟨by simp, by simp [num], fun i hi => ?_⟩
  cases i with
  | zero => exact hc
  | succ i =>
    have hi' : i < (num k).length := by simp at hi ⊢; omega
    exact h3 i hi'
variable [Flag]
theorem renameY_ok {h0 h : AH} {rs : List Rs} {p : Nat} {r : Rl} (S : Hs h0 h (bookR p r :: rs)) (H : RO r) (f t : List UInt8) (i : Nat) (hf : gat r.us f = some i) (hn : nameP t) (ht : gat r.us t = none) :
    Fn Tryz.prog Xh 40 [.pointer (some ⟨p, 0, none⟩), str f, str t] h (fun v h' => ∃ r', Ren r r' i t ∧ v = .int .i64 0 ∧ Hs h0 h' (bookR p r' :: rs)) :=
  (rename_ok S H f t).mono fun v h' q => by
    rcases q with ⟨z, -⟩ | ⟨-, z, -⟩ | ⟨-, -, z, -⟩ | ⟨j, r', h1, -, -, R, h2, S⟩
    · rw [hf] at z; cases z
    · exact absurd hn z
    · exact absurd ht z
    · rw [hf] at h1; cases h1
      exact ⟨r', R, h2, S⟩
theorem renameN_ok {h0 h : AH} {rs : List Rs} {p : Nat} {r : Rl} (S : Hs h0 h (bookR p r :: rs)) (H : RO r) (f t : List UInt8) (hf : gat r.us f = none) :
    Fn Tryz.prog Xh 40 [.pointer (some ⟨p, 0, none⟩), str f, str t] h (fun v h' => v = .int .i64 6 ∧ Hs h0 h' (bookR p r :: rs)) :=
  (rename_ok S H f t).mono fun v h' q => by
    rcases q with ⟨-, z⟩ | ⟨z, -⟩ | ⟨z, -⟩ | ⟨j, r', h1, -⟩
    · exact z
    · exact absurd hf z
    · exact absurd hf z
    · rw [hf] at h1; cases h1
theorem tiedK_ok {h0 : AH} (w : WfH h0) {p : Nat} {r : Rl} (B : BkRd h0 p r) (H : RO r) (a b : List UInt8) (v : Value) (hv : tkd (tieOf r.ts a b) = v) : Fn Tryz.prog Xh 36 [.pointer (some ⟨p, 0, none⟩), str a, str b] h0 (fun u h' => u = v ∧ Hs h0 h' []) := hv ▸ tiedF_ok w B H a b
theorem bookRenames_true {h0 : AH} (w : WfH h0) (va vb : Value) (la lb : List Nat) (na nb : Nat) (ra : RdL h0 va 1 e16 la) (rb : RdL h0 vb 1 eU lb) (hla : la.length ≤ 9223372036854775807) (hlb : lb.length ≤ 9223372036854775807) (h16 : ∀ i, i < la.length → la.getD i default < 65536) (h8 : ∀ i, i < lb.length → lb.getD i default < 256) (hna : na < 256) (hnb : nb < 256) :
    Fn Tryz.prog Xh 9 [va, vb, .int .u8 na, .int .u8 nb] h0 (fun v _ => v = .bool true) := by
  have S := Hs.start w
  refine Fn_K rfl Tryz.func9 rfl rfl ?_
  all_goals (repeat' (first | refine K_seq ?_ | (refine K_region (id := 0) ?_; refine mv ?_; refine KO_nil ?_) | (refine K_region (id := 1) ?_; refine mv ?_; refine mv ?_)))
  (refine KO_fn rfl rfl rfl rfl rfl ((made_ok w va vb la lb ra rb hla hlb h16 h8).mono ?_); rintro _ h ⟨⟨vg, vt, gs⟩, r, rfl, HR, H, hM, x⟩) <;> (replace S := S.join0 x; clear x; clear w; have w := S.wf; obtain ⟨hB, hnm⟩ : ∃ x, x = h := ⟨_, rfl⟩; subst hnm; have S := Hs.start w; (refine al S ?_; clear S; intro b h S); (first | (refine sB S rfl rfl ?_; clear S; intro h S)); refine KO_nil ?_)
  obtain ⟨b9, hnm⟩ : ∃ x, x = b := ⟨_, rfl⟩; subst hnm
  all_goals (repeat' (first | refine K_seq ?_ | (refine K_region (id := 2) ?_; refine lB S rfl rfl ?_)))
  (refine KO_fn rfl rfl rfl rfl rfl ((book_ok S.wf ⟨vg, vt, gs⟩ r (HR.ext w S.ext) H).mono ?_); rintro _ h ⟨p, rfl, x⟩) <;> (replace S := S.join1 x; clear x; refine mv ?_; refine vl ?_; refine vl ?_; refine mv ?_; refine mv ?_; refine KO_nil ?_)
  all_goals (repeat' (first | refine K_seq ?_ | (refine K_region (id := 3) ?_; refine lB S rfl rfl ?_)))
  (refine KO_fn rfl rfl rfl rfl rfl ((book_ok S.wf ⟨vg, vt, gs⟩ r (HR.ext w S.ext) H).mono ?_); rintro _ h ⟨p2, rfl, x⟩) <;> (replace S := S.join1 x; clear x; refine mv ?_; refine vl ?_; refine vl ?_; refine mv ?_; refine mv ?_; refine KO_nil ?_)
  replace S : Hs hB h [bookR p2 r, bookR p r, .blk b9 [vg.val, vt.val] 32] := S
  have hrg := HR.rg
  have hrt := HR.rt
  have hgl := HR.len
  have hM12 := hM.1
  simp only at hrg hgl hrt
  all_goals (repeat' (first | refine K_seq ?_ | refine k_cond rfl ?_ | refine K_skip ?_ | (refine K_region (id := 4) ?_; refine mv ?_; refine vl ?_; refine mv ?_; refine mv ?_; refine vl ?_; refine vl ?_; refine KO_nil ?_) | (refine K_region (id := 6) ?_; refine vl ?_; refine lB S rfl rfl ?_; refine lnB S ?_; (first | (refine cS ?_ ?_ <;> intro hc)) <;> (refine KO_nil ?_))))
  · have hno : gat r.us [97] = none := gat_none.2 fun g hg => by
      have : r.us = [] := List.eq_nil_of_length_eq_zero (by omega)
      rw [this] at hg; cases hg
    have S := (show Hs hB h [bookR p r, bookR p2 r, .blk b9 [vg.val, vt.val] 32] from S.pick)
    all_goals (repeat' (first | (refine K_region (id := 7) ?_; refine mv ?_)))
    (refine KO_fn rfl rfl rfl rfl rfl ((renameN_ok S H [97] [98] hno).mono ?_); rintro _ h ⟨rfl, S⟩) <;> ((refine cT ?_) <;> (refine mv ?_; (skip)))
    all_goals (repeat' (fail))
    (refine KO_fn rfl rfl rfl rfl rfl ((awake_okS S.wf).mono ?_); rintro _ h ⟨rfl, x⟩) <;> (replace S := S.join0 x; clear x; refine vl ?_; refine mv ?_; refine KO_nil ?_)
    all_goals (repeat' (fail))
    refine K_ret ⟨_, rfl, ?_⟩
    rfl
  · have hgl0 : 0 < gs.length := by omega
    have hmod : ∀ z : Nat, 0 ≤ (z : Int) % (gs.length : Int) ∧ (z : Int) % (gs.length : Int) < gs.length := fun z => ⟨Int.emod_nonneg _ (by omega), Int.emod_lt_of_pos _ (by omega)⟩
    have hm0 := hmod na
    obtain ⟨i, hi⟩ : ∃ i : Nat, (na : Int) % (gs.length : Int) = (i : Int) := ⟨((na : Int) % (gs.length : Int)).toNat, by omega⟩
    have hil : i < gs.length := by omega
    have hsl : ∀ (z : Nat), z < gs.length → (gs.getD z default).name = (r.us.getD z default).name := fun z hz => by
      have e := HR.at_ (show z < gs.length from hz)
      rw [← e]
    skip
    all_goals (repeat' (first | refine K_seq ?_ | (refine K_region (id := 8) ?_; refine mv ?_; refine cI ?_; refine vl ?_; refine lB S rfl rfl ?_; refine lnB S ?_; refine rm ?_; refine mv ?_; refine KO_nil ?_)))
    simp only [hi]
    all_goals (repeat' (first | refine K_seq ?_ | (refine K_region (id := 9) ?_; refine vl ?_; refine lB S rfl rfl ?_; refine mv ?_; refine ixB S ?_; refine fB S ?_; refine lEB S ?_; refine mv ?_; refine KO_nil ?_)))
    simp only [Int.toNat_natCast]
    have hxi : (gs.getD i default).name = num (25 * i) := by rw [hsl i hil]; exact hM.2 i (by omega)
    have hfi : gat r.us (gs.getD i default).name = some i := by rw [hsl i hil]; exact H.gat (by omega)
    have hri : (r.us.getD i default).name = (gs.getD i default).name := (hsl i hil).symm
    have hxl : (gs.getD i default).name.length = 2 := by rw [hxi]; rfl
    have hnn : ∀ c : UInt8, lowB c → nameP ([c] ++ (gs.getD i default).name) ∧ gat r.us ([c] ++ (gs.getD i default).name) = none := fun c hc => by
      refine ⟨by rw [hxi]; exact num_cons hc, gat_none.2 fun g hg e => ?_⟩
      obtain ⟨k, hk, rfl⟩ := mem_iff_getD.1 hg
      rw [hM.2 k hk] at e
      have := congrArg List.length e
      rw [List.length_append, hxl] at this
      exact absurd this (by simp [num])
    generalize hxn : (gs.getD i default).name = xn at *
    all_goals (repeat' (first | refine K_seq ?_ | (refine K_region (id := 10) ?_; refine mv ?_; refine tc ?_; refine mv ?_; refine KO_nil ?_)))
    have hcm : lowB 109 := ⟨by decide, by decide⟩
    have hcz : lowB 122 := ⟨by decide, by decide⟩
    (repeat (refine K_seq ?_)); first | refine K_join (σ := List UInt8) (fun nm h' => Hs hB h' [bookR p2 r, bookR p r, .blk b9 [vg.val, vt.val] 32] ∧ nameP nm ∧ gat r.us nm = none) (fun nm => [(9, .pointer (some ⟨b9, 0, none⟩)), (10, .pointer (some ⟨p, 0, none⟩)), (12, .pointer (some ⟨p2, 0, none⟩)), (14, .int .i64 i), (15, str xn), (16, str nm)]) ?_ ?_
    · all_goals (repeat' (first | refine k_cond rfl ?_ | refine K_skip ?_ | (refine K_region (id := 11) ?_; refine mv ?_; refine rmU ?_; (first | (refine cS ?_ ?_ <;> intro hc)) <;> (refine KO_nil ?_)) | (refine K_region (id := 12) ?_; refine mv ?_; refine tc ?_; refine mv ?_; refine KO_nil ?_)))
      · exact ⟨[122] ++ xn, ⟨S, hnn 122 hcz⟩, ((by repeat (first | exact Ks.le_nil _ | refine Ks.le_cons rfl ?_)))⟩
      · exact ⟨[109] ++ xn, ⟨S, hnn 109 hcm⟩, ((by repeat (first | exact Ks.le_nil _ | refine Ks.le_cons rfl ?_)))⟩
    clear S
    rintro nm h ⟨S, hnp, hnu⟩
    skip
    all_goals (repeat' (first | refine K_seq ?_ | (refine K_region (id := 13) ?_; refine mv ?_; refine mv ?_; refine mv ?_; skip)))
    (refine KO_fn rfl rfl rfl rfl rfl ((renameY_ok S H xn nm i hfi hnp hnu).mono ?_); rintro _ h ⟨r', R, rfl, S⟩) <;> ((refine cF ?_) <;> (refine KO_nil ?_))
    have H' := R.ro H (by omega) hnp hnu
    have hrl : r'.us.length = r.us.length := by rw [R.us, renU_len]
    have hrt' : r'.ts.length = r.ts.length := by rw [R.pm.length_eq, List.length_map]
    have h256 := H.l256
    have hR1 : r.us.length ≤ 9223372036854775807 := by omega
    have hR2 : r.ts.length ≤ 9223372036854775807 := Nat.le_trans H.l256 (by decide)
    have hR3 : ∀ g ∈ r.us, g.tg.length ≤ 9223372036854775807 := fun g hg => Nat.le_trans (chkG_ok (H.chk g hg)).2.2.2.1 (by decide)
    have hnz : ∀ k, k < r.us.length → (r.us.getD k default).name ≠ nm := fun k hk => gat_none.1 hnu _ (mem_getD hk)
    have hzx : ∀ k, k < r.us.length → k ≠ i → (r.us.getD k default).name ≠ xn := fun k hk hki e => by
      rcases Nat.lt_or_ge k i with q | q
      · exact H.nd k i q (by omega) (e.trans hri.symm)
      · exact H.nd i k (by omega) hk (hri.trans e.symm)
    all_goals (repeat' (first | refine K_seq ?_ | refine k_cond rfl ?_ | refine K_skip ?_ | (refine K_region (id := 15) ?_; refine mv ?_)))
    (refine KO_fn rfl rfl rfl rfl rfl ((roll_ok S.wf S.bkRd H').mono ?_); rintro _ h ⟨rv, rfl, hus, x⟩) <;> (replace S := S.join x; clear x; dsimp only [rolL, List.cons_append, List.nil_append] at S; (refine al S ?_; clear S; intro b h S); (first | (refine sB S rfl rfl ?_; clear S; intro h S)); refine KO_nil ?_)
    obtain ⟨b17, hnm⟩ : ∃ x, x = b := ⟨_, rfl⟩; subst hnm
    replace S : Hs hB h [.blk b17 [rv.vg.val, rv.vt.val] 32, .sl rv.vg.val 24 9 eG rv.gs, .sl rv.vt.val 111 3 eTi r'.ts, tgO rv.gs, bookR p2 r', bookR p r, .blk b9 [vg.val, vt.val] 32] := S
    have hvl : rv.gs.length = gs.length := by
      have := congrArg List.length hus
      rw [List.length_map, hrl] at this; omega
    have hvn : ∀ k, k < gs.length → (rv.gs.getD k default).name = if k = i then nm else (gs.getD k default).name := fun k hk => by
      have e : ((rv.gs.map (fun g : Gst => g.toGu)).getD k default).name = (rv.gs.getD k default).name := by rw [map_getD (f := fun g : Gst => g.toGu) (by omega)]
      rw [← e, hus, R.us, renU_get (by omega)]
      split
      · rfl
      · rw [hsl k hk]
    have hvi := hvn i hil
    rw [if_pos rfl] at hvi
    all_goals (repeat' (first | refine K_seq ?_ | refine k_cond rfl ?_ | refine K_skip ?_ | (refine K_region (id := 16) ?_; refine vl ?_; refine lB S rfl rfl ?_; refine lnS S rfl rfl ?_; refine vl ?_; refine lB S rfl rfl ?_; refine lnB S ?_; (refine cF ?_) <;> (refine mv ?_; (first | (refine vl ?_)); (first | (refine lB S rfl rfl ?_)); (first | (refine lnS S rfl rfl ?_)); (first | (refine vl ?_)); (first | (refine lB S rfl rfl ?_)); (first | (refine lnB S ?_)); (first | (refine cF ?_)) <;> (refine vl ?_; refine mv ?_; (first | (refine vl ?_)); (first | (refine lB S rfl rfl ?_)); refine mv ?_; (first | (refine ixS2 S rfl rfl ?_)); (first | (refine fS S rfl rfl ?_)); (first | (refine lES2 S rfl rfl ?_)); refine mv ?_; (first | (refine tS ?_ ?_ <;> intro hc)) <;> (refine vl ?_; refine KO_nil ?_))))))
    rotate_left
    · exact absurd hvi hc
    skip
    all_goals (repeat' (first | refine k_block ?_ | (refine K_region (id := 18) ?_; refine mv ?_; refine KO_nil ?_)))
    refine k_loop (σ := Nat) (fun k h' => Hs hB h' [.blk b17 [rv.vg.val, rv.vt.val] 32, .sl rv.vg.val 24 9 eG rv.gs, bookR p2 r', bookR p r, .blk b9 [vg.val, vt.val] 32] ∧ k ≤ gs.length) (fun k => gs.length - k) (fun k => [(9, .pointer (some ⟨b9, 0, none⟩)), (10, .pointer (some ⟨p, 0, none⟩)), (12, .pointer (some ⟨p2, 0, none⟩)), (14, .int .i64 i), (15, str xn), (16, str nm), (17, .pointer (some ⟨b17, 0, none⟩)), (18, .int .i64 k)]) 0 (by repeat (first | exact Ks.le_nil _ | refine Ks.le_cons rfl ?_)) ?_ ?_
    · exact ⟨S.pick, Nat.zero_le _⟩
    clear S
    rintro k h ⟨S, g1⟩
    all_goals (repeat' (first | refine K_seq ?_ | refine k_cond rfl ?_ | refine K_skip ?_ | refine K_exit ?_ | (refine K_region (id := 19) ?_; refine mv ?_; refine vl ?_; refine lB S rfl rfl ?_; refine lnB S ?_; (first | (refine cS ?_ ?_ <;> intro hc)) <;> (refine KO_nil ?_))))
    · have hkl : k < gs.length := by omega
      (repeat (refine K_seq ?_)); first | refine K_join1 (σ := Unit) (fun _ h' => Hs hB h' [.blk b17 [rv.vg.val, rv.vt.val] 32, .sl rv.vg.val 24 9 eG rv.gs, bookR p2 r', bookR p r, .blk b9 [vg.val, vt.val] 32]) (fun _ => [(9, .pointer (some ⟨b9, 0, none⟩)), (10, .pointer (some ⟨p, 0, none⟩)), (12, .pointer (some ⟨p2, 0, none⟩)), (14, .int .i64 i), (15, str xn), (16, str nm), (17, .pointer (some ⟨b17, 0, none⟩)), (18, .int .i64 k)]) ?_ ?_
      · all_goals (repeat' (first | refine K_seq ?_ | refine k_cond rfl ?_ | refine K_skip ?_ | refine K_exit ?_ | refine k_block ?_ | (refine K_region (id := 21) ?_; refine vl ?_; refine lB S rfl rfl ?_; refine mv ?_; refine ixB S ?_; refine fB S ?_; refine lEB S ?_; refine mv ?_; refine KO_nil ?_) | (refine K_region (id := 22) ?_; refine mv ?_; refine mv ?_; (first | (refine cS ?_ ?_ <;> intro hc)) <;> (refine KO_nil ?_))))
        · exact ⟨(), S, ((by repeat (first | exact Ks.le_nil _ | refine Ks.le_cons rfl ?_)))⟩
        · have hki : k ≠ i := by omega
          have hzn : gat r.us (gs.getD k default).name ≠ none := by
            rw [hsl k hkl, H.gat (by omega)]; simp
          have hz1 := hzx k (by omega) hki
          have hz2 := hnz k (by omega)
          rw [← hsl k hkl] at hz1 hz2
          have hvk := hvn k hkl
          rw [if_neg hki] at hvk
          simp only [Int.toNat_natCast]
          generalize (gs.getD k default).name = zn at *
          have hxn2 : xn ≠ nm := fun e => by rw [e] at hfi; rw [hfi] at hnu; cases hnu
          have hkk : tkd (tieOf r.ts xn zn) = tkd (tieOf r'.ts zn nm) := tkd_adj H H' fun c => by
            rw [R.adj H hri hnu hxn2 hz2, renN_f, renN_o hz1]
            exact ⟨fun q => q.symm, fun q => q.symm⟩
          have hpp : (∃ Q, Pth r xn Q zn) ↔ ∃ Q, Pth r' nm Q zn := by
            constructor
            · rintro ⟨Q, q⟩
              have := R.pth H (by omega) hri hnu q
              rw [renN_f, renN_o hz1] at this
              exact ⟨_, this⟩
            · rintro ⟨Q, q⟩
              have := R.pthB H (by omega) hri hnu q
              rw [renN_f, renN_o hz2] at this
              exact ⟨_, this⟩
          have hxk : gat r.us xn ≠ none := by rw [hfi]; simp
          have gr : ∀ n, n ≠ nm → gat r'.us (renN xn nm n) = gat r.us n := fun n hn => by rw [R.us]; exact gat_ren H (by omega) hri hnu hn
          have hnk : gat r'.us nm ≠ none := by
            have := gr xn hxn2
            rw [renN_f] at this
            rw [this]; exact hxk
          have hzk : gat r'.us zn ≠ none := by
            have := gr zn hz2
            rw [renN_o hz1] at this
            rw [this]; exact hzn
          obtain ⟨K, bb, hk1⟩ : ∃ (K : Int) (bb : Bool), tkd (tieOf r.ts xn zn) = .tuple #[.int .u8 K, .bool bb] := by
            cases tieOf r.ts xn zn with
            | none => exact ⟨0, false, rfl⟩
            | some t => exact ⟨t.k, true, rfl⟩
          have hk2 := hkk.symm.trans hk1
          have hnil := (Rd.none_ hB 1 : RdL hB (.slice none 0 0) 1 eS [])
          all_goals (repeat' (first | (refine K_region (id := 23) ?_; refine mv ?_; refine mv ?_; refine mv ?_; skip)))
          (refine KO_fn rfl rfl rfl rfl rfl ((tiedK_ok S.wf (Hs.bkRd (S.pick : Hs _ h [bookR p r])) H xn zn _ hk1).mono ?_); rintro _ h ⟨rfl, x⟩) <;> (replace S := S.join0 x; clear x; refine mv ?_; refine vl ?_; refine vl ?_; refine mv ?_; refine mv ?_; refine KO_nil ?_)
          all_goals (repeat' (first | refine K_seq ?_ | (refine K_region (id := 24) ?_; refine mv ?_; refine mv ?_; refine mv ?_; skip)))
          (refine KO_fn rfl rfl rfl rfl rfl ((tiedK_ok S.wf (Hs.bkRd (S.pick : Hs _ h [bookR p2 r'])) H' zn nm _ hk2).mono ?_); rintro _ h ⟨rfl, x⟩) <;> (replace S := S.join0 x; clear x; refine mv ?_; refine vl ?_; refine vl ?_; refine mv ?_; refine mv ?_; refine KO_nil ?_)
          all_goals (repeat' (first | refine K_seq ?_ | (refine K_region (id := 25) ?_; refine mv ?_; refine mv ?_; refine mv ?_; skip)))
          by_cases hp : ∃ Q, Pth r xn Q zn
          · (refine KO_fn rfl rfl rfl rfl rfl ((chainY_ok S.wf (Hs.bkRd (S.pick : Hs _ h [bookR p r])) H xn zn hxk hzn hp).mono ?_); rintro _ h ⟨v1, P1, rfl, x, C1, hP1⟩) <;> (replace S := S.join1 x; clear x; refine mv ?_; refine vl ?_; refine vl ?_; refine mv ?_; refine mv ?_; refine KO_nil ?_)
            all_goals (repeat' (first | refine K_seq ?_ | (refine K_region (id := 26) ?_; refine mv ?_; refine mv ?_; refine mv ?_; skip)))
            (refine KO_fn rfl rfl rfl rfl rfl ((chainY_ok S.wf (Hs.bkRd (S.pick : Hs _ h [bookR p2 r'])) H' nm zn hnk hzk (hpp.1 hp)).mono ?_); rintro _ h ⟨v2, P2, rfl, x, C2, hP2⟩) <;> (replace S := S.join1 x; clear x; refine mv ?_; refine vl ?_; refine vl ?_; refine mv ?_; refine mv ?_; refine KO_nil ?_)
            have hlen := ChainOk.ren R H (by omega) hri hnu hz1 hz2 C1 C2
            all_goals (repeat' (refine K_seq ?_))
            cases bb
            all_goals (skip)
            all_goals (all_goals (repeat' (first | refine K_seq ?_ | refine k_cond rfl ?_ | refine K_skip ?_ | (refine K_region (id := 27) ?_; refine mv ?_; refine mv ?_; (refine cF ?_) <;> (refine mv ?_; refine mv ?_; refine mv ?_; refine vl ?_; refine vl ?_; refine mv ?_; refine mv ?_; refine mv ?_; refine vl ?_; refine vl ?_; refine mv ?_; refine mv ?_; (first | (refine lnS S rfl rfl ?_)); refine mv ?_; (first | (refine lnS S rfl rfl ?_)); (first | (refine cF ?_)) <;> (refine vl ?_; refine mv ?_; (first | (refine vl ?_)); (first | (refine lB S rfl rfl ?_)); refine mv ?_; (first | (refine ixS2 S rfl rfl ?_)); (first | (refine fS S rfl rfl ?_)); (first | (refine lES2 S rfl rfl ?_)); refine mv ?_; (first | (refine tS ?_ ?_ <;> intro hc)) <;> (refine vl ?_; refine KO_nil ?_)))))))
            all_goals first
              | exact ⟨(), S.tail.tail, ((by repeat (first | exact Ks.le_nil _ | refine Ks.le_cons rfl ?_)))⟩
              | exact absurd hvk hc
          · (refine KO_fn rfl rfl rfl rfl rfl ((chainN_ok S.wf (Hs.bkRd (S.pick : Hs _ h [bookR p r])) H xn zn (.inr hp)).mono ?_); rintro _ h ⟨rfl, x⟩) <;> (replace S := S.join0 x; clear x; refine mv ?_; refine vl ?_; refine vl ?_; refine mv ?_; refine mv ?_; refine KO_nil ?_)
            all_goals (repeat' (first | refine K_seq ?_ | (refine K_region (id := 26) ?_; refine mv ?_; refine mv ?_; refine mv ?_; skip)))
            (refine KO_fn rfl rfl rfl rfl rfl ((chainN_ok S.wf (Hs.bkRd (S.pick : Hs _ h [bookR p2 r'])) H' nm zn (.inr (fun q => hp (hpp.2 q)))).mono ?_); rintro _ h ⟨rfl, x⟩) <;> (replace S := S.join0 x; clear x; refine mv ?_; refine vl ?_; refine vl ?_; refine mv ?_; refine mv ?_; refine KO_nil ?_)
            all_goals (repeat' (refine K_seq ?_))
            cases bb
            all_goals (skip)
            all_goals (all_goals (repeat' (first | refine K_seq ?_ | refine k_cond rfl ?_ | refine K_skip ?_ | (refine K_region (id := 27) ?_; refine mv ?_; refine mv ?_; (refine cF ?_) <;> (refine mv ?_; refine mv ?_; refine mv ?_; refine vl ?_; refine vl ?_; refine mv ?_; refine mv ?_; refine mv ?_; refine vl ?_; refine vl ?_; refine mv ?_; refine mv ?_; (first | (refine lnB S ?_)); refine mv ?_; (first | (refine lnB S ?_)); (first | (refine cF ?_)) <;> (refine vl ?_; refine mv ?_; (first | (refine vl ?_)); (first | (refine lB S rfl rfl ?_)); refine mv ?_; (first | (refine ixS2 S rfl rfl ?_)); (first | (refine fS S rfl rfl ?_)); (first | (refine lES2 S rfl rfl ?_)); refine mv ?_; (first | (refine tS ?_ ?_ <;> intro hc)) <;> (refine vl ?_; refine KO_nil ?_)))))))
            all_goals first
              | exact ⟨(), S, ((by repeat (first | exact Ks.le_nil _ | refine Ks.le_cons rfl ?_)))⟩
              | exact absurd hvk hc
      · clear S
        rintro - h S
        skip
        all_goals (repeat' (first | (refine K_region (id := 20) ?_; refine mv ?_; refine ad ?_; refine mv ?_; refine KO_nil ?_)))
        refine ⟨k + 1, ?_, ?_, (by repeat (first | exact Ks.le_nil _ | refine Ks.le_cons rfl ?_))⟩
        · show gs.length - (k + 1) < gs.length - k; omega
        · exact ⟨S, by omega⟩
    · have hfi' : gat r'.us nm = some i := by
        have hxn2 : xn ≠ nm := fun e => by rw [e] at hfi; rw [hfi] at hnu; cases hnu
        have := gat_ren H (show i < r.us.length by omega) hri hnu hxn2
        rw [renN_f] at this
        rw [R.us, this]; exact hfi
      have hxu' : gat r'.us xn = none := by rw [R.us]; exact gat_renF H (by omega) hri hnu
      have hxp : nameP xn := by rw [hxi]; exact num_name _
      have S := (show Hs hB h [bookR p2 r', bookR p r, .blk b9 [vg.val, vt.val] 32] from S.pick)
      skip
      (repeat (refine K_seq ?_)); refine K_drawX (id := 29) [(8, (1, 2))] [some (b9)] ?_; refine KX_cons ?_; (first | (refine mv ?_ <;> refine KO_nil ⟨⟨by (first | exact True.intro), rfl⟩, ?_⟩)); refine KX_cons ?_; (first | (refine mv ?_ <;> refine KO_nil ⟨⟨by (first | exact True.intro), rfl⟩, ?_⟩)); refine KX_cons ?_; (first | (refine mv ?_ <;> refine KO_nil ⟨⟨by (first | exact True.intro), rfl⟩, ?_⟩))
      refine KX_cons ?_; refine KO_fn rfl rfl rfl rfl rfl ((renameY_ok S H' nm xn i hfi' hxp hxu').mono ?_); have S0 := S; clear S; rintro _ h ⟨r'', R2, rfl, S⟩; refine KO_nil ⟨⟨True.intro, ?_⟩, ?_⟩; (focus ((show keepsX _ _ _ _ _; simp only [keepsX]; (repeat' (first | exact True.intro | refine And.intro ?_ ?_)); all_goals (intro hw; first | exact (S.gB).trans (S0.gB).symm)))); clear S0; (refine KX_cons ?_; (first | (refine cT ?_ <;> refine KO_nil ⟨⟨by (first | exact True.intro), rfl⟩, ?_⟩)) <;> (refine KX_cons ?_; (first | (refine mv ?_ <;> refine KO_nil ⟨⟨by (first | exact True.intro), rfl⟩, ?_⟩)); refine KX_cons ?_; (first | (refine mv ?_ <;> refine KO_nil ⟨⟨by (first | exact True.intro), rfl⟩, ?_⟩)); (skip)))
      have hrr : r'' = r := R.back H (by omega) hri hnu R2
      subst hrr
      ((refine KX_cons ?_; first | refine KO_fn rfl rfl rfl rfl rfl ((roll_ok S.wf S.bkRd H).mono ?_)); rintro _ h ⟨rv2, rfl, hus2, x⟩) <;> ((refine KO_nil ⟨⟨True.intro, ?_⟩, ?_⟩; (focus ((show keepsX _ _ _ _ _; simp only [keepsX]; (repeat' (first | exact True.intro | refine And.intro ?_ ?_)); all_goals (intro hw; first | exact x.ext.old _ S.bB))))); replace S := S.join x; clear x; dsimp only [rolL, List.cons_append, List.nil_append] at S; refine KX_cons ?_; (first | (refine lB S rfl rfl ?_ <;> refine KO_nil ⟨⟨by (first | exact Or.inr rfl), rfl⟩, ?_⟩)); (skip))
      ((refine KX_cons ?_; first | refine KO_fn rfl rfl rfl rfl rfl ((sameRoll_ok S.wf rv2 ⟨vg, vt, gs⟩ r'' r'' (Hs.rlOk (v := rv2) S hus2 hR1 hR2 hR3) (HR.ext w S.ext)).mono ?_)); rintro _ h ⟨⟨rfl, z⟩ | ⟨rfl, z⟩, x⟩) <;> ((refine KO_nil ⟨⟨True.intro, ?_⟩, ?_⟩; (focus ((show keepsX _ _ _ _ _; simp only [keepsX]; (repeat' (first | exact True.intro | refine And.intro ?_ ?_)); all_goals (intro hw; first | exact x.ext.old _ S.bB))))); replace S := S.join0 x; clear x; refine KX_cons ?_; (first | (refine vl ?_ <;> refine KO_nil ⟨⟨by (first | exact True.intro), rfl⟩, ?_⟩)); refine KX_cons ?_; (first | (refine mv ?_ <;> refine KO_nil ⟨⟨by (first | exact True.intro), rfl⟩, ?_⟩)); (first | (refine KX_cons ?_; refine off ?_; refine KO_nil ⟨⟨True.intro, by show keepsX _ _ _ _ _; simp [keepsX]⟩, ?_⟩; refine KX_cons ?_; (first | (refine vl ?_ <;> refine KO_nil ⟨⟨by (first | exact True.intro), rfl⟩, ?_⟩)); refine KX_cons ?_; (first | (refine mv ?_ <;> refine KO_nil ⟨⟨by (first | exact True.intro), rfl⟩, ?_⟩)); refine KX_nil ?_) | skip))
      all_goals first | exact absurd rfl z | skip
      ((refine KX_cons ?_; first | refine KO_fn rfl rfl rfl rfl rfl ((awake_okS S.wf).mono ?_)); rintro _ h ⟨rfl, x⟩) <;> ((refine KO_nil ⟨⟨True.intro, ?_⟩, ?_⟩; (focus ((show keepsX _ _ _ _ _; simp only [keepsX]; (repeat' (first | exact True.intro | refine And.intro ?_ ?_)); all_goals (intro hw; first | exact x.ext.old _ S.bB))))); replace S := S.join0 x; clear x; refine KX_cons ?_; (first | (refine vl ?_ <;> refine KO_nil ⟨⟨by (first | exact True.intro), rfl⟩, ?_⟩)); refine KX_cons ?_; (first | (refine mv ?_ <;> refine KO_nil ⟨⟨by (first | exact True.intro), rfl⟩, ?_⟩)); refine KX_nil ?_)
      all_goals (repeat' (fail))
      refine K_ret ⟨_, rfl, ?_⟩
      rfl
end Go.Proofs.Xx

/-
  The core of BookRenames.
-/
namespace Go.Proofs.Xx
open Go Go.Proofs
set_option linter.unusedSimpArgs false
set_option linter.unusedVariables false
set_option linter.unusedSectionVars false
set_option maxRecDepth 100000

theorem bookRenames_core [Flag] (h : AH) (us : List Value) (w : WfH h) (a : ArgsR Tryz.prog h Tryz.f9.params.toList us) : Fn Tryz.prog Xh 9 us h (fun x _ => x = .bool true) := by
  rw [show Tryz.f9.params.toList = [37, 38, 5, 5] by kernel_rfl] at a
  obtain ⟨n0, r0, us, rfl, a0, a⟩ := a.cons_inv
  obtain ⟨n1, r1, us, rfl, a1, a⟩ := a.cons_inv
  obtain ⟨n2, r2, us, rfl, a2, a⟩ := a.cons_inv
  obtain ⟨n3, r3, us, rfl, a3, a⟩ := a.cons_inv
  obtain rfl := a.nil_inv
  obtain ⟨va, la, rfl, ra, la1, -, la2⟩ := a0.e16s
  obtain ⟨vb, lb, rfl, rb, lb1, -, lb2⟩ := a1.e8s
  obtain ⟨na, rfl, hna⟩ := a2.u8
  obtain ⟨nb, rfl, hnb⟩ := a3.u8
  unfold maxLen at la1 lb1
  exact bookRenames_true w va vb la lb na nb ra rb (by omega) (by omega) la2 lb2 hna hnb
end Go.Proofs.Xx

/-
  What lies in every world that fits: a number for the longest needle of a quick search; the functions that are known.
-/
namespace Go.Proofs.Xx
open Go Go.RowKit Go.Proofs
theorem Xh_none [Flag] (f : FuncId) (h1 : f ≠ 19) (h2 : f ≠ 203) (h3 : f ≠ 182) (h4 : f ≠ 222) (h5 : f ≠ 184) (h6 : f ≠ 194) (h7 : f ≠ 135) (h8 : f ≠ 187) (h9 : f ≠ 88) (us : List Value) (h : AH) : Xh f us h = none := by
  have e : ∀ n, f ≠ n → Nat.beq f n = false := fun n q => by rw [Bool.eq_false_iff]; intro q'; exact q (Nat.eq_of_beq_eq_true q')
  unfold Xh withDigits withKnown Xd withIns X0 withIdx withOvl withCmp withBytes externNoEscape
  simp only [e _ h1, e _ h2, e _ h3, e _ h4, e _ h5, e _ h6, e _ h7, e _ h8, e _ h9]
theorem max_there {W : World} (h : W.ShapedOpen Tryz.prog) : 1 < W.heap.size ∧ ∃ m el fr, W.heap[0]? = some (.cells #[.int .i64 m] el fr) := by
  have h0 : ((begin Tryz.prog (fun _ _ => 0) default).world.heap[0]?).bind Obj.row? = some (#[.int .i64 0], 3) := by kernel_rfl
  obtain ⟨m, hm⟩ := cell_of_shapedOpen_int h (g := 0) (t := 3) (of_decide_eq_true (by kernel_rfl)) h0 rfl (by kernel_rfl) (by kernel_rfl) Tryz.underlying3
  obtain ⟨cs, hh, hs, -⟩ := h.1 0 _ 3 (of_decide_eq_true (by kernel_rfl)) h0
  refine ⟨?_, m, 3, (0, 0), ?_⟩
  · have h1 : (((begin Tryz.prog (fun _ _ => 0) default).world.heap[1]?).bind Obj.row?).isSome = true := by kernel_rfl
    obtain ⟨⟨z, t⟩, h1⟩ := Option.isSome_iff_exists.1 h1
    obtain ⟨cs, hh, -⟩ := h.1 1 z t (of_decide_eq_true (by kernel_rfl)) h1
    exact (Array.getElem?_eq_some_iff.1 hh).1
  · rw [hh]
    have : cs = #[.int .i64 m] := by
      simp only [World.cell?, hh] at hm
      obtain ⟨l⟩ := cs
      match l, hs, hm with
      | [x], _, hm => simp at hm; rw [hm]
      | [], hs, _ => cases hs
      | _ :: _ :: _, hs, _ => simp at hs
    rw [this]
theorem cells_there {W : World} (h : W.ShapedOpen Tryz.prog) : ∃ (k : Nat) (cc : Array Value) (el : TypeId) (fr : Nat × Nat), W.heap[k]? = some (.cells cc el fr) := by
  obtain ⟨-, m, el, fr, q⟩ := max_there h
  exact ⟨0, _, el, fr, q⟩
theorem glob_there [Flag] (hf : Flag.b = false) {W : World} (h : W.ShapedOpen Tryz.prog) : Glob.ok W.heap.size W.heap :=
  ⟨(max_there h).1, (max_there h).2, fun q => (by rw [hf] at q; cases q)⟩
end Go.Proofs.Xx
