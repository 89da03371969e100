/-
  What is asked of two names.
-/
import Derived.Test.YtidmdnenlgjpeaaGreatDoorM14
import Derived.Test.YtidmdnenlgjpeaaGreatDoorM12
import Derived.Test.YtidmdnenlgjpeaaGreatDoorM13
import Derived.Test.YtidmdnenlgjpeaaGreatDoorM10
import Derived.Test.YtidmdnenlgjpeaaGreatDoorM9
import Derived.Test.YtidmdnenlgjpeaaGreatDoorM8
import Derived.Test.YtidmdnenlgjpeaaGreatDoorRows
import Derived.Lib.LaidTab
import Derived.Stop.LaidErr
import Derived.Shelf.Vars

namespace Go.Proofs.Xx
open Go Go.Proofs
set_option linter.unusedSimpArgs false
set_option linter.unusedVariables false
set_option linter.unusedSectionVars false
set_option maxRecDepth 100000
set_option maxHeartbeats 4000000

theorem K_assocR {P : Program} {X : Extern} {inR : Bool} {sz : Nat} {a b c d : Code} {L : Ks} {h : AH} {Q : KQ} (w : K P X inR sz a L h (thenK P X inR sz (.seq (.seq b c) d) Q)) : K P X inR sz a L h (thenK P X inR sz (.seq b (.seq c d)) Q) := w.mono fun x L' h' q => by
  cases x with
  | norm => exact K_assoc q
  | exit id => exact q
  | ret => exact q
variable [Flag]
theorem tiedV_ok {h0 : AH} (w : WfH h0) {p : Nat} {r : Rl} (B : BkRd h0 p r) (H : RO r) (a b : List UInt8) (v : Value) (hv : tkd (tieOf r.ts a b) = v) : Fn Tryz.prog Xh 36 [.pointer (some ⟨p, 0, none⟩), str a, str b] h0 (fun u h' => u = v ∧ Hs h0 h' []) := hv ▸ tiedF_ok w B H a b
theorem rtiedV_ok {h0 : AH} (w : WfH h0) (v : RlV) (r : Rl) (HR : RlOk h0 v r) (H : RO r) (a b : List UInt8) (v0 : Value) (hv : tkd (tieOf r.ts a b) = v0) : Fn Tryz.prog Xh 83 [v.val, str a, str b] h0 (fun u h' => u = v0 ∧ Hs h0 h' []) :=
  (rtied_ok w v r HR H a b).mono fun u h' q => by
    refine ⟨?_, q.2⟩
    rw [← hv]
    rcases q.1 with ⟨t, h1, h2⟩ | ⟨h1, h2⟩
    · rw [h1, h2]; rfl
    · rw [h1, h2]; rfl
theorem asks_ok {h0 : AH} (w : WfH h0) {p : Nat} {r : Rl} (B : BkRd h0 p r) (v : RlV) (HR : RlOk h0 v r) (H : RO r) (na nb : List UInt8) : Fn Tryz.prog Xh 34 [.pointer (some ⟨p, 0, none⟩), v.val, str na, str nb] h0 (fun u h' => u = .bool true ∧ Hs h0 h' []) := by
  have S := Hs.start w
  have hrg := HR.rg
  have hlg := HR.lg
  have hgl := HR.len
  have hnil := (Rd.none_ h0 1 : RdL h0 (.slice none 0 0) 1 eS [])
  unfold RlV.val
  refine Fn_K rfl Tryz.func34 rfl rfl ?_
  all_goals (repeat' (first | refine K_seq ?_ | refine k_cond rfl ?_ | refine K_skip ?_ | refine K_exit ?_ | refine k_block ?_ | refine K_scope ?_ | refine K_label ?_ | (refine K_region (id := 0) ?_; (refine bx S ?_; clear S; intro b h S); refine mv ?_; refine KO_nil ?_)))
  obtain ⟨b5, hnm⟩ : ∃ x, x = b := ⟨_, rfl⟩; subst hnm
  replace S : Hs h0 h (.blk b5 [v.vg.val, v.vt.val] 32 :: []) := S
  refine K_assocR ?_
  refine K_joinR (σ := Unit) (fun _ h' => Hs h0 h' [.blk b5 [v.vg.val, v.vt.val] 32]) (fun _ => [(0, .pointer (some ⟨p, 0, none⟩)), (2, str na), (3, str nb), (5, .pointer (some ⟨b5, 0, none⟩))]) ?_ ?_
  · all_goals (repeat' (first | refine K_seq ?_ | refine k_cond rfl ?_ | refine K_skip ?_ | refine K_exit ?_ | refine k_block ?_ | refine K_scope ?_ | refine K_label ?_ | (refine K_region (id := 1) ?_; refine mv ?_; refine mv ?_)))
    (refine KO_fn rfl rfl rfl rfl rfl ((find_ok S.wf (B.ext w S.ext) H na).mono ?_); rintro _ h (⟨i, tv, q1, rfl, x⟩ | ⟨q1, rfl, x⟩)) <;> ((first | replace S := S.join1 x | replace S := S.join0 x); clear x; refine mv ?_; refine vl ?_; refine vl ?_; (refine al S ?_; clear S; intro b h S); (first | (refine sB S rfl rfl ?_; clear S; intro h S) | (refine sE2 S rfl rfl ?_; clear S; intro h S)); refine mv ?_; refine KO_nil ?_)
    all_goals (all_goals (repeat' (first | refine K_seq ?_ | refine k_cond rfl ?_ | refine K_skip ?_ | refine K_exit ?_ | refine k_block ?_ | refine K_scope ?_ | refine K_label ?_ | (refine K_region (id := 1) ?_; refine mv ?_; refine mv ?_) | (refine K_region (id := 2) ?_; (first | refine vl ?_ | refine fB S ?_ | refine fS S rfl rfl ?_ | refine fA ?_); (first | refine lB S rfl rfl ?_ | refine lES2 S rfl rfl ?_ | refine lEB S ?_ | refine lH S ?_); refine mv ?_))))
    all_goals (obtain ⟨b9, hnm⟩ : ∃ x, x = b := ⟨_, rfl⟩; subst hnm)
    · obtain ⟨i1, i2, -⟩ := gat_some q1
      have t1 := (chkG_ok (H.chk _ (mem_getD i1))).2.2.2.1
      replace S : Hs h0 h (.blk b9 (eG ⟨r.us.getD i default, tv⟩) 24 :: .sl tv.val 9 1 eS (r.us.getD i default).tg :: .blk b5 [v.vg.val, v.vt.val] 32 :: []) := S
      (refine KO_fn rfl rfl rfl rfl rfl ((refAt_ok S.wf v.vg.val v.gs (hrg.ext w S.ext) (by omega) na).mono ?_); rintro _ h ⟨⟨j, j1, j2, rfl⟩ | ⟨j1, rfl⟩, x⟩) <;> (replace S := S.join0 x; clear x; refine mv ?_; refine KO_nil ?_)
      all_goals rw [HR.us, q1] at j1
      rotate_left
      · cases j1
      cases j1
      have gi : (v.gs.getD i default).toGu = r.us.getD i default := HR.at_ j2
      unfold eG at S
      all_goals (repeat' (first | refine K_seq ?_ | refine k_cond rfl ?_ | refine K_skip ?_ | refine K_exit ?_ | refine k_block ?_ | refine K_scope ?_ | refine K_label ?_ | (refine K_draw (id := 3) ?_; refine mv ?_; refine mv ?_; (first | refine cT ?_ | refine cF ?_ | (refine cS ?_ ?_ <;> intro hc)) <;> (refine vl ?_; refine mv ?_; (first | refine off ?_ | refine mv ?_); (first | refine off ?_ | refine mv ?_); (first | refine off ?_ | (first | refine lB S rfl rfl ?_ | refine lES2 S rfl rfl ?_ | refine lEB S ?_ | refine lH S ?_)); (first | refine off ?_ | (first | refine vl ?_ | refine fB S ?_ | refine fS S rfl rfl ?_ | refine fA ?_)); (first | refine off ?_ | (first | refine lB S rfl rfl ?_ | refine lES2 S rfl rfl ?_ | refine lEB S ?_ | refine lH S ?_)); (first | refine off ?_ | refine mv ?_); (first | refine off ?_ | (first | refine ixB S ?_ | refine ixS2 S rfl rfl ?_)); (first | refine off ?_ | (first | refine lB S rfl rfl ?_ | refine lES2 S rfl rfl ?_ | refine lEB S ?_ | refine lH S ?_)); (first | (refine off ?_; (first | refine off ?_ | refine vl ?_); (first | refine off ?_ | refine vl ?_); refine vl ?_; refine mv ?_; (first | refine off ?_ | refine mv ?_); (first | refine off ?_ | refine vl ?_); (first | refine off ?_ | refine mv ?_); (first | refine off ?_ | (first | refine lB S rfl rfl ?_ | refine lES2 S rfl rfl ?_ | refine lEB S ?_ | refine lH S ?_)); (first | refine off ?_ | refine vl ?_); (first | (refine off ?_; (first | refine off ?_ | refine vl ?_); (first | refine off ?_ | refine vl ?_); refine vl ?_; refine KO_nil ?_) | skip)) | skip)))))
      simp only [Int.toNat_natCast]
      (refine KO_fn rfl rfl rfl rfl rfl ((sameGuest_ok S.wf ⟨r.us.getD i default, tv⟩ (v.gs.getD i default) (Rd.of_sl S (.there .here)) ((HR.tg i j2).1.ext w S.ext) (Nat.le_trans t1 (by decide)) (HR.tg i j2).2).mono ?_); rintro _ h ⟨⟨rfl, z⟩ | ⟨rfl, z⟩, x⟩) <;> (replace S := S.join0 x; clear x; (first | refine off ?_ | refine vl ?_); (first | refine off ?_ | refine vl ?_); refine vl ?_; refine mv ?_; (first | refine off ?_ | refine mv ?_); (first | refine off ?_ | refine vl ?_); (first | refine off ?_ | refine mv ?_); (first | refine off ?_ | (first | refine lB S rfl rfl ?_ | refine lES2 S rfl rfl ?_ | refine lEB S ?_ | refine lH S ?_)); (first | refine off ?_ | refine vl ?_); (first | (refine off ?_; (first | refine off ?_ | refine vl ?_); (first | refine off ?_ | refine vl ?_); refine vl ?_; refine KO_nil ?_) | skip))
      · all_goals (repeat' (first | refine K_seq ?_ | refine k_cond rfl ?_ | refine K_skip ?_ | refine K_exit ?_ | refine k_block ?_ | refine K_scope ?_ | refine K_label ?_ | (refine K_draw (id := 3) ?_; refine mv ?_; refine mv ?_; (first | refine cT ?_ | refine cF ?_ | (refine cS ?_ ?_ <;> intro hc)) <;> (refine vl ?_; refine mv ?_; (first | refine off ?_ | refine mv ?_); (first | refine off ?_ | refine mv ?_); (first | refine off ?_ | (first | refine lB S rfl rfl ?_ | refine lES2 S rfl rfl ?_ | refine lEB S ?_ | refine lH S ?_)); (first | refine off ?_ | (first | refine vl ?_ | refine fB S ?_ | refine fS S rfl rfl ?_ | refine fA ?_)); (first | refine off ?_ | (first | refine lB S rfl rfl ?_ | refine lES2 S rfl rfl ?_ | refine lEB S ?_ | refine lH S ?_)); (first | refine off ?_ | refine mv ?_); (first | refine off ?_ | (first | refine ixB S ?_ | refine ixS2 S rfl rfl ?_)); (first | refine off ?_ | (first | refine lB S rfl rfl ?_ | refine lES2 S rfl rfl ?_ | refine lEB S ?_ | refine lH S ?_)); (first | (refine off ?_; (first | refine off ?_ | refine vl ?_); (first | refine off ?_ | refine vl ?_); refine vl ?_; refine mv ?_; (first | refine off ?_ | refine mv ?_); (first | refine off ?_ | refine vl ?_); (first | refine off ?_ | refine mv ?_); (first | refine off ?_ | (first | refine lB S rfl rfl ?_ | refine lES2 S rfl rfl ?_ | refine lEB S ?_ | refine lH S ?_)); (first | refine off ?_ | refine vl ?_); (first | (refine off ?_; (first | refine off ?_ | refine vl ?_); (first | refine off ?_ | refine vl ?_); refine vl ?_; refine KO_nil ?_) | skip)) | skip)))))
        exact ⟨(), S.only (.there (.there .here)), ((by repeat (first | exact Ks.le_nil _ | refine Ks.le_cons rfl ?_ | refine Ks.le_int ?_)))⟩
      · exact absurd gi.symm z
    · replace S : Hs h0 h (.blk b9 (eG ⟨default, ⟨none, 0, 0⟩⟩) 24 :: .blk b5 [v.vg.val, v.vt.val] 32 :: []) := S
      (refine KO_fn rfl rfl rfl rfl rfl ((refAt_ok S.wf v.vg.val v.gs (hrg.ext w S.ext) (by omega) na).mono ?_); rintro _ h ⟨⟨j, j1, j2, rfl⟩ | ⟨j1, rfl⟩, x⟩) <;> (replace S := S.join0 x; clear x; refine mv ?_; refine KO_nil ?_)
      all_goals rw [HR.us, q1] at j1
      · cases j1
      unfold eG at S
      skip
      all_goals (repeat' (first | refine K_seq ?_ | refine k_cond rfl ?_ | refine K_skip ?_ | refine K_exit ?_ | refine k_block ?_ | refine K_scope ?_ | refine K_label ?_ | (refine K_draw (id := 3) ?_; refine mv ?_; refine mv ?_; (first | refine cT ?_ | refine cF ?_ | (refine cS ?_ ?_ <;> intro hc)) <;> (refine vl ?_; refine mv ?_; (first | refine off ?_ | refine mv ?_); (first | refine off ?_ | refine mv ?_); (first | refine off ?_ | (first | refine lB S rfl rfl ?_ | refine lES2 S rfl rfl ?_ | refine lEB S ?_ | refine lH S ?_)); (first | refine off ?_ | (first | refine vl ?_ | refine fB S ?_ | refine fS S rfl rfl ?_ | refine fA ?_)); (first | refine off ?_ | (first | refine lB S rfl rfl ?_ | refine lES2 S rfl rfl ?_ | refine lEB S ?_ | refine lH S ?_)); (first | refine off ?_ | refine mv ?_); (first | refine off ?_ | (first | refine ixB S ?_ | refine ixS2 S rfl rfl ?_)); (first | refine off ?_ | (first | refine lB S rfl rfl ?_ | refine lES2 S rfl rfl ?_ | refine lEB S ?_ | refine lH S ?_)); (first | (refine off ?_; (first | refine off ?_ | refine vl ?_); (first | refine off ?_ | refine vl ?_); refine vl ?_; refine mv ?_; (first | refine off ?_ | refine mv ?_); (first | refine off ?_ | refine vl ?_); (first | refine off ?_ | refine mv ?_); (first | refine off ?_ | (first | refine lB S rfl rfl ?_ | refine lES2 S rfl rfl ?_ | refine lEB S ?_ | refine lH S ?_)); (first | refine off ?_ | refine vl ?_); (first | (refine off ?_; (first | refine off ?_ | refine vl ?_); (first | refine off ?_ | refine vl ?_); refine vl ?_; refine KO_nil ?_) | skip)) | skip)))))
      (refine KO_fn rfl rfl rfl rfl rfl ((sameGuest_ok S.wf ⟨default, ⟨none, 0, 0⟩⟩ ⟨default, ⟨none, 0, 0⟩⟩ (Rd.none_ h 1) (Rd.none_ h 1) (by decide) (by decide)).mono ?_); rintro _ h ⟨⟨rfl, z⟩ | ⟨rfl, z⟩, x⟩) <;> (replace S := S.join0 x; clear x; (first | refine off ?_ | refine vl ?_); (first | refine off ?_ | refine vl ?_); refine vl ?_; refine KO_nil ?_)
      · all_goals (repeat' (first | refine K_seq ?_ | refine k_cond rfl ?_ | refine K_skip ?_ | refine K_exit ?_ | refine k_block ?_ | refine K_scope ?_ | refine K_label ?_ | (refine K_draw (id := 3) ?_; refine mv ?_; refine mv ?_; (first | refine cT ?_ | refine cF ?_ | (refine cS ?_ ?_ <;> intro hc)) <;> (refine vl ?_; refine mv ?_; (first | refine off ?_ | refine mv ?_); (first | refine off ?_ | refine mv ?_); (first | refine off ?_ | (first | refine lB S rfl rfl ?_ | refine lES2 S rfl rfl ?_ | refine lEB S ?_ | refine lH S ?_)); (first | refine off ?_ | (first | refine vl ?_ | refine fB S ?_ | refine fS S rfl rfl ?_ | refine fA ?_)); (first | refine off ?_ | (first | refine lB S rfl rfl ?_ | refine lES2 S rfl rfl ?_ | refine lEB S ?_ | refine lH S ?_)); (first | refine off ?_ | refine mv ?_); (first | refine off ?_ | (first | refine ixB S ?_ | refine ixS2 S rfl rfl ?_)); (first | refine off ?_ | (first | refine lB S rfl rfl ?_ | refine lES2 S rfl rfl ?_ | refine lEB S ?_ | refine lH S ?_)); (first | (refine off ?_; (first | refine off ?_ | refine vl ?_); (first | refine off ?_ | refine vl ?_); refine vl ?_; refine mv ?_; (first | refine off ?_ | refine mv ?_); (first | refine off ?_ | refine vl ?_); (first | refine off ?_ | refine mv ?_); (first | refine off ?_ | (first | refine lB S rfl rfl ?_ | refine lES2 S rfl rfl ?_ | refine lEB S ?_ | refine lH S ?_)); (first | refine off ?_ | refine vl ?_); (first | (refine off ?_; (first | refine off ?_ | refine vl ?_); (first | refine off ?_ | refine vl ?_); refine vl ?_; refine KO_nil ?_) | skip)) | skip)))))
        exact ⟨(), S.only (.there .here), ((by repeat (first | exact Ks.le_nil _ | refine Ks.le_cons rfl ?_ | refine Ks.le_int ?_)))⟩
      · exact absurd rfl z
  clear S
  rintro - h S
  obtain ⟨K, bb, hk⟩ : ∃ (K : Int) (bb : Bool), tkd (tieOf r.ts na nb) = .tuple #[.int .u8 K, .bool bb] := by
    cases tieOf r.ts na nb with
    | none => exact ⟨0, false, rfl⟩
    | some t => exact ⟨t.k, true, rfl⟩
  skip
  all_goals (repeat' (first | refine K_seq ?_ | refine k_cond rfl ?_ | refine K_skip ?_ | refine K_exit ?_ | refine k_block ?_ | refine K_scope ?_ | refine K_label ?_ | (refine K_region (id := 5) ?_; refine mv ?_; refine mv ?_; refine mv ?_; skip)))
  (refine KO_fn rfl rfl rfl rfl rfl ((tiedV_ok S.wf (B.ext w S.ext) H na nb _ hk).mono ?_); rintro _ h ⟨rfl, x⟩) <;> (replace S := S.join0 x; clear x; refine mv ?_; refine vl ?_; refine vl ?_; refine mv ?_; refine mv ?_; refine KO_nil ?_)
  all_goals (repeat' (first | refine K_seq ?_ | refine k_cond rfl ?_ | refine K_skip ?_ | refine K_exit ?_ | refine k_block ?_ | refine K_scope ?_ | refine K_label ?_ | (refine K_region (id := 5) ?_; refine mv ?_; refine mv ?_; refine mv ?_; skip) | (refine K_region (id := 6) ?_; (first | refine lB S rfl rfl ?_ | refine lES2 S rfl rfl ?_ | refine lEB S ?_ | refine lH S ?_); refine mv ?_; refine mv ?_)))
  (refine KO_fn rfl rfl rfl rfl rfl ((rtiedV_ok S.wf v r (HR.ext w S.ext) H na nb _ hk).mono ?_); rintro _ h ⟨rfl, x⟩) <;> (replace S := S.join0 x; clear x; refine mv ?_; refine vl ?_; refine vl ?_; refine mv ?_; refine mv ?_; refine KO_nil ?_)
  all_goals (repeat' (first | refine K_seq ?_ | refine k_cond rfl ?_ | refine K_skip ?_ | refine K_exit ?_ | refine k_block ?_ | refine K_scope ?_ | refine K_label ?_ | (refine K_region (id := 6) ?_; (first | refine lB S rfl rfl ?_ | refine lES2 S rfl rfl ?_ | refine lEB S ?_ | refine lH S ?_); refine mv ?_; refine mv ?_)))
  (repeat (refine K_seq ?_)); first | refine K_joinR (σ := Unit) (fun _ h' => Hs h0 h' [.blk b5 [v.vg.val, v.vt.val] 32]) (fun _ => [(0, .pointer (some ⟨p, 0, none⟩)), (2, str na), (3, str nb), (5, .pointer (some ⟨b5, 0, none⟩))]) ?_ ?_ | refine K_join (σ := Unit) (fun _ h' => Hs h0 h' [.blk b5 [v.vg.val, v.vt.val] 32]) (fun _ => [(0, .pointer (some ⟨p, 0, none⟩)), (2, str na), (3, str nb), (5, .pointer (some ⟨b5, 0, none⟩))]) ?_ ?_
  · cases bb
    all_goals ((repeat (refine K_seq ?_)); refine K_drawX (id := 7) [(13, (0, 1))] [some (b5)] ?_; refine KX_cons ?_; (first | (refine mv ?_ <;> refine KO_nil ⟨⟨by (first | exact True.intro | exact Or.inl rfl | exact Or.inr rfl | exact Or.inr (congrArg some (blkOf_elA _ _ _ _)) | exact ⟨Or.inl rfl, rfl⟩ | exact ⟨Or.inr rfl, rfl⟩), rfl⟩, ?_⟩)); refine KX_cons ?_; (first | (refine mv ?_ <;> refine KO_nil ⟨⟨by (first | exact True.intro | exact Or.inl rfl | exact Or.inr rfl | exact Or.inr (congrArg some (blkOf_elA _ _ _ _)) | exact ⟨Or.inl rfl, rfl⟩ | exact ⟨Or.inr rfl, rfl⟩), rfl⟩, ?_⟩)); refine KX_cons ?_; (first | (refine cT ?_ <;> refine KO_nil ⟨⟨by (first | exact True.intro | exact Or.inl rfl | exact Or.inr rfl | exact Or.inr (congrArg some (blkOf_elA _ _ _ _)) | exact ⟨Or.inl rfl, rfl⟩ | exact ⟨Or.inr rfl, rfl⟩), rfl⟩, ?_⟩) | (refine cF ?_ <;> refine KO_nil ⟨⟨by (first | exact True.intro | exact Or.inl rfl | exact Or.inr rfl | exact Or.inr (congrArg some (blkOf_elA _ _ _ _)) | exact ⟨Or.inl rfl, rfl⟩ | exact ⟨Or.inr rfl, rfl⟩), rfl⟩, ?_⟩) | ((refine cS ?_ ?_ <;> intro hc) <;> refine KO_nil ⟨⟨by (first | exact True.intro | exact Or.inl rfl | exact Or.inr rfl | exact Or.inr (congrArg some (blkOf_elA _ _ _ _)) | exact ⟨Or.inl rfl, rfl⟩ | exact ⟨Or.inr rfl, rfl⟩), rfl⟩, ?_⟩)) <;> (refine KX_cons ?_; (first | (refine mv ?_ <;> refine KO_nil ⟨⟨by (first | exact True.intro | exact Or.inl rfl | exact Or.inr rfl | exact Or.inr (congrArg some (blkOf_elA _ _ _ _)) | exact ⟨Or.inl rfl, rfl⟩ | exact ⟨Or.inr rfl, rfl⟩), rfl⟩, ?_⟩)); refine KX_cons ?_; (first | (refine off ?_; refine KO_nil ⟨⟨by (first | exact True.intro | exact Or.inl rfl | exact Or.inr rfl | exact Or.inr (congrArg some (blkOf_elA _ _ _ _)) | exact ⟨Or.inl rfl, rfl⟩ | exact ⟨Or.inr rfl, rfl⟩), rfl⟩, ?_⟩) | (refine mv ?_ <;> refine KO_nil ⟨⟨by (first | exact True.intro | exact Or.inl rfl | exact Or.inr rfl | exact Or.inr (congrArg some (blkOf_elA _ _ _ _)) | exact ⟨Or.inl rfl, rfl⟩ | exact ⟨Or.inr rfl, rfl⟩), rfl⟩, ?_⟩)); refine KX_cons ?_; (first | (refine off ?_; refine KO_nil ⟨⟨by (first | exact True.intro | exact Or.inl rfl | exact Or.inr rfl | exact Or.inr (congrArg some (blkOf_elA _ _ _ _)) | exact ⟨Or.inl rfl, rfl⟩ | exact ⟨Or.inr rfl, rfl⟩), rfl⟩, ?_⟩) | (refine mv ?_ <;> refine KO_nil ⟨⟨by (first | exact True.intro | exact Or.inl rfl | exact Or.inr rfl | exact Or.inr (congrArg some (blkOf_elA _ _ _ _)) | exact ⟨Or.inl rfl, rfl⟩ | exact ⟨Or.inr rfl, rfl⟩), rfl⟩, ?_⟩)); refine KX_cons ?_; (first | (refine off ?_; refine KO_nil ⟨⟨by (first | exact True.intro | exact Or.inl rfl | exact Or.inr rfl | exact Or.inr (congrArg some (blkOf_elA _ _ _ _)) | exact ⟨Or.inl rfl, rfl⟩ | exact ⟨Or.inr rfl, rfl⟩), rfl⟩, ?_⟩) | (refine vl ?_ <;> refine KO_nil ⟨⟨by (first | exact True.intro | exact Or.inl rfl | exact Or.inr rfl | exact Or.inr (congrArg some (blkOf_elA _ _ _ _)) | exact ⟨Or.inl rfl, rfl⟩ | exact ⟨Or.inr rfl, rfl⟩), rfl⟩, ?_⟩)); refine KX_cons ?_; (first | (refine vl ?_ <;> refine KO_nil ⟨⟨by (first | exact True.intro | exact Or.inl rfl | exact Or.inr rfl | exact Or.inr (congrArg some (blkOf_elA _ _ _ _)) | exact ⟨Or.inl rfl, rfl⟩ | exact ⟨Or.inr rfl, rfl⟩), rfl⟩, ?_⟩)); refine KX_cons ?_; (first | (refine mv ?_ <;> refine KO_nil ⟨⟨by (first | exact True.intro | exact Or.inl rfl | exact Or.inr rfl | exact Or.inr (congrArg some (blkOf_elA _ _ _ _)) | exact ⟨Or.inl rfl, rfl⟩ | exact ⟨Or.inr rfl, rfl⟩), rfl⟩, ?_⟩)); refine KX_cons ?_; (first | (refine off ?_; refine KO_nil ⟨⟨by (first | exact True.intro | exact Or.inl rfl | exact Or.inr rfl | exact Or.inr (congrArg some (blkOf_elA _ _ _ _)) | exact ⟨Or.inl rfl, rfl⟩ | exact ⟨Or.inr rfl, rfl⟩), rfl⟩, ?_⟩) | (refine mv ?_ <;> refine KO_nil ⟨⟨by (first | exact True.intro | exact Or.inl rfl | exact Or.inr rfl | exact Or.inr (congrArg some (blkOf_elA _ _ _ _)) | exact ⟨Or.inl rfl, rfl⟩ | exact ⟨Or.inr rfl, rfl⟩), rfl⟩, ?_⟩)); refine KX_cons ?_; (first | (refine off ?_; refine KO_nil ⟨⟨by (first | exact True.intro | exact Or.inl rfl | exact Or.inr rfl | exact Or.inr (congrArg some (blkOf_elA _ _ _ _)) | exact ⟨Or.inl rfl, rfl⟩ | exact ⟨Or.inr rfl, rfl⟩), rfl⟩, ?_⟩) | (refine mv ?_ <;> refine KO_nil ⟨⟨by (first | exact True.intro | exact Or.inl rfl | exact Or.inr rfl | exact Or.inr (congrArg some (blkOf_elA _ _ _ _)) | exact ⟨Or.inl rfl, rfl⟩ | exact ⟨Or.inr rfl, rfl⟩), rfl⟩, ?_⟩)); refine KX_cons ?_; (first | (refine off ?_; refine KO_nil ⟨⟨by (first | exact True.intro | exact Or.inl rfl | exact Or.inr rfl | exact Or.inr (congrArg some (blkOf_elA _ _ _ _)) | exact ⟨Or.inl rfl, rfl⟩ | exact ⟨Or.inr rfl, rfl⟩), rfl⟩, ?_⟩) | (refine mv ?_ <;> refine KO_nil ⟨⟨by (first | exact True.intro | exact Or.inl rfl | exact Or.inr rfl | exact Or.inr (congrArg some (blkOf_elA _ _ _ _)) | exact ⟨Or.inl rfl, rfl⟩ | exact ⟨Or.inr rfl, rfl⟩), rfl⟩, ?_⟩)); (first | (refine KX_cons ?_; refine off ?_; refine KO_nil ⟨⟨True.intro, by show keepsX _ _ _ _ _; simp [keepsX]⟩, ?_⟩; refine KX_cons ?_; (first | (refine off ?_; refine KO_nil ⟨⟨by (first | exact True.intro | exact Or.inl rfl | exact Or.inr rfl | exact Or.inr (congrArg some (blkOf_elA _ _ _ _)) | exact ⟨Or.inl rfl, rfl⟩ | exact ⟨Or.inr rfl, rfl⟩), rfl⟩, ?_⟩) | (refine lB S rfl rfl ?_ <;> refine KO_nil ⟨⟨by (first | exact True.intro | exact Or.inl rfl | exact Or.inr rfl | exact Or.inr (congrArg some (blkOf_elA _ _ _ _)) | exact ⟨Or.inl rfl, rfl⟩ | exact ⟨Or.inr rfl, rfl⟩), rfl⟩, ?_⟩) | (refine lES2 S rfl rfl ?_ <;> refine KO_nil ⟨⟨by (first | exact True.intro | exact Or.inl rfl | exact Or.inr rfl | exact Or.inr (congrArg some (blkOf_elA _ _ _ _)) | exact ⟨Or.inl rfl, rfl⟩ | exact ⟨Or.inr rfl, rfl⟩), rfl⟩, ?_⟩) | (refine lEB S ?_ <;> refine KO_nil ⟨⟨by (first | exact True.intro | exact Or.inl rfl | exact Or.inr rfl | exact Or.inr (congrArg some (blkOf_elA _ _ _ _)) | exact ⟨Or.inl rfl, rfl⟩ | exact ⟨Or.inr rfl, rfl⟩), rfl⟩, ?_⟩) | (refine lH S ?_ <;> refine KO_nil ⟨⟨by (first | exact True.intro | exact Or.inl rfl | exact Or.inr rfl | exact Or.inr (congrArg some (blkOf_elA _ _ _ _)) | exact ⟨Or.inl rfl, rfl⟩ | exact ⟨Or.inr rfl, rfl⟩), rfl⟩, ?_⟩)); refine KX_cons ?_; (first | (refine off ?_; refine KO_nil ⟨⟨by (first | exact True.intro | exact Or.inl rfl | exact Or.inr rfl | exact Or.inr (congrArg some (blkOf_elA _ _ _ _)) | exact ⟨Or.inl rfl, rfl⟩ | exact ⟨Or.inr rfl, rfl⟩), rfl⟩, ?_⟩) | (refine mv ?_ <;> refine KO_nil ⟨⟨by (first | exact True.intro | exact Or.inl rfl | exact Or.inr rfl | exact Or.inr (congrArg some (blkOf_elA _ _ _ _)) | exact ⟨Or.inl rfl, rfl⟩ | exact ⟨Or.inr rfl, rfl⟩), rfl⟩, ?_⟩)); refine KX_cons ?_; (first | (refine off ?_; refine KO_nil ⟨⟨by (first | exact True.intro | exact Or.inl rfl | exact Or.inr rfl | exact Or.inr (congrArg some (blkOf_elA _ _ _ _)) | exact ⟨Or.inl rfl, rfl⟩ | exact ⟨Or.inr rfl, rfl⟩), rfl⟩, ?_⟩) | (refine mv ?_ <;> refine KO_nil ⟨⟨by (first | exact True.intro | exact Or.inl rfl | exact Or.inr rfl | exact Or.inr (congrArg some (blkOf_elA _ _ _ _)) | exact ⟨Or.inl rfl, rfl⟩ | exact ⟨Or.inr rfl, rfl⟩), rfl⟩, ?_⟩)); (first | (refine KX_cons ?_; refine off ?_; refine KO_nil ⟨⟨True.intro, by show keepsX _ _ _ _ _; simp [keepsX]⟩, ?_⟩; (first | (refine KX_cons ?_; refine off ?_; refine KO_nil ⟨⟨True.intro, by show keepsX _ _ _ _ _; simp [keepsX]⟩, ?_⟩; refine KX_cons ?_; (first | (refine off ?_; refine KO_nil ⟨⟨by (first | exact True.intro | exact Or.inl rfl | exact Or.inr rfl | exact Or.inr (congrArg some (blkOf_elA _ _ _ _)) | exact ⟨Or.inl rfl, rfl⟩ | exact ⟨Or.inr rfl, rfl⟩), rfl⟩, ?_⟩) | (refine vl ?_ <;> refine KO_nil ⟨⟨by (first | exact True.intro | exact Or.inl rfl | exact Or.inr rfl | exact Or.inr (congrArg some (blkOf_elA _ _ _ _)) | exact ⟨Or.inl rfl, rfl⟩ | exact ⟨Or.inr rfl, rfl⟩), rfl⟩, ?_⟩)); refine KX_cons ?_; (first | (refine vl ?_ <;> refine KO_nil ⟨⟨by (first | exact True.intro | exact Or.inl rfl | exact Or.inr rfl | exact Or.inr (congrArg some (blkOf_elA _ _ _ _)) | exact ⟨Or.inl rfl, rfl⟩ | exact ⟨Or.inr rfl, rfl⟩), rfl⟩, ?_⟩)); refine KX_nil ?_) | skip)) | skip)) | skip)))
    all_goals (((refine KX_cons ?_; first | refine KO_fn rfl rfl rfl rfl rfl ((common_ok S.wf (B.ext w S.ext) H na nb).mono ?_)); rintro uc h ⟨lc, x, c1, c2⟩) <;> ((refine KO_nil ⟨⟨True.intro, ?_⟩, ?_⟩; (focus ((show keepsX _ _ _ _ _; simp only [keepsX]; (repeat' (first | exact True.intro | refine And.intro ?_ ?_)); all_goals (intro hw; first | exact True.intro | exact rfl | exact x.ext.old _ S.bB | exact x.ext.old _ (S.bR (by first | omega | grind)) | exact x.ext.old _ (S.bX (by assumption) (by assumption) (by first | omega | grind)) | exact x.ext.old _ (S.bY (by assumption) (by assumption)) | (refine x.ext.old _ ?_; assumption) | exact absurd hw (by decide +kernel)))))); replace S := S.join1 x; clear x; refine KX_cons ?_; (first | (refine off ?_; refine KO_nil ⟨⟨by (first | exact True.intro | exact Or.inl rfl | exact Or.inr rfl | exact Or.inr (congrArg some (blkOf_elA _ _ _ _)) | exact ⟨Or.inl rfl, rfl⟩ | exact ⟨Or.inr rfl, rfl⟩), rfl⟩, ?_⟩) | (refine lB S rfl rfl ?_ <;> refine KO_nil ⟨⟨by (first | exact True.intro | exact Or.inl rfl | exact Or.inr rfl | exact Or.inr (congrArg some (blkOf_elA _ _ _ _)) | exact ⟨Or.inl rfl, rfl⟩ | exact ⟨Or.inr rfl, rfl⟩), rfl⟩, ?_⟩) | (refine lES2 S rfl rfl ?_ <;> refine KO_nil ⟨⟨by (first | exact True.intro | exact Or.inl rfl | exact Or.inr rfl | exact Or.inr (congrArg some (blkOf_elA _ _ _ _)) | exact ⟨Or.inl rfl, rfl⟩ | exact ⟨Or.inr rfl, rfl⟩), rfl⟩, ?_⟩) | (refine lEB S ?_ <;> refine KO_nil ⟨⟨by (first | exact True.intro | exact Or.inl rfl | exact Or.inr rfl | exact Or.inr (congrArg some (blkOf_elA _ _ _ _)) | exact ⟨Or.inl rfl, rfl⟩ | exact ⟨Or.inr rfl, rfl⟩), rfl⟩, ?_⟩) | (refine lH S ?_ <;> refine KO_nil ⟨⟨by (first | exact True.intro | exact Or.inl rfl | exact Or.inr rfl | exact Or.inr (congrArg some (blkOf_elA _ _ _ _)) | exact ⟨Or.inl rfl, rfl⟩ | exact ⟨Or.inr rfl, rfl⟩), rfl⟩, ?_⟩)); refine KX_cons ?_; (first | (refine off ?_; refine KO_nil ⟨⟨by (first | exact True.intro | exact Or.inl rfl | exact Or.inr rfl | exact Or.inr (congrArg some (blkOf_elA _ _ _ _)) | exact ⟨Or.inl rfl, rfl⟩ | exact ⟨Or.inr rfl, rfl⟩), rfl⟩, ?_⟩) | (refine mv ?_ <;> refine KO_nil ⟨⟨by (first | exact True.intro | exact Or.inl rfl | exact Or.inr rfl | exact Or.inr (congrArg some (blkOf_elA _ _ _ _)) | exact ⟨Or.inl rfl, rfl⟩ | exact ⟨Or.inr rfl, rfl⟩), rfl⟩, ?_⟩)); refine KX_cons ?_; (first | (refine off ?_; refine KO_nil ⟨⟨by (first | exact True.intro | exact Or.inl rfl | exact Or.inr rfl | exact Or.inr (congrArg some (blkOf_elA _ _ _ _)) | exact ⟨Or.inl rfl, rfl⟩ | exact ⟨Or.inr rfl, rfl⟩), rfl⟩, ?_⟩) | (refine mv ?_ <;> refine KO_nil ⟨⟨by (first | exact True.intro | exact Or.inl rfl | exact Or.inr rfl | exact Or.inr (congrArg some (blkOf_elA _ _ _ _)) | exact ⟨Or.inl rfl, rfl⟩ | exact ⟨Or.inr rfl, rfl⟩), rfl⟩, ?_⟩)); (first | (refine KX_cons ?_; refine off ?_; refine KO_nil ⟨⟨True.intro, by show keepsX _ _ _ _ _; simp [keepsX]⟩, ?_⟩; (first | (refine KX_cons ?_; refine off ?_; refine KO_nil ⟨⟨True.intro, by show keepsX _ _ _ _ _; simp [keepsX]⟩, ?_⟩; refine KX_cons ?_; (first | (refine off ?_; refine KO_nil ⟨⟨by (first | exact True.intro | exact Or.inl rfl | exact Or.inr rfl | exact Or.inr (congrArg some (blkOf_elA _ _ _ _)) | exact ⟨Or.inl rfl, rfl⟩ | exact ⟨Or.inr rfl, rfl⟩), rfl⟩, ?_⟩) | (refine vl ?_ <;> refine KO_nil ⟨⟨by (first | exact True.intro | exact Or.inl rfl | exact Or.inr rfl | exact Or.inr (congrArg some (blkOf_elA _ _ _ _)) | exact ⟨Or.inl rfl, rfl⟩ | exact ⟨Or.inr rfl, rfl⟩), rfl⟩, ?_⟩)); refine KX_cons ?_; (first | (refine vl ?_ <;> refine KO_nil ⟨⟨by (first | exact True.intro | exact Or.inl rfl | exact Or.inr rfl | exact Or.inr (congrArg some (blkOf_elA _ _ _ _)) | exact ⟨Or.inl rfl, rfl⟩ | exact ⟨Or.inr rfl, rfl⟩), rfl⟩, ?_⟩)); refine KX_nil ?_) | skip)) | skip)))
    all_goals (((refine KX_cons ?_; first | refine KO_fn rfl rfl rfl rfl rfl ((rcommon_ok S.wf v r (HR.ext w S.ext) H na nb).mono ?_)); rintro ud h ⟨ld, x, d1, d2⟩) <;> ((refine KO_nil ⟨⟨True.intro, ?_⟩, ?_⟩; (focus ((show keepsX _ _ _ _ _; simp only [keepsX]; (repeat' (first | exact True.intro | refine And.intro ?_ ?_)); all_goals (intro hw; first | exact True.intro | exact rfl | exact x.ext.old _ S.bB | exact x.ext.old _ (S.bR (by first | omega | grind)) | exact x.ext.old _ (S.bX (by assumption) (by assumption) (by first | omega | grind)) | exact x.ext.old _ (S.bY (by assumption) (by assumption)) | (refine x.ext.old _ ?_; assumption) | exact absurd hw (by decide +kernel)))))); replace S := S.join1 x; clear x; (first | (refine KX_cons ?_; refine off ?_; refine KO_nil ⟨⟨True.intro, by show keepsX _ _ _ _ _; simp [keepsX]⟩, ?_⟩; refine KX_cons ?_; (first | (refine off ?_; refine KO_nil ⟨⟨by (first | exact True.intro | exact Or.inl rfl | exact Or.inr rfl | exact Or.inr (congrArg some (blkOf_elA _ _ _ _)) | exact ⟨Or.inl rfl, rfl⟩ | exact ⟨Or.inr rfl, rfl⟩), rfl⟩, ?_⟩) | (refine vl ?_ <;> refine KO_nil ⟨⟨by (first | exact True.intro | exact Or.inl rfl | exact Or.inr rfl | exact Or.inr (congrArg some (blkOf_elA _ _ _ _)) | exact ⟨Or.inl rfl, rfl⟩ | exact ⟨Or.inr rfl, rfl⟩), rfl⟩, ?_⟩)); refine KX_cons ?_; (first | (refine vl ?_ <;> refine KO_nil ⟨⟨by (first | exact True.intro | exact Or.inl rfl | exact Or.inr rfl | exact Or.inr (congrArg some (blkOf_elA _ _ _ _)) | exact ⟨Or.inl rfl, rfl⟩ | exact ⟨Or.inr rfl, rfl⟩), rfl⟩, ?_⟩)); refine KX_nil ?_) | skip)))
    all_goals (((refine KX_cons ?_; first | refine KO_fn rfl rfl rfl rfl rfl ((sameWords_ok S.wf uc ud lc ld (Rd.of_sl S (.there .here)) (Rd.of_sl S .here) (Nat.le_trans c2 (by decide)) (Nat.le_trans d2 (by decide))).mono ?_)); rintro _ h ⟨⟨rfl, z⟩ | ⟨rfl, z⟩, x⟩) <;> ((refine KO_nil ⟨⟨True.intro, ?_⟩, ?_⟩; (focus ((show keepsX _ _ _ _ _; simp only [keepsX]; (repeat' (first | exact True.intro | refine And.intro ?_ ?_)); all_goals (intro hw; first | exact True.intro | exact rfl | exact x.ext.old _ S.bB | exact x.ext.old _ (S.bR (by first | omega | grind)) | exact x.ext.old _ (S.bX (by assumption) (by assumption) (by first | omega | grind)) | exact x.ext.old _ (S.bY (by assumption) (by assumption)) | (refine x.ext.old _ ?_; assumption) | exact absurd hw (by decide +kernel)))))); replace S := S.join0 x; clear x; refine KX_cons ?_; (first | (refine off ?_; refine KO_nil ⟨⟨by (first | exact True.intro | exact Or.inl rfl | exact Or.inr rfl | exact Or.inr (congrArg some (blkOf_elA _ _ _ _)) | exact ⟨Or.inl rfl, rfl⟩ | exact ⟨Or.inr rfl, rfl⟩), rfl⟩, ?_⟩) | (refine vl ?_ <;> refine KO_nil ⟨⟨by (first | exact True.intro | exact Or.inl rfl | exact Or.inr rfl | exact Or.inr (congrArg some (blkOf_elA _ _ _ _)) | exact ⟨Or.inl rfl, rfl⟩ | exact ⟨Or.inr rfl, rfl⟩), rfl⟩, ?_⟩)); refine KX_cons ?_; (first | (refine vl ?_ <;> refine KO_nil ⟨⟨by (first | exact True.intro | exact Or.inl rfl | exact Or.inr rfl | exact Or.inr (congrArg some (blkOf_elA _ _ _ _)) | exact ⟨Or.inl rfl, rfl⟩ | exact ⟨Or.inr rfl, rfl⟩), rfl⟩, ?_⟩)); refine KX_nil ?_))
    all_goals first | exact absurd (c1.trans d1.symm) z | skip
    all_goals (all_goals (repeat' (first | refine K_seq ?_ | refine k_cond rfl ?_ | refine K_skip ?_ | refine K_exit ?_ | refine k_block ?_ | refine K_scope ?_ | refine K_label ?_)))
    all_goals exact ⟨(), S.only (.there (.there .here)), ((by repeat (first | exact Ks.le_nil _ | refine Ks.le_cons rfl ?_ | refine Ks.le_int ?_)))⟩
  clear S
  rintro - h S
  skip
  all_goals (repeat' (first | refine K_seq ?_ | refine k_cond rfl ?_ | refine K_skip ?_ | refine K_exit ?_ | refine k_block ?_ | refine K_scope ?_ | refine K_label ?_ | (refine K_region (id := 9) ?_; refine mv ?_; refine KO_nil ?_)))
  refine k_loop (σ := Nat) (fun k h' => Hs h0 h' [.blk b5 [v.vg.val, v.vt.val] 32] ∧ k ≤ 4) (fun k => 4 - k) (fun k => [(0, .pointer (some ⟨p, 0, none⟩)), (2, str na), (3, str nb), (5, .pointer (some ⟨b5, 0, none⟩)), (15, .int .i64 k)]) 0 (by repeat (first | exact Ks.le_nil _ | refine Ks.le_cons rfl ?_ | refine Ks.le_int ?_)) ?_ ?_
  · exact ⟨S, by omega⟩
  clear S
  rintro k h ⟨S, k1⟩
  all_goals (repeat' (first | refine K_seq ?_ | refine k_cond rfl ?_ | refine K_skip ?_ | refine K_exit ?_ | refine k_block ?_ | refine K_scope ?_ | refine K_label ?_ | (refine K_region (id := 10) ?_; refine mv ?_; (first | refine cT ?_ | refine cF ?_ | (refine cS ?_ ?_ <;> intro hc)) <;> (refine KO_nil ?_))))
  · have hk4 : k < 4 := by omega
    (repeat (refine K_seq ?_)); refine K_drawX (id := 12) [(5, (0, 1)), (8, (0, 1))] [some (b5), none] ?_; refine KX_cons ?_; (first | (refine mv ?_ <;> refine KO_nil ⟨⟨by (first | exact True.intro | exact Or.inl rfl | exact Or.inr rfl | exact Or.inr (congrArg some (blkOf_elA _ _ _ _)) | exact ⟨Or.inl rfl, rfl⟩ | exact ⟨Or.inr rfl, rfl⟩), rfl⟩, ?_⟩)); refine KX_cons ?_; (first | (refine mv ?_ <;> refine KO_nil ⟨⟨by (first | exact True.intro | exact Or.inl rfl | exact Or.inr rfl | exact Or.inr (congrArg some (blkOf_elA _ _ _ _)) | exact ⟨Or.inl rfl, rfl⟩ | exact ⟨Or.inr rfl, rfl⟩), rfl⟩, ?_⟩)); refine KX_cons ?_; (first | (refine mv ?_ <;> refine KO_nil ⟨⟨by (first | exact True.intro | exact Or.inl rfl | exact Or.inr rfl | exact Or.inr (congrArg some (blkOf_elA _ _ _ _)) | exact ⟨Or.inl rfl, rfl⟩ | exact ⟨Or.inr rfl, rfl⟩), rfl⟩, ?_⟩)); refine KX_cons ?_; (first | (refine cU ?_ <;> refine KO_nil ⟨⟨by (first | exact True.intro | exact Or.inl rfl | exact Or.inr rfl | exact Or.inr (congrArg some (blkOf_elA _ _ _ _)) | exact ⟨Or.inl rfl, rfl⟩ | exact ⟨Or.inr rfl, rfl⟩), rfl⟩, ?_⟩) | (refine vl ?_ <;> refine KO_nil ⟨⟨by (first | exact True.intro | exact Or.inl rfl | exact Or.inr rfl | exact Or.inr (congrArg some (blkOf_elA _ _ _ _)) | exact ⟨Or.inl rfl, rfl⟩ | exact ⟨Or.inr rfl, rfl⟩), rfl⟩, ?_⟩))
    ((refine KX_cons ?_; first | refine KO_fn rfl rfl rfl rfl rfl ((with_ok S.wf (B.ext w S.ext) H na (k : Int)).mono ?_)); rintro ua h ⟨l1, x, a1, a2, a3⟩) <;> ((refine KO_nil ⟨⟨True.intro, ?_⟩, ?_⟩; (focus ((show keepsX _ _ _ _ _; simp only [keepsX]; (repeat' (first | exact True.intro | refine And.intro ?_ ?_)); all_goals (intro hw; first | exact True.intro | exact rfl | exact x.ext.old _ S.bB | exact x.ext.old _ (S.bR (by first | omega | grind)) | exact x.ext.old _ (S.bX (by assumption) (by assumption) (by first | omega | grind)) | exact x.ext.old _ (S.bY (by assumption) (by assumption)) | (refine x.ext.old _ ?_; assumption) | exact absurd hw (by decide +kernel)))))); replace S := S.join1 x; clear x; refine KX_cons ?_; (first | (refine lB S rfl rfl ?_ <;> refine KO_nil ⟨⟨by (first | exact True.intro | exact Or.inl rfl | exact Or.inr rfl | exact Or.inr (congrArg some (blkOf_elA _ _ _ _)) | exact ⟨Or.inl rfl, rfl⟩ | exact ⟨Or.inr rfl, rfl⟩), rfl⟩, ?_⟩) | (refine lES2 S rfl rfl ?_ <;> refine KO_nil ⟨⟨by (first | exact True.intro | exact Or.inl rfl | exact Or.inr rfl | exact Or.inr (congrArg some (blkOf_elA _ _ _ _)) | exact ⟨Or.inl rfl, rfl⟩ | exact ⟨Or.inr rfl, rfl⟩), rfl⟩, ?_⟩) | (refine lEB S ?_ <;> refine KO_nil ⟨⟨by (first | exact True.intro | exact Or.inl rfl | exact Or.inr rfl | exact Or.inr (congrArg some (blkOf_elA _ _ _ _)) | exact ⟨Or.inl rfl, rfl⟩ | exact ⟨Or.inr rfl, rfl⟩), rfl⟩, ?_⟩) | (refine lH S ?_ <;> refine KO_nil ⟨⟨by (first | exact True.intro | exact Or.inl rfl | exact Or.inr rfl | exact Or.inr (congrArg some (blkOf_elA _ _ _ _)) | exact ⟨Or.inl rfl, rfl⟩ | exact ⟨Or.inr rfl, rfl⟩), rfl⟩, ?_⟩)); refine KX_cons ?_; (first | (refine mv ?_ <;> refine KO_nil ⟨⟨by (first | exact True.intro | exact Or.inl rfl | exact Or.inr rfl | exact Or.inr (congrArg some (blkOf_elA _ _ _ _)) | exact ⟨Or.inl rfl, rfl⟩ | exact ⟨Or.inr rfl, rfl⟩), rfl⟩, ?_⟩)); refine KX_cons ?_; (first | (refine mv ?_ <;> refine KO_nil ⟨⟨by (first | exact True.intro | exact Or.inl rfl | exact Or.inr rfl | exact Or.inr (congrArg some (blkOf_elA _ _ _ _)) | exact ⟨Or.inl rfl, rfl⟩ | exact ⟨Or.inr rfl, rfl⟩), rfl⟩, ?_⟩)); refine KX_cons ?_; (first | (refine cU ?_ <;> refine KO_nil ⟨⟨by (first | exact True.intro | exact Or.inl rfl | exact Or.inr rfl | exact Or.inr (congrArg some (blkOf_elA _ _ _ _)) | exact ⟨Or.inl rfl, rfl⟩ | exact ⟨Or.inr rfl, rfl⟩), rfl⟩, ?_⟩) | (refine vl ?_ <;> refine KO_nil ⟨⟨by (first | exact True.intro | exact Or.inl rfl | exact Or.inr rfl | exact Or.inr (congrArg some (blkOf_elA _ _ _ _)) | exact ⟨Or.inl rfl, rfl⟩ | exact ⟨Or.inr rfl, rfl⟩), rfl⟩, ?_⟩)))
    ((refine KX_cons ?_; first | refine KO_fn rfl rfl rfl rfl rfl ((rwith_ok S.wf v r (HR.ext w S.ext) H na (k : Int)).mono ?_)); rintro ub h ⟨l2, x, b1, b2, b3⟩) <;> ((refine KO_nil ⟨⟨True.intro, ?_⟩, ?_⟩; (focus ((show keepsX _ _ _ _ _; simp only [keepsX]; (repeat' (first | exact True.intro | refine And.intro ?_ ?_)); all_goals (intro hw; first | exact True.intro | exact rfl | exact x.ext.old _ S.bB | exact x.ext.old _ (S.bR (by first | omega | grind)) | exact x.ext.old _ (S.bX (by assumption) (by assumption) (by first | omega | grind)) | exact x.ext.old _ (S.bY (by assumption) (by assumption)) | (refine x.ext.old _ ?_; assumption) | exact absurd hw (by decide +kernel)))))); replace S := S.join1 x; clear x)
    ((refine KX_cons ?_; first | refine KO_fn rfl rfl rfl rfl rfl ((sameWords_ok S.wf ua ub l1 l2 (Rd.of_sl S (.there .here)) (Rd.of_sl S .here) (Nat.le_trans a3 (by decide)) (Nat.le_trans b3 (by decide))).mono ?_)); rintro _ h ⟨⟨rfl, z⟩ | ⟨rfl, z⟩, x⟩) <;> ((refine KO_nil ⟨⟨True.intro, ?_⟩, ?_⟩; (focus ((show keepsX _ _ _ _ _; simp only [keepsX]; (repeat' (first | exact True.intro | refine And.intro ?_ ?_)); all_goals (intro hw; first | exact True.intro | exact rfl | exact x.ext.old _ S.bB | exact x.ext.old _ (S.bR (by first | omega | grind)) | exact x.ext.old _ (S.bX (by assumption) (by assumption) (by first | omega | grind)) | exact x.ext.old _ (S.bY (by assumption) (by assumption)) | (refine x.ext.old _ ?_; assumption) | exact absurd hw (by decide +kernel)))))); replace S := S.join0 x; clear x; refine KX_cons ?_; (first | (refine vl ?_ <;> refine KO_nil ⟨⟨by (first | exact True.intro | exact Or.inl rfl | exact Or.inr rfl | exact Or.inr (congrArg some (blkOf_elA _ _ _ _)) | exact ⟨Or.inl rfl, rfl⟩ | exact ⟨Or.inr rfl, rfl⟩), rfl⟩, ?_⟩)); refine KX_nil ?_)
    · all_goals (repeat' (first | refine K_seq ?_ | refine k_cond rfl ?_ | refine K_skip ?_ | refine K_exit ?_ | refine k_block ?_ | refine K_scope ?_ | refine K_label ?_ | (refine K_region (id := 11) ?_; refine mv ?_; (first | refine ad ?_ | refine vl ?_); refine mv ?_; refine KO_nil ?_)))
      refine ⟨k + 1, ?_, ?_, (by repeat (first | exact Ks.le_nil _ | refine Ks.le_cons rfl ?_ | refine Ks.le_int ?_))⟩
      · show 4 - (k + 1) < 4 - k; omega
      · exact ⟨S.only (.there (.there .here)), by omega⟩
    · exact absurd (SS.eq a1 b1 fun x => (a2 x).trans (b2 x).symm) z
  · skip
    all_goals (repeat' (first | refine K_seq ?_ | refine k_cond rfl ?_ | refine K_skip ?_ | refine K_exit ?_ | refine k_block ?_ | refine K_scope ?_ | refine K_label ?_ | (refine K_region (id := 14) ?_; refine mv ?_; refine mv ?_; refine mv ?_; skip)))
    (refine KO_fn rfl rfl rfl rfl rfl ((chain_ok S.wf (B.ext w S.ext) H na nb).mono ?_); rintro _ h (⟨vc, P, rfl, x, ka, kb, C, hl⟩ | ⟨rfl, hn, x⟩)) <;> ((first | replace S := S.join1 x | replace S := S.join0 x); clear x; refine mv ?_; refine vl ?_; refine vl ?_; refine mv ?_; refine mv ?_; refine KO_nil ?_)
    all_goals (all_goals (repeat' (first | refine K_seq ?_ | refine k_cond rfl ?_ | refine K_skip ?_ | refine K_exit ?_ | refine k_block ?_ | refine K_scope ?_ | refine K_label ?_ | (refine K_region (id := 14) ?_; refine mv ?_; refine mv ?_; refine mv ?_; skip) | (refine K_region (id := 15) ?_; (first | refine lB S rfl rfl ?_ | refine lES2 S rfl rfl ?_ | refine lEB S ?_ | refine lH S ?_); refine mv ?_; refine mv ?_))))
    · (refine KO_fn rfl rfl rfl rfl rfl ((rchain_ok S.wf v r (HR.ext w S.ext) H na nb).mono ?_); rintro _ h (⟨vd, P2, rfl, x, ka2, kb2, C2, hl2⟩ | ⟨rfl, hn, x⟩)) <;> ((first | replace S := S.join1 x | replace S := S.join0 x); clear x; refine mv ?_; refine vl ?_; refine vl ?_; refine mv ?_; refine mv ?_; refine KO_nil ?_)
      · obtain rfl := C.uniq C2
        all_goals (repeat' (first | refine K_seq ?_ | refine k_cond rfl ?_ | refine K_skip ?_ | refine K_exit ?_ | refine k_block ?_ | refine K_scope ?_ | refine K_label ?_ | (refine K_region (id := 15) ?_; (first | refine lB S rfl rfl ?_ | refine lES2 S rfl rfl ?_ | refine lEB S ?_ | refine lH S ?_); refine mv ?_; refine mv ?_) | (refine K_region (id := 16) ?_; refine mv ?_; refine mv ?_; (first | refine bT ?_ | refine vl ?_); refine mv ?_; (first | refine off ?_ | refine mv ?_); (first | refine off ?_ | refine mv ?_); (first | (refine off ?_; refine vl ?_; refine mv ?_; refine KO_nil ?_) | skip))))
        (refine KO_fn rfl rfl rfl rfl rfl ((sameWords_ok S.wf vc vd P P (Rd.of_sl S (.there .here)) (Rd.of_sl S .here) (Nat.le_trans hl (by decide)) (Nat.le_trans hl (by decide))).mono ?_); rintro _ h ⟨⟨rfl, z⟩ | ⟨rfl, z⟩, x⟩) <;> (replace S := S.join0 x; clear x; refine vl ?_; refine mv ?_; refine KO_nil ?_)
        · all_goals (repeat' (first | refine K_seq ?_ | refine k_cond rfl ?_ | refine K_skip ?_ | refine K_exit ?_ | refine k_block ?_ | refine K_scope ?_ | refine K_label ?_ | (refine K_region (id := 14) ?_; refine mv ?_; refine mv ?_; refine mv ?_; skip) | (refine K_region (id := 15) ?_; (first | refine lB S rfl rfl ?_ | refine lES2 S rfl rfl ?_ | refine lEB S ?_ | refine lH S ?_); refine mv ?_; refine mv ?_) | (refine K_region (id := 16) ?_; refine mv ?_; refine mv ?_; (first | refine bT ?_ | refine vl ?_); refine mv ?_; (first | refine off ?_ | refine mv ?_); (first | refine off ?_ | refine mv ?_); (first | (refine off ?_; refine vl ?_; refine mv ?_; refine KO_nil ?_) | skip))))
          refine K_ret ⟨_, rfl, ?_⟩
          exact ⟨rfl, S.drop⟩
        · exact absurd rfl z
      · exact absurd C.pth (hn ka kb P)
    · (refine KO_fn rfl rfl rfl rfl rfl ((rchain_ok S.wf v r (HR.ext w S.ext) H na nb).mono ?_); rintro _ h (⟨vd, P2, rfl, x, ka2, kb2, C2, hl2⟩ | ⟨rfl, hn2, x⟩)) <;> ((first | replace S := S.join1 x | replace S := S.join0 x); clear x; refine mv ?_; refine vl ?_; refine vl ?_; refine mv ?_; refine mv ?_; refine KO_nil ?_)
      · exact absurd C2.pth (hn ka2 kb2 P2)
      · skip
        all_goals (repeat' (first | refine K_seq ?_ | refine k_cond rfl ?_ | refine K_skip ?_ | refine K_exit ?_ | refine k_block ?_ | refine K_scope ?_ | refine K_label ?_ | (refine K_region (id := 15) ?_; (first | refine lB S rfl rfl ?_ | refine lES2 S rfl rfl ?_ | refine lEB S ?_ | refine lH S ?_); refine mv ?_; refine mv ?_) | (refine K_region (id := 16) ?_; refine mv ?_; refine mv ?_; (first | refine bT ?_ | refine vl ?_); refine mv ?_; (first | refine off ?_ | refine mv ?_); (first | refine off ?_ | refine mv ?_); (first | (refine off ?_; refine vl ?_; refine mv ?_; refine KO_nil ?_) | skip))))
        (refine KO_fn rfl rfl rfl rfl rfl ((sameWords_ok S.wf (.slice none 0 0) (.slice none 0 0) [] [] (Rd.none_ h 1) (Rd.none_ h 1) (by decide) (by decide)).mono ?_); rintro _ h ⟨⟨rfl, z⟩ | ⟨rfl, z⟩, x⟩) <;> (replace S := S.join0 x; clear x; refine vl ?_; refine mv ?_; refine KO_nil ?_)
        · all_goals (repeat' (first | refine K_seq ?_ | refine k_cond rfl ?_ | refine K_skip ?_ | refine K_exit ?_ | refine k_block ?_ | refine K_scope ?_ | refine K_label ?_ | (refine K_region (id := 15) ?_; (first | refine lB S rfl rfl ?_ | refine lES2 S rfl rfl ?_ | refine lEB S ?_ | refine lH S ?_); refine mv ?_; refine mv ?_)))
          refine K_ret ⟨_, rfl, ?_⟩
          exact ⟨rfl, S.drop⟩
        · exact absurd rfl z
end Go.Proofs.Xx

/-
  The reference's check of a roll.
-/
namespace Go.Proofs.Xx
open Go Go.Proofs
set_option linter.unusedSimpArgs false
set_option linter.unusedVariables false
set_option linter.unusedSectionVars false
set_option maxRecDepth 100000
set_option maxHeartbeats 4000000

theorem tE0_23 {r : Rl} {i : Nat} (h : ¬ ((r.ts.getD i default).k = 1 ∨ (r.ts.getD i default).k = 2) ∨ ¬ sLt (r.ts.getD i default).a (r.ts.getD i default).b ∨ (0 < i ∧ bef (r.ts.getD i default) (r.ts.getD (i - 1) default))) : tE0 r i = 23 := by
  unfold tE0
  split
  · rename_i q
    rcases h with h | h | h
    · unfold tieF
      rw [if_pos (.inl (by omega))]
    · exact absurd q.1 h
    · rcases q.2 with z | z
      · omega
      · exact absurd h.2 z
  · rfl
/-- A tie that is well formed and in its place. -/
structure TGd (r : Rl) (i : Nat) : Prop where
  k : (r.ts.getD i default).k = 1 ∨ (r.ts.getD i default).k = 2
  lt : sLt (r.ts.getD i default).a (r.ts.getD i default).b
  pl : i = 0 ∨ ¬ bef (r.ts.getD i default) (r.ts.getD (i - 1) default)
theorem TGd.eq {r : Rl} {i : Nat} (g : TGd r i) : tE0 r i = (tieF ⟨r.us, r.ts.take i⟩ (r.ts.getD i default).a (r.ts.getD i default).b (r.ts.getD i default).k).2 := by
  unfold tE0; rw [if_pos ⟨g.lt, g.pl⟩]
theorem TGd.nk {r : Rl} {i : Nat} (g : TGd r i) : ¬ (((r.ts.getD i default).k ≠ 1 ∧ (r.ts.getD i default).k ≠ 2) ∨ (r.ts.getD i default).a = (r.ts.getD i default).b) := by
  rintro (q | q)
  · have := g.k; omega
  · exact sLt_ne g.lt q
theorem TGd.e6 {r : Rl} {i : Nat} (g : TGd r i) (h : gat r.us (r.ts.getD i default).a = none ∨ gat r.us (r.ts.getD i default).b = none) : tE0 r i = 6 := by
  rw [g.eq, tieF_6 (r := ⟨r.us, r.ts.take i⟩) g.nk h]
theorem TGd.tied {r : Rl} {i : Nat} (g : TGd r i) (hi : i < r.ts.length) (hp : TS (r.ts.take i)) : tied (r.ts.take i) (r.ts.getD i default).a (r.ts.getD i default).b ↔ (0 < i ∧ ¬ bef (r.ts.getD (i - 1) default) (r.ts.getD i default)) := by
  unfold Xx.tied
  rw [sMin_lt g.lt, sMax_lt g.lt]
  have hl : (r.ts.take i).length = i := by simp; omega
  constructor
  · rintro ⟨t, h1, h2, h3⟩
    obtain ⟨j, j1, j2⟩ := mem_iff_getD.1 h1
    rw [hl] at j1
    rw [getD_take j1] at j2
    refine ⟨by omega, fun q => ?_⟩
    have hb : bef t (r.ts.getD i default) := by
      rcases Nat.eq_or_lt_of_le (show j ≤ i - 1 by omega) with e | e
      · rw [← j2, e]; exact q
      · have := hp.lt e (by rw [hl]; omega)
        rw [getD_take j1, getD_take (by omega), j2] at this
        exact bef_trans this q
    rcases hb with q | q
    · rw [h2] at q; exact sLt_irr _ q
    · rw [h3] at q; exact sLt_irr _ q.2
  · rintro ⟨h0, h1⟩
    rcases bef_tri (r.ts.getD (i - 1) default) (r.ts.getD i default) with q | q | q
    · exact absurd q h1
    · refine ⟨r.ts.getD (i - 1) default, ?_, q⟩
      have := mem_getD (l := r.ts.take i) (i := i - 1) (by rw [hl]; omega)
      rwa [getD_take (by omega)] at this
    · exact absurd q (g.pl.resolve_left (by omega))
theorem TGd.e5 {r : Rl} {i : Nat} (g : TGd r i) (hi : i < r.ts.length) (hp : TS (r.ts.take i)) (h : ¬ (gat r.us (r.ts.getD i default).a = none ∨ gat r.us (r.ts.getD i default).b = none)) (hb : 0 < i ∧ ¬ bef (r.ts.getD (i - 1) default) (r.ts.getD i default)) : tE0 r i = 5 := by
  rw [g.eq, tieF_5 (r := ⟨r.us, r.ts.take i⟩) g.nk h ((g.tied hi hp).2 hb)]
theorem TGd.e7 {r : Rl} {i : Nat} (g : TGd r i) (hi : i < r.ts.length) (hp : TS (r.ts.take i)) (h : ¬ (gat r.us (r.ts.getD i default).a = none ∨ gat r.us (r.ts.getD i default).b = none)) (hb : ¬ (0 < i ∧ ¬ bef (r.ts.getD (i - 1) default) (r.ts.getD i default))) (h7 : 256 ≤ i) : tE0 r i = 7 := by
  rw [g.eq, tieF_7 (r := ⟨r.us, r.ts.take i⟩) g.nk h (fun q => hb ((g.tied hi hp).1 q)) (by simp; omega)]
theorem TGd.e0 {r : Rl} {i : Nat} (g : TGd r i) (hi : i < r.ts.length) (hp : TS (r.ts.take i)) (h : ¬ (gat r.us (r.ts.getD i default).a = none ∨ gat r.us (r.ts.getD i default).b = none)) (hb : ¬ (0 < i ∧ ¬ bef (r.ts.getD (i - 1) default) (r.ts.getD i default))) (h7 : ¬ 256 ≤ i) : tE0 r i = 0 := by
  rw [g.eq, tieF_0 (r := ⟨r.us, r.ts.take i⟩) g.nk h (fun q => hb ((g.tied hi hp).1 q)) (by simp; omega)]
variable [Flag]
theorem before_ok {h0 : AH} (w : WfH h0) (x y : Ti) : Fn Tryz.prog Xh 81 [tiV x, tiV y] h0 (fun u h' => BoolIs u (bef x y) ∧ Hs h0 h' []) := by
  have S := Hs.start w
  unfold tiV
  refine Fn_K rfl Tryz.func81 rfl rfl ?_
  all_goals (repeat' (first | refine K_seq ?_ | refine k_cond rfl ?_ | refine K_skip ?_ | refine K_exit ?_ | refine k_block ?_ | refine K_scope ?_ | refine K_label ?_ | (refine K_region (id := 0) ?_; (refine bx S ?_; clear S; intro b h S); (refine bx S ?_; clear S; intro b h S); refine mv ?_; refine KO_nil ?_) | (refine K_region (id := 1) ?_; (first | refine vl ?_ | refine fB S ?_ | refine fS S rfl rfl ?_ | refine fA ?_); (first | refine lB S rfl rfl ?_ | refine lES2 S rfl rfl ?_ | refine lEB S ?_ | refine lH S ?_); (first | refine vl ?_ | refine fB S ?_ | refine fS S rfl rfl ?_ | refine fA ?_); (first | refine lB S rfl rfl ?_ | refine lES2 S rfl rfl ?_ | refine lEB S ?_ | refine lH S ?_); (refine tO ?_ ?_ <;> intro hc) <;> (refine mv ?_; (first | refine off ?_ | (first | refine vl ?_ | refine fB S ?_ | refine fS S rfl rfl ?_ | refine fA ?_)); (first | refine off ?_ | (first | refine lB S rfl rfl ?_ | refine lES2 S rfl rfl ?_ | refine lEB S ?_ | refine lH S ?_)); (first | refine off ?_ | (first | refine vl ?_ | refine fB S ?_ | refine fS S rfl rfl ?_ | refine fA ?_)); (first | refine off ?_ | (first | refine lB S rfl rfl ?_ | refine lES2 S rfl rfl ?_ | refine lEB S ?_ | refine lH S ?_)); (first | refine off ?_ | (refine tS ?_ ?_ <;> intro hc)) <;> ((first | refine off ?_ | refine mv ?_); (first | refine off ?_ | (first | refine vl ?_ | refine fB S ?_ | refine fS S rfl rfl ?_ | refine fA ?_)); (first | refine off ?_ | (first | refine lB S rfl rfl ?_ | refine lES2 S rfl rfl ?_ | refine lEB S ?_ | refine lH S ?_)); (first | refine off ?_ | (first | refine vl ?_ | refine fB S ?_ | refine fS S rfl rfl ?_ | refine fA ?_)); (first | refine off ?_ | (first | refine lB S rfl rfl ?_ | refine lES2 S rfl rfl ?_ | refine lEB S ?_ | refine lH S ?_)); (first | refine off ?_ | (refine tO ?_ ?_ <;> intro hc)) <;> ((first | refine off ?_ | refine vl ?_); refine vl ?_; refine mv ?_; refine KO_nil ?_))))))
  all_goals (refine K_ret ⟨_, rfl, ?_⟩)
  all_goals first
    | exact ⟨.inl ⟨rfl, by unfold bef; grind⟩, S.drop⟩
    | exact ⟨.inr ⟨rfl, by unfold bef; grind⟩, S.drop⟩
theorem brief_ok {h0 : AH} (w : WfH h0) (v : RlV) (r : Rl) (HR : RlOk h0 v r) : Fn Tryz.prog Xh 31 [v.val] h0 (fun u h' => BoolIs u (r.us.length ≤ 200 ∧ r.ts.length ≤ 600) ∧ Hs h0 h' []) := by
  have S := Hs.start w
  have hrg := HR.rg
  have hrt := HR.rt
  have hgl := HR.len
  have hlg := HR.lg
  have hlt := HR.lt
  unfold RlV.val
  refine Fn_K rfl Tryz.func31 rfl rfl ?_
  all_goals (repeat' (first | refine K_seq ?_ | refine k_cond rfl ?_ | refine K_skip ?_ | refine K_exit ?_ | refine k_block ?_ | refine K_scope ?_ | refine K_label ?_ | (refine K_region (id := 0) ?_; (refine bx S ?_; clear S; intro b h S); refine mv ?_; refine KO_nil ?_) | (refine K_region (id := 1) ?_; (first | refine vl ?_ | refine fB S ?_ | refine fS S rfl rfl ?_ | refine fA ?_); (first | refine lB S rfl rfl ?_ | refine lES2 S rfl rfl ?_ | refine lEB S ?_ | refine lH S ?_); (first | refine lnB S ?_ | refine lnS S rfl rfl ?_); (first | refine cT ?_ | refine cF ?_ | (refine cS ?_ ?_ <;> intro hc)) <;> (refine mv ?_; (first | refine off ?_ | (first | refine vl ?_ | refine fB S ?_ | refine fS S rfl rfl ?_ | refine fA ?_)); (first | refine off ?_ | (first | refine lB S rfl rfl ?_ | refine lES2 S rfl rfl ?_ | refine lEB S ?_ | refine lH S ?_)); (first | refine off ?_ | (first | refine lnB S ?_ | refine lnS S rfl rfl ?_)); (first | refine off ?_ | (first | refine cT ?_ | refine cF ?_ | (refine cS ?_ ?_ <;> intro hc))) <;> (refine vl ?_; refine mv ?_; refine KO_nil ?_)))))
  all_goals (refine K_ret ⟨_, rfl, ?_⟩)
  all_goals first
    | exact ⟨.inl ⟨rfl, by omega⟩, S.drop⟩
    | exact ⟨.inr ⟨rfl, by omega⟩, S.drop⟩
end Go.Proofs.Xx

/-
  The reference's check of a roll: the walk.
-/
namespace Go.Proofs.Xx
open Go Go.Proofs
set_option linter.unusedSimpArgs false
set_option linter.unusedVariables false
set_option linter.unusedSectionVars false
set_option maxRecDepth 100000
set_option maxHeartbeats 4000000

variable [Flag]
theorem rcheck_ok {h0 : AH} (w : WfH h0) (v : RlV) (r : Rl) (HR : RlOk h0 v r) (hcap : CapOk v.vg.val) (hb : r.us.length ≤ 200 ∧ r.ts.length ≤ 600) : Fn Tryz.prog Xh 32 [v.val] h0 (fun u h' => ((u = .tuple #[.int .i64 0, .int .i64 0] ∧ VRl r) ∨ ∃ i e, u = .tuple #[.int .i64 i, .int .i64 e] ∧ Bad r i e) ∧ Hs h0 h' []) := by
  have S := Hs.start w
  have hrg := HR.rg
  have hrt := HR.rt
  have hgl := HR.len
  unfold RlV.val
  refine Fn_K rfl Tryz.func32 rfl rfl ?_
  all_goals (repeat' (first | refine K_seq ?_ | refine k_cond rfl ?_ | refine K_skip ?_ | refine K_exit ?_ | refine k_block ?_ | refine K_scope ?_ | refine K_label ?_ | (refine K_region (id := 0) ?_; (refine bx S ?_; clear S; intro b h S); refine mv ?_; refine mv ?_; refine KO_nil ?_)))
  obtain ⟨b1, hnm⟩ : ∃ x, x = b := ⟨_, rfl⟩; subst hnm
  replace S : Hs h0 h (.blk b1 [v.vg.val, v.vt.val] 32 :: []) := S
  all_goals (repeat' (first | refine K_seq ?_ | refine k_cond rfl ?_ | refine K_skip ?_ | refine K_exit ?_ | refine k_block ?_ | refine K_scope ?_ | refine K_label ?_ | (refine K_region (id := 1) ?_; refine mv ?_; refine KO_nil ?_)))
  refine k_loop (σ := Nat) (fun i h' => Hs h0 h' [.blk b1 [v.vg.val, v.vt.val] 32] ∧ i ≤ r.us.length ∧ (∀ k, k < i → gE0 r.us k = 0)) (fun i => r.us.length - i) (fun i => [(1, .pointer (some ⟨b1, 0, none⟩)), (4, .int .i64 i)]) 0 (by repeat (first | exact Ks.le_nil _ | refine Ks.le_cons rfl ?_ | refine Ks.le_int ?_)) ?_ ?_
  · exact ⟨S, Nat.zero_le _, fun j hj => absurd hj (Nat.not_lt_zero _)⟩
  clear S
  rintro i h ⟨S, g1, g2⟩
  all_goals (repeat' (first | refine K_seq ?_ | refine k_cond rfl ?_ | refine K_skip ?_ | refine K_exit ?_ | refine k_block ?_ | refine K_scope ?_ | refine K_label ?_ | (refine K_region (id := 2) ?_; refine mv ?_; (first | refine vl ?_ | refine fB S ?_ | refine fS S rfl rfl ?_ | refine fA ?_); (first | refine lB S rfl rfl ?_ | refine lES2 S rfl rfl ?_ | refine lEB S ?_ | refine lH S ?_); (first | refine lnB S ?_ | refine lnS S rfl rfl ?_); (first | refine cT ?_ | refine cF ?_ | (refine cS ?_ ?_ <;> intro hc)) <;> (refine KO_nil ?_))))
  · have hil : i < v.gs.length := by omega
    have hg : (v.gs.getD i default).toGu = r.us.getD i default := HR.at_ hil
    have hge : gE0 r.us i = (addF ⟨r.us.take i, []⟩ (r.us.getD i default)).2 := rfl
    have hbad : ∀ e, gE0 r.us i = e → e ≠ 0 → Bad r i e := fun e h1 h2 => ⟨h2, .inl ⟨i, by omega, g2, h1, rfl⟩⟩
    all_goals (repeat' (first | refine K_seq ?_ | refine k_cond rfl ?_ | refine K_skip ?_ | refine K_exit ?_ | refine k_block ?_ | refine K_scope ?_ | refine K_label ?_ | (refine K_region (id := 4) ?_; (first | refine vl ?_ | refine fB S ?_ | refine fS S rfl rfl ?_ | refine fA ?_); (first | refine lB S rfl rfl ?_ | refine lES2 S rfl rfl ?_ | refine lEB S ?_ | refine lH S ?_); refine mv ?_; (first | refine ixB S ?_ | refine ixS2 S rfl rfl ?_); (first | refine lB S rfl rfl ?_ | refine lES2 S rfl rfl ?_ | refine lEB S ?_ | refine lH S ?_))))
    simp only [Int.toNat_natCast]
    (refine KO_fn rfl rfl rfl rfl rfl ((refCheck_ok S.wf (v.gs.getD i default) ⟨(HR.tg i hil).1.ext w S.ext, (HR.tg i hil).2⟩).mono ?_); rintro _ h ⟨rfl, x⟩) <;> (replace S := S.join0 x; clear x; refine mv ?_; refine KO_nil ?_)
    rw [hg]
    all_goals (repeat' (first | refine K_seq ?_ | refine k_cond rfl ?_ | refine K_skip ?_ | refine K_exit ?_ | refine k_block ?_ | refine K_scope ?_ | refine K_label ?_ | (refine K_region (id := 4) ?_; (first | refine vl ?_ | refine fB S ?_ | refine fS S rfl rfl ?_ | refine fA ?_); (first | refine lB S rfl rfl ?_ | refine lES2 S rfl rfl ?_ | refine lEB S ?_ | refine lH S ?_); refine mv ?_; (first | refine ixB S ?_ | refine ixS2 S rfl rfl ?_); (first | refine lB S rfl rfl ?_ | refine lES2 S rfl rfl ?_ | refine lEB S ?_ | refine lH S ?_)) | (refine K_region (id := 5) ?_; refine mv ?_; (first | refine cT ?_ | refine cF ?_ | (refine cS ?_ ?_ <;> intro hc)) <;> (refine KO_nil ?_))))
    · have hne : chkG (r.us.getD i default) ≠ 0 := by assumption
      all_goals (repeat' (first | refine K_seq ?_ | refine k_cond rfl ?_ | refine K_skip ?_ | refine K_exit ?_ | refine k_block ?_ | refine K_scope ?_ | refine K_label ?_ | (refine K_region (id := 6) ?_; refine mv ?_; refine mv ?_; refine mv ?_; refine mv ?_; refine KO_nil ?_)))
      refine K_ret ⟨_, rfl, ?_⟩
      exact ⟨.inr ⟨_, _, rfl, hbad _ (by rw [hge, addF_e hne]) hne⟩, S.drop⟩
    · have hz : chkG (r.us.getD i default) = 0 := by omega
      have hnm : (v.gs.getD i default).name = (r.us.getD i default).name := by rw [← hg]
      skip
      all_goals (repeat' (first | refine K_seq ?_ | refine k_cond rfl ?_ | refine K_skip ?_ | refine K_exit ?_ | refine k_block ?_ | refine K_scope ?_ | refine K_label ?_ | (refine K_draw (id := 7) ?_; (first | refine vl ?_ | refine fB S ?_ | refine fS S rfl rfl ?_ | refine fA ?_); (first | refine lB S rfl rfl ?_ | refine lES2 S rfl rfl ?_ | refine lEB S ?_ | refine lH S ?_); refine mv ?_)))
      refine su 0 i (hrg.ext w S.ext) hcap (fun va' ra' ca' => ?_)
      ((first | refine vl ?_ | refine fB S ?_ | refine fS S rfl rfl ?_ | refine fA ?_); (first | refine lB S rfl rfl ?_ | refine lES2 S rfl rfl ?_ | refine lEB S ?_ | refine lH S ?_); refine mv ?_; (first | refine ixB S ?_ | refine ixS2 S rfl rfl ?_); (first | refine vl ?_ | refine fB S ?_ | refine fS S rfl rfl ?_ | refine fA ?_); (first | refine lB S rfl rfl ?_ | refine lES2 S rfl rfl ?_ | refine lEB S ?_ | refine lH S ?_))
      simp only [Int.toNat_natCast, hnm]
      have hmp : ((v.gs.drop 0).take (i - 0)).map (·.toGu) = r.us.take i := by rw [List.drop_zero, Nat.sub_zero, List.map_take, HR.us]
      have hll : ((v.gs.drop 0).take (i - 0)).length ≤ 9223372036854775807 := by simp; omega
      (refine KO_fn rfl rfl rfl rfl rfl ((refAt_ok S.wf va' ((v.gs.drop 0).take (i - 0)) ra' hll (r.us.getD i default).name).mono ?_); rintro _ h ⟨⟨j, j1, j2, rfl⟩ | ⟨j1, rfl⟩, x⟩) <;> (replace S := S.join0 x; clear x; (first | refine cT ?_ | refine cF ?_ | (refine cS ?_ ?_ <;> intro hc)) <;> (refine KO_nil ?_))
      all_goals rw [hmp] at j1
      · all_goals (repeat' (first | refine K_seq ?_ | refine k_cond rfl ?_ | refine K_skip ?_ | refine K_exit ?_ | refine k_block ?_ | refine K_scope ?_ | refine K_label ?_ | (refine K_draw (id := 7) ?_; (first | refine vl ?_ | refine fB S ?_ | refine fS S rfl rfl ?_ | refine fA ?_); (first | refine lB S rfl rfl ?_ | refine lES2 S rfl rfl ?_ | refine lEB S ?_ | refine lH S ?_); refine mv ?_) | (refine K_region (id := 8) ?_; refine mv ?_; refine mv ?_; refine mv ?_; refine KO_nil ?_)))
        refine K_ret ⟨_, rfl, ?_⟩
        exact ⟨.inr ⟨_, _, rfl, hbad _ (by rw [hge, addF_5 hz (by show gat (r.us.take i) _ ≠ none; rw [j1]; simp)]) (by decide)⟩, S.drop⟩
      · skip
        all_goals (repeat' (first | refine K_seq ?_ | refine k_cond rfl ?_ | refine K_skip ?_ | refine K_exit ?_ | refine k_block ?_ | refine K_scope ?_ | refine K_label ?_ | (refine K_draw (id := 7) ?_; (first | refine vl ?_ | refine fB S ?_ | refine fS S rfl rfl ?_ | refine fA ?_); (first | refine lB S rfl rfl ?_ | refine lES2 S rfl rfl ?_ | refine lEB S ?_ | refine lH S ?_); refine mv ?_) | (refine K_region (id := 9) ?_; refine mv ?_; (first | refine cT ?_ | refine cF ?_ | (refine cS ?_ ?_ <;> intro hc)) <;> (refine KO_nil ?_))))
        · all_goals (repeat' (first | refine K_seq ?_ | refine k_cond rfl ?_ | refine K_skip ?_ | refine K_exit ?_ | refine k_block ?_ | refine K_scope ?_ | refine K_label ?_ | (refine K_region (id := 10) ?_; refine mv ?_; refine mv ?_; refine mv ?_; refine KO_nil ?_)))
          refine K_ret ⟨_, rfl, ?_⟩
          exact ⟨.inr ⟨_, _, rfl, hbad _ (by rw [hge, addF_7 hz j1 (by show 64 ≤ (r.us.take i).length; simp; omega)]) (by decide)⟩, S.drop⟩
        · skip
          all_goals (repeat' (first | refine K_seq ?_ | refine k_cond rfl ?_ | refine K_skip ?_ | refine K_exit ?_ | refine k_block ?_ | refine K_scope ?_ | refine K_label ?_ | (refine K_region (id := 3) ?_; refine mv ?_; (first | refine ad ?_ | refine vl ?_); refine mv ?_; refine KO_nil ?_)))
          refine ⟨i + 1, ?_, ?_, (by repeat (first | exact Ks.le_nil _ | refine Ks.le_cons rfl ?_ | refine Ks.le_int ?_))⟩
          · show r.us.length - (i + 1) < r.us.length - i; omega
          · exact ⟨S, by omega, nxtD g2 (by rw [hge, addF_0 hz j1 (by show ¬ 64 ≤ (r.us.take i).length; simp; omega)])⟩
  · have hi : i = r.us.length := by omega
    rw [hi] at g2
    clear hi
    skip
    all_goals (repeat' (first | refine K_seq ?_ | refine k_cond rfl ?_ | refine K_skip ?_ | refine K_exit ?_ | refine k_block ?_ | refine K_scope ?_ | refine K_label ?_ | (refine K_region (id := 11) ?_; refine mv ?_; refine KO_nil ?_)))
    refine k_loop (σ := Nat) (fun i h' => Hs h0 h' [.blk b1 [v.vg.val, v.vt.val] 32] ∧ i ≤ r.ts.length ∧ (∀ k, k < i → tE0 r k = 0)) (fun i => r.ts.length - i) (fun i => [(1, .pointer (some ⟨b1, 0, none⟩)), (6, .int .i64 i)]) 0 (by repeat (first | exact Ks.le_nil _ | refine Ks.le_cons rfl ?_ | refine Ks.le_int ?_)) ?_ ?_
    · exact ⟨S, Nat.zero_le _, fun j hj => absurd hj (Nat.not_lt_zero _)⟩
    clear S
    rintro i h ⟨S, k1, k2⟩
    all_goals (repeat' (first | refine K_seq ?_ | refine k_cond rfl ?_ | refine K_skip ?_ | refine K_exit ?_ | refine k_block ?_ | refine K_scope ?_ | refine K_label ?_ | (refine K_region (id := 12) ?_; refine mv ?_; (first | refine vl ?_ | refine fB S ?_ | refine fS S rfl rfl ?_ | refine fA ?_); (first | refine lB S rfl rfl ?_ | refine lES2 S rfl rfl ?_ | refine lEB S ?_ | refine lH S ?_); (first | refine lnB S ?_ | refine lnS S rfl rfl ?_); (first | refine cT ?_ | refine cF ?_ | (refine cS ?_ ?_ <;> intro hc)) <;> (refine KO_nil ?_))))
    · have hil : i < r.ts.length := by omega
      have hts := (tE0_ts k1 k2).1
      have hbad : ∀ e, tE0 r i = e → e ≠ 0 → Bad r ((v.gs.length : Int) + i) e := fun e h1 h2 => ⟨h2, .inr ⟨g2, i, hil, k2, h1, by rw [hgl]⟩⟩
      all_goals (repeat' (first | refine K_seq ?_ | refine k_cond rfl ?_ | refine K_skip ?_ | refine K_exit ?_ | refine k_block ?_ | refine K_scope ?_ | refine K_label ?_ | (refine K_region (id := 14) ?_; (first | refine vl ?_ | refine fB S ?_ | refine fS S rfl rfl ?_ | refine fA ?_); (first | refine lB S rfl rfl ?_ | refine lES2 S rfl rfl ?_ | refine lEB S ?_ | refine lH S ?_); refine mv ?_; (first | refine ixB S ?_ | refine ixS2 S rfl rfl ?_); (first | refine lB S rfl rfl ?_ | refine lES2 S rfl rfl ?_ | refine lEB S ?_ | refine lH S ?_); (refine al S ?_; clear S; intro b h S); (first | (refine sB S rfl rfl ?_; clear S; intro h S) | (refine sE2 S rfl rfl ?_; clear S; intro h S)); refine KO_nil ?_)))
      obtain ⟨b7, hnm⟩ : ∃ x, x = b := ⟨_, rfl⟩; subst hnm
      simp only [Int.toNat_natCast] at S
      obtain ⟨t, ht⟩ : ∃ t, r.ts.getD i default = t := ⟨_, rfl⟩
      rw [ht] at S
      replace S : Hs h0 h [.blk b7 [str t.a, str t.b, .int .u8 t.k] 111, .blk b1 [v.vg.val, v.vt.val] 32] := S
      all_goals (repeat' (first | refine K_seq ?_ | refine k_cond rfl ?_ | refine K_skip ?_ | refine K_exit ?_ | refine k_block ?_ | refine K_scope ?_ | refine K_label ?_ | (refine K_region (id := 15) ?_; (first | refine vl ?_ | refine fB S ?_ | refine fS S rfl rfl ?_ | refine fA ?_); (first | refine lB S rfl rfl ?_ | refine lES2 S rfl rfl ?_ | refine lEB S ?_ | refine lH S ?_); (first | refine lnB S ?_ | refine lnS S rfl rfl ?_); refine mv ?_; (first | refine ad ?_ | refine vl ?_); refine mv ?_; refine KO_nil ?_)))
      (repeat (refine K_seq ?_)); first | refine K_joinR (σ := Unit) (fun _ h' => Hs h0 h' [.blk b7 [str t.a, str t.b, .int .u8 t.k] 111, .blk b1 [v.vg.val, v.vt.val] 32] ∧ TGd r i) (fun _ => [(1, .pointer (some ⟨b1, 0, none⟩)), (6, .int .i64 i), (7, .pointer (some ⟨b7, 0, none⟩)), (8, .int .i64 ((v.gs.length : Int) + i))]) ?_ ?_ | refine K_join (σ := Unit) (fun _ h' => Hs h0 h' [.blk b7 [str t.a, str t.b, .int .u8 t.k] 111, .blk b1 [v.vg.val, v.vt.val] 32] ∧ TGd r i) (fun _ => [(1, .pointer (some ⟨b1, 0, none⟩)), (6, .int .i64 i), (7, .pointer (some ⟨b7, 0, none⟩)), (8, .int .i64 ((v.gs.length : Int) + i))]) ?_ ?_
      · have hpr : ((i : Int) - 1).toNat = i - 1 := by omega
        all_goals (repeat' (first | refine K_seq ?_ | refine k_cond rfl ?_ | refine K_skip ?_ | refine K_exit ?_ | refine k_block ?_ | refine K_scope ?_ | refine K_label ?_ | (refine K_draw (id := 16) ?_; (first | refine vl ?_ | refine fB S ?_ | refine fS S rfl rfl ?_ | refine fA ?_); (first | refine lB S rfl rfl ?_ | refine lES2 S rfl rfl ?_ | refine lEB S ?_ | refine lH S ?_); (first | refine cT ?_ | refine cF ?_ | (refine cS ?_ ?_ <;> intro hc)) <;> (refine mv ?_; (first | refine off ?_ | (first | refine vl ?_ | refine fB S ?_ | refine fS S rfl rfl ?_ | refine fA ?_)); (first | refine off ?_ | (first | refine lB S rfl rfl ?_ | refine lES2 S rfl rfl ?_ | refine lEB S ?_ | refine lH S ?_)); (first | refine off ?_ | (first | refine cT ?_ | refine cF ?_ | (refine cS ?_ ?_ <;> intro hc))) <;> (refine vl ?_; refine mv ?_; (first | refine off ?_ | (first | refine vl ?_ | refine fB S ?_ | refine fS S rfl rfl ?_ | refine fA ?_)); (first | refine off ?_ | (first | refine lB S rfl rfl ?_ | refine lES2 S rfl rfl ?_ | refine lEB S ?_ | refine lH S ?_)); (first | refine off ?_ | (first | refine vl ?_ | refine fB S ?_ | refine fS S rfl rfl ?_ | refine fA ?_)); (first | refine off ?_ | (first | refine lB S rfl rfl ?_ | refine lES2 S rfl rfl ?_ | refine lEB S ?_ | refine lH S ?_)); (first | refine off ?_ | (refine tO ?_ ?_ <;> intro hc)) <;> (refine vl ?_; refine mv ?_; (first | refine off ?_ | refine mv ?_); (first | refine off ?_ | (first | refine cT ?_ | refine cF ?_ | (refine cS ?_ ?_ <;> intro hc))) <;> ((first | refine off ?_ | refine mv ?_); (first | refine off ?_ | (first | refine lB S rfl rfl ?_ | refine lES2 S rfl rfl ?_ | refine lEB S ?_ | refine lH S ?_)); (first | refine off ?_ | (first | refine vl ?_ | refine fB S ?_ | refine fS S rfl rfl ?_ | refine fA ?_)); (first | refine off ?_ | (first | refine lB S rfl rfl ?_ | refine lES2 S rfl rfl ?_ | refine lEB S ?_ | refine lH S ?_)); (first | refine off ?_ | refine mv ?_); (first | refine off ?_ | (first | refine sb ?_ | refine vl ?_)); (first | refine off ?_ | (first | refine ixB S ?_ | refine ixS2 S rfl rfl ?_)); (first | refine off ?_ | (first | refine lB S rfl rfl ?_ | refine lES2 S rfl rfl ?_ | refine lEB S ?_ | refine lH S ?_)); (first | (refine off ?_; (first | refine off ?_ | refine vl ?_); refine vl ?_; refine KO_nil ?_) | skip))))))))
        all_goals first
          | exact ⟨(), ⟨S, ⟨by rw [ht]; omega, by rw [ht]; exact Classical.not_not.1 (by assumption), .inl (by omega)⟩⟩, ((by repeat (first | exact Ks.le_nil _ | refine Ks.le_cons rfl ?_ | refine Ks.le_int ?_)))⟩
          | skip
        all_goals (try simp only [hpr])
        all_goals (try ((refine KO_fn rfl rfl rfl rfl rfl ((before_ok S.wf t (r.ts.getD (i - 1) default)).mono ?_); rintro _ h ⟨⟨rfl, z⟩ | ⟨rfl, z⟩, x⟩) <;> (replace S := S.join0 x; clear x; (first | refine off ?_ | refine vl ?_); refine vl ?_; refine KO_nil ?_)))
        all_goals (all_goals (repeat' (first | refine K_seq ?_ | refine k_cond rfl ?_ | refine K_skip ?_ | refine K_exit ?_ | refine k_block ?_ | refine K_scope ?_ | refine K_label ?_ | (refine K_draw (id := 16) ?_; (first | refine vl ?_ | refine fB S ?_ | refine fS S rfl rfl ?_ | refine fA ?_); (first | refine lB S rfl rfl ?_ | refine lES2 S rfl rfl ?_ | refine lEB S ?_ | refine lH S ?_); (first | refine cT ?_ | refine cF ?_ | (refine cS ?_ ?_ <;> intro hc)) <;> (refine mv ?_; (first | refine off ?_ | (first | refine vl ?_ | refine fB S ?_ | refine fS S rfl rfl ?_ | refine fA ?_)); (first | refine off ?_ | (first | refine lB S rfl rfl ?_ | refine lES2 S rfl rfl ?_ | refine lEB S ?_ | refine lH S ?_)); (first | refine off ?_ | (first | refine cT ?_ | refine cF ?_ | (refine cS ?_ ?_ <;> intro hc))) <;> (refine vl ?_; refine mv ?_; (first | refine off ?_ | (first | refine vl ?_ | refine fB S ?_ | refine fS S rfl rfl ?_ | refine fA ?_)); (first | refine off ?_ | (first | refine lB S rfl rfl ?_ | refine lES2 S rfl rfl ?_ | refine lEB S ?_ | refine lH S ?_)); (first | refine off ?_ | (first | refine vl ?_ | refine fB S ?_ | refine fS S rfl rfl ?_ | refine fA ?_)); (first | refine off ?_ | (first | refine lB S rfl rfl ?_ | refine lES2 S rfl rfl ?_ | refine lEB S ?_ | refine lH S ?_)); (first | refine off ?_ | (refine tO ?_ ?_ <;> intro hc)) <;> (refine vl ?_; refine mv ?_; (first | refine off ?_ | refine mv ?_); (first | refine off ?_ | (first | refine cT ?_ | refine cF ?_ | (refine cS ?_ ?_ <;> intro hc))) <;> ((first | refine off ?_ | refine mv ?_); (first | refine off ?_ | (first | refine lB S rfl rfl ?_ | refine lES2 S rfl rfl ?_ | refine lEB S ?_ | refine lH S ?_)); (first | refine off ?_ | (first | refine vl ?_ | refine fB S ?_ | refine fS S rfl rfl ?_ | refine fA ?_)); (first | refine off ?_ | (first | refine lB S rfl rfl ?_ | refine lES2 S rfl rfl ?_ | refine lEB S ?_ | refine lH S ?_)); (first | refine off ?_ | refine mv ?_); (first | refine off ?_ | (first | refine sb ?_ | refine vl ?_)); (first | refine off ?_ | (first | refine ixB S ?_ | refine ixS2 S rfl rfl ?_)); (first | refine off ?_ | (first | refine lB S rfl rfl ?_ | refine lES2 S rfl rfl ?_ | refine lEB S ?_ | refine lH S ?_)); (first | (refine off ?_; (first | refine off ?_ | refine vl ?_); refine vl ?_; refine KO_nil ?_) | skip)))))) | (refine K_region (id := 17) ?_; refine mv ?_; refine mv ?_; refine mv ?_; refine KO_nil ?_))))
        all_goals first
          | exact ⟨(), ⟨S, ⟨by rw [ht]; omega, by rw [ht]; exact Classical.not_not.1 (by assumption), .inr (by rw [ht]; exact z)⟩⟩, ((by repeat (first | exact Ks.le_nil _ | refine Ks.le_cons rfl ?_ | refine Ks.le_int ?_)))⟩
          | (refine K_ret ⟨_, rfl, ?_⟩; exact ⟨.inr ⟨_, _, rfl, hbad _ (tE0_23 (by rw [ht]; first | exact .inl (by omega) | exact .inr (.inl (by assumption)) | exact .inr (.inr ⟨by omega, z⟩))) (by decide)⟩, S.drop⟩)
      clear S
      rintro - h ⟨S, G⟩
      skip
      all_goals (repeat' (first | refine K_seq ?_ | refine k_cond rfl ?_ | refine K_skip ?_ | refine K_exit ?_ | refine k_block ?_ | refine K_scope ?_ | refine K_label ?_ | (refine K_region (id := 18) ?_; (first | refine vl ?_ | refine fB S ?_ | refine fS S rfl rfl ?_ | refine fA ?_); (first | refine lB S rfl rfl ?_ | refine lES2 S rfl rfl ?_ | refine lEB S ?_ | refine lH S ?_); (first | refine vl ?_ | refine fB S ?_ | refine fS S rfl rfl ?_ | refine fA ?_); (first | refine lB S rfl rfl ?_ | refine lES2 S rfl rfl ?_ | refine lEB S ?_ | refine lH S ?_))))
      (refine KO_fn rfl rfl rfl rfl rfl ((refAt_ok S.wf v.vg.val v.gs (hrg.ext w S.ext) (by omega) t.a).mono ?_); rintro _ h ⟨⟨j, j1, j2, rfl⟩ | ⟨j1, rfl⟩, x⟩) <;> (replace S := S.join0 x; clear x; (first | refine cT ?_ | refine cF ?_ | (refine cS ?_ ?_ <;> intro hc)) <;> (refine mv ?_; (first | refine off ?_ | (first | refine vl ?_ | refine fB S ?_ | refine fS S rfl rfl ?_ | refine fA ?_)); (first | refine off ?_ | (first | refine lB S rfl rfl ?_ | refine lES2 S rfl rfl ?_ | refine lEB S ?_ | refine lH S ?_)); (first | refine off ?_ | (first | refine vl ?_ | refine fB S ?_ | refine fS S rfl rfl ?_ | refine fA ?_)); (first | refine off ?_ | (first | refine lB S rfl rfl ?_ | refine lES2 S rfl rfl ?_ | refine lEB S ?_ | refine lH S ?_)); (first | (refine off ?_; (first | refine off ?_ | (first | refine cT ?_ | refine cF ?_ | (refine cS ?_ ?_ <;> intro hc))) <;> (refine vl ?_; refine KO_nil ?_)) | skip)))
      all_goals rw [HR.us] at j1
      rotate_left
      · skip
        all_goals (repeat' (first | refine K_seq ?_ | refine k_cond rfl ?_ | refine K_skip ?_ | refine K_exit ?_ | refine k_block ?_ | refine K_scope ?_ | refine K_label ?_ | (refine K_region (id := 18) ?_; (first | refine vl ?_ | refine fB S ?_ | refine fS S rfl rfl ?_ | refine fA ?_); (first | refine lB S rfl rfl ?_ | refine lES2 S rfl rfl ?_ | refine lEB S ?_ | refine lH S ?_); (first | refine vl ?_ | refine fB S ?_ | refine fS S rfl rfl ?_ | refine fA ?_); (first | refine lB S rfl rfl ?_ | refine lES2 S rfl rfl ?_ | refine lEB S ?_ | refine lH S ?_)) | (refine K_region (id := 19) ?_; refine mv ?_; refine mv ?_; refine mv ?_; refine KO_nil ?_)))
        refine K_ret ⟨_, rfl, ?_⟩
        exact ⟨.inr ⟨_, _, rfl, hbad _ (G.e6 (.inl (by rw [ht]; exact j1))) (by decide)⟩, S.drop⟩
      skip
      all_goals (repeat' (first | refine K_seq ?_ | refine k_cond rfl ?_ | refine K_skip ?_ | refine K_exit ?_ | refine k_block ?_ | refine K_scope ?_ | refine K_label ?_ | (refine K_region (id := 18) ?_; (first | refine vl ?_ | refine fB S ?_ | refine fS S rfl rfl ?_ | refine fA ?_); (first | refine lB S rfl rfl ?_ | refine lES2 S rfl rfl ?_ | refine lEB S ?_ | refine lH S ?_); (first | refine vl ?_ | refine fB S ?_ | refine fS S rfl rfl ?_ | refine fA ?_); (first | refine lB S rfl rfl ?_ | refine lES2 S rfl rfl ?_ | refine lEB S ?_ | refine lH S ?_))))
      (refine KO_fn rfl rfl rfl rfl rfl ((refAt_ok S.wf v.vg.val v.gs (hrg.ext w S.ext) (by omega) t.b).mono ?_); rintro _ h ⟨⟨j', m1, m2, rfl⟩ | ⟨m1, rfl⟩, x⟩) <;> (replace S := S.join0 x; clear x; (first | refine off ?_ | (first | refine cT ?_ | refine cF ?_ | (refine cS ?_ ?_ <;> intro hc))) <;> (refine vl ?_; refine KO_nil ?_))
      all_goals rw [HR.us] at m1
      rotate_left
      · skip
        all_goals (repeat' (first | refine K_seq ?_ | refine k_cond rfl ?_ | refine K_skip ?_ | refine K_exit ?_ | refine k_block ?_ | refine K_scope ?_ | refine K_label ?_ | (refine K_region (id := 18) ?_; (first | refine vl ?_ | refine fB S ?_ | refine fS S rfl rfl ?_ | refine fA ?_); (first | refine lB S rfl rfl ?_ | refine lES2 S rfl rfl ?_ | refine lEB S ?_ | refine lH S ?_); (first | refine vl ?_ | refine fB S ?_ | refine fS S rfl rfl ?_ | refine fA ?_); (first | refine lB S rfl rfl ?_ | refine lES2 S rfl rfl ?_ | refine lEB S ?_ | refine lH S ?_)) | (refine K_region (id := 19) ?_; refine mv ?_; refine mv ?_; refine mv ?_; refine KO_nil ?_)))
        refine K_ret ⟨_, rfl, ?_⟩
        exact ⟨.inr ⟨_, _, rfl, hbad _ (G.e6 (.inr (by rw [ht]; exact m1))) (by decide)⟩, S.drop⟩
      have hkn : ¬ (gat r.us (r.ts.getD i default).a = none ∨ gat r.us (r.ts.getD i default).b = none) := by
        rw [ht, j1, m1]; simp
      have hpr : ((i : Int) - 1).toNat = i - 1 := by omega
      skip
      all_goals (repeat' (first | refine K_seq ?_ | refine k_cond rfl ?_ | refine K_skip ?_ | refine K_exit ?_ | refine k_block ?_ | refine K_scope ?_ | refine K_label ?_ | (refine K_region (id := 18) ?_; (first | refine vl ?_ | refine fB S ?_ | refine fS S rfl rfl ?_ | refine fA ?_); (first | refine lB S rfl rfl ?_ | refine lES2 S rfl rfl ?_ | refine lEB S ?_ | refine lH S ?_); (first | refine vl ?_ | refine fB S ?_ | refine fS S rfl rfl ?_ | refine fA ?_); (first | refine lB S rfl rfl ?_ | refine lES2 S rfl rfl ?_ | refine lEB S ?_ | refine lH S ?_))))
      (repeat (refine K_seq ?_)); first | refine K_joinR (σ := Unit) (fun _ h' => Hs h0 h' [.blk b7 [str t.a, str t.b, .int .u8 t.k] 111, .blk b1 [v.vg.val, v.vt.val] 32] ∧ ¬ (0 < i ∧ ¬ bef (r.ts.getD (i - 1) default) (r.ts.getD i default))) (fun _ => [(1, .pointer (some ⟨b1, 0, none⟩)), (6, .int .i64 i), (7, .pointer (some ⟨b7, 0, none⟩)), (8, .int .i64 ((v.gs.length : Int) + i))]) ?_ ?_ | refine K_join (σ := Unit) (fun _ h' => Hs h0 h' [.blk b7 [str t.a, str t.b, .int .u8 t.k] 111, .blk b1 [v.vg.val, v.vt.val] 32] ∧ ¬ (0 < i ∧ ¬ bef (r.ts.getD (i - 1) default) (r.ts.getD i default))) (fun _ => [(1, .pointer (some ⟨b1, 0, none⟩)), (6, .int .i64 i), (7, .pointer (some ⟨b7, 0, none⟩)), (8, .int .i64 ((v.gs.length : Int) + i))]) ?_ ?_
      · all_goals (repeat' (first | refine K_seq ?_ | refine k_cond rfl ?_ | refine K_skip ?_ | refine K_exit ?_ | refine k_block ?_ | refine K_scope ?_ | refine K_label ?_ | (refine K_draw (id := 20) ?_; refine mv ?_; (first | refine cT ?_ | refine cF ?_ | (refine cS ?_ ?_ <;> intro hc)) <;> (refine mv ?_; (first | refine off ?_ | (first | refine vl ?_ | refine fB S ?_ | refine fS S rfl rfl ?_ | refine fA ?_)); (first | refine off ?_ | (first | refine lB S rfl rfl ?_ | refine lES2 S rfl rfl ?_ | refine lEB S ?_ | refine lH S ?_)); (first | refine off ?_ | refine mv ?_); (first | refine off ?_ | (first | refine sb ?_ | refine vl ?_)); (first | refine off ?_ | (first | refine ixB S ?_ | refine ixS2 S rfl rfl ?_)); (first | refine off ?_ | (first | refine lB S rfl rfl ?_ | refine lES2 S rfl rfl ?_ | refine lEB S ?_ | refine lH S ?_)); (first | refine off ?_ | (first | refine lB S rfl rfl ?_ | refine lES2 S rfl rfl ?_ | refine lEB S ?_ | refine lH S ?_)); (first | (refine off ?_; (first | refine off ?_ | refine vl ?_); refine vl ?_; refine KO_nil ?_) | skip)))))
        · simp only [hpr]
          (refine KO_fn rfl rfl rfl rfl rfl ((before_ok S.wf (r.ts.getD (i - 1) default) t).mono ?_); rintro _ h ⟨⟨rfl, z⟩ | ⟨rfl, z⟩, x⟩) <;> (replace S := S.join0 x; clear x; (first | refine off ?_ | refine vl ?_); refine vl ?_; refine KO_nil ?_)
          · all_goals (repeat' (first | refine K_seq ?_ | refine k_cond rfl ?_ | refine K_skip ?_ | refine K_exit ?_ | refine k_block ?_ | refine K_scope ?_ | refine K_label ?_ | (refine K_draw (id := 20) ?_; refine mv ?_; (first | refine cT ?_ | refine cF ?_ | (refine cS ?_ ?_ <;> intro hc)) <;> (refine mv ?_; (first | refine off ?_ | (first | refine vl ?_ | refine fB S ?_ | refine fS S rfl rfl ?_ | refine fA ?_)); (first | refine off ?_ | (first | refine lB S rfl rfl ?_ | refine lES2 S rfl rfl ?_ | refine lEB S ?_ | refine lH S ?_)); (first | refine off ?_ | refine mv ?_); (first | refine off ?_ | (first | refine sb ?_ | refine vl ?_)); (first | refine off ?_ | (first | refine ixB S ?_ | refine ixS2 S rfl rfl ?_)); (first | refine off ?_ | (first | refine lB S rfl rfl ?_ | refine lES2 S rfl rfl ?_ | refine lEB S ?_ | refine lH S ?_)); (first | refine off ?_ | (first | refine lB S rfl rfl ?_ | refine lES2 S rfl rfl ?_ | refine lEB S ?_ | refine lH S ?_)); (first | (refine off ?_; (first | refine off ?_ | refine vl ?_); refine vl ?_; refine KO_nil ?_) | skip)))))
            exact ⟨(), ⟨S, fun q => q.2 (by rw [ht]; exact z)⟩, ((by repeat (first | exact Ks.le_nil _ | refine Ks.le_cons rfl ?_ | refine Ks.le_int ?_)))⟩
          · skip
            all_goals (repeat' (first | refine K_seq ?_ | refine k_cond rfl ?_ | refine K_skip ?_ | refine K_exit ?_ | refine k_block ?_ | refine K_scope ?_ | refine K_label ?_ | (refine K_draw (id := 20) ?_; refine mv ?_; (first | refine cT ?_ | refine cF ?_ | (refine cS ?_ ?_ <;> intro hc)) <;> (refine mv ?_; (first | refine off ?_ | (first | refine vl ?_ | refine fB S ?_ | refine fS S rfl rfl ?_ | refine fA ?_)); (first | refine off ?_ | (first | refine lB S rfl rfl ?_ | refine lES2 S rfl rfl ?_ | refine lEB S ?_ | refine lH S ?_)); (first | refine off ?_ | refine mv ?_); (first | refine off ?_ | (first | refine sb ?_ | refine vl ?_)); (first | refine off ?_ | (first | refine ixB S ?_ | refine ixS2 S rfl rfl ?_)); (first | refine off ?_ | (first | refine lB S rfl rfl ?_ | refine lES2 S rfl rfl ?_ | refine lEB S ?_ | refine lH S ?_)); (first | refine off ?_ | (first | refine lB S rfl rfl ?_ | refine lES2 S rfl rfl ?_ | refine lEB S ?_ | refine lH S ?_)); (first | (refine off ?_; (first | refine off ?_ | refine vl ?_); refine vl ?_; refine KO_nil ?_) | skip))) | (refine K_region (id := 21) ?_; refine mv ?_; refine mv ?_; refine mv ?_; refine KO_nil ?_)))
            refine K_ret ⟨_, rfl, ?_⟩
            exact ⟨.inr ⟨_, _, rfl, hbad _ (G.e5 hil hts hkn ⟨by omega, by rw [ht]; exact z⟩) (by decide)⟩, S.drop⟩
        · exact ⟨(), ⟨S, fun q => by omega⟩, ((by repeat (first | exact Ks.le_nil _ | refine Ks.le_cons rfl ?_ | refine Ks.le_int ?_)))⟩
      clear S
      rintro - h ⟨S, hb5⟩
      skip
      all_goals (repeat' (first | refine K_seq ?_ | refine k_cond rfl ?_ | refine K_skip ?_ | refine K_exit ?_ | refine k_block ?_ | refine K_scope ?_ | refine K_label ?_ | (refine K_region (id := 22) ?_; refine mv ?_; (first | refine cT ?_ | refine cF ?_ | (refine cS ?_ ?_ <;> intro hc)) <;> (refine KO_nil ?_))))
      · all_goals (repeat' (first | refine K_seq ?_ | refine k_cond rfl ?_ | refine K_skip ?_ | refine K_exit ?_ | refine k_block ?_ | refine K_scope ?_ | refine K_label ?_ | (refine K_region (id := 23) ?_; refine mv ?_; refine mv ?_; refine mv ?_; refine KO_nil ?_)))
        refine K_ret ⟨_, rfl, ?_⟩
        exact ⟨.inr ⟨_, _, rfl, hbad _ (G.e7 hil hts hkn hb5 (by omega)) (by decide)⟩, S.drop⟩
      · skip
        all_goals (repeat' (first | refine K_seq ?_ | refine k_cond rfl ?_ | refine K_skip ?_ | refine K_exit ?_ | refine k_block ?_ | refine K_scope ?_ | refine K_label ?_ | (refine K_region (id := 13) ?_; refine mv ?_; (first | refine ad ?_ | refine vl ?_); refine mv ?_; refine KO_nil ?_)))
        refine ⟨i + 1, ?_, ?_, (by repeat (first | exact Ks.le_nil _ | refine Ks.le_cons rfl ?_ | refine Ks.le_int ?_))⟩
        · show r.ts.length - (i + 1) < r.ts.length - i; omega
        · exact ⟨S.tail, by omega, nxtD k2 (G.e0 hil hts hkn hb5 (by omega))⟩
    · have hi : i = r.ts.length := by omega
      rw [hi] at k2
      skip
      all_goals (repeat' (first | refine K_seq ?_ | refine k_cond rfl ?_ | refine K_skip ?_ | refine K_exit ?_ | refine k_block ?_ | refine K_scope ?_ | refine K_label ?_ | (refine K_region (id := 24) ?_; refine mv ?_; refine mv ?_; refine KO_nil ?_)))
      refine K_ret ⟨_, rfl, ?_⟩
      exact ⟨.inl ⟨rfl, g2, k2⟩, S.drop⟩
end Go.Proofs.Xx

/-
  BookAsks.
-/
namespace Go.Proofs.Xx
open Go Go.Proofs
set_option linter.unusedSimpArgs false
set_option linter.unusedVariables false
set_option linter.unusedSectionVars false
set_option maxRecDepth 100000
set_option maxHeartbeats 4000000

variable [Flag]
theorem bookAsks_true {h0 : AH} (w : WfH h0) (v : RlV) (r : Rl) (HR : RlOk h0 v r) (hcap : CapOk v.vg.val) (na nb : List UInt8) : Fn Tryz.prog Xh 7 [v.val, str na, str nb] h0 (fun u _ => u = .bool true) := by
  have S := Hs.start w
  obtain ⟨v1, v2, gs⟩ := v
  simp only at hcap
  refine Fn_K rfl Tryz.func7 rfl rfl ?_
  unfold RlV.val
  all_goals (repeat' (first | refine K_seq ?_ | refine k_cond rfl ?_ | refine K_skip ?_ | refine K_exit ?_ | refine k_block ?_ | refine K_scope ?_ | refine K_label ?_ | (refine K_region (id := 0) ?_; (refine bx S ?_; clear S; intro b h S); refine mv ?_; refine KO_nil ?_)))
  obtain ⟨b3, hnm⟩ : ∃ x, x = b := ⟨_, rfl⟩; subst hnm
  replace S : Hs h0 h (.blk b3 [v1.val, v2.val] 32 :: []) := S
  all_goals (repeat' (first | refine K_seq ?_ | refine k_cond rfl ?_ | refine K_skip ?_ | refine K_exit ?_ | refine k_block ?_ | refine K_scope ?_ | refine K_label ?_ | (refine K_region (id := 1) ?_; (first | refine lB S rfl rfl ?_ | refine lES2 S rfl rfl ?_ | refine lEB S ?_ | refine lH S ?_))))
  (refine KO_fn rfl rfl rfl rfl rfl ((brief_ok S.wf ⟨v1, v2, gs⟩ r (HR.ext w S.ext)).mono ?_); rintro _ h ⟨⟨rfl, hb⟩ | ⟨rfl, hb⟩, x⟩) <;> (replace S := S.join0 x; clear x; refine vl ?_; refine KO_nil ?_)
  rotate_left
  · all_goals (repeat' (first | refine K_seq ?_ | refine k_cond rfl ?_ | refine K_skip ?_ | refine K_exit ?_ | refine k_block ?_ | refine K_scope ?_ | refine K_label ?_ | (refine K_region (id := 1) ?_; (first | refine lB S rfl rfl ?_ | refine lES2 S rfl rfl ?_ | refine lEB S ?_ | refine lH S ?_)) | (refine K_region (id := 2) ?_; skip)))
    (refine KO_fn rfl rfl rfl rfl rfl ((awake_okS S.wf).mono ?_); rintro _ h ⟨rfl, x⟩) <;> (replace S := S.join0 x; clear x; refine mv ?_; refine KO_nil ?_)
    all_goals (repeat' (first | refine K_seq ?_ | refine k_cond rfl ?_ | refine K_skip ?_ | refine K_exit ?_ | refine k_block ?_ | refine K_scope ?_ | refine K_label ?_ | (refine K_region (id := 0) ?_; (refine bx S ?_; clear S; intro b h S); refine mv ?_; refine KO_nil ?_) | (refine K_region (id := 1) ?_; (first | refine lB S rfl rfl ?_ | refine lES2 S rfl rfl ?_ | refine lEB S ?_ | refine lH S ?_)) | (refine K_region (id := 2) ?_; skip) | (refine K_region (id := 3) ?_; (first | refine lB S rfl rfl ?_ | refine lES2 S rfl rfl ?_ | refine lEB S ?_ | refine lH S ?_))))
    refine K_ret ⟨_, rfl, ?_⟩
    rfl
  all_goals (repeat' (first | refine K_seq ?_ | refine k_cond rfl ?_ | refine K_skip ?_ | refine K_exit ?_ | refine k_block ?_ | refine K_scope ?_ | refine K_label ?_ | (refine K_region (id := 1) ?_; (first | refine lB S rfl rfl ?_ | refine lES2 S rfl rfl ?_ | refine lEB S ?_ | refine lH S ?_)) | (refine K_region (id := 3) ?_; (first | refine lB S rfl rfl ?_ | refine lES2 S rfl rfl ?_ | refine lEB S ?_ | refine lH S ?_))))
  (refine KO_fn rfl rfl rfl rfl rfl ((rcheck_ok S.wf ⟨v1, v2, gs⟩ r (HR.ext w S.ext) hcap hb).mono ?_); rintro _ h ⟨⟨rfl, hV⟩ | ⟨i, e, rfl, hB⟩, x⟩) <;> (replace S := S.join0 x; clear x; refine mv ?_; refine vl ?_; refine vl ?_; refine mv ?_; refine mv ?_; refine KO_nil ?_)
  rotate_left
  · have he := hB.1
    skip
    all_goals (repeat' (first | refine K_seq ?_ | refine k_cond rfl ?_ | refine K_skip ?_ | refine K_exit ?_ | refine k_block ?_ | refine K_scope ?_ | refine K_label ?_ | (refine K_region (id := 3) ?_; (first | refine lB S rfl rfl ?_ | refine lES2 S rfl rfl ?_ | refine lEB S ?_ | refine lH S ?_)) | (refine K_region (id := 4) ?_; refine mv ?_; (first | refine cT ?_ | refine cF ?_ | (refine cS ?_ ?_ <;> intro hc)) <;> (refine KO_nil ?_)) | (refine K_region (id := 5) ?_; skip)))
    (refine KO_fn rfl rfl rfl rfl rfl ((awake_okS S.wf).mono ?_); rintro _ h ⟨rfl, x⟩) <;> (replace S := S.join0 x; clear x; refine mv ?_; refine KO_nil ?_)
    all_goals (repeat' (first | refine K_seq ?_ | refine k_cond rfl ?_ | refine K_skip ?_ | refine K_exit ?_ | refine k_block ?_ | refine K_scope ?_ | refine K_label ?_ | (refine K_region (id := 3) ?_; (first | refine lB S rfl rfl ?_ | refine lES2 S rfl rfl ?_ | refine lEB S ?_ | refine lH S ?_))))
    refine K_ret ⟨_, rfl, ?_⟩
    rfl
  have H := VRl_iff.1 hV
  skip
  all_goals (repeat' (first | refine K_seq ?_ | refine k_cond rfl ?_ | refine K_skip ?_ | refine K_exit ?_ | refine k_block ?_ | refine K_scope ?_ | refine K_label ?_ | (refine K_region (id := 3) ?_; (first | refine lB S rfl rfl ?_ | refine lES2 S rfl rfl ?_ | refine lEB S ?_ | refine lH S ?_)) | (refine K_region (id := 4) ?_; refine mv ?_; (first | refine cT ?_ | refine cF ?_ | (refine cS ?_ ?_ <;> intro hc)) <;> (refine KO_nil ?_)) | (refine K_region (id := 6) ?_; (first | refine lB S rfl rfl ?_ | refine lES2 S rfl rfl ?_ | refine lEB S ?_ | refine lH S ?_))))
  (refine KO_fn rfl rfl rfl rfl rfl ((load_ok S.wf ⟨v1, v2, gs⟩ r (HR.ext w S.ext)).mono ?_); rintro _ h (⟨p, rfl, x1, x⟩ | ⟨i, e, rfl, hB, x⟩)) <;> (refine mv ?_; refine vl ?_; refine vl ?_; refine vl ?_; refine mv ?_; refine mv ?_; refine mv ?_; refine KO_nil ?_)
  rotate_left
  · exact absurd hV hB.not
  replace S : Hs h0 _ (bookR p r :: .blk b3 [v1.val, v2.val] 32 :: []) := S.join x
  clear x
  all_goals (repeat' (first | refine K_seq ?_ | refine k_cond rfl ?_ | refine K_skip ?_ | refine K_exit ?_ | refine k_block ?_ | refine K_scope ?_ | refine K_label ?_ | (refine K_region (id := 6) ?_; (first | refine lB S rfl rfl ?_ | refine lES2 S rfl rfl ?_ | refine lEB S ?_ | refine lH S ?_)) | (refine K_region (id := 7) ?_; refine mv ?_; refine vl ?_; refine mv ?_; (first | refine off ?_ | refine mv ?_); (first | refine off ?_ | (first | refine cT ?_ | refine cF ?_ | (refine cS ?_ ?_ <;> intro hc))) <;> (refine vl ?_; refine KO_nil ?_)) | (refine K_region (id := 9) ?_; refine mv ?_; (first | refine lB S rfl rfl ?_ | refine lES2 S rfl rfl ?_ | refine lEB S ?_ | refine lH S ?_); refine mv ?_; refine mv ?_)))
  (refine KO_fn rfl rfl rfl rfl rfl ((asks_ok S.wf (Hs.bkRd (S.pick : Hs _ h [bookR p r])) ⟨v1, v2, gs⟩ (HR.ext w S.ext) H na nb).mono ?_); rintro _ h ⟨rfl, x⟩) <;> (replace S := S.join0 x; clear x; refine mv ?_; (first | refine off ?_ | refine mv ?_); (first | refine off ?_ | (first | refine lB S rfl rfl ?_ | refine lES2 S rfl rfl ?_ | refine lEB S ?_ | refine lH S ?_)); (first | refine off ?_ | refine mv ?_); (first | refine off ?_ | refine mv ?_); (first | (refine off ?_; refine vl ?_; refine mv ?_; (first | (refine off ?_; refine vl ?_; refine mv ?_; refine KO_nil ?_) | skip)) | skip))
  (refine KO_fn rfl rfl rfl rfl rfl ((asks_ok S.wf (Hs.bkRd (S.pick : Hs _ h [bookR p r])) ⟨v1, v2, gs⟩ (HR.ext w S.ext) H nb na).mono ?_); rintro _ h ⟨rfl, x⟩) <;> (replace S := S.join0 x; clear x; refine vl ?_; refine mv ?_; (first | (refine off ?_; refine vl ?_; refine mv ?_; refine KO_nil ?_) | skip))
  (refine KO_fn rfl rfl rfl rfl rfl ((awake_okS S.wf).mono ?_); rintro _ h ⟨rfl, x⟩) <;> (replace S := S.join0 x; clear x; refine vl ?_; refine mv ?_; refine KO_nil ?_)
  all_goals (repeat' (first | refine K_seq ?_ | refine k_cond rfl ?_ | refine K_skip ?_ | refine K_exit ?_ | refine k_block ?_ | refine K_scope ?_ | refine K_label ?_ | (refine K_region (id := 3) ?_; (first | refine lB S rfl rfl ?_ | refine lES2 S rfl rfl ?_ | refine lEB S ?_ | refine lH S ?_)) | (refine K_region (id := 7) ?_; refine mv ?_; refine vl ?_; refine mv ?_; (first | refine off ?_ | refine mv ?_); (first | refine off ?_ | (first | refine cT ?_ | refine cF ?_ | (refine cS ?_ ?_ <;> intro hc))) <;> (refine vl ?_; refine KO_nil ?_)) | (refine K_region (id := 8) ?_; refine mv ?_; refine KO_nil ?_) | (refine K_region (id := 9) ?_; refine mv ?_; (first | refine lB S rfl rfl ?_ | refine lES2 S rfl rfl ?_ | refine lEB S ?_ | refine lH S ?_); refine mv ?_; refine mv ?_)))
  refine K_ret ⟨_, rfl, ?_⟩
  rfl
end Go.Proofs.Xx

/-
  Rolls among the arguments; the core of BookAsks.
-/
namespace Go.Proofs.Xx
open Go Go.Proofs
set_option linter.unusedSimpArgs false
set_option linter.unusedVariables false
set_option linter.unusedSectionVars false
set_option maxRecDepth 100000

theorem AR.tie1 {h : AH} {n : Nat} {r : List Value} (a : AR Tryz.prog h n 111 r) : ∃ t : Ti, r = eTi t ∧ 0 ≤ t.k ∧ t.k < 256 := by
  obtain ⟨n', hl, hk⟩ := a.struct1 (m := [(0, 9), (1, 9), (2, 48)]) (z := 3) rfl (by kernel_rfl) (by kernel_rfl)
  match r, hl with
  | [x0, x1, x2], _ =>
    obtain ⟨s0, e0, -⟩ := AR.str1 (show AR Tryz.prog h n' 9 [x0] from hk (0, 9) (by simp)) (by kernel_rfl)
    obtain ⟨s1, e1, -⟩ := AR.str1 (show AR Tryz.prog h n' 9 [x1] from hk (1, 9) (by simp)) (by kernel_rfl)
    obtain ⟨y2, e2, h2⟩ := AR.int1 (k := .u8) (show AR Tryz.prog h n' 48 [x2] from hk (2, 48) (by simp)) (by kernel_rfl)
    cases e0; cases e1; cases e2
    have : 0 ≤ y2 ∧ y2 < 256 := by
      simp [Lit.wf, IntKind.min, IntKind.max, IntKind.signed, IntKind.bits] at h2
      omega
    exact ⟨⟨s0, s1, y2⟩, rfl, this⟩
theorem AR.roll1 {h : AH} {n : Nat} {r : List Value} (a : AR Tryz.prog h n 32 r) : ∃ (v : RlV) (q : Rl), r = [v.vg.val, v.vt.val] ∧ RlOk h v q ∧ CapOk v.vg.val ∧ CapOk v.vt.val ∧ (∀ i, i < v.gs.length → GstA h (v.gs.getD i default)) ∧ (∀ i, i < q.ts.length → 0 ≤ (q.ts.getD i default).k ∧ (q.ts.getD i default).k < 256) ∧ q.us.length ≤ maxLen ∧ q.ts.length ≤ maxLen := by
  obtain ⟨n', hl, hk⟩ := a.struct1 (m := [(0, 29), (1, 30)]) (z := 2) rfl (by kernel_rfl) (by kernel_rfl)
  match r, hl with
  | [x0, x1], _ =>
    obtain ⟨v0, gs, e0, g1, g2, g3, g4⟩ := AR.slice1 (e := 24) (z := 9) eG (fun g => GstA h g) (show AR Tryz.prog h n' 29 [x0] from hk (0, 29) (by simp)) (by kernel_rfl) (by kernel_rfl) (fun n cs q => q.gst1)
    obtain ⟨v1, ts, e1, t1, t2, t3, t4⟩ := AR.slice1 (e := 111) (z := 3) eTi (fun t => 0 ≤ t.k ∧ t.k < 256) (show AR Tryz.prog h n' 30 [x1] from hk (1, 30) (by simp)) (by kernel_rfl) (by kernel_rfl) (fun n cs q => q.tie1)
    obtain ⟨sg, rfl⟩ := g1.isSl
    obtain ⟨st, rfl⟩ := t1.isSl
    cases e0; cases e1
    have m1 := g2
    have m2 := t2
    unfold maxLen at m1 m2
    exact ⟨⟨sg, st, gs⟩, ⟨gs.map (·.toGu), ts⟩, rfl, ⟨g1, t1, fun i hi => (g4 i hi).r, rfl, by rw [List.length_map]; omega, by show ts.length ≤ _; omega⟩, g3, t3, g4, t4, by rw [List.length_map]; exact g2, t2⟩
theorem bookAsks_core [Flag] (h : AH) (us : List Value) (w : WfH h) (a : ArgsR Tryz.prog h Tryz.f7.params.toList us) : Fn Tryz.prog Xh 7 us h (fun x _ => x = .bool true) := by
  rw [show Tryz.f7.params.toList = [32, 9, 9] by kernel_rfl] at a
  obtain ⟨n0, r0, us, rfl, a0, a⟩ := a.cons_inv
  obtain ⟨n1, r1, us, rfl, a1, a⟩ := a.cons_inv
  obtain ⟨n2, r2, us, rfl, a2, a⟩ := a.cons_inv
  obtain rfl := a.nil_inv
  obtain ⟨v, q, rfl, HR, hcap, -⟩ := a0.roll1
  obtain ⟨na, rfl, -⟩ := a1.str1 (by kernel_rfl)
  obtain ⟨nb, rfl, -⟩ := a2.str1 (by kernel_rfl)
  exact bookAsks_true w v q HR hcap na nb
end Go.Proofs.Xx

/-
  What lies in every world that fits: a number for the longest needle of a quick search; the functions that are known.
-/
namespace Go.Proofs.Xx
open Go Go.RowKit Go.Proofs
theorem Xh_none [Flag] (f : FuncId) (h1 : f ≠ 19) (h2 : f ≠ 203) (h3 : f ≠ 182) (h4 : f ≠ 222) (h5 : f ≠ 184) (h6 : f ≠ 194) (h7 : f ≠ 135) (h8 : f ≠ 187) (h9 : f ≠ 88) (us : List Value) (h : AH) : Xh f us h = none := by
  have e : ∀ n, f ≠ n → Nat.beq f n = false := fun n q => by rw [Bool.eq_false_iff]; intro q'; exact q (Nat.eq_of_beq_eq_true q')
  unfold Xh withDigits withKnown Xd withIns X0 withIdx withOvl withCmp withBytes externNoEscape
  simp only [e _ h1, e _ h2, e _ h3, e _ h4, e _ h5, e _ h6, e _ h7, e _ h8, e _ h9]
theorem max_there {W : World} (h : W.ShapedOpen Tryz.prog) : 1 < W.heap.size ∧ ∃ m el fr, W.heap[0]? = some (.cells #[.int .i64 m] el fr) := by
  have h0 : ((begin Tryz.prog (fun _ _ => 0) default).world.heap[0]?).bind Obj.row? = some (#[.int .i64 0], 3) := by kernel_rfl
  obtain ⟨m, hm⟩ := cell_of_shapedOpen_int h (g := 0) (t := 3) (of_decide_eq_true (by kernel_rfl)) h0 rfl (by kernel_rfl) (by kernel_rfl) Tryz.underlying3
  obtain ⟨cs, hh, hs, -⟩ := h.1 0 _ 3 (of_decide_eq_true (by kernel_rfl)) h0
  refine ⟨?_, m, 3, (0, 0), ?_⟩
  · have h1 : (((begin Tryz.prog (fun _ _ => 0) default).world.heap[1]?).bind Obj.row?).isSome = true := by kernel_rfl
    obtain ⟨⟨z, t⟩, h1⟩ := Option.isSome_iff_exists.1 h1
    obtain ⟨cs, hh, -⟩ := h.1 1 z t (of_decide_eq_true (by kernel_rfl)) h1
    exact (Array.getElem?_eq_some_iff.1 hh).1
  · rw [hh]
    have : cs = #[.int .i64 m] := by
      simp only [World.cell?, hh] at hm
      obtain ⟨l⟩ := cs
      match l, hs, hm with
      | [x], _, hm => simp at hm; rw [hm]
      | [], hs, _ => cases hs
      | _ :: _ :: _, hs, _ => simp at hs
    rw [this]
theorem cells_there {W : World} (h : W.ShapedOpen Tryz.prog) : ∃ (k : Nat) (cc : Array Value) (el : TypeId) (fr : Nat × Nat), W.heap[k]? = some (.cells cc el fr) := by
  obtain ⟨-, m, el, fr, q⟩ := max_there h
  exact ⟨0, _, el, fr, q⟩
theorem glob_there [Flag] (hf : Flag.b = false) {W : World} (h : W.ShapedOpen Tryz.prog) : Glob.ok W.heap.size W.heap :=
  ⟨(max_there h).1, (max_there h).2, fun q => (by rw [hf] at q; cases q)⟩
end Go.Proofs.Xx
