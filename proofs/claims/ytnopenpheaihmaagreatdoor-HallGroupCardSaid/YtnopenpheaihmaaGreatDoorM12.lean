/-
  A permutation keeps a table; lists compared; numbers looked for by a function.
-/
import Derived.Test.YtnopenpheaihmaaGreatDoorM11
import Derived.Test.YtnopenpheaihmaaGreatDoorM9

namespace Go.Proofs.Xx
open Go Go.Proofs
set_option linter.unusedSimpArgs false
set_option linter.unusedVariables false
set_option maxRecDepth 100000

abbrev pAt (p : List Int) (k : Nat) : Int := p.getD k default
def KeepM (t : Tab) (p : List Int) (k m : Nat) : Prop := (besideP t k m ↔ besideP t (pAt p k) (pAt p m)) ∧ (acrossP t k m ↔ acrossP t (pAt p k) (pAt p m))
def KeepK (t : Tab) (p : List Int) (k : Nat) : Prop := (openP t k ↔ openP t (pAt p k)) ∧ ∀ m, m < k → KeepM t p k m
def KeepP (t : Tab) (p : List Int) : Prop := ∀ k, k < p.length → KeepK t p k
theorem nxt {q : Nat → Prop} {m : Nat} (h : ∀ j, j < m → q j) (hm : q m) : ∀ j, j < m + 1 → q j := fun j hj => by
  rcases Nat.lt_or_ge j m with k | k
  · exact h j k
  · obtain rfl : j = m := by omega
    exact hm
theorem keeps_ok {h0 : AH} (w : WfH h0) (t : Tab) (r : TabR h0 t) (hs : TabS t) (pv : Value) (p : List Int) (hp : RdL h0 pv 1 eI p) (hn : (p.length : Int) = tsize t) (hb : ∀ k, k < p.length → 0 ≤ pAt p k ∧ pAt p k < tsize t) :
    Fn Tryz.prog Xh 96 [tabV t, pv] h0 (fun v h' => BoolIs v (KeepP t p) ∧ Hs h0 h' []) := by
  have S := Hs.start w
  have hB := hs.b
  have hsz := tsize_le t
  obtain ⟨hov, hnm, hol⟩ := r
  refine Fn_K rfl Tryz.func96 rfl rfl ?_
  all_goals (repeat' (first | refine K_seq ?_ | refine k_block ?_ | (refine K_region (id := 0) ?_; (refine bx S ?_; clear S; intro b h S); refine mv ?_; refine KO_nil ?_) | (refine K_region (id := 1) ?_; refine mv ?_; refine lnB S ?_; refine mv ?_; refine KO_nil ?_)))
  obtain ⟨bt, hnm⟩ : ∃ x, x = b := ⟨_, rfl⟩; subst hnm
  refine k_loop (σ := Nat) (fun k h' => Hs h0 h' [.blk bt (eT t) 25] ∧ k ≤ p.length ∧ ∀ j, j < k → KeepK t p j) (fun k => p.length - k) (fun k => [(1, pv), (2, .pointer (some ⟨bt, 0, none⟩)), (8, .int .i64 p.length), (9, .int .i64 k)]) 0 (by repeat (first | exact Ks.le_nil _ | refine Ks.le_cons rfl ?_)) ?_ ?_
  · exact ⟨S, Nat.zero_le _, fun j hj => absurd hj (Nat.not_lt_zero _)⟩
  clear S
  rintro k h ⟨S, h1, h2⟩
  all_goals (repeat' (first | refine K_seq ?_ | refine k_cond rfl ?_ | refine K_skip ?_ | refine K_exit ?_ | refine k_block ?_ | (refine K_region (id := 2) ?_; (first | (refine cS ?_ ?_ <;> intro hc)) <;> (refine KO_nil ?_)) | (refine K_region (id := 3) ?_; refine mv ?_; refine mv ?_; refine KO_nil ?_) | (refine K_region (id := 13) ?_; refine mv ?_; refine KO_nil ?_)))
  · have hk : k < p.length := by omega
    have hbk := hb k hk
    refine K_join (σ := Unit) (fun _ h' => Hs h0 h' [.blk bt (eT t) 25] ∧ (openP t k ↔ openP t (pAt p k))) (fun _ => [(1, pv), (2, .pointer (some ⟨bt, 0, none⟩)), (5, .int .i64 k), (8, .int .i64 p.length), (9, .int .i64 k)]) ?_ ?_
    · refine K_drawX (id := 4) [(5, (0, 1)), (9, (0, 1))] [some (bt), some (blkS pv)] ?_; refine KX_cons ?_; (first | (refine vl ?_ <;> refine KO_nil ⟨⟨by (first | exact True.intro), rfl⟩, ?_⟩)); refine KX_cons ?_; (first | (refine lB S rfl rfl ?_ <;> refine KO_nil ⟨⟨by (first | exact True.intro), rfl⟩, ?_⟩)); refine KX_cons ?_; (first | (refine mv ?_ <;> refine KO_nil ⟨⟨by (first | exact True.intro), rfl⟩, ?_⟩))
      ((refine KX_cons ?_; first | refine KO_fn rfl rfl rfl rfl rfl ((containsI_ok S.wf t.ov t.opn (hov.ext w S.ext) (by omega) k).mono ?_)); rintro _ h ⟨⟨rfl, ho⟩ | ⟨rfl, ho⟩, x⟩) <;> ((refine KO_nil ⟨⟨True.intro, ?_⟩, ?_⟩; (focus ((show keepsX _ _ _ _ _; simp only [keepsX]; (repeat' (first | exact True.intro | refine And.intro ?_ ?_)); all_goals (intro hw; first | exact x.ext.old _ S.bB | exact x.ext.old _ (S.bX (by assumption) (by assumption) (by first | omega))))))); replace S := S.join0 x; clear x; refine KX_cons ?_; (first | (refine vl ?_ <;> refine KO_nil ⟨⟨by (first | exact True.intro), rfl⟩, ?_⟩)); refine KX_cons ?_; (first | (refine lB S rfl rfl ?_ <;> refine KO_nil ⟨⟨by (first | exact Or.inr rfl), rfl⟩, ?_⟩)); refine KX_cons ?_; (first | (refine mv ?_ <;> refine KO_nil ⟨⟨by (first | exact True.intro), rfl⟩, ?_⟩)); refine KX_cons ?_; (first | (refine mv ?_ <;> refine KO_nil ⟨⟨by (first | exact True.intro), rfl⟩, ?_⟩)); refine KX_cons ?_; (first | (refine ixB S ?_ <;> refine KO_nil ⟨⟨by (first | exact True.intro), rfl⟩, ?_⟩)); refine KX_cons ?_; (first | (refine lEB S ?_ <;> refine KO_nil ⟨⟨by (first | exact Or.inr (congrArg some (blkOf_elA _ _ _ _))), rfl⟩, ?_⟩)))
      all_goals (try simp only [Int.toNat_natCast])
      all_goals (((refine KX_cons ?_; first | refine KO_fn rfl rfl rfl rfl rfl ((containsI_ok S.wf t.ov t.opn (hov.ext w S.ext) (by omega) (pAt p k)).mono ?_)); rintro _ h ⟨⟨rfl, ho2⟩ | ⟨rfl, ho2⟩, x⟩) <;> ((refine KO_nil ⟨⟨True.intro, ?_⟩, ?_⟩; (focus ((show keepsX _ _ _ _ _; simp only [keepsX]; (repeat' (first | exact True.intro | refine And.intro ?_ ?_)); all_goals (intro hw; first | exact x.ext.old _ S.bB | exact x.ext.old _ (S.bX (by assumption) (by assumption) (by first | omega))))))); replace S := S.join0 x; clear x; refine KX_cons ?_; (first | (refine vl ?_ <;> refine KO_nil ⟨⟨by (first | exact True.intro), rfl⟩, ?_⟩)); refine KX_nil ?_))
      all_goals (all_goals (repeat' (first | refine K_seq ?_ | refine k_cond rfl ?_ | refine K_skip ?_ | (refine K_region (id := 5) ?_; refine mv ?_; refine KO_nil ?_))))
      · exact ⟨(), ⟨S, ⟨fun _ => ho2, fun _ => ho⟩⟩, ((by repeat (first | exact Ks.le_nil _ | refine Ks.le_cons rfl ?_)))⟩
      · refine K_ret ⟨_, rfl, ?_⟩
        exact ⟨.inr ⟨rfl, fun q => ho2 ((q k hk).1.1 ho)⟩, S.drop⟩
      · refine K_ret ⟨_, rfl, ?_⟩
        exact ⟨.inr ⟨rfl, fun q => ho ((q k hk).1.2 ho2)⟩, S.drop⟩
      · exact ⟨(), ⟨S, ⟨fun q => absurd q ho, fun q => absurd q ho2⟩⟩, ((by repeat (first | exact Ks.le_nil _ | refine Ks.le_cons rfl ?_)))⟩
    · clear S
      rintro - h ⟨S, hop⟩
      skip
      all_goals (repeat' (first | refine K_seq ?_ | refine k_block ?_ | (refine K_region (id := 6) ?_; refine mv ?_; refine mv ?_; refine KO_nil ?_)))
      refine k_loop (σ := Nat) (fun m h' => Hs h0 h' [.blk bt (eT t) 25] ∧ m ≤ k ∧ ∀ j, j < m → KeepM t p k j) (fun m => k - m) (fun m => [(1, pv), (2, .pointer (some ⟨bt, 0, none⟩)), (5, .int .i64 k), (8, .int .i64 p.length), (9, .int .i64 k), (24, .int .i64 k), (25, .int .i64 m)]) 0 (by repeat (first | exact Ks.le_nil _ | refine Ks.le_cons rfl ?_)) ?_ ?_
      · exact ⟨S, Nat.zero_le _, fun j hj => absurd hj (Nat.not_lt_zero _)⟩
      clear S
      rintro m h ⟨S, g1, g2⟩
      all_goals (repeat' (first | refine K_seq ?_ | refine k_cond rfl ?_ | refine K_skip ?_ | refine K_exit ?_ | refine k_block ?_ | (refine K_region (id := 7) ?_; (first | (refine cS ?_ ?_ <;> intro hc)) <;> (refine KO_nil ?_)) | (refine K_region (id := 8) ?_; refine mv ?_; refine mv ?_; refine KO_nil ?_) | (refine K_region (id := 12) ?_; refine ad ?_; refine mv ?_; refine KO_nil ?_)))
      · have hm : m < k := by omega
        have hbm := hb m (by omega)
        refine K_drawX (id := 9) [(4, (0, 1)), (8, (0, 1)), (12, (0, 1)), (20, (2, 3)), (24, (2, 3)), (28, (2, 3))] [some (bt), some (blkS pv), some (blkS pv), some (bt), some (blkS pv), some (blkS pv)] ?_; refine KX_cons ?_; (first | (refine lB S rfl rfl ?_ <;> refine KO_nil ⟨⟨by (first | exact True.intro), rfl⟩, ?_⟩)); refine KX_cons ?_; (first | (refine mv ?_ <;> refine KO_nil ⟨⟨by (first | exact True.intro), rfl⟩, ?_⟩)); refine KX_cons ?_; (first | (refine mv ?_ <;> refine KO_nil ⟨⟨by (first | exact True.intro), rfl⟩, ?_⟩))
        ((refine KX_cons ?_; first | refine KO_fn rfl rfl rfl rfl rfl ((beside_ok S.wf t k m hB (by omega) (by omega)).mono ?_)); rintro _ h ⟨⟨rfl, ho⟩ | ⟨rfl, ho⟩, x⟩) <;> ((refine KO_nil ⟨⟨True.intro, ?_⟩, ?_⟩; (focus ((show keepsX _ _ _ _ _; simp only [keepsX]; (repeat' (first | exact True.intro | refine And.intro ?_ ?_)); all_goals (intro hw; first | exact x.ext.old _ S.bB | exact x.ext.old _ (S.bX (by assumption) (by assumption) (by first | omega))))))); replace S := S.join0 x; clear x; refine KX_cons ?_; (first | (refine lB S rfl rfl ?_ <;> refine KO_nil ⟨⟨by (first | exact Or.inr rfl), rfl⟩, ?_⟩)); refine KX_cons ?_; (first | (refine mv ?_ <;> refine KO_nil ⟨⟨by (first | exact True.intro), rfl⟩, ?_⟩)); refine KX_cons ?_; (first | (refine mv ?_ <;> refine KO_nil ⟨⟨by (first | exact True.intro), rfl⟩, ?_⟩)); refine KX_cons ?_; (first | (refine ixB S ?_ <;> refine KO_nil ⟨⟨by (first | exact True.intro), rfl⟩, ?_⟩)); refine KX_cons ?_; (first | (refine lEB S ?_ <;> refine KO_nil ⟨⟨by (first | exact Or.inr (congrArg some (blkOf_elA _ _ _ _))), rfl⟩, ?_⟩)); refine KX_cons ?_; (first | (refine mv ?_ <;> refine KO_nil ⟨⟨by (first | exact True.intro), rfl⟩, ?_⟩)); refine KX_cons ?_; (first | (refine mv ?_ <;> refine KO_nil ⟨⟨by (first | exact True.intro), rfl⟩, ?_⟩)); refine KX_cons ?_; (first | (refine ixB S ?_ <;> refine KO_nil ⟨⟨by (first | exact True.intro), rfl⟩, ?_⟩)); refine KX_cons ?_; (first | (refine lEB S ?_ <;> refine KO_nil ⟨⟨by (first | exact Or.inr (congrArg some (blkOf_elA _ _ _ _))), rfl⟩, ?_⟩)))
        all_goals (try simp only [Int.toNat_natCast])
        all_goals (((refine KX_cons ?_; first | refine KO_fn rfl rfl rfl rfl rfl ((beside_ok S.wf t (pAt p k) (pAt p m) hB (by omega) (by omega)).mono ?_)); rintro _ h ⟨⟨rfl, ho2⟩ | ⟨rfl, ho2⟩, x⟩) <;> ((refine KO_nil ⟨⟨True.intro, ?_⟩, ?_⟩; (focus ((show keepsX _ _ _ _ _; simp only [keepsX]; (repeat' (first | exact True.intro | refine And.intro ?_ ?_)); all_goals (intro hw; first | exact x.ext.old _ S.bB | exact x.ext.old _ (S.bX (by assumption) (by assumption) (by first | omega))))))); replace S := S.join0 x; clear x; refine KX_cons ?_; (first | (refine vl ?_ <;> refine KO_nil ⟨⟨by (first | exact True.intro), rfl⟩, ?_⟩)); refine KX_cons ?_; (first | (refine mv ?_ <;> refine KO_nil ⟨⟨by (first | exact True.intro), rfl⟩, ?_⟩)); refine KX_cons ?_; (first | (refine off ?_; refine KO_nil ⟨⟨by (first | exact True.intro), rfl⟩, ?_⟩) | (refine lB S rfl rfl ?_ <;> refine KO_nil ⟨⟨by (first | exact True.intro), rfl⟩, ?_⟩)); refine KX_cons ?_; (first | (refine off ?_; refine KO_nil ⟨⟨by (first | exact True.intro), rfl⟩, ?_⟩) | (refine mv ?_ <;> refine KO_nil ⟨⟨by (first | exact True.intro), rfl⟩, ?_⟩)); refine KX_cons ?_; (first | (refine off ?_; refine KO_nil ⟨⟨by (first | exact True.intro), rfl⟩, ?_⟩) | (refine mv ?_ <;> refine KO_nil ⟨⟨by (first | exact True.intro), rfl⟩, ?_⟩)); (first | (refine KX_cons ?_; refine off ?_; refine KO_nil ⟨⟨True.intro, by show keepsX _ _ _ _ _; simp [keepsX]⟩, ?_⟩; refine KX_cons ?_; (first | (refine off ?_; refine KO_nil ⟨⟨by (first | exact Or.inl rfl), rfl⟩, ?_⟩)); refine KX_cons ?_; (first | (refine off ?_; refine KO_nil ⟨⟨by (first | exact True.intro), rfl⟩, ?_⟩)); refine KX_cons ?_; (first | (refine off ?_; refine KO_nil ⟨⟨by (first | exact True.intro), rfl⟩, ?_⟩)); refine KX_cons ?_; (first | (refine off ?_; refine KO_nil ⟨⟨by (first | exact True.intro), rfl⟩, ?_⟩)); refine KX_cons ?_; (first | (refine off ?_; refine KO_nil ⟨⟨by (first | exact Or.inl rfl), rfl⟩, ?_⟩)); refine KX_cons ?_; (first | (refine off ?_; refine KO_nil ⟨⟨by (first | exact True.intro), rfl⟩, ?_⟩)); refine KX_cons ?_; (first | (refine off ?_; refine KO_nil ⟨⟨by (first | exact True.intro), rfl⟩, ?_⟩)); refine KX_cons ?_; (first | (refine off ?_; refine KO_nil ⟨⟨by (first | exact True.intro), rfl⟩, ?_⟩)); refine KX_cons ?_; (first | (refine off ?_; refine KO_nil ⟨⟨by (first | exact Or.inl rfl), rfl⟩, ?_⟩)); (first | (refine KX_cons ?_; refine off ?_; refine KO_nil ⟨⟨True.intro, by show keepsX _ _ _ _ _; simp [keepsX]⟩, ?_⟩; refine KX_cons ?_; (first | (refine off ?_; refine KO_nil ⟨⟨by (first | exact True.intro), rfl⟩, ?_⟩)); refine KX_cons ?_; (first | (refine vl ?_ <;> refine KO_nil ⟨⟨by (first | exact True.intro), rfl⟩, ?_⟩)); refine KX_nil ?_))) | skip)))
        · ((refine KX_cons ?_; first | refine KO_fn rfl rfl rfl rfl rfl ((across_ok S.wf t k m hB (by omega) (by omega)).mono ?_)); rintro _ h ⟨⟨rfl, ha⟩ | ⟨rfl, ha⟩, x⟩) <;> ((refine KO_nil ⟨⟨True.intro, ?_⟩, ?_⟩; (focus ((show keepsX _ _ _ _ _; simp only [keepsX]; (repeat' (first | exact True.intro | refine And.intro ?_ ?_)); all_goals (intro hw; first | exact x.ext.old _ S.bB | exact x.ext.old _ (S.bX (by assumption) (by assumption) (by first | omega))))))); replace S := S.join0 x; clear x; refine KX_cons ?_; (first | (refine lB S rfl rfl ?_ <;> refine KO_nil ⟨⟨by (first | exact Or.inr rfl), rfl⟩, ?_⟩)); refine KX_cons ?_; (first | (refine mv ?_ <;> refine KO_nil ⟨⟨by (first | exact True.intro), rfl⟩, ?_⟩)); refine KX_cons ?_; (first | (refine mv ?_ <;> refine KO_nil ⟨⟨by (first | exact True.intro), rfl⟩, ?_⟩)); refine KX_cons ?_; (first | (refine ixB S ?_ <;> refine KO_nil ⟨⟨by (first | exact True.intro), rfl⟩, ?_⟩)); refine KX_cons ?_; (first | (refine lEB S ?_ <;> refine KO_nil ⟨⟨by (first | exact Or.inr (congrArg some (blkOf_elA _ _ _ _))), rfl⟩, ?_⟩)); refine KX_cons ?_; (first | (refine mv ?_ <;> refine KO_nil ⟨⟨by (first | exact True.intro), rfl⟩, ?_⟩)); refine KX_cons ?_; (first | (refine mv ?_ <;> refine KO_nil ⟨⟨by (first | exact True.intro), rfl⟩, ?_⟩)); refine KX_cons ?_; (first | (refine ixB S ?_ <;> refine KO_nil ⟨⟨by (first | exact True.intro), rfl⟩, ?_⟩)); refine KX_cons ?_; (first | (refine lEB S ?_ <;> refine KO_nil ⟨⟨by (first | exact Or.inr (congrArg some (blkOf_elA _ _ _ _))), rfl⟩, ?_⟩)); (skip))
          all_goals (try simp only [Int.toNat_natCast])
          all_goals (((refine KX_cons ?_; first | refine KO_fn rfl rfl rfl rfl rfl ((across_ok S.wf t (pAt p k) (pAt p m) hB (by omega) (by omega)).mono ?_)); rintro _ h ⟨⟨rfl, ha2⟩ | ⟨rfl, ha2⟩, x⟩) <;> ((refine KO_nil ⟨⟨True.intro, ?_⟩, ?_⟩; (focus ((show keepsX _ _ _ _ _; simp only [keepsX]; (repeat' (first | exact True.intro | refine And.intro ?_ ?_)); all_goals (intro hw; first | exact x.ext.old _ S.bB | exact x.ext.old _ (S.bX (by assumption) (by assumption) (by first | omega))))))); replace S := S.join0 x; clear x; refine KX_cons ?_; (first | (refine vl ?_ <;> refine KO_nil ⟨⟨by (first | exact True.intro), rfl⟩, ?_⟩)); refine KX_cons ?_; (first | (refine vl ?_ <;> refine KO_nil ⟨⟨by (first | exact True.intro), rfl⟩, ?_⟩)); refine KX_nil ?_))
          all_goals (all_goals (repeat' (first | refine K_seq ?_ | refine k_cond rfl ?_ | refine K_skip ?_ | (refine K_region (id := 10) ?_; refine mv ?_; refine KO_nil ?_) | (refine K_region (id := 11) ?_; refine ad ?_; refine mv ?_; refine KO_nil ?_))))
          · refine ⟨m + 1, ?_, ?_, (by repeat (first | exact Ks.le_nil _ | refine Ks.le_cons rfl ?_))⟩
            · show k - (m + 1) < k - m; omega
            · exact ⟨S, by omega, nxt g2 ⟨⟨fun _ => ho2, fun _ => ho⟩, ⟨fun _ => ha2, fun _ => ha⟩⟩⟩
          · refine K_ret ⟨_, rfl, ?_⟩
            exact ⟨.inr ⟨rfl, fun q => ha2 (((q k hk).2 m hm).2.1 ha)⟩, S.drop⟩
          · refine K_ret ⟨_, rfl, ?_⟩
            exact ⟨.inr ⟨rfl, fun q => ha (((q k hk).2 m hm).2.2 ha2)⟩, S.drop⟩
          · refine ⟨m + 1, ?_, ?_, (by repeat (first | exact Ks.le_nil _ | refine Ks.le_cons rfl ?_))⟩
            · show k - (m + 1) < k - m; omega
            · exact ⟨S, by omega, nxt g2 ⟨⟨fun _ => ho2, fun _ => ho⟩, ⟨fun q => absurd q ha, fun q => absurd q ha2⟩⟩⟩
        · all_goals (repeat' (first | refine K_seq ?_ | refine k_cond rfl ?_ | (refine K_region (id := 10) ?_; refine mv ?_; refine KO_nil ?_)))
          refine K_ret ⟨_, rfl, ?_⟩
          exact ⟨.inr ⟨rfl, fun q => ho2 (((q k hk).2 m hm).1.1 ho)⟩, S.drop⟩
        · all_goals (repeat' (first | refine K_seq ?_ | refine k_cond rfl ?_ | (refine K_region (id := 10) ?_; refine mv ?_; refine KO_nil ?_)))
          refine K_ret ⟨_, rfl, ?_⟩
          exact ⟨.inr ⟨rfl, fun q => ho (((q k hk).2 m hm).1.2 ho2)⟩, S.drop⟩
        · ((refine KX_cons ?_; first | refine KO_fn rfl rfl rfl rfl rfl ((across_ok S.wf t k m hB (by omega) (by omega)).mono ?_)); rintro _ h ⟨⟨rfl, ha⟩ | ⟨rfl, ha⟩, x⟩) <;> ((refine KO_nil ⟨⟨True.intro, ?_⟩, ?_⟩; (focus ((show keepsX _ _ _ _ _; simp only [keepsX]; (repeat' (first | exact True.intro | refine And.intro ?_ ?_)); all_goals (intro hw; first | exact x.ext.old _ S.bB | exact x.ext.old _ (S.bX (by assumption) (by assumption) (by first | omega))))))); replace S := S.join0 x; clear x; refine KX_cons ?_; (first | (refine lB S rfl rfl ?_ <;> refine KO_nil ⟨⟨by (first | exact Or.inr rfl), rfl⟩, ?_⟩)); refine KX_cons ?_; (first | (refine mv ?_ <;> refine KO_nil ⟨⟨by (first | exact True.intro), rfl⟩, ?_⟩)); refine KX_cons ?_; (first | (refine mv ?_ <;> refine KO_nil ⟨⟨by (first | exact True.intro), rfl⟩, ?_⟩)); refine KX_cons ?_; (first | (refine ixB S ?_ <;> refine KO_nil ⟨⟨by (first | exact True.intro), rfl⟩, ?_⟩)); refine KX_cons ?_; (first | (refine lEB S ?_ <;> refine KO_nil ⟨⟨by (first | exact Or.inr (congrArg some (blkOf_elA _ _ _ _))), rfl⟩, ?_⟩)); refine KX_cons ?_; (first | (refine mv ?_ <;> refine KO_nil ⟨⟨by (first | exact True.intro), rfl⟩, ?_⟩)); refine KX_cons ?_; (first | (refine mv ?_ <;> refine KO_nil ⟨⟨by (first | exact True.intro), rfl⟩, ?_⟩)); refine KX_cons ?_; (first | (refine ixB S ?_ <;> refine KO_nil ⟨⟨by (first | exact True.intro), rfl⟩, ?_⟩)); refine KX_cons ?_; (first | (refine lEB S ?_ <;> refine KO_nil ⟨⟨by (first | exact Or.inr (congrArg some (blkOf_elA _ _ _ _))), rfl⟩, ?_⟩)); (skip))
          all_goals (try simp only [Int.toNat_natCast])
          all_goals (((refine KX_cons ?_; first | refine KO_fn rfl rfl rfl rfl rfl ((across_ok S.wf t (pAt p k) (pAt p m) hB (by omega) (by omega)).mono ?_)); rintro _ h ⟨⟨rfl, ha2⟩ | ⟨rfl, ha2⟩, x⟩) <;> ((refine KO_nil ⟨⟨True.intro, ?_⟩, ?_⟩; (focus ((show keepsX _ _ _ _ _; simp only [keepsX]; (repeat' (first | exact True.intro | refine And.intro ?_ ?_)); all_goals (intro hw; first | exact x.ext.old _ S.bB | exact x.ext.old _ (S.bX (by assumption) (by assumption) (by first | omega))))))); replace S := S.join0 x; clear x; refine KX_cons ?_; (first | (refine vl ?_ <;> refine KO_nil ⟨⟨by (first | exact True.intro), rfl⟩, ?_⟩)); refine KX_cons ?_; (first | (refine vl ?_ <;> refine KO_nil ⟨⟨by (first | exact True.intro), rfl⟩, ?_⟩)); refine KX_nil ?_))
          all_goals (all_goals (repeat' (first | refine K_seq ?_ | refine k_cond rfl ?_ | refine K_skip ?_ | (refine K_region (id := 10) ?_; refine mv ?_; refine KO_nil ?_) | (refine K_region (id := 11) ?_; refine ad ?_; refine mv ?_; refine KO_nil ?_))))
          · refine ⟨m + 1, ?_, ?_, (by repeat (first | exact Ks.le_nil _ | refine Ks.le_cons rfl ?_))⟩
            · show k - (m + 1) < k - m; omega
            · exact ⟨S, by omega, nxt g2 ⟨⟨fun q => absurd q ho, fun q => absurd q ho2⟩, ⟨fun _ => ha2, fun _ => ha⟩⟩⟩
          · refine K_ret ⟨_, rfl, ?_⟩
            exact ⟨.inr ⟨rfl, fun q => ha2 (((q k hk).2 m hm).2.1 ha)⟩, S.drop⟩
          · refine K_ret ⟨_, rfl, ?_⟩
            exact ⟨.inr ⟨rfl, fun q => ha (((q k hk).2 m hm).2.2 ha2)⟩, S.drop⟩
          · refine ⟨m + 1, ?_, ?_, (by repeat (first | exact Ks.le_nil _ | refine Ks.le_cons rfl ?_))⟩
            · show k - (m + 1) < k - m; omega
            · exact ⟨S, by omega, nxt g2 ⟨⟨fun q => absurd q ho, fun q => absurd q ho2⟩, ⟨fun q => absurd q ha, fun q => absurd q ha2⟩⟩⟩
      · have hmk : m = k := by omega
        subst hmk
        skip
        all_goals (repeat' (fail))
        refine ⟨m + 1, ?_, ?_, (by repeat (first | exact Ks.le_nil _ | refine Ks.le_cons rfl ?_))⟩
        · show p.length - (m + 1) < p.length - m; omega
        · exact ⟨S, by omega, nxt h2 ⟨hop, g2⟩⟩
  · skip
    all_goals (repeat' (fail))
    refine K_ret ⟨_, rfl, ?_⟩
    exact ⟨.inl ⟨rfl, fun k hk => h2 k (by omega)⟩, S.drop⟩
def cmpI (x y : Int) : Int := if x < y then -1 else if y < x then 1 else 0
theorem cmpI_ok {h0 : AH} (w : WfH h0) (x y : Int) : Fn Tryz.prog Xh 115 [.int .i64 x, .int .i64 y] h0 (fun v h' => v = .int .i64 (cmpI x y) ∧ Hs h0 h' []) := by
  have S := Hs.start w
  refine Fn_K rfl Tryz.func115 rfl rfl ?_
  all_goals (repeat' (first | refine K_seq ?_ | (refine K_region (id := 0) ?_; refine mv ?_; refine KO_nil ?_) | (refine K_region (id := 1) ?_; refine mv ?_)))
  (refine KO_fn rfl rfl rfl rfl rfl ((isNaN_ok S.wf x).mono ?_); rintro _ h ⟨rfl, x⟩) <;> (replace S := S.join0 x; clear x; refine mv ?_; refine KO_nil ?_)
  all_goals (repeat' (first | refine K_seq ?_ | (refine K_region (id := 2) ?_; refine mv ?_)))
  (refine KO_fn rfl rfl rfl rfl rfl ((isNaN_ok S.wf y).mono ?_); rintro _ h ⟨rfl, x⟩) <;> (replace S := S.join0 x; clear x; refine mv ?_; refine KO_nil ?_)
  all_goals (repeat' (first | refine K_seq ?_ | refine k_cond rfl ?_ | refine K_skip ?_ | (refine K_region (id := 3) ?_; refine mv ?_; refine KO_nil ?_) | (refine K_region (id := 7) ?_; refine mv ?_; refine KO_nil ?_) | (refine K_region (id := 9) ?_; refine mv ?_; refine mv ?_; (first | (refine cS ?_ ?_ <;> intro hc)) <;> (refine KO_nil ?_)) | (refine K_region (id := 10) ?_; refine mv ?_; refine KO_nil ?_) | (refine K_region (id := 11) ?_; refine mv ?_; refine mv ?_; (first | (refine cS ?_ ?_ <;> intro hc)) <;> (refine KO_nil ?_)) | (refine K_region (id := 12) ?_; refine mv ?_; refine KO_nil ?_) | (refine K_region (id := 13) ?_; refine mv ?_; refine KO_nil ?_)))
  all_goals (refine K_ret ⟨_, rfl, ?_⟩)
  all_goals refine ⟨?_, S⟩
  · show Value.int .i64 (-1) = _; unfold cmpI; rw [if_pos (by omega)]
  · show Value.int .i64 1 = _; unfold cmpI; rw [if_neg (by omega), if_pos (by omega)]
  · show Value.int .i64 0 = _; unfold cmpI; rw [if_neg (by omega), if_neg (by omega)]
/-- The order of lists. -/
def ltL : List Int → List Int → Prop
  | [], [] => False
  | [], _ :: _ => True
  | _ :: _, [] => False
  | a :: l, b :: m => a < b ∨ (a = b ∧ ltL l m)
theorem ltL_irr : ∀ l, ¬ ltL l l
  | [] => fun h => h
  | a :: l => fun h => h.elim (fun q => by omega) fun q => ltL_irr l q.2
theorem ltL_trans : ∀ {a b c : List Int}, ltL a b → ltL b c → ltL a c
  | [], [], _, h, _ => h.elim
  | [], _ :: _, [], _, h => h.elim
  | [], _ :: _, _ :: _, _, _ => trivial
  | _ :: _, [], _, h, _ => h.elim
  | _ :: _, _ :: _, [], _, h => h.elim
  | a :: l, b :: m, c :: n, h1, h2 => by
    rcases h1 with h1 | ⟨rfl, h1⟩ <;> rcases h2 with h2 | ⟨rfl, h2⟩
    · exact .inl (by omega)
    · exact .inl h1
    · exact .inl h2
    · exact .inr ⟨rfl, ltL_trans h1 h2⟩
theorem ltL_tri : ∀ a b : List Int, ltL a b ∨ a = b ∨ ltL b a
  | [], [] => .inr (.inl rfl)
  | [], _ :: _ => .inl trivial
  | _ :: _, [] => .inr (.inr trivial)
  | a :: l, b :: m => by
    rcases Int.lt_trichotomy a b with h | rfl | h
    · exact .inl (.inl h)
    · rcases ltL_tri l m with k | rfl | k
      · exact .inl (.inr ⟨rfl, k⟩)
      · exact .inr (.inl rfl)
      · exact .inr (.inr (.inr ⟨rfl, k⟩))
    · exact .inr (.inr (.inl h))
theorem ltL_asym {a b : List Int} (h : ltL a b) : ¬ ltL b a := fun q => ltL_irr a (ltL_trans h q)
def CmpR (d : Int) (a b : List Int) : Prop := (d < 0 ∧ ltL a b) ∨ (d = 0 ∧ a = b) ∨ (0 < d ∧ ltL b a)
theorem drop_cons {l : List Int} {i : Nat} (h : i < l.length) : l.drop i = l.getD i default :: l.drop (i + 1) := by
  rw [List.drop_eq_getElem_cons h]
  simp [List.getD, h]
theorem CmpR.step {a b : List Int} {i : Nat} (hi : ∀ d, CmpR d (a.drop i) (b.drop i) → CmpR d a b) (ha : i < a.length) (hb : i < b.length) (e : a.getD i default = b.getD i default) : ∀ d, CmpR d (a.drop (i + 1)) (b.drop (i + 1)) → CmpR d a b := fun d k => hi d (by
  rw [drop_cons ha, drop_cons hb, e]
  rcases k with ⟨k1, k2⟩ | ⟨k1, k2⟩ | ⟨k1, k2⟩
  · exact .inl ⟨k1, .inr ⟨rfl, k2⟩⟩
  · exact .inr (.inl ⟨k1, by rw [k2]⟩)
  · exact .inr (.inr ⟨k1, .inr ⟨rfl, k2⟩⟩))
theorem compare_ok {h0 : AH} (w : WfH h0) (v u : Value) (a b : List Int) (hv : RdL h0 v 1 eI a) (hu : RdL h0 u 1 eI b) (ha : a.length ≤ 1000000) (hb : b.length ≤ 1000000) : Fn Tryz.prog Xh 57 [v, u] h0 (fun r h' => ∃ d, r = .int .i64 d ∧ CmpR d a b ∧ Hs h0 h' []) := by
  have S := Hs.start w
  refine Fn_K rfl Tryz.func57 rfl rfl ?_
  all_goals (repeat' (first | refine K_seq ?_ | refine k_block ?_ | (refine K_region (id := 0) ?_; refine mv ?_; refine KO_nil ?_) | (refine K_region (id := 1) ?_; refine mv ?_; refine lnB S ?_; refine mv ?_; refine KO_nil ?_)))
  refine k_loop (σ := Nat) (fun i h' => Hs h0 h' [] ∧ i ≤ a.length ∧ i ≤ b.length ∧ ∀ d, CmpR d (a.drop i) (b.drop i) → CmpR d a b) (fun i => a.length - i) (fun i => [(0, v), (1, u), (9, v), (10, .int .i64 a.length), (11, .int .i64 i)]) 0 (by repeat (first | exact Ks.le_nil _ | refine Ks.le_cons rfl ?_)) ?_ ?_
  · exact ⟨S, Nat.zero_le _, Nat.zero_le _, fun d q => q⟩
  clear S
  rintro i h ⟨S, h1, h2, h3⟩
  all_goals (repeat' (first | refine K_seq ?_ | refine k_cond rfl ?_ | refine K_skip ?_ | refine K_exit ?_ | refine k_block ?_ | (refine K_region (id := 2) ?_; (first | (refine cS ?_ ?_ <;> intro hc)) <;> (refine KO_nil ?_)) | (refine K_region (id := 3) ?_; refine mv ?_; refine ixB S ?_; refine lEB S ?_; refine mv ?_; refine mv ?_; refine KO_nil ?_) | (refine K_region (id := 4) ?_; refine mv ?_; refine mv ?_; refine lnB S ?_; (first | (refine cS ?_ ?_ <;> intro hc)) <;> (refine KO_nil ?_)) | (refine K_region (id := 5) ?_; refine mv ?_; refine KO_nil ?_) | (refine K_region (id := 6) ?_; refine mv ?_; refine mv ?_; refine ixB S ?_; refine lEB S ?_; refine mv ?_; refine KO_nil ?_) | (refine K_region (id := 7) ?_; refine mv ?_; refine mv ?_) | (refine K_region (id := 11) ?_; refine mv ?_; refine lnB S ?_; refine mv ?_; refine lnB S ?_; (first | (refine cS ?_ ?_ <;> intro hc)) <;> (refine KO_nil ?_)) | (refine K_region (id := 12) ?_; refine mv ?_; refine KO_nil ?_) | (refine K_region (id := 13) ?_; refine mv ?_; refine KO_nil ?_)))
  all_goals (try simp only [Int.toNat_natCast] at *)
  · refine K_ret ⟨_, rfl, ?_⟩
    refine ⟨1, rfl, h3 1 ?_, S⟩
    rw [drop_cons (l := a) (by omega), List.drop_of_length_le (l := b) (by omega)]
    exact .inr (.inr ⟨by omega, trivial⟩)
  · (refine KO_fn rfl rfl rfl rfl rfl ((cmpI_ok S.wf _ _).mono ?_); rintro _ h ⟨rfl, x⟩) <;> (replace S := S.join0 x; clear x; refine mv ?_; refine KO_nil ?_)
    all_goals (repeat' (first | refine K_seq ?_ | refine k_cond rfl ?_ | refine K_skip ?_ | (refine K_region (id := 8) ?_; refine mv ?_; (first | (refine cS ?_ ?_ <;> intro hc)) <;> (refine KO_nil ?_)) | (refine K_region (id := 9) ?_; refine mv ?_; refine mv ?_; refine KO_nil ?_) | (refine K_region (id := 10) ?_; refine ad ?_; refine mv ?_; refine KO_nil ?_)))
    · refine K_ret ⟨_, rfl, ?_⟩
      refine ⟨_, rfl, h3 _ ?_, S⟩
      rw [drop_cons (l := a) (by omega), drop_cons (l := b) (by omega)]
      unfold cmpI at hc ⊢
      rcases Int.lt_trichotomy (a.getD i default) (b.getD i default) with q | q | q
      · rw [if_pos q]
        exact .inl ⟨by omega, .inl q⟩
      · rw [if_neg (by omega), if_neg (by omega)] at hc
        exact absurd rfl hc
      · rw [if_neg (by omega), if_pos q]
        exact .inr (.inr ⟨by omega, .inl q⟩)
    · have e : a.getD i default = b.getD i default := by
        unfold cmpI at hc
        rcases Int.lt_trichotomy (a.getD i default) (b.getD i default) with q | q | q
        · rw [if_pos q] at hc; omega
        · exact q
        · rw [if_neg (by omega), if_pos q] at hc; omega
      refine ⟨i + 1, ?_, ?_, (by repeat (first | exact Ks.le_nil _ | refine Ks.le_cons rfl ?_))⟩
      · show a.length - (i + 1) < a.length - i; omega
      · exact ⟨S, by omega, by omega, CmpR.step h3 (by omega) (by omega) e⟩
  all_goals have hia : i = a.length := by omega
  · refine K_ret ⟨_, rfl, ?_⟩
    refine ⟨-1, rfl, h3 _ ?_, S⟩
    rw [List.drop_of_length_le (l := a) (by omega), drop_cons (l := b) (by omega)]
    exact .inl ⟨by omega, trivial⟩
  · refine K_ret ⟨_, rfl, ?_⟩
    refine ⟨0, rfl, h3 _ ?_, S⟩
    rw [List.drop_of_length_le (l := a) (by omega), List.drop_of_length_le (l := b) (by omega)]
    exact .inr (.inl ⟨rfl, rfl⟩)
/-- The first number of which a function is true. -/
theorem indexFunc_ok {h0 : AH} (w : WfH h0) (v : Value) (l : List Int) (hv : RdL h0 v 1 eI l) (hl : l.length ≤ 1000000) (f : FV) (q : Int → Prop)
    (C : ∀ h i, Ext h0 h → i < l.length → (∀ j, j < i → ¬ q (l.getD j default)) → Fn Tryz.prog Xh f.1 (.int .i64 (l.getD i default) :: f.2.toList) h (fun r h' => BoolIs r (q (l.getD i default)) ∧ Hs h h' [])) :
    Fn Tryz.prog Xh 127 [v, .func (.func f.1) #[] f.2] h0 (fun r h' => ((r = .int .i64 (-1) ∧ ∀ i, i < l.length → ¬ q (l.getD i default)) ∨ ∃ i : Nat, r = .int .i64 i ∧ i < l.length ∧ q (l.getD i default)) ∧ Hs h0 h' []) := by
  have S := Hs.start w
  refine Fn_K rfl Tryz.func127 rfl rfl ?_
  all_goals (repeat' (first | refine K_seq ?_ | refine k_block ?_ | (refine K_region (id := 0) ?_; refine mv ?_; refine KO_nil ?_) | (refine K_region (id := 1) ?_; refine mv ?_; refine lnB S ?_; refine mv ?_; refine KO_nil ?_)))
  refine k_loop (σ := Nat) (fun i h' => Hs h0 h' [] ∧ i ≤ l.length ∧ ∀ j, j < i → ¬ q (l.getD j default)) (fun i => l.length - i) (fun i => [(0, v), (1, .func (.func f.1) #[] f.2), (7, .int .i64 l.length), (8, .int .i64 i)]) 0 (by repeat (first | exact Ks.le_nil _ | refine Ks.le_cons rfl ?_)) ?_ ?_
  · exact ⟨S, Nat.zero_le _, fun j hj => absurd hj (Nat.not_lt_zero _)⟩
  clear S
  rintro i h ⟨S, h1, h2⟩
  all_goals (repeat' (first | refine K_seq ?_ | refine k_cond rfl ?_ | refine K_skip ?_ | refine K_exit ?_ | refine k_block ?_ | (refine K_region (id := 2) ?_; (first | (refine cS ?_ ?_ <;> intro hc)) <;> (refine KO_nil ?_)) | (refine K_region (id := 3) ?_; refine mv ?_; refine mv ?_; refine KO_nil ?_) | (refine K_region (id := 4) ?_; refine mv ?_; refine mv ?_; refine mv ?_; refine ixB S ?_; refine lEB S ?_) | (refine K_region (id := 7) ?_; refine mv ?_; refine KO_nil ?_)))
  · try simp only [Int.toNat_natCast] at *
    (refine KO_call rfl rfl rfl rfl ((C h i S.ext (by omega) h2).mono ?_); rintro _ h ⟨⟨rfl, hq⟩ | ⟨rfl, hq⟩, x⟩) <;> (replace S := S.join0 x; clear x; refine KO_nil ?_)
    · all_goals (repeat' (first | refine K_seq ?_ | refine k_cond rfl ?_ | (refine K_region (id := 5) ?_; refine mv ?_; refine mv ?_; refine KO_nil ?_)))
      refine K_ret ⟨_, rfl, ?_⟩
      exact ⟨.inr ⟨i, rfl, by omega, hq⟩, S⟩
    · all_goals (repeat' (first | refine k_cond rfl ?_ | refine K_skip ?_ | (refine K_region (id := 6) ?_; refine ad ?_; refine mv ?_; refine KO_nil ?_)))
      refine ⟨i + 1, ?_, ?_, (by repeat (first | exact Ks.le_nil _ | refine Ks.le_cons rfl ?_))⟩
      · show l.length - (i + 1) < l.length - i; omega
      · exact ⟨S, by omega, nxt h2 hq⟩
  · all_goals (repeat' (fail))
    refine K_ret ⟨_, rfl, ?_⟩
    exact ⟨.inl ⟨rfl, fun j hj => h2 j (by omega)⟩, S⟩
theorem containsFunc_ok {h0 : AH} (w : WfH h0) (v : Value) (l : List Int) (hv : RdL h0 v 1 eI l) (hl : l.length ≤ 1000000) (f : FV) (q : Int → Prop)
    (C : ∀ h i, Ext h0 h → i < l.length → (∀ j, j < i → ¬ q (l.getD j default)) → Fn Tryz.prog Xh f.1 (.int .i64 (l.getD i default) :: f.2.toList) h (fun r h' => BoolIs r (q (l.getD i default)) ∧ Hs h h' [])) :
    Fn Tryz.prog Xh 69 [v, .func (.func f.1) #[] f.2] h0 (fun r h' => BoolIs r (∃ i, i < l.length ∧ q (l.getD i default)) ∧ Hs h0 h' []) := by
  have S := Hs.start w
  refine Fn_K rfl Tryz.func69 rfl rfl ?_
  all_goals (repeat' (first | refine K_seq ?_ | (refine K_region (id := 0) ?_; refine mv ?_; refine KO_nil ?_) | (refine K_region (id := 1) ?_; refine mv ?_; refine mv ?_)))
  (refine KO_fn rfl rfl rfl rfl rfl ((indexFunc_ok S.wf v l (hv.ext w S.ext) hl f q (fun h i x => C h i (S.ext.trans x))).mono ?_); rintro _ h ⟨⟨rfl, hq⟩ | ⟨i, rfl, hi, hq⟩, x⟩) <;> (replace S := S.join0 x; clear x; (first | refine cT ?_ | refine cF ?_) <;> (refine mv ?_; refine KO_nil ?_))
  all_goals (all_goals (repeat' (fail)))
  all_goals (try omega)
  all_goals (refine K_ret ⟨_, rfl, ?_⟩)
  · exact ⟨.inr ⟨rfl, fun ⟨j, hj, q⟩ => hq j hj q⟩, S⟩
  · exact ⟨.inl ⟨rfl, i, hi, hq⟩, S⟩
end Go.Proofs.Xx

/-
  Sorting in place, by a function that compares.
-/
namespace Go.Proofs.Xx
open Go Go.Proofs
set_option linter.unusedSimpArgs false
set_option linter.unusedVariables false
set_option maxRecDepth 100000

/-- A list and the slice that it is read from. -/
abbrev PL := SlV × List Int
instance : Inhabited SlV := ⟨⟨none, 0, 0⟩⟩
def eP (x : PL) : List Value := [x.1.val]
def CmpFn (h0 : AH) (v : Value) (rs : List Rs) (g : Nat) (cap : List Value) (lt : PL → PL → Prop) (p : PL → Prop) : Prop :=
  ∀ h l x y, Hs h0 h (.sl v 23 1 eP l :: rs) → p x → p y → Fn Tryz.prog Xh g (x.1.val :: y.1.val :: cap) h (fun v h' => ∃ d, v = .int .i64 d ∧ ((d < 0 ∧ lt x y) ∨ (0 ≤ d ∧ ¬ lt x y)) ∧ Hs h h' [])

theorem ins_c {h0 h : AH} {rs : List Rs} {v : Value} {l : List PL} {g : Nat} {cap : List Value} {lt : PL → PL → Prop} {p : PL → Prop} (a b : Nat) (S : Hs h0 h (.sl v 23 1 eP l :: rs)) (C : CmpFn h0 v rs g cap lt p) (hp : ∀ k, k < l.length → p (l.getD k default)) (W : WOrd lt) (hab : a ≤ b) (hb : b ≤ l.length) (hl : l.length ≤ 1000000) :
    Fn Tryz.prog Xh 180 [v, .int .i64 a, .int .i64 b, cvV g cap] h (fun _ h' => ∃ l', Sw a b l l' ∧ Srt lt a b l' ∧ Hs h0 h' (.sl v 23 1 eP l' :: rs)) := by
  refine Fn_K rfl Tryz.func180 rfl rfl ?_
  all_goals (repeat' (first | refine K_seq ?_ | refine k_block ?_ | (refine K_region (id := 0) ?_; refine mv ?_; refine ad ?_; refine mv ?_; refine KO_nil ?_)))
  refine k_loop (σ := Nat × List PL) (fun (i, m) h' => Hs h0 h' (.sl v 23 1 eP m :: rs) ∧ a < i ∧ Sw a b l m ∧ Srt lt a (min i b) m) (fun (i, m) => b - i) (fun (i, m) => [(0, v), (1, .int .i64 a), (2, .int .i64 b), (3, cvV g cap), (8, .int .i64 i)]) (a + 1, l) (by repeat (first | exact Ks.le_nil _ | refine Ks.le_cons rfl ?_)) ?_ ?_
  · exact ⟨S, by omega, .refl _, fun i j q1 q2 q3 => by omega⟩
  clear S
  rintro ⟨i, m⟩ h ⟨S, h1, h2, h3⟩
  have hml := h2.len
  all_goals (repeat' (first | refine K_seq ?_ | refine k_cond rfl ?_ | refine K_skip ?_ | refine K_exit ?_ | refine k_block ?_ | (refine K_region (id := 1) ?_; refine mv ?_; refine mv ?_; (first | (refine cS ?_ ?_ <;> intro hc)) <;> (refine KO_nil ?_)) | (refine K_region (id := 3) ?_; refine mv ?_; refine mv ?_; refine KO_nil ?_)))
  · have hib : i < b := by omega
    rw [Nat.min_eq_left (by omega)] at h3
    refine k_loop (σ := Nat × List PL) (fun (j, n) h' => Hs h0 h' (.sl v 23 1 eP n :: rs) ∧ a ≤ j ∧ j ≤ i ∧ Sw a b l n ∧ InsI lt a i j n) (fun (j, n) => j) (fun (j, n) => [(0, v), (1, .int .i64 a), (2, .int .i64 b), (3, cvV g cap), (8, .int .i64 i), (9, .int .i64 j)]) (i, m) (by repeat (first | exact Ks.le_nil _ | refine Ks.le_cons rfl ?_)) ?_ ?_
    · exact ⟨S, by omega, Nat.le_refl _, h2, InsI.start h3⟩
    clear S h2 h3 hml
    rintro ⟨j, n⟩ h ⟨S, k1, k2, k3, k4⟩
    have hnl := k3.len
    have hpn := k3.lift hp hb
    all_goals (repeat' (first | refine K_seq ?_ | refine k_cond rfl ?_ | refine K_exit ?_ | (refine K_region (id := 2) ?_; refine mv ?_; refine ad ?_; refine mv ?_; refine KO_nil ?_) | (refine K_draw (id := 4) ?_; refine mv ?_; refine mv ?_; (first | (refine cS ?_ ?_ <;> intro hc)) <;> (refine mv ?_; (first | refine off ?_ | refine mv ?_); (first | refine off ?_ | refine mv ?_); (first | refine off ?_ | refine mv ?_); (first | refine off ?_ | (refine ixS2 S rfl rfl ?_)); (first | refine off ?_ | (refine lES2 S rfl rfl ?_)); (first | refine off ?_ | refine mv ?_); (first | refine off ?_ | refine mv ?_); (first | refine off ?_ | (refine sb ?_)); (first | refine off ?_ | (refine ixS2 S rfl rfl ?_)); (first | refine off ?_ | (refine lES2 S rfl rfl ?_)); (first | (refine off ?_; (refine off ?_) <;> (refine vl ?_; refine KO_nil ?_)) | skip)))))
    · (try (try simp only [toNat_pred, toNat_succ, toNat_sum, Int.toNat_natCast]))
      (refine KO_call rfl rfl rfl rfl ((C _ _ _ _ S (hpn j (by omega)) (hpn (j - 1) (by omega))).mono ?_); rintro _ h ⟨d, rfl, ⟨hd, hq⟩ | ⟨hd, hq⟩, x⟩) <;> (replace S := S.join0 x; clear x; (first | (first | refine cT ?_ | refine cF ?_)) <;> (refine vl ?_; refine KO_nil ?_))
      · all_goals (repeat' (first | refine K_seq ?_ | refine k_cond rfl ?_ | refine K_skip ?_ | refine k_block ?_ | (refine K_region (id := 5) ?_; refine mv ?_; refine sb ?_; refine mv ?_; refine KO_nil ?_) | (refine K_draw (id := 6) ?_; refine mv ?_; refine mv ?_; refine mv ?_; refine mv ?_; refine sb ?_; refine mv ?_; refine mv ?_; refine sb ?_; refine ixS2 S rfl rfl ?_; refine lES2 S rfl rfl ?_; refine mv ?_; refine mv ?_; refine ixS2 S rfl rfl ?_; refine lES2 S rfl rfl ?_; refine ixS2 S rfl rfl ?_; (first | (refine sE2 S rfl rfl ?_; clear S; intro h S)); refine ixS2 S rfl rfl ?_; (first | (refine sE2 S rfl rfl ?_; clear S; intro h S)); refine KO_nil ?_)))
        (try simp only [toNat_pred, toNat_succ, toNat_sum, Int.toNat_natCast] at S)
        refine ⟨(j - 1, swp n j (j - 1)), ?_, ?_, (by repeat (first | exact Ks.le_nil _ | refine Ks.le_cons rfl ?_ | refine Ks.le_int ?_))⟩
        · show j - 1 < j; omega
        · exact ⟨S, by omega, by omega, k3.step j (j - 1) ⟨by omega, by omega⟩ ⟨by omega, by omega⟩ (by omega), k4.next W (by omega) k2 (by omega) hq⟩
      · all_goals (repeat' (first | refine k_cond rfl ?_ | refine K_exit ?_ | (refine K_region (id := 2) ?_; refine mv ?_; refine ad ?_; refine mv ?_; refine KO_nil ?_)))
        refine ⟨(i + 1, n), ?_, ?_, (by repeat (first | exact Ks.le_nil _ | refine Ks.le_cons rfl ?_))⟩
        · show b - (i + 1) < b - i; omega
        · simp only [Nat.min_eq_left (show i + 1 ≤ b by omega)]
          exact ⟨S, by omega, k3, k4.done W (.inr hq)⟩
    · refine ⟨(i + 1, n), ?_, ?_, (by repeat (first | exact Ks.le_nil _ | refine Ks.le_cons rfl ?_))⟩
      · show b - (i + 1) < b - i; omega
      · simp only [Nat.min_eq_left (show i + 1 ≤ b by omega)]
        exact ⟨S, by omega, k3, k4.done W (.inl (by omega))⟩
  · rw [Nat.min_eq_right (by omega)] at h3
    refine ⟨_, rfl, ?_⟩
    exact ⟨m, h2, h3, S⟩

theorem sift_c {h0 h : AH} {rs : List Rs} {v : Value} {l : List PL} {g : Nat} {cap : List Value} {lt : PL → PL → Prop} {p : PL → Prop} (lo hi f : Nat) (S : Hs h0 h (.sl v 23 1 eP l :: rs)) (C : CmpFn h0 v rs g cap lt p) (hp : ∀ k, k < l.length → p (l.getD k default)) (W : WOrd lt) (hlo : lo ≤ hi) (hb : f + hi ≤ l.length) (hl : l.length ≤ 1000000) (hh : Heap lt f (lo + 1) hi l) :
    Fn Tryz.prog Xh 218 [v, .int .i64 lo, .int .i64 hi, .int .i64 f, cvV g cap] h (fun _ h' => ∃ l', Sw f (f + hi) l l' ∧ Heap lt f lo hi l' ∧ Hs h0 h' (.sl v 23 1 eP l' :: rs)) := by
  refine Fn_K rfl Tryz.func218 rfl rfl ?_
  all_goals (repeat' (first | refine K_seq ?_ | refine k_block ?_ | (refine K_region (id := 0) ?_; refine mv ?_; refine mv ?_; refine KO_nil ?_)))
  refine k_loop (σ := Nat × List PL) (fun (root, m) h' => Hs h0 h' (.sl v 23 1 eP m :: rs) ∧ (lo ≤ root ∧ root ≤ hi) ∧ Sw f (f + hi) l m ∧ SiftI lt f lo hi root m) (fun (root, m) => hi - root) (fun (root, m) => [(0, v), (1, .int .i64 lo), (2, .int .i64 hi), (3, .int .i64 f), (4, cvV g cap), (10, .int .i64 root)]) (lo, l) (by repeat (first | exact Ks.le_nil _ | refine Ks.le_cons rfl ?_)) ?_ ?_
  · exact ⟨S, ⟨Nat.le_refl _, hlo⟩, .refl _, .start hh⟩
  clear S
  rintro ⟨root, m⟩ h ⟨S, h1, h2, h3⟩
  have hml := h2.len
  have hpn := h2.lift hp hb
  by_cases hc0 : 2 * root + 1 < hi
  rotate_left
  · all_goals (repeat' (first | refine K_seq ?_ | refine k_cond rfl ?_ | refine K_exit ?_ | refine k_block ?_ | (refine K_region (id := 1) ?_; refine mv ?_; refine ml ?_; refine ad ?_; refine mv ?_; refine KO_nil ?_) | (refine K_region (id := 2) ?_; refine mv ?_; refine mv ?_; (refine cT ?_) <;> (refine KO_nil ?_))))
    refine ⟨_, rfl, ?_⟩
    exact ⟨m, h2, h3.done ⟨fun q => by omega, fun q => by omega⟩, S⟩
  have e1 : (2 : Int) * (root : Int) + 1 = ((2 * root + 1 : Nat) : Int) := by omega
  have e2 : ((f : Int) + ((2 * root + 1 : Nat) : Int)).toNat = f + (2 * root + 1) := by omega
  have e3 : ((f : Int) + ((2 * root + 1 : Nat) : Int) + 1).toNat = f + (2 * root + 2) := by omega
  have e4 : ((2 * root + 1 : Nat) : Int) + 1 = ((2 * root + 2 : Nat) : Int) := by omega
  have e5 : ((f : Int) + ((2 * root + 2 : Nat) : Int)).toNat = f + (2 * root + 2) := by omega
  have fin : ∀ c : Nat, (c = 2 * root + 1 ∨ c = 2 * root + 2) → c < hi → lt (m.getD (f + root) default) (m.getD (f + c) default) → (∀ d, (d = 2 * root + 1 ∨ d = 2 * root + 2) → d < hi → ¬ lt (m.getD (f + c) default) (m.getD (f + d) default)) → SiftI lt f lo hi c (swp m (f + root) (f + c)) := fun c g1 g2 g3 g4 => h3.next W h1.1 g1 g2 (by omega) g4 g3
  have stop : ∀ c : Nat, (c = 2 * root + 1 ∨ c = 2 * root + 2) → c < hi → ¬ lt (m.getD (f + root) default) (m.getD (f + c) default) → (∀ d, (d = 2 * root + 1 ∨ d = 2 * root + 2) → d < hi → ¬ lt (m.getD (f + c) default) (m.getD (f + d) default)) → Heap lt f lo hi m := fun c g1 g2 g3 g4 =>
    h3.done ⟨fun q => W.ntr (g4 _ (.inl rfl) q) g3, fun q => W.ntr (g4 _ (.inr rfl) q) g3⟩
  refine k_block ?_
  (repeat (refine K_seq ?_)); refine K_region (id := 1) ?_; refine mv ?_; refine ml ?_; refine ad ?_; refine mv ?_; refine KO_nil ?_
  simp only [e1]
  (repeat (refine K_seq ?_)); refine K_region (id := 2) ?_; refine mv ?_; refine mv ?_; (refine cF ?_) <;> (refine KO_nil ?_)
  refine k_cond rfl ?_; refine K_skip ?_
  refine K_cut (σ := Nat) (fun c h' => Hs h0 h' (.sl v 23 1 eP m :: rs) ∧ (c = 2 * root + 1 ∨ c = 2 * root + 2) ∧ c < hi ∧ ∀ d, (d = 2 * root + 1 ∨ d = 2 * root + 2) → d < hi → ¬ lt (m.getD (f + c) default) (m.getD (f + d) default)) (fun c => [(0, v), (1, .int .i64 lo), (2, .int .i64 hi), (3, .int .i64 f), (4, cvV g cap), (10, .int .i64 root), (11, .int .i64 c)]) ?_ ?_
  · all_goals (repeat' (first | refine K_seq ?_ | refine k_cond rfl ?_ | refine K_skip ?_ | (refine K_draw (id := 3) ?_; refine mv ?_; refine ad ?_; refine mv ?_; (first | (refine cS ?_ ?_ <;> intro hc)) <;> (refine mv ?_; (first | refine off ?_ | refine mv ?_); (first | refine off ?_ | refine mv ?_); (first | refine off ?_ | refine mv ?_); (first | refine off ?_ | refine mv ?_); (first | refine off ?_ | (refine ad ?_)); (first | refine off ?_ | (refine ixS2 S rfl rfl ?_)); (first | refine off ?_ | (refine lES2 S rfl rfl ?_)); (first | refine off ?_ | refine mv ?_); (first | refine off ?_ | refine mv ?_); (first | refine off ?_ | refine mv ?_); (first | refine off ?_ | (refine ad ?_)); (first | refine off ?_ | (refine ad ?_)); (first | refine off ?_ | (refine ixS2 S rfl rfl ?_)); (first | refine off ?_ | (refine lES2 S rfl rfl ?_)); (first | (refine off ?_; (refine off ?_) <;> (refine vl ?_; refine KO_nil ?_)) | skip)))))
    · (try simp only [e2, e3])
      (refine KO_call rfl rfl rfl rfl ((C _ _ _ _ S (hpn (f + (2 * root + 1)) (by omega)) (hpn (f + (2 * root + 2)) (by omega))).mono ?_); rintro _ h ⟨d, rfl, ⟨hd, hq⟩ | ⟨hd, hq⟩, x⟩) <;> (replace S := S.join0 x; clear x; (first | (first | refine cT ?_ | refine cF ?_)) <;> (refine vl ?_; refine KO_nil ?_))
      · all_goals (repeat' (first | refine k_cond rfl ?_ | (refine K_region (id := 4) ?_; refine mv ?_; refine ad ?_; refine mv ?_; refine KO_nil ?_)))
        exact ⟨2 * root + 2, ⟨S, .inr rfl, by omega, fun d q1 q2 => by rcases q1 with rfl | rfl; exact W.asym hq; exact W.irr _⟩, ((by repeat (first | exact Ks.le_nil _ | refine Ks.le_cons rfl ?_)))⟩
      · all_goals (repeat' (first | refine k_cond rfl ?_ | refine K_skip ?_))
        exact ⟨2 * root + 1, ⟨S, .inl rfl, by omega, fun d q1 q2 => by rcases q1 with rfl | rfl; exact W.irr _; exact hq⟩, ((by repeat (first | exact Ks.le_nil _ | refine Ks.le_cons rfl ?_)))⟩
    · exact ⟨2 * root + 1, ⟨S, .inl rfl, by omega, fun d q1 q2 => by rcases q1 with rfl | rfl; exact W.irr _; omega⟩, ((by repeat (first | exact Ks.le_nil _ | refine Ks.le_cons rfl ?_)))⟩
  clear S
  rintro c h ⟨S, g1, g2, g3⟩
  skip
  all_goals (repeat' (first | refine K_seq ?_ | (refine K_draw (id := 5) ?_; refine mv ?_; refine mv ?_; refine mv ?_; refine mv ?_; refine ad ?_; refine ixS2 S rfl rfl ?_; refine lES2 S rfl rfl ?_; refine mv ?_; refine mv ?_; refine mv ?_; refine ad ?_; refine ixS2 S rfl rfl ?_; refine lES2 S rfl rfl ?_)))
  (try simp only [toNat_pred, toNat_succ, toNat_sum, Int.toNat_natCast])
  (refine KO_call rfl rfl rfl rfl ((C _ _ _ _ S (hpn (f + root) (by omega)) (hpn (f + c) (by omega))).mono ?_); rintro _ h ⟨d, rfl, ⟨hd, hq⟩ | ⟨hd, hq⟩, x⟩) <;> (replace S := S.join0 x; clear x; (first | refine cT ?_ | refine cF ?_) <;> (refine vl ?_; refine KO_nil ?_))
  · all_goals (repeat' (first | refine K_seq ?_ | refine k_cond rfl ?_ | refine K_skip ?_ | (refine K_draw (id := 6) ?_; refine mv ?_; refine mv ?_; refine mv ?_; refine ad ?_; refine mv ?_; refine mv ?_; refine mv ?_; refine ad ?_; refine mv ?_; refine mv ?_; refine mv ?_; refine ad ?_; refine ixS2 S rfl rfl ?_; refine lES2 S rfl rfl ?_; refine mv ?_; refine mv ?_; refine mv ?_; refine ad ?_; refine ixS2 S rfl rfl ?_; refine lES2 S rfl rfl ?_; refine ixS2 S rfl rfl ?_; (first | (refine sE2 S rfl rfl ?_; clear S; intro h S)); refine ixS2 S rfl rfl ?_; (first | (refine sE2 S rfl rfl ?_; clear S; intro h S)); refine KO_nil ?_) | (refine K_region (id := 7) ?_; refine mv ?_; refine mv ?_; refine KO_nil ?_)))
    (try simp only [toNat_pred, toNat_succ, toNat_sum, Int.toNat_natCast] at S)
    refine ⟨(c, swp m (f + root) (f + c)), ?_, ?_, (by repeat (first | exact Ks.le_nil _ | refine Ks.le_cons rfl ?_))⟩
    · show hi - c < hi - root; omega
    · exact ⟨S, ⟨by omega, by omega⟩, h2.step _ _ ⟨by omega, by omega⟩ ⟨by omega, by omega⟩ (by omega), fin c g1 g2 hq g3⟩
  · all_goals (repeat' (refine k_cond rfl ?_))
    refine K_ret ⟨_, rfl, ?_⟩
    exact ⟨m, h2, stop c g1 g2 hq g3, S⟩

theorem heap_c {h0 h : AH} {rs : List Rs} {v : Value} {l : List PL} {g : Nat} {cap : List Value} {lt : PL → PL → Prop} {p : PL → Prop} (a b : Nat) (S : Hs h0 h (.sl v 23 1 eP l :: rs)) (C : CmpFn h0 v rs g cap lt p) (hp : ∀ k, k < l.length → p (l.getD k default)) (W : WOrd lt) (hab : a < b) (hb : b ≤ l.length) (hl : l.length ≤ 1000000) :
    Fn Tryz.prog Xh 181 [v, .int .i64 a, .int .i64 b, cvV g cap] h (fun _ h' => ∃ l', Sw a b l l' ∧ Srt lt a b l' ∧ Hs h0 h' (.sl v 23 1 eP l' :: rs)) := by
  refine Fn_K rfl Tryz.func181 rfl rfl ?_
  all_goals (repeat' (first | refine K_seq ?_ | refine k_block ?_ | (refine K_region (id := 0) ?_; refine mv ?_; refine mv ?_; refine KO_nil ?_) | (refine K_region (id := 1) ?_; refine mv ?_; refine KO_nil ?_) | (refine K_region (id := 2) ?_; refine mv ?_; refine mv ?_; refine sb ?_; refine mv ?_; refine KO_nil ?_) | (refine K_region (id := 3) ?_; refine mv ?_; refine sb ?_; refine qu ?_; refine mv ?_; refine KO_nil ?_)))
  have e1 : ((b : Int) - (a : Int) - 1) / 2 = (((b - a - 1) / 2 : Nat) : Int) := by omega
  refine k_loop (σ := Nat × List PL) (fun (i, m) h' => Hs h0 h' (.sl v 23 1 eP m :: rs) ∧ i ≤ b - a ∧ Sw a b l m ∧ Heap lt a i (b - a) m) (fun (i, m) => i) (fun (i, m) => [(0, v), (1, .int .i64 a), (2, .int .i64 b), (3, cvV g cap), (8, .int .i64 a), (9, .int .i64 0), (10, .int .i64 (b - a : Nat)), (11, .int .i64 ((i : Int) - 1))]) ((b - a - 1) / 2 + 1, l) (by repeat (first | exact Ks.le_nil _ | refine Ks.le_cons rfl ?_ | refine Ks.le_int ?_)) ?_ ?_
  · exact ⟨S, by omega, .refl _, fun k hk => ⟨fun q => by omega, fun q => by omega⟩⟩
  clear S
  rintro ⟨i, m⟩ h ⟨S, h1, h2, h3⟩
  have hml := h2.len
  have hpn := h2.lift hp hb
  all_goals (repeat' (first | refine K_seq ?_ | refine k_cond rfl ?_ | refine K_skip ?_ | refine K_exit ?_ | refine k_block ?_ | (refine K_region (id := 4) ?_; refine mv ?_; (first | (refine cS ?_ ?_ <;> intro hc)) <;> (refine KO_nil ?_))))
  · have e2 : (i : Int) - 1 = ((i - 1 : Nat) : Int) := by omega
    have h4 : Heap lt a (i - 1 + 1) (b - a) m := by rw [Nat.sub_add_cancel (by omega)]; exact h3
    refine K_region (id := 6) ?_
    (refine mv ?_; refine mv ?_; refine mv ?_; refine mv ?_; refine mv ?_; skip)
    simp only [e2]
    (refine KO_fn rfl rfl rfl rfl rfl ((sift_c (i - 1) (b - a) a S C hpn W (by omega) (by omega) (by omega) h4).mono ?_); rintro _ h ⟨l2, g1, g2, S2⟩) <;> (replace S := S2; clear S2; refine KO_nil ?_)
    rw [show a + (b - a) = b by omega] at g1
    all_goals (repeat' (first | (refine K_region (id := 5) ?_; refine mv ?_; refine sb ?_; refine mv ?_; refine KO_nil ?_)))
    refine ⟨(i - 1, l2), ?_, ?_, (by repeat (first | exact Ks.le_nil _ | refine Ks.le_cons rfl ?_))⟩
    · show i - 1 < i; omega
    · exact ⟨S, by omega, h2.trans g1, g2⟩
  obtain rfl : i = 0 := by omega
  all_goals (repeat' (first | refine k_block ?_ | (refine K_region (id := 7) ?_; refine mv ?_; refine sb ?_; refine mv ?_; refine KO_nil ?_)))
  refine k_loop (σ := Nat × List PL) (fun (i, m) h' => Hs h0 h' (.sl v 23 1 eP m :: rs) ∧ i ≤ b - a ∧ Sw a b l m ∧ HeapI lt a i (b - a) m) (fun (i, m) => i) (fun (i, m) => [(0, v), (1, .int .i64 a), (2, .int .i64 b), (3, cvV g cap), (8, .int .i64 a), (9, .int .i64 0), (10, .int .i64 (b - a : Nat)), (12, .int .i64 ((i : Int) - 1))]) (b - a, m) (by repeat (first | exact Ks.le_nil _ | refine Ks.le_cons rfl ?_)) ?_ ?_
  · exact ⟨S, Nat.le_refl _, h2, h3, fun p q q1 q2 q3 => by omega⟩
  clear S h1 h2 h3 hml
  rintro ⟨i, m⟩ h ⟨S, h1, h2, h3⟩
  have hml := h2.len
  have hpn := h2.lift hp hb
  all_goals (repeat' (first | refine K_seq ?_ | refine k_cond rfl ?_ | refine K_skip ?_ | refine K_exit ?_ | refine k_block ?_ | (refine K_region (id := 8) ?_; refine mv ?_; (first | (refine cS ?_ ?_ <;> intro hc)) <;> (refine KO_nil ?_))))
  · have e2 : (i : Int) - 1 = ((i - 1 : Nat) : Int) := by omega
    obtain ⟨k, rfl⟩ : ∃ k, i = k + 1 := ⟨i - 1, by omega⟩
    all_goals (repeat' (first | (refine K_draw (id := 10) ?_; refine mv ?_; refine mv ?_; refine mv ?_; refine mv ?_; refine mv ?_; refine ad ?_; refine mv ?_; refine mv ?_; refine mv ?_; refine ad ?_; refine ixS2 S rfl rfl ?_; refine lES2 S rfl rfl ?_; refine mv ?_; refine mv ?_; refine ixS2 S rfl rfl ?_; refine lES2 S rfl rfl ?_; refine ixS2 S rfl rfl ?_; (first | (refine sE2 S rfl rfl ?_; clear S; intro h S)); refine ixS2 S rfl rfl ?_; (first | (refine sE2 S rfl rfl ?_; clear S; intro h S)); refine KO_nil ?_)))
    refine K_region (id := 11) ?_
    (refine mv ?_; refine mv ?_; refine mv ?_; refine mv ?_; refine mv ?_; skip)
    simp only [Nat.add_sub_cancel] at e2
    simp only [e2, toNat_sum, Int.toNat_natCast] at S ⊢
    replace S : Hs h0 h (.sl v 23 1 eP (swp m a (a + k)) :: rs) := S
    have s1 : Sw a b l (swp m a (a + k)) := h2.step _ _ ⟨by omega, by omega⟩ ⟨by omega, by omega⟩ (by omega)
    have hsl := s1.len
    have hp2 := s1.lift hp hb
    (refine KO_fn rfl rfl rfl rfl rfl ((sift_c 0 k a S C hp2 W (by omega) (by omega) (by omega) (h3.1.pop (by omega))).mono ?_); rintro _ h ⟨l2, g1, g2, S2⟩) <;> (replace S := S2; clear S2; refine KO_nil ?_)
    all_goals (repeat' (first | (refine K_region (id := 9) ?_; refine mv ?_; refine sb ?_; refine mv ?_; refine KO_nil ?_)))
    refine ⟨(k, l2), ?_, ?_, (by repeat (first | exact Ks.le_nil _ | refine Ks.le_cons rfl ?_))⟩
    · show k < k + 1; omega
    · exact ⟨S, by omega, s1.trans (g1.mono (Nat.le_refl _) (by omega) (by omega)), h3.pop W (by omega) (by omega) g1 g2⟩
  obtain rfl : i = 0 := by omega
  refine ⟨_, rfl, ?_⟩
  exact ⟨m, h2, h3.done (by omega), S⟩

theorem rev_c {h0 h : AH} {rs : List Rs} {v : Value} {l : List PL} {g : Nat} {cap : List Value} {lt : PL → PL → Prop} {p : PL → Prop} (a b : Nat) (S : Hs h0 h (.sl v 23 1 eP l :: rs)) (C : CmpFn h0 v rs g cap lt p) (hp : ∀ k, k < l.length → p (l.getD k default)) (W : WOrd lt) (hab : a < b) (hb : b ≤ l.length) (hl : l.length ≤ 1000000) :
    Fn Tryz.prog Xh 184 [v, .int .i64 a, .int .i64 b, cvV g cap] h (fun _ h' => ∃ l', Sw a b l l' ∧ Hs h0 h' (.sl v 23 1 eP l' :: rs)) := by
  refine Fn_K rfl Tryz.func184 rfl rfl ?_
  all_goals (repeat' (first | refine K_seq ?_ | refine k_block ?_ | (refine K_region (id := 0) ?_; refine mv ?_; refine mv ?_; refine KO_nil ?_) | (refine K_region (id := 1) ?_; refine mv ?_; refine sb ?_; refine mv ?_; refine KO_nil ?_)))
  refine k_loop (σ := Nat × Nat × List PL) (fun (i, j, m) h' => Hs h0 h' (.sl v 23 1 eP m :: rs) ∧ a ≤ i ∧ j < b ∧ Sw a b l m) (fun (i, j, m) => j - i) (fun (i, j, m) => [(0, v), (1, .int .i64 a), (2, .int .i64 b), (3, cvV g cap), (8, .int .i64 i), (9, .int .i64 j)]) (a, b - 1, l) (by repeat (first | exact Ks.le_nil _ | refine Ks.le_cons rfl ?_ | refine Ks.le_int ?_)) ?_ ?_
  · exact ⟨S, Nat.le_refl _, by omega, .refl _⟩
  clear S
  rintro ⟨i, j, m⟩ h ⟨S, h1, h2, h3⟩
  have hml := h3.len
  all_goals (repeat' (first | refine K_seq ?_ | refine k_cond rfl ?_ | refine K_skip ?_ | refine K_exit ?_ | refine k_block ?_ | (refine K_region (id := 2) ?_; refine mv ?_; refine mv ?_; (first | (refine cS ?_ ?_ <;> intro hc)) <;> (refine KO_nil ?_)) | (refine K_draw (id := 3) ?_; refine mv ?_; refine mv ?_; refine mv ?_; refine mv ?_; refine mv ?_; refine mv ?_; refine ixS2 S rfl rfl ?_; refine lES2 S rfl rfl ?_; refine mv ?_; refine mv ?_; refine ixS2 S rfl rfl ?_; refine lES2 S rfl rfl ?_; refine ixS2 S rfl rfl ?_; (first | (refine sE2 S rfl rfl ?_; clear S; intro h S)); refine ixS2 S rfl rfl ?_; (first | (refine sE2 S rfl rfl ?_; clear S; intro h S)); refine KO_nil ?_) | (refine K_region (id := 4) ?_; refine mv ?_; refine ad ?_; refine mv ?_; refine KO_nil ?_) | (refine K_region (id := 5) ?_; refine mv ?_; refine sb ?_; refine mv ?_; refine KO_nil ?_)))
  · (try simp only [toNat_pred, toNat_succ, toNat_sum, Int.toNat_natCast] at S)
    refine ⟨(i + 1, j - 1, swp m i j), ?_, ?_, (by repeat (first | exact Ks.le_nil _ | refine Ks.le_cons rfl ?_ | refine Ks.le_int ?_))⟩
    · show j - 1 - (i + 1) < j - i; omega
    · exact ⟨S, by omega, by omega, h3.step _ _ ⟨by omega, by omega⟩ ⟨by omega, by omega⟩ (by omega)⟩
  · refine ⟨_, rfl, ?_⟩
    exact ⟨m, h3, S⟩

theorem ord2_c {h0 h : AH} {rs : List Rs} {v : Value} {l : List PL} {g : Nat} {cap : List Value} {lt : PL → PL → Prop} {p : PL → Prop} {bs : Nat} {s : Int} (x y : Nat) (S : Hs h0 h (.blk bs [.int .i64 s] 3 :: .sl v 23 1 eP l :: rs)) (C : CmpFn h0 v rs g cap lt p) (hp : ∀ k, k < l.length → p (l.getD k default)) (W : WOrd lt) (hx : x < l.length) (hy : y < l.length) (hl : l.length ≤ 1000000) (hs : 0 ≤ s ∧ s ≤ 100) :
    Fn Tryz.prog Xh 234 [v, .int .i64 x, .int .i64 y, .pointer (some ⟨bs, 0, none⟩), cvV g cap] h (fun r h' => ∃ (p q : Nat) (s' : Int), r = .tuple #[.int .i64 p, .int .i64 q] ∧ ((p = x ∧ q = y) ∨ (p = y ∧ q = x)) ∧ (0 ≤ s' ∧ s' ≤ s + 1) ∧ Hs h0 h' (.blk bs [.int .i64 s'] 3 :: .sl v 23 1 eP l :: rs)) := by
  refine Fn_K rfl Tryz.func234 rfl rfl ?_
  all_goals (repeat' (first | refine K_seq ?_ | (refine K_region (id := 0) ?_; refine mv ?_; refine mv ?_; refine KO_nil ?_) | (refine K_draw (id := 1) ?_; refine mv ?_; refine mv ?_; refine mv ?_; refine ixS2 S rfl rfl ?_; refine lES2 S rfl rfl ?_; refine mv ?_; refine mv ?_; refine ixS2 S rfl rfl ?_; refine lES2 S rfl rfl ?_)))
  (try (try simp only [toNat_pred, toNat_succ, toNat_sum, Int.toNat_natCast]))
  (refine KO_call rfl rfl rfl rfl ((C _ _ _ _ S.tail (hp y (by omega)) (hp x (by omega))).mono ?_); rintro _ h ⟨d, rfl, ⟨hd, hq⟩ | ⟨hd, hq⟩, x⟩) <;> (replace S := S.join0 x; clear x; (first | refine cT ?_ | refine cF ?_) <;> (refine KO_nil ?_))
  · all_goals (repeat' (first | refine K_seq ?_ | refine k_cond rfl ?_ | (refine K_region (id := 2) ?_; refine mv ?_; refine vl ?_; refine lB S rfl rfl ?_; refine ad ?_; refine vl ?_; (first | (refine sB S rfl rfl ?_; clear S; intro h S)); refine KO_nil ?_) | (refine K_region (id := 3) ?_; refine mv ?_; refine mv ?_; refine mv ?_; refine mv ?_; refine KO_nil ?_)))
    refine K_ret ⟨_, rfl, ?_⟩
    exact ⟨y, x, s + 1, rfl, .inr ⟨rfl, rfl⟩, by omega, S⟩
  · all_goals (repeat' (first | refine K_seq ?_ | refine k_cond rfl ?_ | refine K_skip ?_ | (refine K_region (id := 4) ?_; refine mv ?_; refine mv ?_; refine mv ?_; refine mv ?_; refine KO_nil ?_)))
    refine K_ret ⟨_, rfl, ?_⟩
    exact ⟨x, y, s, rfl, .inl ⟨rfl, rfl⟩, by omega, S⟩

theorem med_c {h0 h : AH} {rs : List Rs} {v : Value} {l : List PL} {g : Nat} {cap : List Value} {lt : PL → PL → Prop} {p : PL → Prop} {bs : Nat} {s : Int} (x y z : Nat) (S : Hs h0 h (.blk bs [.int .i64 s] 3 :: .sl v 23 1 eP l :: rs)) (C : CmpFn h0 v rs g cap lt p) (hp : ∀ k, k < l.length → p (l.getD k default)) (W : WOrd lt) (hx : x < l.length) (hy : y < l.length) (hz : z < l.length) (hl : l.length ≤ 1000000) (hs : 0 ≤ s ∧ s ≤ 90) :
    Fn Tryz.prog Xh 222 [v, .int .i64 x, .int .i64 y, .int .i64 z, .pointer (some ⟨bs, 0, none⟩), cvV g cap] h (fun r h' => ∃ (p : Nat) (s' : Int), r = .int .i64 p ∧ (p = x ∨ p = y ∨ p = z) ∧ (0 ≤ s' ∧ s' ≤ s + 3) ∧ Hs h0 h' (.blk bs [.int .i64 s'] 3 :: .sl v 23 1 eP l :: rs)) := by
  refine Fn_K rfl Tryz.func222 rfl rfl ?_
  all_goals (repeat' (first | refine K_seq ?_ | (refine K_region (id := 0) ?_; refine mv ?_; refine KO_nil ?_) | (refine K_region (id := 1) ?_; refine mv ?_; refine mv ?_; refine mv ?_; refine mv ?_; refine mv ?_; skip)))
  (refine KO_fn rfl rfl rfl rfl rfl ((ord2_c x y S C hp W hx hy hl (by omega)).mono ?_); rintro _ h ⟨p1, q1, s1, rfl, e1, e2, S2⟩) <;> (replace S := S2; clear S2; refine mv ?_; refine vl ?_; refine vl ?_; refine mv ?_; refine mv ?_; refine KO_nil ?_)
  all_goals (repeat' (first | refine K_seq ?_ | (refine K_region (id := 2) ?_; refine mv ?_; refine mv ?_; refine mv ?_; refine mv ?_; refine mv ?_; skip)))
  have b1 : p1 < l.length ∧ q1 < l.length := by omega
  (refine KO_fn rfl rfl rfl rfl rfl ((ord2_c q1 z S C hp W b1.2 hz hl (by omega)).mono ?_); rintro _ h ⟨p2, q2, s2, rfl, e3, e4, S2⟩) <;> (replace S := S2; clear S2; refine mv ?_; refine vl ?_; refine vl ?_; refine mv ?_; refine mv ?_; refine KO_nil ?_)
  all_goals (repeat' (first | refine K_seq ?_ | (refine K_region (id := 3) ?_; refine mv ?_; refine mv ?_; refine mv ?_; refine mv ?_; refine mv ?_; skip)))
  have b2 : p2 < l.length := by omega
  (refine KO_fn rfl rfl rfl rfl rfl ((ord2_c p1 p2 S C hp W b1.1 b2 hl (by omega)).mono ?_); rintro _ h ⟨p3, q3, s3, rfl, e5, e6, S2⟩) <;> (replace S := S2; clear S2; refine mv ?_; refine vl ?_; refine vl ?_; refine mv ?_; refine mv ?_; refine KO_nil ?_)
  all_goals (repeat' (first | refine K_seq ?_ | (refine K_region (id := 4) ?_; refine mv ?_; refine mv ?_; refine KO_nil ?_)))
  refine K_ret ⟨_, rfl, ?_⟩
  exact ⟨q3, s3, rfl, by omega, by omega, S⟩

theorem piv_c {h0 h : AH} {rs : List Rs} {v : Value} {l : List PL} {g : Nat} {cap : List Value} {lt : PL → PL → Prop} {p : PL → Prop} (a b : Nat) (S : Hs h0 h (.sl v 23 1 eP l :: rs)) (C : CmpFn h0 v rs g cap lt p) (hp : ∀ k, k < l.length → p (l.getD k default)) (W : WOrd lt) (hab : 12 < b - a ∧ b - a < 50) (hb : b ≤ l.length) (hl : l.length ≤ 1000000) :
    Fn Tryz.prog Xh 183 [v, .int .i64 a, .int .i64 b, cvV g cap] h (fun r h' => ∃ (q : Nat) (t : Int), r = .tuple #[.int .i64 q, .int .i64 t] ∧ (a ≤ q ∧ q < b) ∧ Hs h0 h' (.sl v 23 1 eP l :: rs)) := by
  refine Fn_K rfl Tryz.func183 rfl rfl ?_
  all_goals (repeat' (first | refine K_seq ?_ | refine k_cond rfl ?_ | refine K_skip ?_ | (refine K_region (id := 0) ?_; refine mv ?_; refine mv ?_; refine KO_nil ?_) | (refine K_region (id := 1) ?_; refine mv ?_; refine mv ?_; refine sb ?_; refine mv ?_; refine KO_nil ?_) | (refine K_region (id := 2) ?_; (refine al S ?_; clear S; intro b h S); refine KO_nil ?_) | (refine K_region (id := 3) ?_; refine mv ?_; refine mv ?_; refine qu ?_; refine ml ?_; refine ad ?_; refine mv ?_; refine KO_nil ?_) | (refine K_region (id := 4) ?_; refine mv ?_; refine mv ?_; refine qu ?_; refine ml ?_; refine ad ?_; refine mv ?_; refine KO_nil ?_) | (refine K_region (id := 5) ?_; refine mv ?_; refine mv ?_; refine qu ?_; refine ml ?_; refine ad ?_; refine mv ?_; refine KO_nil ?_) | (refine K_region (id := 6) ?_; refine mv ?_; (refine cT ?_) <;> (refine KO_nil ?_)) | (refine K_region (id := 7) ?_; refine mv ?_; (refine cF ?_) <;> (refine KO_nil ?_)) | (refine K_region (id := 11) ?_; refine mv ?_; refine mv ?_; refine mv ?_; refine mv ?_; refine mv ?_; skip)))
  obtain ⟨bs, hnm⟩ : ∃ x, x = b := ⟨_, rfl⟩; subst hnm
  have e1 : (a : Int) + ((b : Int) - (a : Int)) / 4 * 1 = ((a + (b - a) / 4 * 1 : Nat) : Int) := by omega
  have e2 : (a : Int) + ((b : Int) - (a : Int)) / 4 * 2 = ((a + (b - a) / 4 * 2 : Nat) : Int) := by omega
  have e3 : (a : Int) + ((b : Int) - (a : Int)) / 4 * 3 = ((a + (b - a) / 4 * 3 : Nat) : Int) := by omega
  simp only [e1, e2, e3]
  (refine KO_fn rfl rfl rfl rfl rfl ((med_c _ _ _ S C hp W (by omega) (by omega) (by omega) hl (by omega)).mono ?_); rintro _ h ⟨q, s, rfl, g1, g2, S2⟩) <;> (replace S := S2; clear S2; refine mv ?_; refine KO_nil ?_)
  all_goals (repeat' (first | refine K_seq ?_ | refine k_cond rfl ?_ | refine k_block ?_ | (refine K_region (id := 12) ?_; refine lB S rfl rfl ?_; refine KO_nil ?_) | (refine K_region (id := 13) ?_; refine mv ?_; refine mv ?_; refine mv ?_; refine KO_nil ?_) | (refine K_region (id := 14) ?_; (first | (refine cS ?_ ?_ <;> intro hc)) <;> (refine mv ?_; refine KO_nil ?_)) | (refine K_region (id := 15) ?_; refine mv ?_; refine mv ?_; refine mv ?_; refine KO_nil ?_) | (refine K_region (id := 16) ?_; (refine cF ?_) <;> (refine mv ?_; refine KO_nil ?_))))
  all_goals (refine K_ret ⟨_, rfl, ?_⟩)
  all_goals exact ⟨q, _, rfl, by omega, S.tail⟩

theorem brk_c {h0 h : AH} {rs : List Rs} {v : Value} {l : List PL} {g : Nat} {cap : List Value} {lt : PL → PL → Prop} {p : PL → Prop} (a b : Nat) (S : Hs h0 h (.sl v 23 1 eP l :: rs)) (C : CmpFn h0 v rs g cap lt p) (hp : ∀ k, k < l.length → p (l.getD k default)) (W : WOrd lt) (hab : 12 < b - a ∧ b - a < 50) (hb : b ≤ l.length) (hl : l.length ≤ 1000000) :
    Fn Tryz.prog Xh 182 [v, .int .i64 a, .int .i64 b, cvV g cap] h (fun _ h' => ∃ l', Sw a b l l' ∧ Hs h0 h' (.sl v 23 1 eP l' :: rs)) := by
  have e1 : (b : Int) - (a : Int) = ((b - a : Nat) : Int) := by omega
  refine Fn_K rfl Tryz.func182 rfl rfl ?_
  all_goals (repeat' (first | refine K_seq ?_ | refine k_cond rfl ?_ | (refine K_region (id := 0) ?_; refine mv ?_; refine mv ?_; refine sb ?_; refine mv ?_; refine KO_nil ?_) | (refine K_region (id := 1) ?_; refine mv ?_; (refine cT ?_) <;> (refine KO_nil ?_)) | (refine K_region (id := 2) ?_; refine mv ?_; refine cW ?_; (refine al S ?_; clear S; intro b h S); (first | (refine sB S rfl rfl ?_; clear S; intro h S)); refine KO_nil ?_) | (refine K_region (id := 3) ?_; refine mv ?_)))
  obtain ⟨bs, hnm⟩ : ∃ x, x = b := ⟨_, rfl⟩; subst hnm
  simp only [e1]
  (refine KO_fn rfl rfl rfl rfl rfl ((npot_ok S.wf (b - a) (by omega)).mono ?_); rintro _ h ⟨P, rfl, hP1, hP2, x⟩) <;> (replace S := S.join0 x; clear x; refine mv ?_; refine KO_nil ?_)
  all_goals (repeat' (first | refine K_seq ?_ | refine k_block ?_ | (refine K_region (id := 4) ?_; refine mv ?_; refine mv ?_; refine qu ?_; refine ml ?_; refine ad ?_; refine sb ?_; refine mv ?_; refine KO_nil ?_)))
  obtain ⟨w0, hw0⟩ : ∃ w0 : Int, w0 = (b : Int) - (a : Int) := ⟨_, rfl⟩
  refine k_loop (σ := Nat × Int × List PL) (fun (i, z, m) h' => Hs h0 h' (.blk bs [.int .u64 z] 188 :: .sl v 23 1 eP m :: rs) ∧ (0 ≤ z ∧ z ≤ 18446744073709551615) ∧ a + (b - a) / 4 * 2 - 1 ≤ i ∧ i ≤ a + (b - a) / 4 * 2 + 2 ∧ Sw a b l m) (fun (i, z, m) => a + (b - a) / 4 * 2 + 2 - i) (fun (i, z, m) => [(0, v), (1, .int .i64 a), (2, .int .i64 b), (3, cvV g cap), (8, .int .i64 (b - a : Nat)), (9, .pointer (some ⟨bs, 0, none⟩)), (10, .int .u64 P), (11, .int .i64 i)]) (a + (b - a) / 4 * 2 - 1, w0, l) (by repeat (first | exact Ks.le_nil _ | refine Ks.le_cons rfl ?_ | refine Ks.le_int ?_)) ?_ ?_
  · exact ⟨by rw [hw0]; exact S, by omega, by omega, by omega, .refl _⟩
  clear S
  rintro ⟨i, z, m⟩ h ⟨S, h1, h2, h3, h4⟩
  have hml := h4.len
  all_goals (repeat' (first | refine K_seq ?_ | refine k_cond rfl ?_ | refine K_skip ?_ | refine K_exit ?_ | refine k_block ?_ | (refine K_region (id := 5) ?_; refine mv ?_; refine mv ?_; refine mv ?_; refine qu ?_; refine ml ?_; refine ad ?_; refine ad ?_; (first | (refine cS ?_ ?_ <;> intro hc)) <;> (refine KO_nil ?_)) | (refine K_region (id := 7) ?_; skip)))
  · (refine KO_fn rfl rfl rfl rfl rfl ((xnext_ok S h1).mono ?_); rintro _ h ⟨y, rfl, hy, S2⟩) <;> (replace S := S2; clear S2; refine mv ?_; refine sW ?_; (refine aM ?_; intro r1 hr1 hr2); refine cI ?_; refine mv ?_; refine KO_nil ?_)
    obtain ⟨k, rfl⟩ := Int.eq_ofNat_of_zero_le hr1
    all_goals (repeat' (first | refine K_seq ?_ | refine k_cond rfl ?_ | refine K_skip ?_ | (refine K_region (id := 8) ?_; refine mv ?_; refine mv ?_; (first | (refine cS ?_ ?_ <;> intro hc)) <;> (refine KO_nil ?_)) | (refine K_region (id := 9) ?_; refine mv ?_; refine mv ?_; refine sb ?_; refine mv ?_; refine KO_nil ?_)))
    · have e5 : (k : Int) - ((b - a : Nat) : Int) = ((k - (b - a) : Nat) : Int) := by omega
      simp only [e5]
      skip
      all_goals (repeat' (first | (refine K_region (id := 6) ?_; refine mv ?_; refine ad ?_; refine mv ?_; refine KO_nil ?_) | (refine K_draw (id := 10) ?_; refine mv ?_; refine mv ?_; refine mv ?_; refine mv ?_; refine mv ?_; refine ad ?_; refine mv ?_; refine mv ?_; refine mv ?_; refine ad ?_; refine ixS2 S rfl rfl ?_; refine lES2 S rfl rfl ?_; refine mv ?_; refine mv ?_; refine ixS2 S rfl rfl ?_; refine lES2 S rfl rfl ?_; refine ixS2 S rfl rfl ?_; (first | (refine sE2 S rfl rfl ?_; clear S; intro h S)); refine ixS2 S rfl rfl ?_; (first | (refine sE2 S rfl rfl ?_; clear S; intro h S)); refine KO_nil ?_)))
      (try simp only [toNat_pred, toNat_succ, toNat_sum, Int.toNat_natCast] at S)
      refine ⟨(i + 1, y, swp m i (a + (k - (b - a)))), ?_, ?_, (by repeat (first | exact Ks.le_nil _ | refine Ks.le_cons rfl ?_))⟩
      · show a + (b - a) / 4 * 2 + 2 - (i + 1) < a + (b - a) / 4 * 2 + 2 - i; omega
      · exact ⟨S, hy, by omega, by omega, h4.step _ _ ⟨by omega, by omega⟩ ⟨by omega, by omega⟩ (by omega)⟩
    · skip
      all_goals (repeat' (first | (refine K_region (id := 6) ?_; refine mv ?_; refine ad ?_; refine mv ?_; refine KO_nil ?_) | (refine K_draw (id := 10) ?_; refine mv ?_; refine mv ?_; refine mv ?_; refine mv ?_; refine mv ?_; refine ad ?_; refine mv ?_; refine mv ?_; refine mv ?_; refine ad ?_; refine ixS2 S rfl rfl ?_; refine lES2 S rfl rfl ?_; refine mv ?_; refine mv ?_; refine ixS2 S rfl rfl ?_; refine lES2 S rfl rfl ?_; refine ixS2 S rfl rfl ?_; (first | (refine sE2 S rfl rfl ?_; clear S; intro h S)); refine ixS2 S rfl rfl ?_; (first | (refine sE2 S rfl rfl ?_; clear S; intro h S)); refine KO_nil ?_)))
      (try simp only [toNat_pred, toNat_succ, toNat_sum, Int.toNat_natCast] at S)
      refine ⟨(i + 1, y, swp m i (a + k)), ?_, ?_, (by repeat (first | exact Ks.le_nil _ | refine Ks.le_cons rfl ?_))⟩
      · show a + (b - a) / 4 * 2 + 2 - (i + 1) < a + (b - a) / 4 * 2 + 2 - i; omega
      · exact ⟨S, hy, by omega, by omega, h4.step _ _ ⟨by omega, by omega⟩ ⟨by omega, by omega⟩ (by omega)⟩
  · refine ⟨_, rfl, ?_⟩
    exact ⟨m, h4, S.tail⟩

theorem pins_c {h0 h : AH} {rs : List Rs} {v : Value} {l : List PL} {g : Nat} {cap : List Value} {lt : PL → PL → Prop} {p : PL → Prop} (a b : Nat) (S : Hs h0 h (.sl v 23 1 eP l :: rs)) (C : CmpFn h0 v rs g cap lt p) (hp : ∀ k, k < l.length → p (l.getD k default)) (W : WOrd lt) (hab : 12 < b - a ∧ b - a < 50) (hb : b ≤ l.length) (hl : l.length ≤ 1000000) :
    Fn Tryz.prog Xh 185 [v, .int .i64 a, .int .i64 b, cvV g cap] h (fun r h' => BoolIs r (Srt lt a b l) ∧ Hs h0 h' (.sl v 23 1 eP l :: rs)) := by
  refine Fn_K rfl Tryz.func185 rfl rfl ?_
  all_goals (repeat' (first | refine K_seq ?_ | refine k_block ?_ | (refine K_region (id := 0) ?_; refine mv ?_; refine KO_nil ?_) | (refine K_region (id := 1) ?_; refine mv ?_; refine ad ?_; refine mv ?_; refine KO_nil ?_) | (refine K_region (id := 2) ?_; refine mv ?_; refine KO_nil ?_)))
  refine k_loop (σ := Unit) (fun _ h' => Hs h0 h' (.sl v 23 1 eP l :: rs)) (fun _ => 0) (fun _ => [(0, v), (1, .int .i64 a), (2, .int .i64 b), (3, cvV g cap), (9, .int .i64 (a + 1 : Nat)), (10, .int .i64 0)]) () (by repeat (first | exact Ks.le_nil _ | refine Ks.le_cons rfl ?_)) ?_ ?_
  · exact S
  clear S
  rintro - h S
  all_goals (repeat' (first | refine K_seq ?_ | refine k_cond rfl ?_ | refine K_skip ?_ | refine k_block ?_ | (refine K_region (id := 3) ?_; refine mv ?_; (refine cT ?_) <;> (refine KO_nil ?_))))
  refine k_loop (σ := Nat) (fun i h' => Hs h0 h' (.sl v 23 1 eP l :: rs) ∧ a < i ∧ i ≤ b ∧ Srt lt a i l) (fun i => b - i) (fun i => [(0, v), (1, .int .i64 a), (2, .int .i64 b), (3, cvV g cap), (9, .int .i64 i), (10, .int .i64 0)]) (a + 1) (by repeat (first | exact Ks.le_nil _ | refine Ks.le_cons rfl ?_)) ?_ ?_
  · exact ⟨S, by omega, by omega, fun i j q1 q2 q3 => by omega⟩
  clear S
  rintro i h ⟨S, h1, h2, h3⟩
  all_goals (repeat' (first | refine K_seq ?_ | refine k_cond rfl ?_ | refine K_exit ?_ | (refine K_draw (id := 5) ?_; refine mv ?_; refine mv ?_; (first | (refine cS ?_ ?_ <;> intro hc)) <;> (refine mv ?_; (first | refine off ?_ | refine mv ?_); (first | refine off ?_ | refine mv ?_); (first | refine off ?_ | refine mv ?_); (first | refine off ?_ | (refine ixS2 S rfl rfl ?_)); (first | refine off ?_ | (refine lES2 S rfl rfl ?_)); (first | refine off ?_ | refine mv ?_); (first | refine off ?_ | refine mv ?_); (first | refine off ?_ | (refine sb ?_)); (first | refine off ?_ | (refine ixS2 S rfl rfl ?_)); (first | refine off ?_ | (refine lES2 S rfl rfl ?_)); (first | (refine off ?_; (refine off ?_) <;> ((refine off ?_); refine vl ?_; refine KO_nil ?_)) | skip)))))
  · (try simp only [toNat_pred, toNat_succ, toNat_sum, Int.toNat_natCast])
    (refine KO_call rfl rfl rfl rfl ((C _ _ _ _ S (hp i (by omega)) (hp (i - 1) (by omega))).mono ?_); rintro _ h ⟨d, rfl, ⟨hd, hq⟩ | ⟨hd, hq⟩, x⟩) <;> (replace S := S.join0 x; clear x; (first | (first | refine cT ?_ | refine cF ?_)) <;> ((refine vl ?_); refine vl ?_; refine KO_nil ?_))
    · all_goals (repeat' (first | refine K_seq ?_ | refine k_cond rfl ?_ | refine K_skip ?_ | refine K_exit ?_ | (refine K_region (id := 7) ?_; refine mv ?_; refine mv ?_; (refine cF ?_) <;> (refine KO_nil ?_)) | (refine K_region (id := 9) ?_; refine mv ?_; refine mv ?_; refine sb ?_; (refine cT ?_) <;> (refine KO_nil ?_)) | (refine K_region (id := 10) ?_; refine mv ?_; refine KO_nil ?_)))
      refine K_ret ⟨_, rfl, ?_⟩
      refine ⟨.inr ⟨rfl, fun q => q (i - 1) i (by omega) (by omega) (by omega) hq⟩, S⟩
    · all_goals (repeat' (first | refine k_cond rfl ?_ | refine K_skip ?_ | refine k_block ?_ | (refine K_region (id := 6) ?_; refine mv ?_; refine ad ?_; refine mv ?_; refine KO_nil ?_)))
      refine ⟨i + 1, ?_, ?_, (by repeat (first | exact Ks.le_nil _ | refine Ks.le_cons rfl ?_))⟩
      · show b - (i + 1) < b - i; omega
      · refine ⟨S, by omega, by omega, Srt.adj W fun k q1 q2 => ?_⟩
        rcases Nat.lt_or_ge (k + 1) i with q | q
        · exact h3 k (k + 1) q1 (by omega) q
        · obtain rfl : i = k + 1 := by omega
          exact hq
  · obtain rfl : i = b := by omega
    all_goals (repeat' (first | refine K_seq ?_ | refine k_cond rfl ?_ | (refine K_region (id := 7) ?_; refine mv ?_; refine mv ?_; (refine cT ?_) <;> (refine KO_nil ?_)) | (refine K_region (id := 8) ?_; refine mv ?_; refine KO_nil ?_)))
    refine K_ret ⟨_, rfl, ?_⟩
    exact ⟨.inl ⟨rfl, h3⟩, S⟩

theorem peq_c {h0 h : AH} {rs : List Rs} {v : Value} {l : List PL} {g : Nat} {cap : List Value} {lt : PL → PL → Prop} {p : PL → Prop} (a b q : Nat) (S : Hs h0 h (.sl v 23 1 eP l :: rs)) (C : CmpFn h0 v rs g cap lt p) (hp : ∀ k, k < l.length → p (l.getD k default)) (W : WOrd lt) (hab : a ≤ q ∧ q < b) (hb : b ≤ l.length) (hl : l.length ≤ 1000000) :
    Fn Tryz.prog Xh 186 [v, .int .i64 a, .int .i64 b, .int .i64 q, cvV g cap] h (fun r h' => ∃ (e : Nat) (l' : List PL), r = .int .i64 e ∧ (a < e ∧ e ≤ b) ∧ Sw a b l l' ∧ (∀ k, a ≤ k → k < e → ¬ lt (l.getD q default) (l'.getD k default)) ∧ (∀ k, e ≤ k → k < b → lt (l.getD q default) (l'.getD k default)) ∧ Hs h0 h' (.sl v 23 1 eP l' :: rs)) := by
  obtain ⟨x, hx⟩ : ∃ x, x = l.getD q default := ⟨_, rfl⟩
  rw [← hx]
  refine Fn_K rfl Tryz.func186 rfl rfl ?_
  all_goals (repeat' (first | refine K_seq ?_ | refine k_block ?_ | (refine K_region (id := 0) ?_; refine mv ?_; refine KO_nil ?_) | (refine K_draw (id := 1) ?_; refine mv ?_; refine mv ?_; refine mv ?_; refine mv ?_; refine mv ?_; refine mv ?_; refine ixS2 S rfl rfl ?_; refine lES2 S rfl rfl ?_; refine mv ?_; refine mv ?_; refine ixS2 S rfl rfl ?_; refine lES2 S rfl rfl ?_; refine ixS2 S rfl rfl ?_; (first | (refine sE2 S rfl rfl ?_; clear S; intro h S)); refine ixS2 S rfl rfl ?_; (first | (refine sE2 S rfl rfl ?_; clear S; intro h S)); refine KO_nil ?_) | (refine K_region (id := 2) ?_; refine mv ?_; refine ad ?_; refine mv ?_; refine sb ?_; refine mv ?_; refine mv ?_; refine KO_nil ?_)))
  (try simp only [toNat_pred, toNat_succ, toNat_sum, Int.toNat_natCast] at S)
  have s1 : Sw a b l (swp l a q) := .one _ _ ⟨by omega, by omega⟩ ⟨by omega, by omega⟩ hb
  have x1 : (swp l a q).getD a default = x := by
    rw [swp_get (by omega) (by omega), hx]
    split
    · rename_i e; rw [e]
    · rw [if_pos rfl]
  refine k_loop (σ := Nat × Nat × List PL) (fun (i, j, m) h' => Hs h0 h' (.sl v 23 1 eP m :: rs) ∧ Sw a b l m ∧ EqI lt a b x i j m) (fun (i, j, m) => j + 1 - i) (fun (i, j, m) => [(0, v), (1, .int .i64 a), (2, .int .i64 b), (3, .int .i64 q), (4, cvV g cap), (11, .int .i64 i), (12, .int .i64 j)]) (a + 1, b - 1, swp l a q) (by repeat (first | exact Ks.le_nil _ | refine Ks.le_cons rfl ?_ | refine Ks.le_int ?_)) ?_ ?_
  · exact ⟨S, s1, ⟨by omega, fun k q1 q2 => by omega, fun k q1 q2 => by omega, x1⟩⟩
  clear S s1 x1
  rintro ⟨i0, j0, m⟩ h ⟨S, s1, E⟩
  have hml := s1.len
  have hpn := s1.lift hp hb
  have hbi := E.bi
  have ex := E.x
  refine k_block ?_
  refine K_cut (σ := Nat) (fun i h' => Hs h0 h' (.sl v 23 1 eP m :: rs) ∧ EqI lt a b x i j0 m ∧ i0 ≤ i ∧ (i ≤ j0 → lt x (m.getD i default))) (fun i => [(0, v), (1, .int .i64 a), (2, .int .i64 b), (3, .int .i64 q), (4, cvV g cap), (11, .int .i64 i), (12, .int .i64 j0)]) ?_ ?_
  · all_goals (repeat' (refine k_block ?_))
    refine k_loop (σ := Nat) (fun i h' => Hs h0 h' (.sl v 23 1 eP m :: rs) ∧ EqI lt a b x i j0 m ∧ i0 ≤ i) (fun i => j0 + 1 - i) (fun i => [(0, v), (1, .int .i64 a), (2, .int .i64 b), (3, .int .i64 q), (4, cvV g cap), (11, .int .i64 i), (12, .int .i64 j0)]) i0 (by repeat (first | exact Ks.le_nil _ | refine Ks.le_cons rfl ?_)) ?_ ?_
    · exact ⟨S, E, Nat.le_refl _⟩
    clear S E hbi
    rintro i h ⟨S, E, hi0⟩
    have hbi := E.bi
    all_goals (repeat' (first | refine K_seq ?_ | refine k_cond rfl ?_ | refine K_exit ?_ | (refine K_draw (id := 3) ?_; refine mv ?_; refine mv ?_; (first | (refine cS ?_ ?_ <;> intro hc)) <;> (refine mv ?_; (first | refine off ?_ | refine mv ?_); (first | refine off ?_ | refine mv ?_); (first | refine off ?_ | refine mv ?_); (first | refine off ?_ | (refine ixS2 S rfl rfl ?_)); (first | refine off ?_ | (refine lES2 S rfl rfl ?_)); (first | refine off ?_ | refine mv ?_); (first | refine off ?_ | refine mv ?_); (first | refine off ?_ | (refine ixS2 S rfl rfl ?_)); (first | refine off ?_ | (refine lES2 S rfl rfl ?_)); (first | (refine off ?_; (refine off ?_) <;> ((refine off ?_); refine vl ?_; refine KO_nil ?_)) | skip)))))
    · (try simp only [toNat_pred, toNat_succ, toNat_sum, Int.toNat_natCast])
      (refine KO_call rfl rfl rfl rfl ((C _ _ _ _ S (hpn a (by omega)) (hpn i (by omega))).mono ?_); rintro _ h ⟨d, rfl, ⟨hd, hq⟩ | ⟨hd, hq⟩, x⟩) <;> (replace S := S.join0 x; clear x; rw [ex] at hq; (first | (first | refine cT ?_ | refine cF ?_)) <;> ((refine vl ?_); refine vl ?_; refine KO_nil ?_))
      · all_goals (repeat' (first | refine k_cond rfl ?_ | refine K_exit ?_))
        exact ⟨i, ⟨S, E, hi0, fun _ => hq⟩, ((by repeat (first | exact Ks.le_nil _ | refine Ks.le_cons rfl ?_)))⟩
      · all_goals (repeat' (first | refine k_cond rfl ?_ | refine K_skip ?_ | refine k_block ?_ | (refine K_region (id := 4) ?_; refine mv ?_; refine ad ?_; refine mv ?_; refine KO_nil ?_)))
        refine ⟨i + 1, ?_, ?_, (by repeat (first | exact Ks.le_nil _ | refine Ks.le_cons rfl ?_))⟩
        · show j0 + 1 - (i + 1) < j0 + 1 - i; omega
        · refine ⟨S, ⟨by omega, fun k q1 q2 => ?_, E.hi, ex⟩, by omega⟩
          rcases Nat.lt_or_ge k i with q | q
          · exact E.lo k q1 q
          · obtain rfl : k = i := by omega
            exact hq
    · exact ⟨i, ⟨S, E, hi0, fun q => by omega⟩, ((by repeat (first | exact Ks.le_nil _ | refine Ks.le_cons rfl ?_)))⟩
  clear S E hbi
  rintro i h ⟨S, E, hi0, hi1⟩
  have hbi := E.bi
  refine K_cut (σ := Nat) (fun j h' => Hs h0 h' (.sl v 23 1 eP m :: rs) ∧ EqI lt a b x i j m ∧ j ≤ j0 ∧ (i ≤ j → ¬ lt x (m.getD j default))) (fun j => [(0, v), (1, .int .i64 a), (2, .int .i64 b), (3, .int .i64 q), (4, cvV g cap), (11, .int .i64 i), (12, .int .i64 j)]) ?_ ?_
  · all_goals (repeat' (refine k_block ?_))
    refine k_loop (σ := Nat) (fun j h' => Hs h0 h' (.sl v 23 1 eP m :: rs) ∧ EqI lt a b x i j m ∧ j ≤ j0) (fun j => j) (fun j => [(0, v), (1, .int .i64 a), (2, .int .i64 b), (3, .int .i64 q), (4, cvV g cap), (11, .int .i64 i), (12, .int .i64 j)]) j0 (by repeat (first | exact Ks.le_nil _ | refine Ks.le_cons rfl ?_)) ?_ ?_
    · exact ⟨S, E, Nat.le_refl _⟩
    clear S E hbi
    rintro j h ⟨S, E, hj0⟩
    have hbi := E.bi
    all_goals (repeat' (first | refine K_seq ?_ | refine k_cond rfl ?_ | refine K_exit ?_ | (refine K_draw (id := 5) ?_; refine mv ?_; refine mv ?_; (first | (refine cS ?_ ?_ <;> intro hc)) <;> (refine mv ?_; (first | refine off ?_ | refine mv ?_); (first | refine off ?_ | refine mv ?_); (first | refine off ?_ | refine mv ?_); (first | refine off ?_ | (refine ixS2 S rfl rfl ?_)); (first | refine off ?_ | (refine lES2 S rfl rfl ?_)); (first | refine off ?_ | refine mv ?_); (first | refine off ?_ | refine mv ?_); (first | refine off ?_ | (refine ixS2 S rfl rfl ?_)); (first | refine off ?_ | (refine lES2 S rfl rfl ?_)); (first | (refine off ?_; (refine off ?_) <;> (refine vl ?_; refine KO_nil ?_)) | skip)))))
    · (try simp only [toNat_pred, toNat_succ, toNat_sum, Int.toNat_natCast])
      (refine KO_call rfl rfl rfl rfl ((C _ _ _ _ S (hpn a (by omega)) (hpn j (by omega))).mono ?_); rintro _ h ⟨d, rfl, ⟨hd, hq⟩ | ⟨hd, hq⟩, x⟩) <;> (replace S := S.join0 x; clear x; rw [ex] at hq; (first | (first | refine cT ?_ | refine cF ?_)) <;> (refine vl ?_; refine KO_nil ?_))
      · all_goals (repeat' (first | refine k_cond rfl ?_ | refine K_skip ?_ | refine k_block ?_ | (refine K_region (id := 6) ?_; refine mv ?_; refine sb ?_; refine mv ?_; refine KO_nil ?_)))
        refine ⟨j - 1, ?_, ?_, (by repeat (first | exact Ks.le_nil _ | refine Ks.le_cons rfl ?_ | refine Ks.le_int ?_))⟩
        · show j - 1 < j; omega
        · refine ⟨S, ⟨by omega, E.lo, fun k q1 q2 => ?_, ex⟩, by omega⟩
          rcases Nat.lt_or_ge j k with q | q
          · exact E.hi k q q2
          · obtain rfl : k = j := by omega
            exact hq
      · all_goals (repeat' (first | refine k_cond rfl ?_ | refine K_exit ?_))
        exact ⟨j, ⟨S, E, hj0, fun _ => hq⟩, ((by repeat (first | exact Ks.le_nil _ | refine Ks.le_cons rfl ?_)))⟩
    · exact ⟨j, ⟨S, E, hj0, fun q => by omega⟩, ((by repeat (first | exact Ks.le_nil _ | refine Ks.le_cons rfl ?_)))⟩
  clear S E hbi
  rintro j h ⟨S, E, hj0, hj1⟩
  have hbi := E.bi
  skip
  all_goals (repeat' (first | refine K_seq ?_ | refine k_cond rfl ?_ | refine K_skip ?_ | refine K_exit ?_ | (refine K_region (id := 7) ?_; refine mv ?_; refine mv ?_; (first | (refine cS ?_ ?_ <;> intro hc)) <;> (refine KO_nil ?_)) | (refine K_draw (id := 8) ?_; refine mv ?_; refine mv ?_; refine mv ?_; refine mv ?_; refine mv ?_; refine mv ?_; refine ixS2 S rfl rfl ?_; refine lES2 S rfl rfl ?_; refine mv ?_; refine mv ?_; refine ixS2 S rfl rfl ?_; refine lES2 S rfl rfl ?_; refine ixS2 S rfl rfl ?_; (first | (refine sE2 S rfl rfl ?_; clear S; intro h S)); refine ixS2 S rfl rfl ?_; (first | (refine sE2 S rfl rfl ?_; clear S; intro h S)); refine KO_nil ?_) | (refine K_region (id := 9) ?_; refine mv ?_; refine ad ?_; refine mv ?_; refine KO_nil ?_) | (refine K_region (id := 10) ?_; refine mv ?_; refine sb ?_; refine mv ?_; refine KO_nil ?_) | (refine K_region (id := 11) ?_; refine mv ?_; refine mv ?_; refine KO_nil ?_)))
  · refine K_ret ⟨_, rfl, ?_⟩
    refine ⟨i, m, rfl, by omega, s1, fun k q1 q2 => ?_, fun k q1 q2 => E.hi k (by omega) q2, S⟩
    rcases Nat.lt_or_ge a k with q | q
    · exact E.lo k q q2
    · obtain rfl : k = a := by omega
      rw [ex]; exact W.irr _
  · (try simp only [toNat_pred, toNat_succ, toNat_sum, Int.toNat_natCast] at S)
    obtain ⟨z1, z2⟩ := E.swap (by omega) (by omega) (hi1 (by omega)) (hj1 (by omega))
    refine ⟨(i + 1, j - 1, swp m i j), ?_, ?_, (by repeat (first | exact Ks.le_nil _ | refine Ks.le_cons rfl ?_ | refine Ks.le_int ?_))⟩
    · show j - 1 + 1 - (i + 1) < j0 + 1 - i0; omega
    · exact ⟨S, s1.step _ _ ⟨by omega, by omega⟩ ⟨by omega, by omega⟩ (by omega), z2⟩

theorem part_c {h0 h : AH} {rs : List Rs} {v : Value} {l : List PL} {g : Nat} {cap : List Value} {lt : PL → PL → Prop} {p : PL → Prop} (a b q : Nat) (S : Hs h0 h (.sl v 23 1 eP l :: rs)) (C : CmpFn h0 v rs g cap lt p) (hp : ∀ k, k < l.length → p (l.getD k default)) (W : WOrd lt) (hab : a ≤ q ∧ q < b) (hb : b ≤ l.length) (hl : l.length ≤ 1000000) :
    Fn Tryz.prog Xh 187 [v, .int .i64 a, .int .i64 b, .int .i64 q, cvV g cap] h (fun r h' => ∃ (e : Nat) (f : Bool) (l' : List PL), r = .tuple #[.int .i64 e, .bool f] ∧ (a ≤ e ∧ e < b) ∧ Sw a b l l' ∧ Parted lt a b e l' ∧ Hs h0 h' (.sl v 23 1 eP l' :: rs)) := by
  obtain ⟨x, hx⟩ : ∃ x, x = l.getD q default := ⟨_, rfl⟩
  refine Fn_K rfl Tryz.func187 rfl rfl ?_
  all_goals (repeat' (first | refine K_seq ?_ | (refine K_region (id := 0) ?_; refine mv ?_; refine mv ?_; refine KO_nil ?_) | (refine K_draw (id := 1) ?_; refine mv ?_; refine mv ?_; refine mv ?_; refine mv ?_; refine mv ?_; refine mv ?_; refine ixS2 S rfl rfl ?_; refine lES2 S rfl rfl ?_; refine mv ?_; refine mv ?_; refine ixS2 S rfl rfl ?_; refine lES2 S rfl rfl ?_; refine ixS2 S rfl rfl ?_; (first | (refine sE2 S rfl rfl ?_; clear S; intro h S)); refine ixS2 S rfl rfl ?_; (first | (refine sE2 S rfl rfl ?_; clear S; intro h S)); refine KO_nil ?_)))
  (repeat (refine K_seq ?_)); refine K_region (id := 2) ?_; refine mv ?_; refine ad ?_; refine mv ?_; refine sb ?_; refine mv ?_; refine mv ?_; refine KO_nil ?_
  (try simp only [toNat_pred, toNat_succ, toNat_sum, Int.toNat_natCast] at S)
  have s1 : Sw a b l (swp l a q) := .one _ _ ⟨by omega, by omega⟩ ⟨by omega, by omega⟩ hb
  have x1 : (swp l a q).getD a default = x := by
    rw [swp_get (by omega) (by omega), hx]
    split
    · rename_i e; rw [e]
    · rw [if_pos rfl]
  obtain ⟨m, hm⟩ : ∃ m, m = swp l a q := ⟨_, rfl⟩
  replace S : Hs h0 h (.sl v 23 1 eP m :: rs) := by rw [hm]; exact S
  rw [← hm] at s1 x1
  have hml := s1.len
  have hpn := s1.lift hp hb
  have ex := x1
  have E : PartI lt a b x (a + 1) (b - 1) m := ⟨by omega, fun k q1 q2 => by omega, fun k q1 q2 => by omega, x1⟩
  have hbi := E.bi
  refine K_cut (σ := Nat) (fun i h' => Hs h0 h' (.sl v 23 1 eP m :: rs) ∧ PartI lt a b x i (b - 1) m ∧ (a + 1) ≤ i ∧ (i ≤ (b - 1) → ¬ lt (m.getD i default) x)) (fun i => [(0, v), (1, .int .i64 a), (2, .int .i64 b), (3, .int .i64 q), (4, cvV g cap), (12, .int .i64 i), (13, .int .i64 (b - 1 : Nat))]) ?_ ?_
  · all_goals (repeat' (refine k_block ?_))
    refine k_loop (σ := Nat) (fun i h' => Hs h0 h' (.sl v 23 1 eP m :: rs) ∧ PartI lt a b x i (b - 1) m ∧ (a + 1) ≤ i) (fun i => (b - 1) + 1 - i) (fun i => [(0, v), (1, .int .i64 a), (2, .int .i64 b), (3, .int .i64 q), (4, cvV g cap), (12, .int .i64 i), (13, .int .i64 (b - 1 : Nat))]) (a + 1) (by repeat (first | exact Ks.le_nil _ | refine Ks.le_cons rfl ?_ | refine Ks.le_int ?_)) ?_ ?_
    · exact ⟨S, E, Nat.le_refl _⟩
    clear S E hbi
    rintro i h ⟨S, E, hi0⟩
    have hbi := E.bi
    all_goals (repeat' (first | refine K_seq ?_ | refine k_cond rfl ?_ | refine K_exit ?_ | (refine K_draw (id := 3) ?_; refine mv ?_; refine mv ?_; (first | (refine cS ?_ ?_ <;> intro hc)) <;> (refine mv ?_; (first | refine off ?_ | refine mv ?_); (first | refine off ?_ | refine mv ?_); (first | refine off ?_ | refine mv ?_); (first | refine off ?_ | (refine ixS2 S rfl rfl ?_)); (first | refine off ?_ | (refine lES2 S rfl rfl ?_)); (first | refine off ?_ | refine mv ?_); (first | refine off ?_ | refine mv ?_); (first | refine off ?_ | (refine ixS2 S rfl rfl ?_)); (first | refine off ?_ | (refine lES2 S rfl rfl ?_)); (first | (refine off ?_; (refine off ?_) <;> (refine vl ?_; refine KO_nil ?_)) | skip)))))
    · (try simp only [toNat_pred, toNat_succ, toNat_sum, Int.toNat_natCast])
      (refine KO_call rfl rfl rfl rfl ((C _ _ _ _ S (hpn i (by omega)) (hpn a (by omega))).mono ?_); rintro _ h ⟨d, rfl, ⟨hd, hq⟩ | ⟨hd, hq⟩, x⟩) <;> (replace S := S.join0 x; clear x; rw [ex] at hq; (first | (first | refine cT ?_ | refine cF ?_)) <;> (refine vl ?_; refine KO_nil ?_))
      · all_goals (repeat' (first | refine k_cond rfl ?_ | refine K_skip ?_ | refine k_block ?_ | (refine K_region (id := 4) ?_; refine mv ?_; refine ad ?_; refine mv ?_; refine KO_nil ?_)))
        refine ⟨i + 1, ?_, ?_, (by repeat (first | exact Ks.le_nil _ | refine Ks.le_cons rfl ?_))⟩
        · show (b - 1) + 1 - (i + 1) < (b - 1) + 1 - i; omega
        · refine ⟨S, ⟨by omega, fun k q1 q2 => ?_, E.hi, ex⟩, by omega⟩
          rcases Nat.lt_or_ge k i with q | q
          · exact E.lo k q1 q
          · obtain rfl : k = i := by omega
            exact hq
      · all_goals (repeat' (first | refine k_cond rfl ?_ | refine K_exit ?_))
        exact ⟨i, ⟨S, E, hi0, fun _ => hq⟩, ((by repeat (first | exact Ks.le_nil _ | refine Ks.le_cons rfl ?_)))⟩
    · exact ⟨i, ⟨S, E, hi0, fun q => by omega⟩, ((by repeat (first | exact Ks.le_nil _ | refine Ks.le_cons rfl ?_)))⟩
  clear S E hbi
  rintro i h ⟨S, E, hi0, hi1⟩
  have hbi := E.bi
  refine K_cut (σ := Nat) (fun j h' => Hs h0 h' (.sl v 23 1 eP m :: rs) ∧ PartI lt a b x i j m ∧ j ≤ (b - 1) ∧ (i ≤ j → lt (m.getD j default) x)) (fun j => [(0, v), (1, .int .i64 a), (2, .int .i64 b), (3, .int .i64 q), (4, cvV g cap), (12, .int .i64 i), (13, .int .i64 j)]) ?_ ?_
  · all_goals (repeat' (refine k_block ?_))
    refine k_loop (σ := Nat) (fun j h' => Hs h0 h' (.sl v 23 1 eP m :: rs) ∧ PartI lt a b x i j m ∧ j ≤ (b - 1)) (fun j => j) (fun j => [(0, v), (1, .int .i64 a), (2, .int .i64 b), (3, .int .i64 q), (4, cvV g cap), (12, .int .i64 i), (13, .int .i64 j)]) (b - 1) (by repeat (first | exact Ks.le_nil _ | refine Ks.le_cons rfl ?_)) ?_ ?_
    · exact ⟨S, E, Nat.le_refl _⟩
    clear S E hbi
    rintro j h ⟨S, E, hj0⟩
    have hbi := E.bi
    all_goals (repeat' (first | refine K_seq ?_ | refine k_cond rfl ?_ | refine K_exit ?_ | (refine K_draw (id := 5) ?_; refine mv ?_; refine mv ?_; (first | (refine cS ?_ ?_ <;> intro hc)) <;> (refine mv ?_; (first | refine off ?_ | refine mv ?_); (first | refine off ?_ | refine mv ?_); (first | refine off ?_ | refine mv ?_); (first | refine off ?_ | (refine ixS2 S rfl rfl ?_)); (first | refine off ?_ | (refine lES2 S rfl rfl ?_)); (first | refine off ?_ | refine mv ?_); (first | refine off ?_ | refine mv ?_); (first | refine off ?_ | (refine ixS2 S rfl rfl ?_)); (first | refine off ?_ | (refine lES2 S rfl rfl ?_)); (first | (refine off ?_; (refine off ?_) <;> ((refine off ?_); refine vl ?_; refine KO_nil ?_)) | skip)))))
    · (try simp only [toNat_pred, toNat_succ, toNat_sum, Int.toNat_natCast])
      (refine KO_call rfl rfl rfl rfl ((C _ _ _ _ S (hpn j (by omega)) (hpn a (by omega))).mono ?_); rintro _ h ⟨d, rfl, ⟨hd, hq⟩ | ⟨hd, hq⟩, x⟩) <;> (replace S := S.join0 x; clear x; rw [ex] at hq; (first | (first | refine cT ?_ | refine cF ?_)) <;> ((refine vl ?_); refine vl ?_; refine KO_nil ?_))
      · all_goals (repeat' (first | refine k_cond rfl ?_ | refine K_exit ?_))
        exact ⟨j, ⟨S, E, hj0, fun _ => hq⟩, ((by repeat (first | exact Ks.le_nil _ | refine Ks.le_cons rfl ?_)))⟩
      · all_goals (repeat' (first | refine k_cond rfl ?_ | refine K_skip ?_ | refine k_block ?_ | (refine K_region (id := 6) ?_; refine mv ?_; refine sb ?_; refine mv ?_; refine KO_nil ?_)))
        refine ⟨j - 1, ?_, ?_, (by repeat (first | exact Ks.le_nil _ | refine Ks.le_cons rfl ?_ | refine Ks.le_int ?_))⟩
        · show j - 1 < j; omega
        · refine ⟨S, ⟨by omega, E.lo, fun k q1 q2 => ?_, ex⟩, by omega⟩
          rcases Nat.lt_or_ge j k with q | q
          · exact E.hi k q q2
          · obtain rfl : k = j := by omega
            exact hq
    · exact ⟨j, ⟨S, E, hj0, fun q => by omega⟩, ((by repeat (first | exact Ks.le_nil _ | refine Ks.le_cons rfl ?_)))⟩
  clear S E hbi
  rintro j h ⟨S, E, hj0, hj1⟩
  have hbi := E.bi
  skip
  all_goals (repeat' (first | refine K_seq ?_ | refine k_cond rfl ?_ | refine K_skip ?_ | refine k_block ?_ | (refine K_region (id := 7) ?_; refine mv ?_; refine mv ?_; (first | (refine cS ?_ ?_ <;> intro hc)) <;> (refine KO_nil ?_)) | (refine K_draw (id := 8) ?_; refine mv ?_; refine mv ?_; refine mv ?_; refine mv ?_; refine mv ?_; refine mv ?_; refine ixS2 S rfl rfl ?_; refine lES2 S rfl rfl ?_; refine mv ?_; refine mv ?_; refine ixS2 S rfl rfl ?_; refine lES2 S rfl rfl ?_; refine ixS2 S rfl rfl ?_; (first | (refine sE2 S rfl rfl ?_; clear S; intro h S)); refine ixS2 S rfl rfl ?_; (first | (refine sE2 S rfl rfl ?_; clear S; intro h S)); refine KO_nil ?_) | (refine K_region (id := 9) ?_; refine mv ?_; refine mv ?_; refine mv ?_; refine KO_nil ?_) | (refine K_draw (id := 10) ?_; refine mv ?_; refine mv ?_; refine mv ?_; refine mv ?_; refine mv ?_; refine mv ?_; refine ixS2 S rfl rfl ?_; refine lES2 S rfl rfl ?_; refine mv ?_; refine mv ?_; refine ixS2 S rfl rfl ?_; refine lES2 S rfl rfl ?_; refine ixS2 S rfl rfl ?_; (first | (refine sE2 S rfl rfl ?_; clear S; intro h S)); refine ixS2 S rfl rfl ?_; (first | (refine sE2 S rfl rfl ?_; clear S; intro h S)); refine KO_nil ?_) | (refine K_region (id := 11) ?_; refine mv ?_; refine ad ?_; refine mv ?_; refine KO_nil ?_) | (refine K_region (id := 12) ?_; refine mv ?_; refine sb ?_; refine mv ?_; refine KO_nil ?_)))
  · (try simp only [toNat_pred, toNat_succ, toNat_sum, Int.toNat_natCast] at S)
    refine K_ret ⟨_, rfl, ?_⟩
    exact ⟨j, true, swp m j a, rfl, by omega, s1.step _ _ ⟨by omega, by omega⟩ ⟨by omega, by omega⟩ (by omega), E.done W (by omega) (by omega), S⟩
  (try simp only [toNat_pred, toNat_succ, toNat_sum, Int.toNat_natCast] at S)
  obtain ⟨z1, z2⟩ := E.swap (by omega) (by omega) (hi1 (by omega)) (hj1 (by omega))
  refine k_loop (σ := Nat × Nat × List PL) (fun (i, j, m) h' => Hs h0 h' (.sl v 23 1 eP m :: rs) ∧ Sw a b l m ∧ PartI lt a b x i j m) (fun (i, j, m) => j + 1 - i) (fun (i, j, m) => [(0, v), (1, .int .i64 a), (2, .int .i64 b), (3, .int .i64 q), (4, cvV g cap), (12, .int .i64 i), (13, .int .i64 j)]) (i + 1, j - 1, swp m i j) (by repeat (first | exact Ks.le_nil _ | refine Ks.le_cons rfl ?_ | refine Ks.le_int ?_)) ?_ ?_
  · exact ⟨S, s1.step _ _ ⟨by omega, by omega⟩ ⟨by omega, by omega⟩ (by omega), z2⟩
  clear S s1 x1 E hbi hi0 hi1 hj0 hj1 z1 z2 hml ex hm
  clear hpn
  rintro ⟨i0, j0, m⟩ h ⟨S, s1, E⟩
  have hml := s1.len
  have hpn := s1.lift hp hb
  have hbi := E.bi
  have ex := E.x
  refine k_block ?_
  refine K_cut (σ := Nat) (fun i h' => Hs h0 h' (.sl v 23 1 eP m :: rs) ∧ PartI lt a b x i j0 m ∧ i0 ≤ i ∧ (i ≤ j0 → ¬ lt (m.getD i default) x)) (fun i => [(0, v), (1, .int .i64 a), (2, .int .i64 b), (3, .int .i64 q), (4, cvV g cap), (12, .int .i64 i), (13, .int .i64 j0)]) ?_ ?_
  · all_goals (repeat' (refine k_block ?_))
    refine k_loop (σ := Nat) (fun i h' => Hs h0 h' (.sl v 23 1 eP m :: rs) ∧ PartI lt a b x i j0 m ∧ i0 ≤ i) (fun i => j0 + 1 - i) (fun i => [(0, v), (1, .int .i64 a), (2, .int .i64 b), (3, .int .i64 q), (4, cvV g cap), (12, .int .i64 i), (13, .int .i64 j0)]) i0 (by repeat (first | exact Ks.le_nil _ | refine Ks.le_cons rfl ?_)) ?_ ?_
    · exact ⟨S, E, Nat.le_refl _⟩
    clear S E hbi
    rintro i h ⟨S, E, hi0⟩
    have hbi := E.bi
    all_goals (repeat' (first | refine K_seq ?_ | refine k_cond rfl ?_ | refine K_exit ?_ | (refine K_draw (id := 13) ?_; refine mv ?_; refine mv ?_; (first | (refine cS ?_ ?_ <;> intro hc)) <;> (refine mv ?_; (first | refine off ?_ | refine mv ?_); (first | refine off ?_ | refine mv ?_); (first | refine off ?_ | refine mv ?_); (first | refine off ?_ | (refine ixS2 S rfl rfl ?_)); (first | refine off ?_ | (refine lES2 S rfl rfl ?_)); (first | refine off ?_ | refine mv ?_); (first | refine off ?_ | refine mv ?_); (first | refine off ?_ | (refine ixS2 S rfl rfl ?_)); (first | refine off ?_ | (refine lES2 S rfl rfl ?_)); (first | (refine off ?_; (refine off ?_) <;> (refine vl ?_; refine KO_nil ?_)) | skip)))))
    · (try simp only [toNat_pred, toNat_succ, toNat_sum, Int.toNat_natCast])
      (refine KO_call rfl rfl rfl rfl ((C _ _ _ _ S (hpn i (by omega)) (hpn a (by omega))).mono ?_); rintro _ h ⟨d, rfl, ⟨hd, hq⟩ | ⟨hd, hq⟩, x⟩) <;> (replace S := S.join0 x; clear x; rw [ex] at hq; (first | (first | refine cT ?_ | refine cF ?_)) <;> (refine vl ?_; refine KO_nil ?_))
      · all_goals (repeat' (first | refine k_cond rfl ?_ | refine K_skip ?_ | refine k_block ?_ | (refine K_region (id := 14) ?_; refine mv ?_; refine ad ?_; refine mv ?_; refine KO_nil ?_)))
        refine ⟨i + 1, ?_, ?_, (by repeat (first | exact Ks.le_nil _ | refine Ks.le_cons rfl ?_))⟩
        · show j0 + 1 - (i + 1) < j0 + 1 - i; omega
        · refine ⟨S, ⟨by omega, fun k q1 q2 => ?_, E.hi, ex⟩, by omega⟩
          rcases Nat.lt_or_ge k i with q | q
          · exact E.lo k q1 q
          · obtain rfl : k = i := by omega
            exact hq
      · all_goals (repeat' (first | refine k_cond rfl ?_ | refine K_exit ?_))
        exact ⟨i, ⟨S, E, hi0, fun _ => hq⟩, ((by repeat (first | exact Ks.le_nil _ | refine Ks.le_cons rfl ?_)))⟩
    · exact ⟨i, ⟨S, E, hi0, fun q => by omega⟩, ((by repeat (first | exact Ks.le_nil _ | refine Ks.le_cons rfl ?_)))⟩
  clear S E hbi
  rintro i h ⟨S, E, hi0, hi1⟩
  have hbi := E.bi
  refine K_cut (σ := Nat) (fun j h' => Hs h0 h' (.sl v 23 1 eP m :: rs) ∧ PartI lt a b x i j m ∧ j ≤ j0 ∧ (i ≤ j → lt (m.getD j default) x)) (fun j => [(0, v), (1, .int .i64 a), (2, .int .i64 b), (3, .int .i64 q), (4, cvV g cap), (12, .int .i64 i), (13, .int .i64 j)]) ?_ ?_
  · all_goals (repeat' (refine k_block ?_))
    refine k_loop (σ := Nat) (fun j h' => Hs h0 h' (.sl v 23 1 eP m :: rs) ∧ PartI lt a b x i j m ∧ j ≤ j0) (fun j => j) (fun j => [(0, v), (1, .int .i64 a), (2, .int .i64 b), (3, .int .i64 q), (4, cvV g cap), (12, .int .i64 i), (13, .int .i64 j)]) j0 (by repeat (first | exact Ks.le_nil _ | refine Ks.le_cons rfl ?_)) ?_ ?_
    · exact ⟨S, E, Nat.le_refl _⟩
    clear S E hbi
    rintro j h ⟨S, E, hj0⟩
    have hbi := E.bi
    all_goals (repeat' (first | refine K_seq ?_ | refine k_cond rfl ?_ | refine K_exit ?_ | (refine K_draw (id := 15) ?_; refine mv ?_; refine mv ?_; (first | (refine cS ?_ ?_ <;> intro hc)) <;> (refine mv ?_; (first | refine off ?_ | refine mv ?_); (first | refine off ?_ | refine mv ?_); (first | refine off ?_ | refine mv ?_); (first | refine off ?_ | (refine ixS2 S rfl rfl ?_)); (first | refine off ?_ | (refine lES2 S rfl rfl ?_)); (first | refine off ?_ | refine mv ?_); (first | refine off ?_ | refine mv ?_); (first | refine off ?_ | (refine ixS2 S rfl rfl ?_)); (first | refine off ?_ | (refine lES2 S rfl rfl ?_)); (first | (refine off ?_; (refine off ?_) <;> ((refine off ?_); refine vl ?_; refine KO_nil ?_)) | skip)))))
    · (try simp only [toNat_pred, toNat_succ, toNat_sum, Int.toNat_natCast])
      (refine KO_call rfl rfl rfl rfl ((C _ _ _ _ S (hpn j (by omega)) (hpn a (by omega))).mono ?_); rintro _ h ⟨d, rfl, ⟨hd, hq⟩ | ⟨hd, hq⟩, x⟩) <;> (replace S := S.join0 x; clear x; rw [ex] at hq; (first | (first | refine cT ?_ | refine cF ?_)) <;> ((refine vl ?_); refine vl ?_; refine KO_nil ?_))
      · all_goals (repeat' (first | refine k_cond rfl ?_ | refine K_exit ?_))
        exact ⟨j, ⟨S, E, hj0, fun _ => hq⟩, ((by repeat (first | exact Ks.le_nil _ | refine Ks.le_cons rfl ?_)))⟩
      · all_goals (repeat' (first | refine k_cond rfl ?_ | refine K_skip ?_ | refine k_block ?_ | (refine K_region (id := 16) ?_; refine mv ?_; refine sb ?_; refine mv ?_; refine KO_nil ?_)))
        refine ⟨j - 1, ?_, ?_, (by repeat (first | exact Ks.le_nil _ | refine Ks.le_cons rfl ?_ | refine Ks.le_int ?_))⟩
        · show j - 1 < j; omega
        · refine ⟨S, ⟨by omega, E.lo, fun k q1 q2 => ?_, ex⟩, by omega⟩
          rcases Nat.lt_or_ge j k with q | q
          · exact E.hi k q q2
          · obtain rfl : k = j := by omega
            exact hq
    · exact ⟨j, ⟨S, E, hj0, fun q => by omega⟩, ((by repeat (first | exact Ks.le_nil _ | refine Ks.le_cons rfl ?_)))⟩
  clear S E hbi
  rintro j h ⟨S, E, hj0, hj1⟩
  have hbi := E.bi
  skip
  all_goals (repeat' (first | refine K_seq ?_ | refine k_cond rfl ?_ | refine K_skip ?_ | refine K_exit ?_ | (refine K_region (id := 17) ?_; refine mv ?_; refine mv ?_; (first | (refine cS ?_ ?_ <;> intro hc)) <;> (refine KO_nil ?_)) | (refine K_draw (id := 18) ?_; refine mv ?_; refine mv ?_; refine mv ?_; refine mv ?_; refine mv ?_; refine mv ?_; refine ixS2 S rfl rfl ?_; refine lES2 S rfl rfl ?_; refine mv ?_; refine mv ?_; refine ixS2 S rfl rfl ?_; refine lES2 S rfl rfl ?_; refine ixS2 S rfl rfl ?_; (first | (refine sE2 S rfl rfl ?_; clear S; intro h S)); refine ixS2 S rfl rfl ?_; (first | (refine sE2 S rfl rfl ?_; clear S; intro h S)); refine KO_nil ?_) | (refine K_region (id := 19) ?_; refine mv ?_; refine ad ?_; refine mv ?_; refine KO_nil ?_) | (refine K_region (id := 20) ?_; refine mv ?_; refine sb ?_; refine mv ?_; refine KO_nil ?_) | (refine K_draw (id := 21) ?_; refine mv ?_; refine mv ?_; refine mv ?_; refine mv ?_; refine mv ?_; refine mv ?_; refine ixS2 S rfl rfl ?_; refine lES2 S rfl rfl ?_; refine mv ?_; refine mv ?_; refine ixS2 S rfl rfl ?_; refine lES2 S rfl rfl ?_; refine ixS2 S rfl rfl ?_; (first | (refine sE2 S rfl rfl ?_; clear S; intro h S)); refine ixS2 S rfl rfl ?_; (first | (refine sE2 S rfl rfl ?_; clear S; intro h S)); refine KO_nil ?_) | (refine K_region (id := 22) ?_; refine mv ?_; refine mv ?_; refine mv ?_; refine KO_nil ?_)))
  · (try simp only [toNat_pred, toNat_succ, toNat_sum, Int.toNat_natCast] at S)
    refine K_ret ⟨_, rfl, ?_⟩
    exact ⟨j, false, swp m j a, rfl, by omega, s1.step _ _ ⟨by omega, by omega⟩ ⟨by omega, by omega⟩ (by omega), E.done W (by omega) (by omega), S⟩
  · (try simp only [toNat_pred, toNat_succ, toNat_sum, Int.toNat_natCast] at S)
    obtain ⟨z1, z2⟩ := E.swap (by omega) (by omega) (hi1 (by omega)) (hj1 (by omega))
    refine ⟨(i + 1, j - 1, swp m i j), ?_, ?_, (by repeat (first | exact Ks.le_nil _ | refine Ks.le_cons rfl ?_ | refine Ks.le_int ?_))⟩
    · show j - 1 + 1 - (i + 1) < j0 + 1 - i0; omega
    · exact ⟨S, s1.step _ _ ⟨by omega, by omega⟩ ⟨by omega, by omega⟩ (by omega), z2⟩

end Go.Proofs.Xx
