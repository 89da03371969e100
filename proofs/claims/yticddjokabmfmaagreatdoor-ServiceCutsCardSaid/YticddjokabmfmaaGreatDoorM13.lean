/-
  Trips: the walk.
-/
import Derived.Test.YticddjokabmfmaaGreatDoorM12
import Derived.Below
import Derived.ChangeSame
import Derived.ChangeArms
import Derived.OpenShut

namespace Go.Proofs.Xx
open Go Go.Proofs
set_option linter.unusedSimpArgs false
set_option linter.unusedVariables false
set_option linter.unusedSectionVars false
set_option maxRecDepth 100000
set_option maxHeartbeats 4000000

/-- The plates of a table. -/
def ldP (pl : List Int) (t : Int) : Int := pl.getD t.toNat default
theorem ldP_b {p : Pb} {q : List Int} (t : Int) : 0 ≤ ldP (pltV p q) t ∧ ldP (pltV p q) t ≤ q.length := pltV_nn
theorem sum_ok {h0 : AH} (w : WfH h0) (vp : Value) (pl : List Int) (rp : RdL h0 vp 1 eI pl) (vt : Value) (l : List Int) (rt : RdL h0 vt 1 eI l) (hl : l.length ≤ 1000000) (ht : ∀ t ∈ l, 0 ≤ t ∧ t < pl.length) (hb : ∀ t, 0 ≤ ldP pl t ∧ ldP pl t ≤ 1000) :
    Fn Tryz.prog Xh 47 [vp, vt] h0 (fun u h' => u = .int .i64 (sumL (ldP pl) l) ∧ Hs h0 h' []) := by
  have S := Hs.start w
  refine Fn_K (by first | rfl) Tryz.func47 rfl rfl ?_
  all_goals (repeat' (first | refine K_seq ?_ | refine k_block ?_ | (refine K_region (id := 0) ?_; refine mv ?_; refine KO_nil ?_) | (refine K_region (id := 1) ?_; refine mv ?_; refine KO_nil ?_) | (refine K_region (id := 2) ?_; refine mv ?_; refine lnB S ?_; refine mv ?_; refine KO_nil ?_)))
  refine k_loop (σ := Nat) (fun i h' => Hs h0 h' [] ∧ i ≤ l.length) (fun i => l.length - i) (fun i => [(0, vp), (5, .int .i64 (sumL (ldP pl) (l.take i))), (8, vt), (9, .int .i64 l.length), (10, .int .i64 i)]) 0 (by repeat (first | exact Ks.le_nil _ | refine Ks.le_cons rfl ?_)) ?_ ?_
  · exact ⟨S, Nat.zero_le _⟩
  clear S
  rintro i h ⟨S, g1⟩
  all_goals (repeat' (first | refine K_seq ?_ | refine k_cond rfl ?_ | refine K_skip ?_ | refine K_exit ?_ | refine k_block ?_ | (refine K_region (id := 3) ?_; (first | (refine cS ?_ ?_ <;> intro hc)) <;> (refine KO_nil ?_)) | (refine K_region (id := 4) ?_; refine ixB S ?_; refine lEB S ?_; refine mv ?_; refine KO_nil ?_)))
  · obtain ⟨x, hx⟩ : ∃ x, l.getD (i : Int).toNat default = x := ⟨_, rfl⟩
    rw [hx]
    replace hx : l.getD i default = x := hx
    have hi : i < l.length := by omega
    have hxm := ht x (by rw [← hx]; exact mem_getD hi)
    have key : l.take (i + 1) = l.take i ++ [x] := by
      rw [List.take_add_one, List.getElem?_eq_getElem hi, ← hx, List.getD_eq_getElem?_getD, List.getElem?_eq_getElem hi]
      rfl
    have b1 := sumL_b (ld := ldP pl) (M := 1000) (l := l.take i) fun t _ => (hb t).2
    have b2 := sumL_nn (ld := ldP pl) (l := l.take i) fun t _ => (hb t).1
    rw [List.length_take, Nat.min_eq_left g1] at b1
    have b3 := hb x
    have ks : sumL (ldP pl) (l.take (i + 1)) = sumL (ldP pl) (l.take i) + ldP pl x := by rw [key, sumL_app]; simp [sumL]
    replace b3 : 0 ≤ pl.getD x.toNat default ∧ pl.getD x.toNat default ≤ 1000 := b3
    replace ks : sumL (ldP pl) (l.take (i + 1)) = sumL (ldP pl) (l.take i) + pl.getD x.toNat default := ks
    skip
    all_goals (repeat' (first | (refine K_region (id := 5) ?_; refine mv ?_; refine mv ?_; refine mv ?_; refine ixB S ?_; refine lEB S ?_; refine ad ?_; refine mv ?_; refine KO_nil ?_) | (refine K_region (id := 6) ?_; refine ad ?_; refine mv ?_; refine KO_nil ?_)))
    refine ⟨i + 1, ?_, ?_, (by repeat (first | exact Ks.le_nil _ | refine Ks.le_cons rfl ?_ | refine Ks.le_int ?_))⟩
    · show l.length - (i + 1) < l.length - i; omega
    · exact ⟨S, by omega⟩
  · all_goals (repeat' (first | (refine K_region (id := 7) ?_; refine mv ?_; refine mv ?_; refine KO_nil ?_)))
    refine K_ret ⟨_, rfl, ?_⟩
    obtain rfl : i = l.length := by omega
    rw [List.take_of_length_le (Nat.le_refl _)]
    exact ⟨rfl, S⟩
structure B3 where
  s : Int
  t : Int
  e : Int
instance : Inhabited B3 := ⟨⟨0, 0, 0⟩⟩
def e3 (x : B3) : List Value := [.int .i64 x.s, .int .i64 x.t, .int .i64 x.e]
/-- A trip. -/
structure Tr_ where
  tv : SlV
  ta : List Int
  pl : Int
  st : Int
instance : Inhabited Tr_ := ⟨⟨⟨none, 0, 0⟩, [], 0, 0⟩⟩
def eTr (x : Tr_) : List Value := [x.tv.val, .int .i64 x.pl, .int .i64 x.st]
abbrev slTr (x : Tr_) : Rs := .sl x.tv.val 3 1 eI x.ta
theorem List.take_append_drop_take {l : List Int} {i e : Nat} : l.take i ++ (l.drop i).take (e - i) = l.take (i + (e - i)) := by
  rw [List.take_add]
theorem nodup_ne {l : List Int} (h : l.Nodup) {i j : Nat} (hij : i < j) (hj : j < l.length) : l.getD i default ≠ l.getD j default := by
  rw [List.getD_eq_getElem?_getD, List.getD_eq_getElem?_getD, List.getElem?_eq_getElem (by omega), List.getElem?_eq_getElem hj]
  exact List.pairwise_iff_getElem.1 h i j (by omega) hj hij
/-- What stands behind i is the best, as far as it is known. -/
structure FrI (p : Pb) (ld : Int → Int) (k : Int) (way : List Int) (m : Nat) (F : List B3) : Prop where
  len : F.length = way.length + 1
  best : ∀ j, m ≤ j → j ≤ way.length → BestC (stp p.tabs) ld k way j (F.getD j default).s
  last : (F.getD way.length default).s = 0
  bnd : ∀ j, j ≤ way.length → (0 ≤ (F.getD j default).s ∧ (F.getD j default).s ≤ 4000 * (way.length - j : Int)) ∧ 0 ≤ (F.getD j default).t ∧ (F.getD j default).t ≤ (way.length - j : Int)
  stp_ : ∀ j, m ≤ j → j < way.length → ∃ e : Nat, (F.getD j default).e = e ∧ j < e ∧ e ≤ way.length ∧ sumL ld (seg way j e) ≤ k ∧ (F.getD j default).s = tour (stp p.tabs) (seg way j e) + (F.getD e default).s
theorem getD_set3 {F : List B3} {i j : Nat} {x : B3} (hi : i < F.length) : (F.set i x).getD j default = if i = j then x else F.getD j default := by
  rw [List.getD_eq_getElem?_getD, List.getElem?_set]
  by_cases e : i = j
  · subst e; rw [if_pos rfl, if_pos hi, if_pos rfl]; rfl
  · rw [if_neg e, if_neg e, ← List.getD_eq_getElem?_getD]
theorem trips_ok {h0 : AH} (w : WfH h0) (pv : PbV) (p : Pb) (H : PbOk h0 pv p) (hP : PO p) (vq : Value) (q : List Int) (rq : RdL h0 vq 1 eI q) (hQ : PartOk p q) (hl9 : p.tabs.length ≤ 9) (vw : Value) (way : List Int) (rw_ : RdL h0 vw 1 eI way) (cw : CapOk vw) (hw : way.Perm (srv (pltV p q))) (k : Int) (hk : 1 ≤ k ∧ k ≤ 1000) :
    Fn Tryz.prog Xh 16 [pv.val, vq, vw, .int .i64 k] h0 (fun u h' => ((∃ t ∈ way, k < ldP (pltV p q) t) ∧ u = .tuple #[.slice none 0 0, .int .i64 110] ∧ Hs h0 h' []) ∨
      ((∀ t ∈ way, ldP (pltV p q) t ≤ k) ∧ ∃ vL ts, u = .tuple #[vL, .int .i64 0] ∧ Hs h0 h' [.sl vL 56 3 eTr ts, ownR slTr ts] ∧ CutOk (ldP (pltV p q)) k (ts.map (·.ta)) ∧ (ts.map (·.ta)).flatten = way ∧ (∀ x ∈ ts, x.pl = sumL (ldP (pltV p q)) x.ta ∧ x.st = tour (stp p.tabs) x.ta) ∧ BestC (stp p.tabs) (ldP (pltV p q)) k way 0 (cost (stp p.tabs) (ts.map (·.ta))))) := by
  have S := Hs.start w
  have hq64 := hQ.ql hP
  have hqm := hQ.qm H.tab.len
  have hsl := srv_len (pl := pltV p q)
  rw [pltV_len] at hsl
  have nd0 : (srv (pltV p q)).Nodup := srv_inc.imp fun h => Int.ne_of_lt h
  have hsr := srv_in (p := p) (q := q)
  have nw : way.Nodup := hw.symm.nodup nd0
  have hwl : way.length ≤ 9 := by have := hw.length_eq; omega
  have hwr : ∀ t ∈ way, 0 ≤ t ∧ t < p.tabs.length := fun t ht => hsr t (hw.mem_iff.1 ht)
  have hpl := pltV_len (p := p) (q := q)
  have hld := ldP_b (p := p) (q := q)
  have met := stp_met p.tabs
  unfold PbV.val
  refine Fn_K (by first | rfl) Tryz.func16 rfl rfl ?_
  all_goals (repeat' (first | refine K_seq ?_ | (refine K_region (id := 0) ?_; (refine bx S ?_; clear S; intro b h S); refine mv ?_; refine mv ?_; refine KO_nil ?_)))
  obtain ⟨b4, hnm⟩ : ∃ x, x = b := ⟨_, rfl⟩; subst hnm
  all_goals (repeat' (first | (refine K_region (id := 1) ?_; refine lB S rfl rfl ?_; refine mv ?_)))
  (refine KO_fn rfl rfl rfl rfl rfl ((partP_ok S.wf pv p (H.ext w S.ext) hP vq q (rq.ext w S.ext) hQ).mono ?_); rintro _ h ⟨i, rfl, x⟩) <;> (replace S := S.join0 x; clear x; refine mv ?_; refine vl ?_; refine vl ?_; refine mv ?_; refine mv ?_; refine KO_nil ?_)
  all_goals (repeat' (first | refine K_seq ?_ | refine k_cond rfl ?_ | refine K_skip ?_ | (refine K_region (id := 2) ?_; refine mv ?_; (refine cF ?_) <;> (refine KO_nil ?_))))
  all_goals (repeat' (first | refine K_seq ?_ | refine k_cond rfl ?_ | refine K_skip ?_ | (refine K_region (id := 4) ?_; refine mv ?_; (refine cF ?_) <;> (refine KO_nil ?_))))
  (repeat (refine K_seq ?_)); refine K_drawX (id := 6) [(3, (0, 1))] [some (b4)] ?_; refine KX_cons ?_; (first | (refine lB S rfl rfl ?_ <;> refine KO_nil ⟨⟨by (first | exact True.intro), rfl⟩, ?_⟩)); refine KX_cons ?_; (first | (refine mv ?_ <;> refine KO_nil ⟨⟨by (first | exact True.intro), rfl⟩, ?_⟩))
  ((refine KX_cons ?_; first | refine KO_fn rfl rfl rfl rfl rfl ((sserved_ok S.wf pv p (H.ext w S.ext) vq q (rq.ext w S.ext) (by omega) hqm).mono ?_)); rintro vst h x) <;> ((refine KO_nil ⟨⟨True.intro, ?_⟩, ?_⟩; (focus ((show keepsX _ _ _ _ _; simp only [keepsX]; (repeat' (first | exact True.intro | refine And.intro ?_ ?_)); all_goals (intro hw; first | exact x.ext.old _ S.bB))))); replace S := S.join1 x; clear x; refine KX_cons ?_; (first | (refine lB S rfl rfl ?_ <;> refine KO_nil ⟨⟨by (first | exact Or.inr rfl), rfl⟩, ?_⟩)); refine KX_cons ?_; (first | (refine mv ?_ <;> refine KO_nil ⟨⟨by (first | exact True.intro), rfl⟩, ?_⟩)))
  ((refine KX_cons ?_; first | refine KO_fn rfl rfl rfl rfl rfl ((splates_ok S.wf pv p (H.ext w S.ext) vq q (rq.ext w S.ext) (by omega) hqm).mono ?_)); rintro vp h x) <;> ((refine KO_nil ⟨⟨True.intro, ?_⟩, ?_⟩; (focus ((show keepsX _ _ _ _ _; simp only [keepsX]; (repeat' (first | exact True.intro | refine And.intro ?_ ?_)); all_goals (intro hw; first | exact absurd hw (by decide +kernel)))))); replace S := S.join1 x; clear x; refine KX_cons ?_; (first | (refine mv ?_ <;> refine KO_nil ⟨⟨by (first | exact True.intro), rfl⟩, ?_⟩)); refine KX_cons ?_; (first | (refine mv ?_ <;> refine KO_nil ⟨⟨by (first | exact True.intro), rfl⟩, ?_⟩)); refine KX_nil ?_)
  obtain ⟨stops, hst⟩ : ∃ stops, srv (pltV p q) = stops := ⟨_, rfl⟩
  obtain ⟨pl, hpe⟩ : ∃ pl, pltV p q = pl := ⟨_, rfl⟩
  rw [hst, hpe] at S
  rw [hst] at hw hsl
  have hs6 : stops.length ≤ 1000000 := by omega
  rw [hpe] at hpl hld ⊢
  have hld2 : ∀ t, 0 ≤ ldP pl t ∧ ldP pl t ≤ 1000 := fun t => by have := hld t; omega
  replace S : Hs h0 h [.sl vp 3 1 eI pl, .sl vst 3 1 eI stops, .blk b4 pv.cs 33] := S
  all_goals (repeat' (first | refine K_seq ?_ | refine k_block ?_ | (refine K_region (id := 7) ?_; refine mv ?_; refine lnB S ?_; refine mv ?_; refine KO_nil ?_)))
  refine k_loop (σ := Nat) (fun i h' => Hs h0 h' [.sl vp 3 1 eI pl, .sl vst 3 1 eI stops, .blk b4 pv.cs 33] ∧ i ≤ way.length) (fun i => way.length - i) (fun i => [(1, vq), (2, vw), (3, .int .i64 k), (4, .pointer (some ⟨b4, 0, none⟩)), (12, vst), (13, vp), (43, vw), (44, .int .i64 way.length), (45, .int .i64 i)]) 0 (by repeat (first | exact Ks.le_nil _ | refine Ks.le_cons rfl ?_)) ?_ ?_
  · exact ⟨S, Nat.zero_le _⟩
  clear S
  rintro i h ⟨S, g1⟩
  all_goals (repeat' (first | refine K_seq ?_ | refine k_cond rfl ?_ | refine K_skip ?_ | refine K_exit ?_ | refine k_block ?_ | (refine K_region (id := 8) ?_; (first | (refine cS ?_ ?_ <;> intro hc)) <;> (refine KO_nil ?_)) | (refine K_region (id := 9) ?_; refine mv ?_; refine ixB S ?_; refine lEB S ?_; refine mv ?_; refine mv ?_; refine KO_nil ?_)))
  · obtain ⟨t, ht⟩ : ∃ t, way.getD (i : Int).toNat default = t := ⟨_, rfl⟩
    rw [ht]
    replace ht : way.getD i default = t := ht
    have hi : i < way.length := by omega
    have htm : t ∈ way := by rw [← ht]; exact mem_getD hi
    skip
    all_goals (repeat' (first | (refine K_region (id := 10) ?_; refine mv ?_; refine mv ?_)))
    (refine KO_fn rfl rfl rfl rfl rfl ((containsI_ok S.wf vst stops (Rd.of_sl S (.there .here)) hs6 t).mono ?_); rintro _ h ⟨⟨rfl, hq⟩ | ⟨rfl, hq⟩, x⟩) <;> (replace S := S.join0 x; clear x; refine vl ?_; refine mv ?_; (first | refine off ?_ | refine mv ?_); (first | refine off ?_ | refine mv ?_); (first | (refine off ?_; refine off ?_; (first | (refine off ?_; refine vl ?_; refine KO_nil ?_))) | skip))
    rotate_left
    · exact absurd (mem_iff_getD.1 (hw.mem_iff.1 htm)) hq
    refine su0 0 i S w rw_ cw ?_; intro vm hrm hcm; ((refine mv ?_); (skip))
    have hnm2 : t ∉ (way.drop 0).take (i - 0) := by
      rw [List.drop_zero, Nat.sub_zero]
      intro q
      obtain ⟨j, hj, e⟩ := mem_iff_getD.1 q
      rw [List.length_take] at hj
      rw [getD_take (by omega)] at e
      exact nodup_ne nw (show j < i by omega) hi (by rw [e, ht])
    have hvl : ((way.drop 0).take (i - 0)).length ≤ 1000000 := by rw [List.length_take]; omega
    (refine KO_fn rfl rfl rfl rfl rfl ((containsI_ok S.wf vm _ (hrm.ext w S.ext) hvl t).mono ?_); rintro _ h ⟨⟨rfl, hq2⟩ | ⟨rfl, hq2⟩, x⟩) <;> (replace S := S.join0 x; clear x; refine vl ?_; refine KO_nil ?_)
    · exact absurd (mem_iff_getD.2 hq2) hnm2
    all_goals (repeat' (first | refine k_cond rfl ?_ | refine K_skip ?_ | (refine K_region (id := 12) ?_; refine ad ?_; refine mv ?_; refine KO_nil ?_)))
    refine ⟨i + 1, ?_, ?_, (by repeat (first | exact Ks.le_nil _ | refine Ks.le_cons rfl ?_))⟩
    · show way.length - (i + 1) < way.length - i; omega
    · exact ⟨S, by omega⟩
  clear g1
  all_goals (repeat' (first | refine k_block ?_ | (refine K_region (id := 13) ?_; refine mv ?_; refine lnB S ?_; refine mv ?_; refine KO_nil ?_)))
  refine k_loop (σ := Nat) (fun i h' => Hs h0 h' [.sl vp 3 1 eI pl, .sl vst 3 1 eI stops, .blk b4 pv.cs 33] ∧ i ≤ way.length ∧ ∀ j, j < i → ldP pl (way.getD j default) ≤ k) (fun i => way.length - i) (fun i => [(1, vq), (2, vw), (3, .int .i64 k), (4, .pointer (some ⟨b4, 0, none⟩)), (12, vst), (13, vp), (62, vw), (63, .int .i64 way.length), (64, .int .i64 i)]) 0 (by repeat (first | exact Ks.le_nil _ | refine Ks.le_cons rfl ?_)) ?_ ?_
  · exact ⟨S, Nat.zero_le _, fun j hj => absurd hj (Nat.not_lt_zero _)⟩
  clear S
  rintro i h ⟨S, g1, g2⟩
  all_goals (repeat' (first | refine K_seq ?_ | refine k_cond rfl ?_ | refine K_skip ?_ | refine K_exit ?_ | refine k_block ?_ | (refine K_region (id := 14) ?_; (first | (refine cS ?_ ?_ <;> intro hc)) <;> (refine KO_nil ?_)) | (refine K_region (id := 15) ?_; refine ixB S ?_; refine lEB S ?_; refine mv ?_; refine KO_nil ?_)))
  · obtain ⟨t, ht⟩ : ∃ t, way.getD (i : Int).toNat default = t := ⟨_, rfl⟩
    rw [ht]
    replace ht : way.getD i default = t := ht
    have hi : i < way.length := by omega
    have htm : t ∈ way := by rw [← ht]; exact mem_getD hi
    have htb := hwr t htm
    skip
    all_goals (repeat' (first | refine K_seq ?_ | refine k_cond rfl ?_ | refine K_skip ?_ | (refine K_region (id := 16) ?_; refine mv ?_; refine mv ?_; refine ixS2 S rfl rfl ?_; refine lES2 S rfl rfl ?_; refine mv ?_; (first | (refine cS ?_ ?_ <;> intro hc)) <;> (refine KO_nil ?_))))
    · all_goals (repeat' (first | (refine K_region (id := 17) ?_; refine mv ?_; refine mv ?_; refine KO_nil ?_)))
      refine K_ret ⟨_, rfl, ?_⟩
      exact .inl ⟨⟨t, htm, by unfold ldP; omega⟩, rfl, S.drop⟩
    · all_goals (repeat' (first | (refine K_region (id := 18) ?_; refine ad ?_; refine mv ?_; refine KO_nil ?_)))
      refine ⟨i + 1, ?_, ?_, (by repeat (first | exact Ks.le_nil _ | refine Ks.le_cons rfl ?_))⟩
      · show way.length - (i + 1) < way.length - i; omega
      · exact ⟨S, by omega, nxtD g2 (by rw [ht]; unfold ldP; omega)⟩
  have hle : ∀ t ∈ way, ldP pl t ≤ k := fun t ht => by
    obtain ⟨j, hj, rfl⟩ := mem_iff_getD.1 ht
    exact g2 j (by omega)
  clear g1 g2
  all_goals (repeat' (first | (refine K_region (id := 19) ?_; refine mv ?_; refine lnB S ?_; refine ad ?_)))
  refine m_make (z := 3) (by_ := 24) (enc := e3) (y0 := ⟨0, 0, 0⟩) S rfl rfl rfl rfl rfl rfl rfl rfl rfl (by intro _; rfl) (by first | omega) rfl rfl ?_; clear S; intro v h S; obtain ⟨vf, rfl⟩ := S.sV v; (refine mv ?_; refine KO_nil ?_)
  have e19 : ((way.length : Int) + 1).toNat = way.length + 1 := by omega
  rw [e19] at S
  have fr0 : FrI p (ldP pl) k way way.length (List.replicate (way.length + 1) ⟨0, 0, 0⟩) := by
    have hz : ∀ j, j ≤ way.length → (List.replicate (way.length + 1) (⟨0, 0, 0⟩ : B3)).getD j default = ⟨0, 0, 0⟩ := fun j hj => by
      rw [List.getD_eq_getElem?_getD, List.getElem?_replicate, if_pos (by omega)]; rfl
    refine ⟨by simp, fun j h1 h2 => ?_, by rw [hz _ (Nat.le_refl _)], fun j hj => ?_, fun j h1 h2 => by omega⟩
    · obtain rfl : j = way.length := by omega
      rw [hz _ (Nat.le_refl _)]
      exact BestC.last met
    · rw [hz j hj]; dsimp only; omega
  all_goals (repeat' (first | refine K_seq ?_ | refine k_block ?_ | (refine K_region (id := 20) ?_; refine mv ?_; refine lnB S ?_; refine sb ?_; refine mv ?_; refine KO_nil ?_)))
  refine k_loop (σ := Nat × List B3) (fun (m, F) h' => Hs h0 h' [.sl vf.val 90 3 e3 F, .sl vp 3 1 eI pl, .sl vst 3 1 eI stops, .blk b4 pv.cs 33] ∧ m ≤ way.length ∧ FrI p (ldP pl) k way m F) (fun (m, F) => m) (fun (m, F) => [(1, vq), (2, vw), (3, .int .i64 k), (4, .pointer (some ⟨b4, 0, none⟩)), (13, vp), (18, vf.val), (19, .int .i64 ((m : Int) - 1))]) (way.length, List.replicate (way.length + 1) ⟨0, 0, 0⟩) (by repeat (first | exact Ks.le_nil _ | refine Ks.le_cons rfl ?_)) ?_ ?_
  · exact ⟨S, Nat.le_refl _, fr0⟩
  clear S fr0
  rintro ⟨m, F⟩ h ⟨S, g1, g2⟩
  have hFl := g2.len
  dsimp only
  all_goals (repeat' (first | refine K_seq ?_ | refine k_cond rfl ?_ | refine K_skip ?_ | refine K_exit ?_ | refine k_block ?_ | (refine K_region (id := 21) ?_; refine mv ?_; (first | (refine cS ?_ ?_ <;> intro hc)) <;> (refine KO_nil ?_))))
  · obtain ⟨i, rfl⟩ : ∃ i, m = i + 1 := ⟨m - 1, by omega⟩
    rw [show ((i + 1 : Nat) : Int) - 1 = (i : Int) by omega]
    have hi : i < way.length := by omega
    (repeat (refine K_seq ?_)); refine K_region (id := 23) ?_; refine mv ?_; refine mv ?_; refine ixS2 S rfl rfl ?_; refine fS S rfl rfl ?_; refine sE2 (y := (⟨(F.getD (i : Int).toNat default).s, (F.getD (i : Int).toNat default).t, -1⟩ : B3)) S rfl rfl ?_; clear S; intro h S; refine KO_nil ?_
    replace S : Hs h0 h [.sl vf.val 90 3 e3 (F.set i ⟨(F.getD i default).s, (F.getD i default).t, -1⟩), .sl vp 3 1 eI pl, .sl vst 3 1 eI stops, .blk b4 pv.cs 33] := S
    skip
    all_goals (repeat' (first | refine K_seq ?_ | refine k_block ?_ | (refine K_region (id := 24) ?_; refine mv ?_; refine ad ?_; refine mv ?_; refine KO_nil ?_)))
    refine k_loop (σ := Nat × B3) (fun (kk, xb) h' => Hs h0 h' [.sl vf.val 90 3 e3 (F.set i xb), .sl vp 3 1 eI pl, .sl vst 3 1 eI stops, .blk b4 pv.cs 33] ∧ i < kk ∧ kk ≤ way.length + 1 ∧ (∀ j, i < j → j < kk → sumL (ldP pl) (seg way i j) ≤ k) ∧ ((kk = i + 1 ∧ xb = ⟨(F.getD i default).s, (F.getD i default).t, -1⟩) ∨ (i + 1 < kk ∧ (∃ e : Nat, xb.e = e ∧ i < e ∧ e ≤ way.length ∧ sumL (ldP pl) (seg way i e) ≤ k ∧ xb.s = tour (stp p.tabs) (seg way i e) + (F.getD e default).s ∧ xb.t = 1 + (F.getD e default).t) ∧ ∀ j, i < j → j < kk → xb.s ≤ tour (stp p.tabs) (seg way i j) + (F.getD j default).s))) (fun (kk, xb) => way.length + 1 - kk) (fun (kk, xb) => [(1, vq), (2, vw), (3, .int .i64 k), (4, .pointer (some ⟨b4, 0, none⟩)), (13, vp), (18, vf.val), (19, .int .i64 i), (20, .int .i64 kk)]) (i + 1, ⟨(F.getD i default).s, (F.getD i default).t, -1⟩) (by repeat (first | exact Ks.le_nil _ | refine Ks.le_cons rfl ?_)) ?_ ?_
    · exact ⟨S, by omega, by omega, fun j h1 h2 => by omega, .inl ⟨rfl, rfl⟩⟩
    clear S
    rintro ⟨kk, xb⟩ h ⟨S, f1, f2, f3, f4⟩
    have hwi := hwr _ (mem_getD hi)
    have fin3 : (∀ j, kk ≤ j → j ≤ way.length → ¬ sumL (ldP pl) (seg way i j) ≤ k) → FrI p (ldP pl) k way i (F.set i xb) := fun hn => by
      have hgs : ∀ j, (F.set i xb).getD j default = if i = j then xb else F.getD j default := fun j => getD_set3 (by omega)
      have one : sumL (ldP pl) (seg way i (i + 1)) ≤ k := by
        rw [seg_succ (Nat.le_refl _) hi, seg_nil, List.nil_append]
        have := hle _ (mem_getD hi)
        simp only [sumL]; omega
      obtain ⟨f5, ⟨e, e1, e2, e3_, e4, e5, e6⟩, f8⟩ : i + 1 < kk ∧ (∃ e : Nat, xb.e = e ∧ i < e ∧ e ≤ way.length ∧ sumL (ldP pl) (seg way i e) ≤ k ∧ xb.s = tour (stp p.tabs) (seg way i e) + (F.getD e default).s ∧ xb.t = 1 + (F.getD e default).t) ∧ ∀ j, i < j → j < kk → xb.s ≤ tour (stp p.tabs) (seg way i j) + (F.getD j default).s := by
        rcases f4 with ⟨f5, -⟩ | f5
        · exact absurd one (hn (i + 1) (by omega) (by omega))
        · exact f5
      have hb3 := g2.bnd e e3_
      have htb := tour_b hP.tabs (l := seg way i e) fun t ht => (hwr t (seg_mem ht)).2
      rw [seg_len (by omega) e3_] at htb
      refine ⟨by rw [List.length_set]; exact hFl, fun j h1 h2 => ?_, ?_, fun j h1 => ?_, fun j h1 h2 => ?_⟩
      · rw [hgs j]
        by_cases e : i = j
        · subst e
          rw [if_pos rfl]
          refine BestC.step (F := fun j => (F.getD j default).s) hi (fun j h3 h4 => g2.best j (by omega) h4) fun j h3 h4 h5 => f8 j h3 ?_
          rcases Nat.lt_or_ge j kk with r | r
          · exact r
          · exact absurd h5 (hn j r h4)
        · rw [if_neg e]; exact g2.best j (by omega) h2
      · rw [hgs, if_neg (by omega)]; exact g2.last
      · rw [hgs j]
        by_cases e : i = j
        · subst e; rw [if_pos rfl]; omega
        · rw [if_neg e]; exact g2.bnd j h1
      · rw [hgs j]
        by_cases e : i = j
        · subst e
          rw [if_pos rfl]
          exact ⟨_, e1, e2, e3_, e4, by rw [hgs, if_neg (by omega)]; exact e5⟩
        · rw [if_neg e]
          obtain ⟨e', q1, q2, q3, q4, q5⟩ := g2.stp_ j (by omega) h2
          exact ⟨e', q1, q2, q3, q4, by rw [hgs, if_neg (by omega)]; exact q5⟩
    all_goals (repeat' (first | refine K_seq ?_ | refine k_cond rfl ?_ | refine K_exit ?_ | (refine K_region (id := 25) ?_; refine mv ?_; refine mv ?_; refine lnB S ?_; (first | (refine cS ?_ ?_ <;> intro hc)) <;> (refine mv ?_; (first | refine off ?_ | refine mv ?_); (first | refine off ?_ | refine mv ?_); (first | refine off ?_ | refine mv ?_); (first | refine off ?_ | refine mv ?_); (first | (refine off ?_; (first | (refine off ?_; refine off ?_; (refine off ?_) <;> (refine vl ?_; refine KO_nil ?_)))) | skip)))))
    · have hkk : kk ≤ way.length := by omega
      refine su0 i kk S w rw_ cw ?_; intro vm hrm hcm; ((skip))
      replace hrm : RdL h0 vm 1 eI (seg way i kk) := hrm
      have hsg := seg_len (w := way) (i := i) (j := kk) (by omega) hkk
      have hsl3 : (seg way i kk).length ≤ 1000000 := by omega
      have hsr3 : ∀ t ∈ seg way i kk, 0 ≤ t ∧ t < p.tabs.length := fun t ht => hwr t (seg_mem ht)
      have hsr4 : ∀ t ∈ seg way i kk, 0 ≤ t ∧ t < pl.length := fun t ht => by rw [hpl]; exact hsr3 t ht
      have htb := tour_b hP.tabs (l := seg way i kk) fun t ht => (hsr3 t ht).2
      obtain ⟨y, hy⟩ : ∃ y, F.getD kk default = y := ⟨_, rfl⟩
      have hgk : (F.set i xb).getD (kk : Int).toNat default = y := by
        show (F.set i xb).getD kk default = y
        rw [getD_set3 (by omega), if_neg (by omega)]; exact hy
      have hyb := g2.bnd kk hkk
      rw [hy] at hyb
      (refine KO_fn rfl rfl rfl rfl rfl ((sum_ok S.wf vp pl (Rd.of_sl S (.there .here)) vm (seg way i kk) (hrm.ext w S.ext) hsl3 hsr4 hld2).mono ?_); rintro _ h ⟨rfl, s⟩) <;> (replace S := S.join0 s; clear s; refine mv ?_; (first | (first | (refine cS ?_ ?_ <;> intro hc))) <;> (refine vl ?_; refine KO_nil ?_))
      · all_goals (repeat' (first | refine K_seq ?_ | refine k_cond rfl ?_ | refine K_skip ?_ | refine k_block ?_))
        (repeat (refine K_seq ?_)); refine K_drawF1 (id := 27) (j1 := 20) (rd := [(10, (0, 1)), (16, (0, 1)), (20, (0, 1))]) (fun b1 => [some (blkS vf.val), some (blkS vf.val), some b1]) S (HintOk.direct) ?_; clear S; intro b1 h S; refine KX_cons ?_; (first | (refine lB S rfl rfl ?_ <;> refine KO_nil ⟨⟨by (first | exact True.intro), rfl⟩, ?_⟩)); refine KX_cons ?_; (first | (refine mv ?_ <;> refine KO_nil ⟨⟨by (first | exact True.intro), rfl⟩, ?_⟩)); refine KX_cons ?_; (first | (refine mv ?_ <;> refine KO_nil ⟨⟨by (first | exact True.intro), rfl⟩, ?_⟩)); refine KX_cons ?_; (first | (refine mv ?_ <;> refine KO_nil ⟨⟨by (first | exact True.intro), rfl⟩, ?_⟩))
        refine KX_cons ?_; refine su0 i kk S w rw_ cw ?_; intro vm2 hrm2 hcm2; refine KO_nil ⟨⟨by (first | exact True.intro), rfl⟩, ?_⟩; (skip)
        replace hrm2 : RdL h0 vm2 1 eI (seg way i kk) := hrm2
        ((refine KX_cons ?_; first | refine KO_fn rfl rfl rfl rfl rfl ((slength_ok S.wf pv p (H.ext w S.ext) hP.tabs vm2 (seg way i kk) (hrm2.ext w S.ext) hsl3 (fun t ht => (hsr3 t ht).2)).mono ?_)); rintro _ h ⟨rfl, x⟩) <;> ((refine KO_nil ⟨⟨True.intro, ?_⟩, ?_⟩; (focus ((show keepsX _ _ _ _ _; simp only [keepsX]; (repeat' (first | exact True.intro | refine And.intro ?_ ?_)); all_goals (intro hw; first | exact x.ext.old _ S.bB | exact x.ext.old _ (S.bR (by first | grind))))))); replace S := S.join0 x; clear x; have hq1 := hyb.1.1; have hq2 := hyb.1.2; have hq3 := hyb.2.1; have hq4 := hyb.2.2; rw [← hgk] at hq1 hq2 hq3 hq4; refine KX_cons ?_; (first | (refine mv ?_ <;> refine KO_nil ⟨⟨by (first | exact True.intro), rfl⟩, ?_⟩)); refine KX_cons ?_; (first | (refine mv ?_ <;> refine KO_nil ⟨⟨by (first | exact True.intro), rfl⟩, ?_⟩)); refine KX_cons ?_; (first | (refine ixS2 S rfl rfl ?_ <;> refine KO_nil ⟨⟨by (first | exact True.intro), rfl⟩, ?_⟩)); refine KX_cons ?_; (first | (refine fS S rfl rfl ?_ <;> refine KO_nil ⟨⟨by (first | exact True.intro), rfl⟩, ?_⟩)); refine KX_cons ?_; (first | (refine lES2 S rfl rfl ?_ <;> refine KO_nil ⟨⟨by (first | exact Or.inr (congrArg some (blkOf_elA _ _ _ _))), rfl⟩, ?_⟩)); refine KX_cons ?_; (first | (refine ad ?_ <;> refine KO_nil ⟨⟨by (first | exact True.intro), rfl⟩, ?_⟩)); refine KX_cons ?_; (first | (refine mv ?_ <;> refine KO_nil ⟨⟨by (first | exact True.intro), rfl⟩, ?_⟩)); refine KX_cons ?_; (first | (refine mv ?_ <;> refine KO_nil ⟨⟨by (first | exact True.intro), rfl⟩, ?_⟩)); refine KX_cons ?_; (first | (refine ixS2 S rfl rfl ?_ <;> refine KO_nil ⟨⟨by (first | exact True.intro), rfl⟩, ?_⟩)); refine KX_cons ?_; (first | (refine fS S rfl rfl ?_ <;> refine KO_nil ⟨⟨by (first | exact True.intro), rfl⟩, ?_⟩)); refine KX_cons ?_; (first | (refine lES2 S rfl rfl ?_ <;> refine KO_nil ⟨⟨by (first | exact Or.inr (congrArg some (blkOf_elA _ _ _ _))), rfl⟩, ?_⟩)); refine KX_cons ?_; (first | (refine ad ?_ <;> refine KO_nil ⟨⟨by (first | exact True.intro), rfl⟩, ?_⟩)); refine KX_cons ?_; (first | (refine mv ?_ <;> refine KO_nil ⟨⟨by (first | exact True.intro), rfl⟩, ?_⟩)); refine KX_cons ?_; (first | (refine vl ?_ <;> refine KO_nil ⟨⟨by (first | exact True.intro), rfl⟩, ?_⟩)); refine fl S rfl rfl S.gB ?_; refine KX_cons ?_; (first | ((refine sB S rfl rfl ?_; have S0 := S; clear S; intro h S); refine KO_nil ⟨⟨True.intro, ?_⟩, ?_⟩; (focus ((show keepsX _ _ _ _ _; simp only [keepsX]; (repeat' (first | exact True.intro | refine And.intro ?_ ?_)); all_goals (intro hw; first | exact absurd hw (by decide +kernel))))); clear S0)); refine KX_nil ?_)
        rw [hgk] at S
        replace S : Hs h0 h [.blk b1 (e3 ⟨tour (stp p.tabs) (seg way i kk) + y.s, 1 + y.t, kk⟩) 90, .sl vf.val 90 3 e3 (F.set i xb), .sl vp 3 1 eI pl, .sl vst 3 1 eI stops, .blk b4 pv.cs 33] := S
        have hgi : (F.set i xb).getD (i : Int).toNat default = xb := by
          show (F.set i xb).getD i default = xb
          rw [getD_set3 (by omega), if_pos rfl]
        have hsl4 : (F.set i xb).length = way.length + 1 := by rw [List.length_set]; exact hFl
        skip
        all_goals (repeat' (first | refine K_seq ?_ | (refine K_region (id := 28) ?_; refine mv ?_; refine mv ?_; refine ixS2 S rfl rfl ?_; refine lES2 S rfl rfl ?_; (refine al S ?_; clear S; intro b h S); (first | (refine sB S rfl rfl ?_; clear S; intro h S)); refine KO_nil ?_)))
        rw [hgi] at S
        replace S : Hs h0 h [.blk b (e3 xb) 90, .blk b1 (e3 ⟨tour (stp p.tabs) (seg way i kk) + y.s, 1 + y.t, kk⟩) 90, .sl vf.val 90 3 e3 (F.set i xb), .sl vp 3 1 eI pl, .sl vst 3 1 eI stops, .blk b4 pv.cs 33] := S
        have hmono : ∀ z : B3, z.s = tour (stp p.tabs) (seg way i kk) + y.s → z.t = 1 + y.t → z.e = (kk : Int) → (xb.e < 0 ∨ z.s ≤ xb.s) → (∃ e : Nat, z.e = e ∧ i < e ∧ e ≤ way.length ∧ sumL (ldP pl) (seg way i e) ≤ k ∧ z.s = tour (stp p.tabs) (seg way i e) + (F.getD e default).s ∧ z.t = 1 + (F.getD e default).t) ∧ ∀ j, i < j → j < kk + 1 → z.s ≤ tour (stp p.tabs) (seg way i j) + (F.getD j default).s := fun z z1 z2 z3 z4 => by
          refine ⟨⟨kk, z3, f1, hkk, by assumption, by rw [z1, hy], by rw [z2, hy]⟩, fun j h1 h2 => ?_⟩
          rcases Nat.lt_or_ge j kk with r | r
          · rcases f4 with ⟨f5, -⟩ | ⟨f5, ⟨e, f6, f7, -⟩, f8⟩
            · omega
            · have := f8 j h1 r
              rcases z4 with z4 | z4
              · omega
              · omega
          · obtain rfl : j = kk := by omega
            rw [z1, hy]; exact Int.le_refl _
        have hkeep : ¬ xb.e < 0 → ¬ (tour (stp p.tabs) (seg way i kk) + y.s < xb.s) → i + 1 < kk ∧ (∃ e : Nat, xb.e = e ∧ i < e ∧ e ≤ way.length ∧ sumL (ldP pl) (seg way i e) ≤ k ∧ xb.s = tour (stp p.tabs) (seg way i e) + (F.getD e default).s ∧ xb.t = 1 + (F.getD e default).t) ∧ ∀ j, i < j → j < kk + 1 → xb.s ≤ tour (stp p.tabs) (seg way i j) + (F.getD j default).s := fun z1 z2 => by
          rcases f4 with ⟨f5, rfl⟩ | ⟨f5, f6, f8⟩
          · exact absurd (show (-1 : Int) < 0 by omega) z1
          · refine ⟨f5, f6, fun j h1 h2 => ?_⟩
            rcases Nat.lt_or_ge j kk with r | r
            · exact f8 j h1 r
            · obtain rfl : j = kk := by omega
              rw [hy]; omega
        have f3' : ∀ j, i < j → j < kk + 1 → sumL (ldP pl) (seg way i j) ≤ k := fun j h1 h2 => by
          rcases Nat.lt_or_ge j kk with r | r
          · exact f3 j h1 r
          · obtain rfl : j = kk := by omega
            assumption
        skip
        all_goals (repeat' (first | refine k_cond rfl ?_ | refine K_skip ?_ | (refine K_region (id := 29) ?_; refine vl ?_; refine lB S rfl rfl ?_; (first | (refine cS ?_ ?_ <;> intro hc)) <;> (refine mv ?_; (first | refine off ?_ | (refine vl ?_)); (first | refine off ?_ | (refine lB S rfl rfl ?_)); (first | refine off ?_ | (refine vl ?_)); (first | refine off ?_ | (refine lB S rfl rfl ?_)); (first | refine off ?_ | (first | (refine cS ?_ ?_ <;> intro hc))) <;> (refine vl ?_; refine mv ?_; (first | refine off ?_ | (refine vl ?_)); (first | refine off ?_ | (refine lB S rfl rfl ?_)); (first | refine off ?_ | (refine vl ?_)); (first | refine off ?_ | (refine lB S rfl rfl ?_)); (first | refine off ?_ | (first | (refine cS ?_ ?_ <;> intro hc))) <;> ((first | refine off ?_ | refine mv ?_); (first | refine off ?_ | (refine vl ?_)); (first | refine off ?_ | (refine lB S rfl rfl ?_)); (first | refine off ?_ | (refine vl ?_)); (first | refine off ?_ | (refine lB S rfl rfl ?_)); (first | refine off ?_ | (first | (refine cS ?_ ?_ <;> intro hc))) <;> ((first | refine off ?_ | refine vl ?_); refine vl ?_; refine KO_nil ?_)))))))
        rotate_left
        rotate_left
        rotate_left
        · rename_i d1 d2 d3
          all_goals (repeat' (first | (refine K_region (id := 26) ?_; refine mv ?_; refine ad ?_; refine mv ?_; refine KO_nil ?_)))
          refine ⟨(kk + 1, xb), ?_, ?_, (by repeat (first | exact Ks.le_nil _ | refine Ks.le_cons rfl ?_))⟩
          · show way.length + 1 - (kk + 1) < way.length + 1 - kk; omega
          · have := hkeep d1 d2
            exact ⟨S.pick, by omega, by omega, f3', .inr ⟨by omega, this.2.1, this.2.2⟩⟩
        · rename_i d1 d2
          all_goals (repeat' (first | (refine K_region (id := 26) ?_; refine mv ?_; refine ad ?_; refine mv ?_; refine KO_nil ?_)))
          refine ⟨(kk + 1, xb), ?_, ?_, (by repeat (first | exact Ks.le_nil _ | refine Ks.le_cons rfl ?_))⟩
          · show way.length + 1 - (kk + 1) < way.length + 1 - kk; omega
          · have := hkeep d1 d2
            exact ⟨S.pick, by omega, by omega, f3', .inr ⟨by omega, this.2.1, this.2.2⟩⟩
        all_goals
          (repeat (refine K_seq ?_)); refine K_region (id := 30) ?_; refine mv ?_; refine mv ?_; refine lB S rfl rfl ?_; refine ixS2 S rfl rfl ?_; refine sE2 (y := (⟨tour (stp p.tabs) (seg way i kk) + y.s, 1 + y.t, kk⟩ : B3)) S rfl rfl ?_; clear S; intro h S; refine KO_nil ?_
          replace S : Hs h0 h [.blk b (e3 xb) 90, .blk b1 (e3 ⟨tour (stp p.tabs) (seg way i kk) + y.s, 1 + y.t, kk⟩) 90, .sl vf.val 90 3 e3 ((F.set i xb).set i ⟨tour (stp p.tabs) (seg way i kk) + y.s, 1 + y.t, kk⟩), .sl vp 3 1 eI pl, .sl vst 3 1 eI stops, .blk b4 pv.cs 33] := S
          rw [List.set_set] at S
          all_goals (repeat' (first | (refine K_region (id := 26) ?_; refine mv ?_; refine ad ?_; refine mv ?_; refine KO_nil ?_)))
          refine ⟨(kk + 1, ⟨tour (stp p.tabs) (seg way i kk) + y.s, 1 + y.t, kk⟩), ?_, ?_, (by repeat (first | exact Ks.le_nil _ | refine Ks.le_cons rfl ?_))⟩
          · show way.length + 1 - (kk + 1) < way.length + 1 - kk; omega
          · have := hmono ⟨tour (stp p.tabs) (seg way i kk) + y.s, 1 + y.t, kk⟩ rfl rfl rfl (by first | exact .inl (by assumption) | exact .inr (Int.le_of_lt (by assumption)) | exact .inr (Int.le_of_eq (by assumption)))
            exact ⟨S.pick, by omega, by omega, f3', .inr ⟨by omega, this.1, this.2⟩⟩
      · have hF := fin3 fun j h1 h2 h3 => by
          have := seg_mono (ld := ldP pl) (w := way) (i := i) (j := kk) (j' := j) (fun t _ => (hld t).1) (by omega) h1 h2
          omega
        all_goals (repeat' (first | refine k_cond rfl ?_ | refine K_exit ?_ | (refine K_region (id := 22) ?_; refine mv ?_; refine sb ?_; refine mv ?_; refine KO_nil ?_)))
        refine ⟨(i, F.set i xb), ?_, ?_, (by repeat (first | exact Ks.le_nil _ | refine Ks.le_cons rfl ?_))⟩
        · show i < i + 1; omega
        · exact ⟨S, by omega, hF⟩
    · have hF := fin3 fun j h1 h2 h3 => by omega
      all_goals (repeat' (first | (refine K_region (id := 22) ?_; refine mv ?_; refine sb ?_; refine mv ?_; refine KO_nil ?_)))
      refine ⟨(i, F.set i xb), ?_, ?_, (by repeat (first | exact Ks.le_nil _ | refine Ks.le_cons rfl ?_))⟩
      · show i < i + 1; omega
      · exact ⟨S, by omega, hF⟩
  · obtain rfl : m = 0 := by omega
    clear g1
    have S := S.nilS (e := 56) (z := 3) (enc := eTr)
    have S := S.owNil (f := slTr)
    skip
    all_goals (repeat' (first | refine K_seq ?_ | refine k_block ?_ | (refine K_region (id := 31) ?_; refine mv ?_; refine KO_nil ?_) | (refine K_region (id := 32) ?_; refine mv ?_; refine KO_nil ?_)))
    skip
    replace S : Hs h0 h [ownR slTr [], .sl (.slice none 0 0) 56 3 eTr [], .sl vf.val 90 3 e3 F, .sl vp 3 1 eI pl, .sl vst 3 1 eI stops, .blk b4 pv.cs 33] := S
    refine k_loop (σ := Nat × Value × List Tr_) (fun (i, vo, ts) h' => Hs h0 h' [ownR slTr ts, .sl vo 56 3 eTr ts, .sl vf.val 90 3 e3 F, .sl vp 3 1 eI pl, .sl vst 3 1 eI stops, .blk b4 pv.cs 33] ∧ i ≤ way.length ∧ CutOk (ldP pl) k (ts.map (·.ta)) ∧ (ts.map (·.ta)).flatten = way.take i ∧ (∀ x ∈ ts, x.pl = sumL (ldP pl) x.ta ∧ x.st = tour (stp p.tabs) x.ta) ∧ cost (stp p.tabs) (ts.map (·.ta)) + (F.getD i default).s = (F.getD 0 default).s ∧ ts.length ≤ i) (fun (i, vo, ts) => way.length - i) (fun (i, vo, ts) => [(2, vw), (4, .pointer (some ⟨b4, 0, none⟩)), (13, vp), (18, vf.val), (23, vo), (24, .int .i64 i)]) (0, .slice none 0 0, []) (by repeat (first | exact Ks.le_nil _ | refine Ks.le_cons rfl ?_)) ?_ ?_
    · exact ⟨S, Nat.zero_le _, fun p hp => (by cases hp), rfl, fun x hx => (by cases hx), by simp [cost], Nat.le_refl _⟩
    clear S
    rintro ⟨i, vo, ts⟩ h ⟨S, f1, f2, f3, f4, f5, f6⟩
    all_goals (repeat' (first | refine K_seq ?_ | refine k_cond rfl ?_ | refine K_skip ?_ | refine K_exit ?_ | refine k_block ?_ | (refine K_region (id := 33) ?_; refine mv ?_; refine mv ?_; refine lnB S ?_; (first | (refine cS ?_ ?_ <;> intro hc)) <;> (refine KO_nil ?_))))
    · have hi : i < way.length := by omega
      obtain ⟨e, e1, e2, e3_, e4, e5⟩ := g2.stp_ i (Nat.zero_le _) hi
      have he : (F.getD (i : Int).toNat default).e = (e : Int) := e1
      all_goals (repeat' (first | (refine K_region (id := 35) ?_; refine mv ?_; refine mv ?_; refine ixS2 S rfl rfl ?_; refine fS S rfl rfl ?_; refine lES2 S rfl rfl ?_; refine mv ?_; refine sb ?_)))
      refine m_make (z := 1) (by_ := 8) (enc := eI) (y0 := 0) S rfl rfl rfl rfl rfl rfl rfl rfl rfl (by intro _; rfl) (by first | omega) rfl rfl ?_; clear S; intro v h S; refine mv ?_; refine KO_nil ?_
      rw [he] at S
      rw [show ((e : Int) - (i : Int)).toNat = e - i by omega] at S
      obtain ⟨sl_, rfl⟩ := S.sV v
      all_goals (repeat' (first | refine K_seq ?_ | (refine K_region (id := 36) ?_; refine mv ?_; refine mv ?_; refine mv ?_; skip)))
      refine su0 i way.length S w rw_ cw ?_; intro vm hrm hcm
      have hml : ((way.drop i).take (way.length - i)).length = way.length - i := by simp
      refine cpy S (hrm.ext w S.ext) hcm (by simp; omega) (by rw [hml]; simp; omega) (fun h S => ?_)
      rw [List.length_replicate] at S
      have hseg : ((way.drop i).take (way.length - i)).take (e - i) = seg way i e := by
        unfold seg
        rw [List.take_take, Nat.min_eq_left (by omega)]
      rw [hseg] at S
      have hsgl := seg_len (w := way) (i := i) (j := e) (by omega) e3_
      have hsl3 : (seg way i e).length ≤ 1000000 := by omega
      have hsr3 : ∀ t ∈ seg way i e, 0 ≤ t ∧ t < p.tabs.length := fun t ht => hwr t (seg_mem ht)
      have hsr4 : ∀ t ∈ seg way i e, 0 ≤ t ∧ t < pl.length := fun t ht => by rw [hpl]; exact hsr3 t ht
      replace S : Hs h0 h [.sl sl_.val 3 1 eI (seg way i e), ownR slTr ts, .sl vo 56 3 eTr ts, .sl vf.val 90 3 e3 F, .sl vp 3 1 eI pl, .sl vst 3 1 eI stops, .blk b4 pv.cs 33] := S
      (refine KO_nil ?_)
      skip
      (repeat (refine K_seq ?_)); refine K_drawX (id := 37) [(5, (0, 1))] [some (b4)] ?_; refine KX_cons ?_; (first | (refine mv ?_ <;> refine KO_nil ⟨⟨by (first | exact True.intro), rfl⟩, ?_⟩)); refine KX_cons ?_; (first | (refine mv ?_ <;> refine KO_nil ⟨⟨by (first | exact True.intro), rfl⟩, ?_⟩)); refine KX_cons ?_; (first | (refine mv ?_ <;> refine KO_nil ⟨⟨by (first | exact True.intro), rfl⟩, ?_⟩)); refine KX_cons ?_; (first | (refine mv ?_ <;> refine KO_nil ⟨⟨by (first | exact True.intro), rfl⟩, ?_⟩))
      ((refine KX_cons ?_; first | refine KO_fn rfl rfl rfl rfl rfl ((sum_ok S.wf vp pl (Rd.of_sl S (.there (.there (.there (.there .here))))) sl_.val (seg way i e) (Rd.of_sl S .here) hsl3 hsr4 hld2).mono ?_)); rintro _ h ⟨rfl, x⟩) <;> ((refine KO_nil ⟨⟨True.intro, ?_⟩, ?_⟩; (focus ((show keepsX _ _ _ _ _; simp only [keepsX]; (repeat' (first | exact True.intro | refine And.intro ?_ ?_)); all_goals (intro hw; first | exact x.ext.old _ S.bB))))); replace S := S.join0 x; clear x; refine KX_cons ?_; (first | (refine lB S rfl rfl ?_ <;> refine KO_nil ⟨⟨by (first | exact Or.inr rfl), rfl⟩, ?_⟩)); refine KX_cons ?_; (first | (refine mv ?_ <;> refine KO_nil ⟨⟨by (first | exact True.intro), rfl⟩, ?_⟩)))
      ((refine KX_cons ?_; first | refine KO_fn rfl rfl rfl rfl rfl ((slength_ok S.wf pv p (H.ext w S.ext) hP.tabs sl_.val (seg way i e) (Rd.of_sl S .here) hsl3 (fun t ht => (hsr3 t ht).2)).mono ?_)); rintro _ h ⟨rfl, x⟩) <;> ((refine KO_nil ⟨⟨True.intro, ?_⟩, ?_⟩; (focus ((show keepsX _ _ _ _ _; simp only [keepsX]; (repeat' (first | exact True.intro | refine And.intro ?_ ?_)); all_goals (intro hw; first | exact absurd hw (by decide +kernel)))))); replace S := S.join0 x; clear x; refine KX_cons ?_; (first | (refine vl ?_ <;> refine KO_nil ⟨⟨by (first | exact True.intro), rfl⟩, ?_⟩)); refine KX_cons ?_; (first | ((refine one 3 S ?_; have S0 := S; clear S; intro u h S); refine KO_nil ⟨⟨True.intro, ?_⟩, ?_⟩; (focus ((show keepsX _ _ _ _ _; simp only [keepsX]; (repeat' (first | exact True.intro | refine And.intro ?_ ?_)); all_goals (intro hw; first | exact absurd hw (by decide +kernel))))); clear S0)))
      obtain ⟨so, rfl⟩ := S.sV vo
      refine KX_cons ?_; refine app (y0 := (⟨sl_, seg way i e, sumL (ldP pl) (seg way i e), tour (stp p.tabs) (seg way i e)⟩ : Tr_)) S rfl rfl ?_; have S0 := S; clear S; intro v1 h S; refine KO_nil ⟨⟨True.intro, ?_⟩, ?_⟩; (focus ((show keepsX _ _ _ _ _; simp only [keepsX]; (repeat' (first | exact True.intro | refine And.intro ?_ ?_)); all_goals (intro hw; first | exact absurd hw (by decide +kernel))))); clear S0
      (refine KX_cons ?_; (first | (refine mv ?_ <;> refine KO_nil ⟨⟨by (first | exact True.intro), rfl⟩, ?_⟩)); refine KX_nil ?_)
      obtain ⟨tr, htr⟩ : ∃ tr : Tr_, tr = ⟨sl_, seg way i e, sumL (ldP pl) (seg way i e), tour (stp p.tabs) (seg way i e)⟩ := ⟨_, rfl⟩
      rw [← htr] at S
      replace S : Hs h0 h [.sl v1 56 3 eTr (ts ++ [tr]), .sl sl_.val 3 1 eI (seg way i e), ownR slTr ts, .sl vf.val 90 3 e3 F, .sl vp 3 1 eI pl, .sl vst 3 1 eI stops, .blk b4 pv.cs 33] := S
      have S := (show Hs h0 h [.sl sl_.val 3 1 eI (seg way i e), ownR slTr ts, .sl v1 56 3 eTr (ts ++ [tr]), .sl vf.val 90 3 e3 F, .sl vp 3 1 eI pl, .sl vst 3 1 eI stops, .blk b4 pv.cs 33] from S.pick)
      have esl : Rs.sl sl_.val 3 1 eI (seg way i e) = slTr tr := by rw [htr]
      rw [esl] at S
      have S := Hs.owApp (f := slTr) (g := tr) S
      have hta : tr.ta = seg way i e := by rw [htr]
      have hmap : (ts ++ [tr]).map (·.ta) = ts.map (·.ta) ++ [seg way i e] := by rw [List.map_append, List.map_singleton, hta]
      skip
      all_goals (repeat' (first | (refine K_region (id := 34) ?_; refine mv ?_; refine mv ?_; refine ixS2 S rfl rfl ?_; refine fS S rfl rfl ?_; refine lES2 S rfl rfl ?_; refine mv ?_; refine KO_nil ?_)))
      rw [he]
      refine ⟨(e, v1, ts ++ [tr]), ?_, ?_, (by repeat (first | exact Ks.le_nil _ | refine Ks.le_cons rfl ?_))⟩
      · show way.length - e < way.length - i; omega
      · refine ⟨S, e3_, fun c hc => ?_, ?_, fun x hx => ?_, ?_, by simp; omega⟩
        · rw [hmap] at hc
          rcases List.mem_append.1 hc with r | r
          · exact f2 c r
          · rw [List.mem_singleton.1 r]
            refine ⟨fun z => ?_, e4⟩
            rw [z] at hsgl; simp at hsgl; omega
        · rw [hmap, List.flatten_append, f3]
          simp only [List.flatten_singleton]
          unfold seg
          rw [List.take_append_drop_take, show i + (e - i) = e by omega]
        · rcases List.mem_append.1 hx with r | r
          · exact f4 x r
          · rw [List.mem_singleton.1 r, htr]
            exact ⟨rfl, rfl⟩
        · rw [hmap, cost_app, ← f5, e5]
          simp only [cost]; omega
    · all_goals (repeat' (first | (refine K_region (id := 38) ?_; refine mv ?_; refine mv ?_; refine mv ?_; refine KO_nil ?_)))
      refine K_ret ⟨_, rfl, ?_⟩
      obtain rfl : i = way.length := by omega
      rw [List.take_of_length_le (Nat.le_refl _)] at f3
      have hl := g2.last
      refine .inr ⟨hle, vo, ts, rfl, S.pick, f2, f3, f4, ?_⟩
      have hb := g2.best 0 (Nat.le_refl _) (Nat.zero_le _)
      rw [← f5, hl, Int.add_zero] at hb
      exact hb
end Go.Proofs.Xx

/-
  Trips are checked.
-/
namespace Go.Proofs.Xx
open Go Go.Proofs
set_option linter.unusedSimpArgs false
set_option linter.unusedVariables false
set_option linter.unusedSectionVars false
set_option maxRecDepth 100000
set_option maxHeartbeats 4000000

/-- A trip is right by itself. -/
def TrOk (p : Pb) (ld : Int → Int) (k : Int) (x : Tr_) : Prop := x.ta ≠ [] ∧ x.pl = sumL ld x.ta ∧ x.st = tour (stp p.tabs) x.ta ∧ x.pl ≤ k
/-- Trips that serve all guests. -/
def GoodT (p : Pb) (ld : Int → Int) (k : Int) (stops : List Int) (ts : List Tr_) : Prop := ((ts.map (·.ta)).flatten).Perm stops ∧ ∀ x ∈ ts, TrOk p ld k x
theorem flat_at {ts : List Tr_} {i : Nat} (hi : i < ts.length) : (ts.map (·.ta)).flatten = ((ts.take i).map (·.ta)).flatten ++ (ts.getD i default).ta ++ ((ts.drop (i + 1)).map (·.ta)).flatten := by
  have e : ts = ts.take i ++ ts.getD i default :: ts.drop (i + 1) := by
    rw [List.getD_eq_getElem?_getD, List.getElem?_eq_getElem hi, Option.getD_some, ← List.drop_eq_getElem_cons hi, List.take_append_drop]
  have e2 := congrArg (fun l : List Tr_ => (l.map (·.ta)).flatten) e
  simp only [List.map_append, List.flatten_append, List.map_cons, List.flatten_cons] at e2
  rw [e2, List.append_assoc]
theorem take_flat {ts : List Tr_} {i : Nat} (hi : i < ts.length) : ((ts.take (i + 1)).map (·.ta)).flatten = ((ts.take i).map (·.ta)).flatten ++ (ts.getD i default).ta := by
  rw [List.take_add_one, List.getElem?_eq_getElem hi, List.getD_eq_getElem?_getD, List.getElem?_eq_getElem hi, List.map_append, List.flatten_append]
  simp
theorem checkTrips_ok {h0 : AH} (w : WfH h0) (pv : PbV) (p : Pb) (H : PbOk h0 pv p) (hP : PO p) (vq : Value) (q : List Int) (rq : RdL h0 vq 1 eI q) (hQ : PartOk p q) (hl9 : p.tabs.length ≤ 9) (vt : Value) (ts : List Tr_) (rt : RdL h0 vt 3 eTr ts) (htl : ts.length ≤ 1000) (hta : ∀ i, i < ts.length → RdL h0 (ts.getD i default).tv.val 1 eI (ts.getD i default).ta ∧ (ts.getD i default).ta.length ≤ 9223372036854775807) (k : Int) (hk : 1 ≤ k ∧ k ≤ 1000) :
    Fn Tryz.prog Xh 19 [pv.val, vq, vt, .int .i64 k] h0 (fun u h' => ∃ i e, u = .tuple #[.int .i64 i, .int .i64 e] ∧ ((e = 0 ∧ i = 0 ∧ GoodT p (ldP (pltV p q)) k (srv (pltV p q)) ts) ∨ (e = 110 ∧ ¬ GoodT p (ldP (pltV p q)) k (srv (pltV p q)) ts)) ∧ Hs h0 h' []) := by
  have S := Hs.start w
  have hq64 := hQ.ql hP
  have hqm := hQ.qm H.tab.len
  have hsl := srv_len (pl := pltV p q)
  rw [pltV_len] at hsl
  have nd0 : (srv (pltV p q)).Nodup := srv_inc.imp fun h => Int.ne_of_lt h
  have hsr := srv_in (p := p) (q := q)
  have hpl := pltV_len (p := p) (q := q)
  have hld := ldP_b (p := p) (q := q)
  have met := stp_met p.tabs
  unfold PbV.val
  refine Fn_K (by first | rfl) Tryz.func19 rfl rfl ?_
  all_goals (repeat' (first | refine K_seq ?_ | (refine K_region (id := 0) ?_; (refine bx S ?_; clear S; intro b h S); refine mv ?_; refine mv ?_; refine KO_nil ?_)))
  obtain ⟨b4, hnm⟩ : ∃ x, x = b := ⟨_, rfl⟩; subst hnm
  all_goals (repeat' (first | (refine K_region (id := 1) ?_; refine lB S rfl rfl ?_; refine mv ?_)))
  (refine KO_fn rfl rfl rfl rfl rfl ((partP_ok S.wf pv p (H.ext w S.ext) hP vq q (rq.ext w S.ext) hQ).mono ?_); rintro _ h ⟨i, rfl, x⟩) <;> (replace S := S.join0 x; clear x; refine mv ?_; refine vl ?_; refine vl ?_; refine mv ?_; refine mv ?_; refine KO_nil ?_)
  all_goals (repeat' (first | refine K_seq ?_ | refine k_cond rfl ?_ | refine K_skip ?_ | (refine K_region (id := 2) ?_; refine mv ?_; (refine cF ?_) <;> (refine KO_nil ?_))))
  all_goals (repeat' (first | refine K_seq ?_ | refine k_cond rfl ?_ | refine K_skip ?_ | (refine K_region (id := 4) ?_; refine mv ?_; (refine cF ?_) <;> (refine KO_nil ?_))))
  (repeat (refine K_seq ?_)); refine K_drawX (id := 6) [(3, (0, 1))] [some (b4)] ?_; refine KX_cons ?_; (first | (refine lB S rfl rfl ?_ <;> refine KO_nil ⟨⟨by (first | exact True.intro), rfl⟩, ?_⟩)); refine KX_cons ?_; (first | (refine mv ?_ <;> refine KO_nil ⟨⟨by (first | exact True.intro), rfl⟩, ?_⟩))
  ((refine KX_cons ?_; first | refine KO_fn rfl rfl rfl rfl rfl ((sserved_ok S.wf pv p (H.ext w S.ext) vq q (rq.ext w S.ext) (by omega) hqm).mono ?_)); rintro vst h x) <;> ((refine KO_nil ⟨⟨True.intro, ?_⟩, ?_⟩; (focus ((show keepsX _ _ _ _ _; simp only [keepsX]; (repeat' (first | exact True.intro | refine And.intro ?_ ?_)); all_goals (intro hw; first | exact x.ext.old _ S.bB))))); replace S := S.join1 x; clear x; refine KX_cons ?_; (first | (refine lB S rfl rfl ?_ <;> refine KO_nil ⟨⟨by (first | exact Or.inr rfl), rfl⟩, ?_⟩)); refine KX_cons ?_; (first | (refine mv ?_ <;> refine KO_nil ⟨⟨by (first | exact True.intro), rfl⟩, ?_⟩)))
  ((refine KX_cons ?_; first | refine KO_fn rfl rfl rfl rfl rfl ((splates_ok S.wf pv p (H.ext w S.ext) vq q (rq.ext w S.ext) (by omega) hqm).mono ?_)); rintro vp h x) <;> ((refine KO_nil ⟨⟨True.intro, ?_⟩, ?_⟩; (focus ((show keepsX _ _ _ _ _; simp only [keepsX]; (repeat' (first | exact True.intro | refine And.intro ?_ ?_)); all_goals (intro hw; first | exact absurd hw (by decide +kernel)))))); replace S := S.join1 x; clear x; refine KX_cons ?_; (first | (refine mv ?_ <;> refine KO_nil ⟨⟨by (first | exact True.intro), rfl⟩, ?_⟩)); refine KX_cons ?_; (first | (refine mv ?_ <;> refine KO_nil ⟨⟨by (first | exact True.intro), rfl⟩, ?_⟩)); refine KX_nil ?_)
  obtain ⟨stops, hst⟩ : ∃ stops, srv (pltV p q) = stops := ⟨_, rfl⟩
  obtain ⟨pl, hpe⟩ : ∃ pl, pltV p q = pl := ⟨_, rfl⟩
  rw [hst, hpe] at S
  rw [hst] at hsl nd0 hsr ⊢
  rw [hpe] at hpl hld ⊢
  have hld2 : ∀ t, 0 ≤ ldP pl t ∧ ldP pl t ≤ 1000 := fun t => by have := hld t; omega
  replace S : Hs h0 h [.sl vp 3 1 eI pl, .sl vst 3 1 eI stops, .blk b4 pv.cs 33] := S
  have S := (show Hs h0 h [.sl vst 3 1 eI stops, .sl vp 3 1 eI pl, .blk b4 pv.cs 33] from S.pick)
  all_goals (repeat' (first | refine K_seq ?_ | refine k_block ?_ | (refine K_region (id := 7) ?_; refine mv ?_; refine lnB S ?_; refine mv ?_; refine KO_nil ?_)))
  refine k_loop (σ := Nat × Value × List Int) (fun (i, vo, L) h' => Hs h0 h' [.sl vo 3 1 eI L, .sl vp 3 1 eI pl, .blk b4 pv.cs 33] ∧ i ≤ ts.length ∧ (((ts.take i).map (·.ta)).flatten ++ L).Perm stops ∧ ∀ j, j < i → TrOk p (ldP pl) k (ts.getD j default)) (fun (i, vo, L) => ts.length - i) (fun (i, vo, L) => [(2, vt), (3, .int .i64 k), (4, .pointer (some ⟨b4, 0, none⟩)), (12, vo), (13, vp), (36, vt), (37, .int .i64 ts.length), (38, .int .i64 i)]) (0, vst, stops) (by repeat (first | exact Ks.le_nil _ | refine Ks.le_cons rfl ?_)) ?_ ?_
  · exact ⟨S, Nat.zero_le _, by simp, fun j hj => absurd hj (Nat.not_lt_zero _)⟩
  clear S
  rintro ⟨i, vo, L⟩ h ⟨S, g1, g2, g3⟩
  all_goals (repeat' (first | refine K_seq ?_ | refine k_cond rfl ?_ | refine K_skip ?_ | refine K_exit ?_ | refine k_block ?_ | (refine K_region (id := 8) ?_; (first | (refine cS ?_ ?_ <;> intro hc)) <;> (refine KO_nil ?_)) | (refine K_region (id := 9) ?_; refine mv ?_; refine ixB S ?_; refine lEB S ?_; (refine al S ?_; clear S; intro b h S); refine mv ?_; (first | (refine sB S rfl rfl ?_; clear S; intro h S)); refine KO_nil ?_)))
  · have hi : i < ts.length := by omega
    obtain ⟨rx, hxl⟩ := hta i hi
    obtain ⟨x0, hx⟩ : ∃ x, ts.getD (i : Int).toNat default = x := ⟨_, rfl⟩
    rw [hx] at S
    replace hx : ts.getD i default = x0 := hx
    rw [hx] at rx hxl
    have hfl := flat_at hi
    have htf := take_flat hi
    rw [hx] at hfl htf
    obtain ⟨b15, hnm⟩ : ∃ x, x = b := ⟨_, rfl⟩; subst hnm
    replace S : Hs h0 h [.blk b15 (eTr x0) 56, .sl vo 3 1 eI L, .sl vp 3 1 eI pl, .blk b4 pv.cs 33] := S
    skip
    all_goals (repeat' (first | refine k_block ?_ | (refine K_region (id := 10) ?_; refine vl ?_; refine lB S rfl rfl ?_; refine lnB S ?_; refine mv ?_; refine KO_nil ?_)))
    refine k_loop (σ := Nat × Value × List Int) (fun (j, vo, L) h' => Hs h0 h' [.sl vo 3 1 eI L, .blk b15 (eTr x0) 56, .sl vp 3 1 eI pl, .blk b4 pv.cs 33] ∧ j ≤ x0.ta.length ∧ (((ts.take i).map (·.ta)).flatten ++ (x0.ta.take j ++ L)).Perm stops) (fun (j, vo, L) => x0.ta.length - j) (fun (j, vo, L) => [(2, vt), (3, .int .i64 k), (4, .pointer (some ⟨b4, 0, none⟩)), (12, vo), (13, vp), (14, .int .i64 i), (15, .pointer (some ⟨b15, 0, none⟩)), (36, vt), (37, .int .i64 ts.length), (38, .int .i64 i), (44, x0.tv.val), (45, .int .i64 x0.ta.length), (46, .int .i64 j)]) (0, vo, L) (by repeat (first | exact Ks.le_nil _ | refine Ks.le_cons rfl ?_)) ?_ ?_
    · exact ⟨S.pick, Nat.zero_le _, by simpa using g2⟩
    clear S g2
    rintro ⟨j, vo, L⟩ h ⟨S, f1, f2⟩
    have hLl : L.length ≤ 9 ∧ j ≤ 9 := by
      have := f2.length_eq
      simp only [List.length_append, List.length_take] at this
      omega
    all_goals (repeat' (first | refine K_seq ?_ | refine k_cond rfl ?_ | refine K_skip ?_ | refine K_exit ?_ | refine k_block ?_ | (refine K_region (id := 11) ?_; (first | (refine cS ?_ ?_ <;> intro hc)) <;> (refine KO_nil ?_)) | (refine K_region (id := 12) ?_; refine ixB S ?_; refine lEB S ?_; refine mv ?_; refine KO_nil ?_)))
    · have hj : j < x0.ta.length := by omega
      obtain ⟨t, ht⟩ : ∃ t, x0.ta.getD (j : Int).toNat default = t := ⟨_, rfl⟩
      rw [ht]
      replace ht : x0.ta.getD j default = t := ht
      have htk : x0.ta.take (j + 1) = x0.ta.take j ++ [t] := by
        rw [List.take_add_one, List.getElem?_eq_getElem hj, ← ht, List.getD_eq_getElem?_getD, List.getElem?_eq_getElem hj]
        rfl
      have htd : x0.ta = x0.ta.take j ++ t :: x0.ta.drop (j + 1) := by
        rw [← ht, List.getD_eq_getElem?_getD, List.getElem?_eq_getElem hj, Option.getD_some, ← List.drop_eq_getElem_cons hj, List.take_append_drop]
      skip
      all_goals (repeat' (first | (refine K_region (id := 13) ?_; refine mv ?_; refine mv ?_)))
      (refine KO_fn rfl rfl rfl rfl rfl ((indexN_ok S.wf vo L (Rd.of_sl S .here) (by omega) t).mono ?_); rintro _ h ⟨⟨m, hm, rfl, hmt, -⟩ | ⟨rfl, hn⟩, s⟩) <;> (replace S := S.join0 s; clear s; refine mv ?_; refine KO_nil ?_)
      · obtain ⟨so, rfl⟩ := S.sV vo
        all_goals (repeat' (first | refine K_seq ?_ | refine k_cond rfl ?_ | refine K_skip ?_ | (refine K_region (id := 14) ?_; refine mv ?_; (refine cF ?_) <;> (refine KO_nil ?_))))
        all_goals (repeat' (first | (refine K_region (id := 16) ?_; refine mv ?_; refine mv ?_; refine mv ?_; refine ad ?_)))
        (refine KO_fn rfl rfl rfl rfl rfl ((delI_ok m hm (by omega) S).mono ?_); rintro vn h S) <;> (refine mv ?_; refine KO_nil ?_)
        have ndL : L.Nodup := by
          have n1 := f2.symm.nodup nd0
          rw [List.nodup_append, List.nodup_append] at n1
          exact n1.2.1.2.1
        rw [erase_at ndL hm, hmt] at S
        have hmL : t ∈ L := by rw [← hmt]; exact mem_getD hm
        all_goals (repeat' (first | (refine K_region (id := 17) ?_; refine ad ?_; refine mv ?_; refine KO_nil ?_)))
        refine ⟨(j + 1, vn, L.erase t), ?_, ?_, (by repeat (first | exact Ks.le_nil _ | refine Ks.le_cons rfl ?_))⟩
        · show x0.ta.length - (j + 1) < x0.ta.length - j; omega
        · refine ⟨S, by omega, ?_⟩
          rw [htk]
          refine List.Perm.trans (List.Perm.append_left _ ?_) f2
          rw [List.append_assoc]
          exact List.Perm.append_left _ (List.perm_cons_erase hmL).symm
      · all_goals (repeat' (first | refine K_seq ?_ | refine k_cond rfl ?_ | (refine K_region (id := 14) ?_; refine mv ?_; (refine cT ?_) <;> (refine KO_nil ?_)) | (refine K_region (id := 15) ?_; refine mv ?_; refine mv ?_; refine mv ?_; refine KO_nil ?_)))
        refine K_ret ⟨_, rfl, ?_⟩
        refine ⟨i, 110, rfl, .inr ⟨rfl, fun g => ?_⟩, S.drop⟩
        have g0 := g.1
        rw [hfl, htd] at g0
        have g4 := g0.trans f2.symm
        simp only [List.append_assoc, List.cons_append] at g4
        rw [List.perm_append_left_iff, List.perm_append_left_iff] at g4
        obtain ⟨z, hz, hzt⟩ := mem_iff_getD.1 (g4.mem_iff.1 (List.mem_cons_self ..))
        exact hn z hz hzt
    · obtain rfl : j = x0.ta.length := by omega
      rw [List.take_of_length_le (Nat.le_refl _)] at f2
      have hxs : ∀ t ∈ x0.ta, 0 ≤ t ∧ t < p.tabs.length := fun t ht => hsr t (f2.mem_iff.1 (by simp [ht]))
      have hxs2 : ∀ t ∈ x0.ta, 0 ≤ t ∧ t < pl.length := fun t ht => by rw [hpl]; exact hxs t ht
      have hxl2 : x0.ta.length ≤ 1000000 := by omega
      have hbad : ¬ TrOk p (ldP pl) k x0 → ¬ GoodT p (ldP pl) k stops ts := fun z g => z (by rw [← hx]; exact g.2 _ (mem_getD hi))
      have htb := tour_b hP.tabs (l := x0.ta) fun t ht => (hxs t ht).2
      (repeat (refine K_seq ?_)); refine K_drawX (id := 18) [(6, (0, 1)), (15, (1, 2))] [some (b15), some (b15)] ?_; refine KX_cons ?_; (first | (refine vl ?_ <;> refine KO_nil ⟨⟨by (first | exact True.intro), rfl⟩, ?_⟩)); refine KX_cons ?_; (first | (refine lB S rfl rfl ?_ <;> refine KO_nil ⟨⟨by (first | exact True.intro), rfl⟩, ?_⟩)); refine KX_cons ?_; (first | (refine lnB S ?_ <;> refine KO_nil ⟨⟨by (first | exact True.intro), rfl⟩, ?_⟩)); refine KX_cons ?_; (first | ((refine cS ?_ ?_ <;> intro hc) <;> refine KO_nil ⟨⟨by (first | exact True.intro), rfl⟩, ?_⟩)) <;> (refine KX_cons ?_; (first | (refine mv ?_ <;> refine KO_nil ⟨⟨by (first | exact True.intro), rfl⟩, ?_⟩)); refine KX_cons ?_; (first | (refine off ?_; refine KO_nil ⟨⟨by (first | exact True.intro), rfl⟩, ?_⟩) | (refine vl ?_ <;> refine KO_nil ⟨⟨by (first | exact True.intro), rfl⟩, ?_⟩)); refine KX_cons ?_; (first | (refine off ?_; refine KO_nil ⟨⟨by (first | exact Or.inl rfl), rfl⟩, ?_⟩) | (refine lB S rfl rfl ?_ <;> refine KO_nil ⟨⟨by (first | exact Or.inr rfl), rfl⟩, ?_⟩)); refine KX_cons ?_; (first | (refine off ?_; refine KO_nil ⟨⟨by (first | exact True.intro), rfl⟩, ?_⟩) | (refine mv ?_ <;> refine KO_nil ⟨⟨by (first | exact True.intro), rfl⟩, ?_⟩)); refine KX_cons ?_; (first | (refine off ?_; refine KO_nil ⟨⟨by (first | exact True.intro), rfl⟩, ?_⟩) | (refine vl ?_ <;> refine KO_nil ⟨⟨by (first | exact True.intro), rfl⟩, ?_⟩)); refine KX_cons ?_; (first | (refine off ?_; refine KO_nil ⟨⟨by (first | exact True.intro), rfl⟩, ?_⟩) | (refine lB S rfl rfl ?_ <;> refine KO_nil ⟨⟨by (first | exact True.intro), rfl⟩, ?_⟩)); (first | (refine KX_cons ?_; refine off ?_; refine KO_nil ⟨⟨True.intro, by show keepsX _ _ _ _ _; simp [keepsX]⟩, ?_⟩; refine KX_cons ?_; (first | (refine off ?_; refine KO_nil ⟨⟨by (first | exact True.intro), rfl⟩, ?_⟩)) <;> (refine KX_cons ?_; (first | (refine vl ?_ <;> refine KO_nil ⟨⟨by (first | exact True.intro), rfl⟩, ?_⟩)); refine KX_cons ?_; (first | (refine mv ?_ <;> refine KO_nil ⟨⟨by (first | exact True.intro), rfl⟩, ?_⟩)); refine KX_cons ?_; (first | (refine off ?_; refine KO_nil ⟨⟨by (first | exact True.intro), rfl⟩, ?_⟩)); refine KX_cons ?_; (first | (refine off ?_; refine KO_nil ⟨⟨by (first | exact Or.inl rfl), rfl⟩, ?_⟩)); refine KX_cons ?_; (first | (refine off ?_; refine KO_nil ⟨⟨by (first | exact True.intro), rfl⟩, ?_⟩)); refine KX_cons ?_; (first | (refine off ?_; refine KO_nil ⟨⟨by (first | exact True.intro), rfl⟩, ?_⟩)); refine KX_cons ?_; (first | (refine off ?_; refine KO_nil ⟨⟨by (first | exact True.intro), rfl⟩, ?_⟩)); (first | (refine KX_cons ?_; refine off ?_; refine KO_nil ⟨⟨True.intro, by show keepsX _ _ _ _ _; simp [keepsX]⟩, ?_⟩; refine KX_cons ?_; (first | (refine off ?_; refine KO_nil ⟨⟨by (first | exact True.intro), rfl⟩, ?_⟩)) <;> (refine KX_cons ?_; (first | (refine vl ?_ <;> refine KO_nil ⟨⟨by (first | exact True.intro), rfl⟩, ?_⟩)); refine KX_cons ?_; (first | (refine mv ?_ <;> refine KO_nil ⟨⟨by (first | exact True.intro), rfl⟩, ?_⟩)); refine KX_cons ?_; (first | (refine off ?_; refine KO_nil ⟨⟨by (first | exact True.intro), rfl⟩, ?_⟩)); refine KX_cons ?_; (first | (refine off ?_; refine KO_nil ⟨⟨by (first | exact True.intro), rfl⟩, ?_⟩)); refine KX_cons ?_; (first | (refine off ?_; refine KO_nil ⟨⟨by (first | exact True.intro), rfl⟩, ?_⟩)); refine KX_cons ?_; (first | (refine off ?_; refine KO_nil ⟨⟨by (first | exact True.intro), rfl⟩, ?_⟩)) <;> (refine KX_cons ?_; (first | (refine vl ?_ <;> refine KO_nil ⟨⟨by (first | exact True.intro), rfl⟩, ?_⟩)); refine KX_nil ?_)))))) | skip))
      · all_goals (repeat' (first | refine K_seq ?_ | refine k_cond rfl ?_ | (refine K_region (id := 19) ?_; refine mv ?_; refine mv ?_; refine mv ?_; refine KO_nil ?_)))
        refine K_ret ⟨_, rfl, ?_⟩
        exact ⟨i, 110, rfl, .inr ⟨rfl, hbad fun z => z.1 (List.length_eq_zero_iff.1 (by omega))⟩, S.drop⟩
      ((refine KX_cons ?_; first | refine KO_fn rfl rfl rfl rfl rfl ((sum_ok S.wf vp pl (Rd.of_sl S (.there (.there .here))) x0.tv.val x0.ta (rx.ext w S.ext) hxl2 hxs2 hld2).mono ?_)); rintro _ h ⟨rfl, x⟩) <;> ((refine KO_nil ⟨⟨True.intro, ?_⟩, ?_⟩; (focus ((show keepsX _ _ _ _ _; simp only [keepsX]; (repeat' (first | exact True.intro | refine And.intro ?_ ?_)); all_goals (intro hw; first | exact absurd hw (by decide +kernel) | exact x.ext.old _ S.bB))))); replace S := S.join0 x; clear x; refine KX_cons ?_; (first | ((refine cS ?_ ?_ <;> intro hc) <;> refine KO_nil ⟨⟨by (first | exact True.intro), rfl⟩, ?_⟩)) <;> (refine KX_cons ?_; (first | (refine vl ?_ <;> refine KO_nil ⟨⟨by (first | exact True.intro), rfl⟩, ?_⟩)); refine KX_cons ?_; (first | (refine mv ?_ <;> refine KO_nil ⟨⟨by (first | exact True.intro), rfl⟩, ?_⟩)); refine KX_cons ?_; (first | (refine off ?_; refine KO_nil ⟨⟨by (first | exact True.intro), rfl⟩, ?_⟩) | (refine vl ?_ <;> refine KO_nil ⟨⟨by (first | exact True.intro), rfl⟩, ?_⟩)); refine KX_cons ?_; (first | (refine off ?_; refine KO_nil ⟨⟨by (first | exact Or.inl rfl), rfl⟩, ?_⟩) | (refine lB S rfl rfl ?_ <;> refine KO_nil ⟨⟨by (first | exact Or.inr rfl), rfl⟩, ?_⟩)); refine KX_cons ?_; (first | (refine off ?_; refine KO_nil ⟨⟨by (first | exact True.intro), rfl⟩, ?_⟩) | (refine lB S rfl rfl ?_ <;> refine KO_nil ⟨⟨by (first | exact True.intro), rfl⟩, ?_⟩)); refine KX_cons ?_; (first | (refine off ?_; refine KO_nil ⟨⟨by (first | exact True.intro), rfl⟩, ?_⟩) | (refine vl ?_ <;> refine KO_nil ⟨⟨by (first | exact True.intro), rfl⟩, ?_⟩)); refine KX_cons ?_; (first | (refine off ?_; refine KO_nil ⟨⟨by (first | exact True.intro), rfl⟩, ?_⟩) | (refine lB S rfl rfl ?_ <;> refine KO_nil ⟨⟨by (first | exact True.intro), rfl⟩, ?_⟩)); (first | (refine KX_cons ?_; refine off ?_; refine KO_nil ⟨⟨True.intro, by show keepsX _ _ _ _ _; simp [keepsX]⟩, ?_⟩; refine KX_cons ?_; (first | (refine off ?_; refine KO_nil ⟨⟨by (first | exact True.intro), rfl⟩, ?_⟩)) <;> (refine KX_cons ?_; (first | (refine vl ?_ <;> refine KO_nil ⟨⟨by (first | exact True.intro), rfl⟩, ?_⟩)); refine KX_cons ?_; (first | (refine mv ?_ <;> refine KO_nil ⟨⟨by (first | exact True.intro), rfl⟩, ?_⟩)); refine KX_cons ?_; (first | (refine off ?_; refine KO_nil ⟨⟨by (first | exact True.intro), rfl⟩, ?_⟩)); refine KX_cons ?_; (first | (refine off ?_; refine KO_nil ⟨⟨by (first | exact True.intro), rfl⟩, ?_⟩)); refine KX_cons ?_; (first | (refine off ?_; refine KO_nil ⟨⟨by (first | exact True.intro), rfl⟩, ?_⟩)); refine KX_cons ?_; (first | (refine off ?_; refine KO_nil ⟨⟨by (first | exact True.intro), rfl⟩, ?_⟩)) <;> (refine KX_cons ?_; (first | (refine vl ?_ <;> refine KO_nil ⟨⟨by (first | exact True.intro), rfl⟩, ?_⟩)); refine KX_nil ?_))) | skip)))
      · all_goals (repeat' (first | refine K_seq ?_ | refine k_cond rfl ?_ | (refine K_region (id := 19) ?_; refine mv ?_; refine mv ?_; refine mv ?_; refine KO_nil ?_)))
        refine K_ret ⟨_, rfl, ?_⟩
        exact ⟨i, 110, rfl, .inr ⟨rfl, hbad fun z => hc z.2.1⟩, S.drop⟩
      have hc1 : x0.pl = sumL (ldP pl) x0.ta := by omega
      ((refine KX_cons ?_; first | refine KO_fn rfl rfl rfl rfl rfl ((slength_ok S.wf pv p (H.ext w S.ext) hP.tabs x0.tv.val x0.ta (rx.ext w S.ext) hxl2 (fun t ht => (hxs t ht).2)).mono ?_)); rintro _ h ⟨rfl, x⟩) <;> ((refine KO_nil ⟨⟨True.intro, ?_⟩, ?_⟩; (focus ((show keepsX _ _ _ _ _; simp only [keepsX]; (repeat' (first | exact True.intro | refine And.intro ?_ ?_)); all_goals (intro hw; first | exact absurd hw (by decide +kernel) | exact x.ext.old _ S.bB))))); replace S := S.join0 x; clear x; refine KX_cons ?_; (first | ((refine cS ?_ ?_ <;> intro hc) <;> refine KO_nil ⟨⟨by (first | exact True.intro), rfl⟩, ?_⟩)) <;> (refine KX_cons ?_; (first | (refine vl ?_ <;> refine KO_nil ⟨⟨by (first | exact True.intro), rfl⟩, ?_⟩)); refine KX_cons ?_; (first | (refine mv ?_ <;> refine KO_nil ⟨⟨by (first | exact True.intro), rfl⟩, ?_⟩)); refine KX_cons ?_; (first | (refine off ?_; refine KO_nil ⟨⟨by (first | exact True.intro), rfl⟩, ?_⟩) | (refine vl ?_ <;> refine KO_nil ⟨⟨by (first | exact True.intro), rfl⟩, ?_⟩)); refine KX_cons ?_; (first | (refine off ?_; refine KO_nil ⟨⟨by (first | exact True.intro), rfl⟩, ?_⟩) | (refine lB S rfl rfl ?_ <;> refine KO_nil ⟨⟨by (first | exact True.intro), rfl⟩, ?_⟩)); refine KX_cons ?_; (first | (refine off ?_; refine KO_nil ⟨⟨by (first | exact True.intro), rfl⟩, ?_⟩) | (refine mv ?_ <;> refine KO_nil ⟨⟨by (first | exact True.intro), rfl⟩, ?_⟩)); refine KX_cons ?_; (first | (refine off ?_; refine KO_nil ⟨⟨by (first | exact True.intro), rfl⟩, ?_⟩) | ((refine cS ?_ ?_ <;> intro hc) <;> refine KO_nil ⟨⟨by (first | exact True.intro), rfl⟩, ?_⟩)) <;> (refine KX_cons ?_; (first | (refine vl ?_ <;> refine KO_nil ⟨⟨by (first | exact True.intro), rfl⟩, ?_⟩)); refine KX_nil ?_)))
      · all_goals (repeat' (first | refine K_seq ?_ | refine k_cond rfl ?_ | (refine K_region (id := 19) ?_; refine mv ?_; refine mv ?_; refine mv ?_; refine KO_nil ?_)))
        refine K_ret ⟨_, rfl, ?_⟩
        exact ⟨i, 110, rfl, .inr ⟨rfl, hbad fun z => absurd z.2.2.1 (by assumption)⟩, S.drop⟩
      · all_goals (repeat' (first | refine K_seq ?_ | refine k_cond rfl ?_ | (refine K_region (id := 19) ?_; refine mv ?_; refine mv ?_; refine mv ?_; refine KO_nil ?_)))
        refine K_ret ⟨_, rfl, ?_⟩
        exact ⟨i, 110, rfl, .inr ⟨rfl, hbad fun z => by have := z.2.2.2; omega⟩, S.drop⟩
      · have hgood : TrOk p (ldP pl) k x0 := ⟨fun z => by rw [z] at hLl; simp_all, hc1, by omega, by omega⟩
        all_goals (repeat' (first | refine k_cond rfl ?_ | refine K_skip ?_ | (refine K_region (id := 20) ?_; refine ad ?_; refine mv ?_; refine KO_nil ?_)))
        refine ⟨(i + 1, vo, L), ?_, ?_, (by repeat (first | exact Ks.le_nil _ | refine Ks.le_cons rfl ?_))⟩
        · show ts.length - (i + 1) < ts.length - i; omega
        · exact ⟨S.pick, by omega, by rw [htf, List.append_assoc]; exact f2, nxtD g3 (by rw [hx]; exact hgood)⟩
  · obtain rfl : i = ts.length := by omega
    rw [List.take_of_length_le (Nat.le_refl _)] at g2
    all_goals (repeat' (first | refine K_seq ?_ | refine k_cond rfl ?_ | refine K_skip ?_ | (refine K_region (id := 21) ?_; refine mv ?_; refine lnS S rfl rfl ?_; (first | (refine cS ?_ ?_ <;> intro hc)) <;> (refine KO_nil ?_))))
    · all_goals (repeat' (first | (refine K_region (id := 22) ?_; refine mv ?_; refine lnB S ?_; refine mv ?_; refine mv ?_; refine KO_nil ?_)))
      refine K_ret ⟨_, rfl, ?_⟩
      refine ⟨ts.length, 110, rfl, .inr ⟨rfl, fun g => ?_⟩, S.drop⟩
      have h1 := g.1.length_eq
      have h2 := g2.length_eq
      rw [List.length_append] at h2
      omega
    · all_goals (repeat' (first | (refine K_region (id := 23) ?_; refine mv ?_; refine mv ?_; refine KO_nil ?_)))
      refine K_ret ⟨_, rfl, ?_⟩
      obtain rfl : L = [] := List.length_eq_zero_iff.1 (by omega)
      rw [List.append_nil] at g2
      refine ⟨0, 0, rfl, .inl ⟨rfl, rfl, g2, fun x hx => ?_⟩, S.drop⟩
      obtain ⟨j, hj, rfl⟩ := mem_iff_getD.1 hx
      exact g3 j hj
end Go.Proofs.Xx

/-
  ServiceCuts: its contract.
-/
namespace Go.Proofs.Xx
open Go Go.Proofs
set_option linter.unusedSimpArgs false
set_option linter.unusedVariables false
set_option linter.unusedSectionVars false
set_option maxRecDepth 100000
set_option maxHeartbeats 4000000

theorem srvN_sum {pl : List Int} (hn : ∀ i, 0 ≤ pl.getD i default) : ∀ n, n ≤ pl.length → sumL (ldP pl) (srvN pl n) = (pl.take n).sum
  | 0, _ => by simp [srvN, sumL]
  | n + 1, h => by
    have ih := srvN_sum hn n (by omega)
    have e : pl.take (n + 1) = pl.take n ++ [pl.getD n default] := by
      rw [List.take_add_one, List.getElem?_eq_getElem (by omega), List.getD_eq_getElem?_getD, List.getElem?_eq_getElem (by omega)]
      rfl
    have h0 := hn n
    rw [srvN, e, List.sum_append]
    split
    · rw [sumL_app, ih]
      have : ldP pl (n : Int) = pl.getD n default := rfl
      simp [sumL, this]
    · rw [ih]
      have : pl.getD n default = 0 := by omega
      rw [this]; simp
theorem ownTr_rd {h0 h : AH} {rs : List Rs} {ts : List Tr_} (S : Hs h0 h rs) (a : At rs (ownR slTr ts)) {i : Nat} (hi : i < ts.length) : RdL h (ts.getD i default).tv.val 1 eI (ts.getD i default).ta := by
  obtain ⟨fp, k⟩ := S.anyP a
  obtain ⟨f2, k2⟩ := Star.get_ (r := slTr (ts.getD i default)) k (List.mem_map.2 ⟨_, mem_getD hi, rfl⟩)
  exact sl_rdL_ k2
theorem flat_le {ts : List Tr_} {n : Nat} (h : (ts.map (·.ta)).flatten.length ≤ n) {i : Nat} (hi : i < ts.length) : (ts.getD i default).ta.length ≤ n := by
  rw [flat_at hi] at h
  simp only [List.length_append] at h
  omega
theorem flat_len {ts : List Tr_} {n : Nat} (h : (ts.map (·.ta)).flatten.length ≤ n) (hne : ∀ x ∈ ts, x.ta ≠ []) : ts.length ≤ n := by
  refine Nat.le_trans ?_ h
  clear h
  induction ts with
  | nil => simp
  | cons x ts ih =>
    have := ih fun y hy => hne y (List.mem_cons_of_mem _ hy)
    have h1 : 0 < x.ta.length := List.length_pos_iff.2 (hne x (by simp))
    simp only [List.map_cons, List.flatten_cons, List.length_append, List.length_cons]
    omega
theorem cost_b {d : Int → Int → Int} {M : Int} : ∀ {c : List (List Int)}, (∀ p ∈ c, 0 ≤ tour d p ∧ tour d p ≤ M) → 0 ≤ cost d c ∧ cost d c ≤ M * c.length
  | [], _ => by simp [cost]
  | p :: c, h => by
    have h1 := h p (by simp)
    have h2 := cost_b (c := c) fun x q => h x (List.mem_cons_of_mem _ q)
    simp only [cost, List.length_cons]; push_cast; rw [Int.mul_add]; omega
theorem take_map {ts : List Tr_} {i : Nat} (hi : i < ts.length) : (ts.take (i + 1)).map (·.ta) = (ts.take i).map (·.ta) ++ [(ts.getD i default).ta] := by
  rw [List.take_add_one, List.getElem?_eq_getElem hi, List.getD_eq_getElem?_getD, List.getElem?_eq_getElem hi, List.map_append]
  simp
theorem cuts1_ok {h0 : AH} (w : WfH h0) {b : Nat} {k : Int} (hb : h0.get b = some (.cells [.int .i64 k] 3 none false)) (x : Int) : Fn Tryz.prog Xh 18 [.int .i64 x, .pointer (some ⟨b, 0, none⟩)] h0 (fun v h' => BoolIs v (k < x) ∧ Hs h0 h' []) := by
  have S := Hs.start w
  refine Fn_K (by first | rfl) Tryz.func18 rfl rfl ?_
  all_goals (repeat' (first | refine K_seq ?_ | (refine K_region (id := 0) ?_; refine mv ?_; refine KO_nil ?_) | (refine K_region (id := 1) ?_; refine mv ?_; refine lH S ?_; (first | (refine cS ?_ ?_ <;> intro hc)) <;> (refine mv ?_; refine KO_nil ?_))))
  all_goals (refine K_ret ⟨_, rfl, ?_⟩)
  · exact ⟨.inl ⟨rfl, by omega⟩, S⟩
  · exact ⟨.inr ⟨rfl, by omega⟩, S⟩
theorem serviceCuts_true {h0 : AH} (w : WfH h0) (v : NuV) (na nb nc nd : List Nat) (H : NuR h0 v na nb nc nd) (va : Value) (mo : List Nat) (rmo : RdL h0 va 1 e16 mo) (cmo : CapOk va) (hmo : mo.length ≤ 9223372036854775807) (hm16 : ∀ i, i < mo.length → mo.getD i default < 65536)
    (vs : Value) (ls : List Int) (rsl : RdL h0 vs 1 eI ls) (hls : ls.length ≤ 9223372036854775807) (vsw : Value) (sw : List (Nat × Nat)) (rs : RdL h0 vsw 2 e82 sw) (cs : CapOk vsw) (hs : sw.length ≤ 9223372036854775807) (hb : ∀ i, i < sw.length → (sw.getD i default).1 < 256 ∧ (sw.getD i default).2 < 256) (mst : Nat) (hmst : mst < 256) (bits : Nat) (hbits : bits < 65536) :
    Fn Tryz.prog Xh 4 [.agg #[v.vt.val, v.vg.val, v.vi.val, v.vr.val], va, vs, vsw, .int .u8 mst, .int .u16 bits] h0 (fun u _ => u = .bool true) := by
  have S := Hs.start w
  refine Fn_K (by first | rfl) Tryz.func4 rfl rfl ?_
  all_goals (repeat' (first | refine K_seq ?_ | (refine K_region (id := 0) ?_; (refine bx S ?_; clear S; intro b h S); refine mv ?_; refine KO_nil ?_) | (refine K_region (id := 1) ?_; refine lB S rfl rfl ?_; refine mv ?_; refine mv ?_)))
  (refine KO_fn rfl rfl rfl rfl rfl ((made11_ok S.wf v na nb nc nd (H.ext w S.ext) va mo (rmo.ext w S.ext) cmo hmo hm16 vs ls (rsl.ext w S.ext) hls).mono ?_); rintro _ h ⟨pv, p, q, vq, rfl, hP, hl9, hO, hQ, rq, s⟩) <;> (replace S := S.join0 s; clear s; have w1 := S.wf; have rs' := rs.ext w S.ext; replace S := Hs.start w1; obtain ⟨hB0, hnm⟩ : ∃ x, x = h := ⟨_, rfl⟩; subst hnm; refine mv ?_; refine vl ?_; refine vl ?_; (refine al S ?_; clear S; intro b h S); (first | (refine sB S rfl rfl ?_; clear S; intro h S)); refine mv ?_; refine KO_nil ?_)
  obtain ⟨b13, hnm⟩ : ∃ x, x = b := ⟨_, rfl⟩; subst hnm
  replace S : Hs hB0 h [.blk b13 pv.cs 33] := S
  have hq64 := hQ.ql hP
  have htr := hO.tab.rd
  have hsl := srv_len (pl := pltV p q)
  have hpl := pltV_len (p := p) (q := q)
  rw [hpl] at hsl
  have hpl2 : (pltV p q).length ≤ 1000 := by rw [hpl]; omega
  have hsr := srv_in (p := p) (q := q)
  have nd0 : (srv (pltV p q)).Nodup := srv_inc.imp fun h => Int.ne_of_lt h
  have hld := ldP_b (p := p) (q := q)
  have hpn : ∀ i, 0 ≤ (pltV p q).getD i default := fun i => pltV_nn.1
  all_goals (repeat' (first | refine K_seq ?_ | (refine K_region (id := 2) ?_; refine lB S rfl rfl ?_; refine mv ?_)))
  (refine KO_fn rfl rfl rfl rfl rfl ((PlatesP_ok S.wf pv p (hO.ext w1 S.ext) hP vq q (rq.ext w1 S.ext) hQ).mono ?_); rintro vp h x) <;> (replace S := S.join1 x; clear x; refine mv ?_; refine KO_nil ?_)
  all_goals (repeat' (first | refine K_seq ?_ | (refine K_region (id := 3) ?_; refine mv ?_)))
  (refine KO_fn rfl rfl rfl rfl rfl ((lserved_ok S.wf vp (pltV p q) (Rd.of_sl S .here) hpl2).mono ?_); rintro vst h x) <;> (replace S := S.join1 x; clear x; refine mv ?_)
  (refine KO_fn rfl rfl rfl rfl rfl ((exchanged_ok S.wf vst (srv (pltV p q)) (Rd.of_sl S .here) (by omega) vsw sw (rs'.ext w1 S.ext) cs hs hb).mono ?_); rintro vw h ⟨way, hw, x⟩) <;> (replace S := S.join1 x; clear x; refine mv ?_; refine KO_nil ?_)
  have hwl : way.length ≤ 9 := by have := hw.length_eq; omega
  have hwr : ∀ t ∈ way, 0 ≤ t ∧ t < p.tabs.length := fun t ht => hsr t (hw.mem_iff.1 ht)
  have m1 := Int.emod_nonneg (mst : Int) (show (12 : Int) ≠ 0 by omega)
  have m2 := Int.emod_lt_of_pos (mst : Int) (show (0 : Int) < 12 by omega)
  all_goals (repeat' (first | refine K_seq ?_ | (refine K_region (id := 4) ?_; refine mv ?_; refine rmU ?_; refine cI ?_; refine ad ?_; (refine al S ?_; clear S; intro b h S); (first | (refine sB S rfl rfl ?_; clear S; intro h S)); refine KO_nil ?_)))
  obtain ⟨K, hK⟩ : ∃ K, 1 + (mst : Int) % 12 = K := ⟨_, rfl⟩
  rw [hK] at S
  have hKb : 1 ≤ K ∧ K ≤ 12 := by omega
  clear m1 m2 hK
  obtain ⟨b17, hnm⟩ : ∃ x, x = b := ⟨_, rfl⟩; subst hnm
  replace S : Hs hB0 h [.blk b17 [.int .i64 K] 3, .sl vw 3 1 eI way, .sl vst 3 1 eI (srv (pltV p q)), .sl vp 3 1 eI (pltV p q), .blk b13 pv.cs 33] := S
  have cvw := S.capS (.there .here)
  have w2 := S.wf
  all_goals (repeat' (first | (refine K_region (id := 5) ?_; refine lB S rfl rfl ?_; refine mv ?_; refine mv ?_; refine lB S rfl rfl ?_)))
  (refine KO_fn rfl rfl rfl rfl rfl ((trips_ok S.wf pv p (hO.ext w1 S.ext) hP vq q (rq.ext w1 S.ext) hQ hl9 vw way (Rd.of_sl S (.there .here)) cvw hw K (by omega)).mono ?_); rintro _ h (⟨⟨t0, ht0, htk⟩, rfl, x⟩ | ⟨hle, vL, ts, rfl, x, c1, c2, c3, c4⟩)) <;> ((first | replace S := S.join2 x | replace S := S.join0 x); clear x; refine mv ?_; refine vl ?_; refine vl ?_; refine mv ?_; refine mv ?_; refine KO_nil ?_)
  · have htb := hwr t0 ht0
    all_goals (repeat' (first | refine K_seq ?_ | (refine K_region (id := 6) ?_; refine mv ?_; refine vl ?_)))
    have w3 := S.wf
    have g17 := Hs.gB (b := b17) S
    (refine KO_fn rfl rfl rfl rfl rfl ((containsFN_ok S.wf vp (pltV p q) (Rd.of_sl S (.there (.there (.there .here)))) (by omega) (18, #[.pointer (some ⟨b17, 0, none⟩)]) (fun x => K < x) (fun h' i e _ _ => cuts1_ok e.wf (e.get w3 g17) _)).mono ?_); rintro _ h ⟨⟨rfl, hq⟩ | ⟨rfl, hq⟩, x⟩) <;> (replace S := S.join0 x; clear x; refine KO_nil ?_)
    · have hnil : RdL hB0 (.slice none 0 0) 3 eTr [] := Rd.none_ hB0 3
      all_goals (repeat' (first | refine K_seq ?_ | refine k_cond rfl ?_ | (refine K_region (id := 7) ?_; refine mv ?_; (refine cT ?_) <;> (refine mv ?_; refine mv ?_; (first | (refine lnB S ?_)); (first | (first | (refine cS ?_ ?_ <;> intro hc))) <;> (refine vl ?_; refine mv ?_; (first | (refine off ?_; refine vl ?_; refine mv ?_; refine KO_nil ?_) | skip))))))
      rotate_left
      · exact absurd rfl hc
      (refine KO_fn rfl rfl rfl rfl rfl ((awake_ok).mono ?_); rintro _ _ ⟨rfl, rfl⟩) <;> (refine vl ?_; refine mv ?_; refine KO_nil ?_)
      all_goals (repeat' (fail))
      refine K_ret ⟨_, rfl, ?_⟩
      rfl
    · exact absurd ⟨t0.toNat, by rw [hpl]; omega, htk⟩ hq
  generalize hpe : pltV p q = pl at *
  generalize hse : srv pl = stops at *
  have hld2 : ∀ t, 0 ≤ ldP pl t ∧ ldP pl t ≤ 1000 := fun t => by have := hld t; omega
  have hfl : (ts.map (·.ta)).flatten.length ≤ 9 := by rw [c2]; exact hwl
  have htsl : ts.length ≤ 9 := flat_len hfl fun x hx => (c1 x.ta (List.mem_map.2 ⟨x, hx, rfl⟩)).1
  have htx : ∀ x ∈ ts, ∀ t ∈ x.ta, 0 ≤ t ∧ t < p.tabs.length := fun x hx t ht => hwr t (by rw [← c2]; exact List.mem_flatten.2 ⟨x.ta, List.mem_map.2 ⟨x, hx, rfl⟩, ht⟩)
  all_goals (repeat' (first | refine K_seq ?_ | (refine K_region (id := 6) ?_; refine mv ?_; refine vl ?_)))
  have w3 := S.wf
  have g17 := Hs.gB (b := b17) S
  (refine KO_fn rfl rfl rfl rfl rfl ((containsFN_ok S.wf vp pl (Rd.of_sl S (.there (.there (.there (.there (.there .here)))))) (by omega) (18, #[.pointer (some ⟨b17, 0, none⟩)]) (fun x => K < x) (fun h' i e _ _ => cuts1_ok e.wf (e.get w3 g17) _)).mono ?_); rintro _ h ⟨⟨rfl, hq⟩ | ⟨rfl, hq⟩, x⟩) <;> (replace S := S.join0 x; clear x; refine KO_nil ?_)
  · obtain ⟨i, hi, hiK⟩ := hq
    have hm : (i : Int) ∈ stops := by rw [← hse]; exact srv_mem.2 ⟨i, hi, rfl, by omega⟩
    have := hle i (hw.mem_iff.2 hm)
    have e : ldP pl (i : Int) = pl.getD i default := rfl
    omega
  all_goals (repeat' (first | refine K_seq ?_ | refine k_cond rfl ?_ | refine K_skip ?_ | (refine K_region (id := 8) ?_; refine lB S rfl rfl ?_; refine mv ?_; refine mv ?_; refine lB S rfl rfl ?_)))
  have rts := Rd.of_sl S .here
  have rta : ∀ i, i < ts.length → RdL h (ts.getD i default).tv.val 1 eI (ts.getD i default).ta ∧ (ts.getD i default).ta.length ≤ 9223372036854775807 := fun i hi => ⟨ownTr_rd S (.there .here) hi, by have := flat_le hfl hi; omega⟩
  (refine KO_fn rfl rfl rfl rfl rfl ((checkTrips_ok S.wf pv p (hO.ext w1 S.ext) hP vq q (rq.ext w1 S.ext) hQ hl9 vL ts rts (by omega) rta K (by omega)).mono ?_); rintro _ h ⟨i, e, rfl, hg, x⟩) <;> (replace S := S.join0 x; clear x; refine mv ?_; refine vl ?_; refine vl ?_; refine mv ?_; refine mv ?_; refine KO_nil ?_)
  rw [hpe, hse] at hg
  have good : GoodT p (ldP pl) K stops ts := ⟨by rw [c2]; exact hw, fun x hx => by
    have q1 := c1 x.ta (List.mem_map.2 ⟨x, hx, rfl⟩)
    have q2 := c3 x hx
    exact ⟨q1.1, q2.1, q2.2, by rw [q2.1]; exact q1.2⟩⟩
  obtain ⟨rfl, rfl, -⟩ : e = 0 ∧ i = 0 ∧ True := by
    rcases hg with ⟨q1, q2, -⟩ | ⟨-, q⟩
    · exact ⟨q1, q2, trivial⟩
    · exact absurd good q
  all_goals (repeat' (first | refine K_seq ?_ | refine k_cond rfl ?_ | refine K_skip ?_ | (refine K_region (id := 9) ?_; refine mv ?_; (refine cF ?_) <;> (refine mv ?_; refine mv ?_; (first | (refine cF ?_)) <;> (refine vl ?_; refine mv ?_; refine mv ?_; (first | (refine cF ?_)) <;> (refine vl ?_; refine KO_nil ?_))))))
  have S := S.nilS (e := 3) (z := 1) (enc := eI)
  all_goals (repeat' (first | refine K_seq ?_ | refine k_block ?_ | (refine K_region (id := 11) ?_; refine mv ?_; refine KO_nil ?_) | (refine K_region (id := 12) ?_; refine mv ?_; refine mv ?_; refine KO_nil ?_) | (refine K_region (id := 13) ?_; refine mv ?_; refine lnS S rfl rfl ?_; refine mv ?_; refine KO_nil ?_)))
  have htour : ∀ x ∈ ts, 0 ≤ tour (stp p.tabs) x.ta ∧ tour (stp p.tabs) x.ta ≤ 20000 := fun x hx => by
    have h1 := tour_b hP.tabs (l := x.ta) fun t ht => (htx x hx t ht).2
    obtain ⟨j, hj, rfl⟩ := mem_iff_getD.1 hx
    have h2 := flat_le hfl hj
    omega
  have hcost : ∀ i, 0 ≤ cost (stp p.tabs) ((ts.take i).map (·.ta)) ∧ cost (stp p.tabs) ((ts.take i).map (·.ta)) ≤ 180000 := fun i => by
    have h1 := cost_b (d := stp p.tabs) (M := 20000) (c := (ts.take i).map (·.ta)) fun z hz => by
      obtain ⟨x, hx, rfl⟩ := List.mem_map.1 hz
      exact htour x (List.mem_of_mem_take hx)
    rw [List.length_map, List.length_take] at h1
    omega
  have hsub : ∀ i, ((ts.take i).map (·.ta)).flatten.length ≤ 9 := fun i => by
    have e : (ts.map (·.ta)).flatten = ((ts.take i).map (·.ta)).flatten ++ ((ts.drop i).map (·.ta)).flatten := by
      rw [← List.flatten_append, ← List.map_append, List.take_append_drop]
    rw [e, List.length_append] at hfl
    omega
  have hsum : ∀ i, 0 ≤ sumL (ldP pl) ((ts.take i).map (·.ta)).flatten ∧ sumL (ldP pl) ((ts.take i).map (·.ta)).flatten ≤ 9000 := fun i => by
    have h1 := sumL_nn (ld := ldP pl) (l := ((ts.take i).map (·.ta)).flatten) fun t _ => (hld2 t).1
    have h2 := sumL_b (ld := ldP pl) (M := 1000) (l := ((ts.take i).map (·.ta)).flatten) fun t _ => (hld2 t).2
    have := hsub i
    omega
  replace S : Hs hB0 h [.sl (.slice none 0 0) 3 1 eI [], .sl vL 56 3 eTr ts, ownR slTr ts, .blk b17 [.int .i64 K] 3, .sl vw 3 1 eI way, .sl vst 3 1 eI stops, .sl vp 3 1 eI pl, .blk b13 pv.cs 33] := S
  refine k_loop (σ := Nat × Value) (fun (i, vo) h' => Hs hB0 h' [.sl vo 3 1 eI ((ts.take i).map (·.ta)).flatten, .sl vL 56 3 eTr ts, ownR slTr ts, .blk b17 [.int .i64 K] 3, .sl vw 3 1 eI way, .sl vst 3 1 eI stops, .sl vp 3 1 eI pl, .blk b13 pv.cs 33] ∧ i ≤ ts.length) (fun (i, vo) => ts.length - i) (fun (i, vo) => [(5, .int .u16 bits), (13, .pointer (some ⟨b13, 0, none⟩)), (15, vp), (16, vw), (17, .pointer (some ⟨b17, 0, none⟩)), (22, vo), (23, .int .i64 (cost (stp p.tabs) ((ts.take i).map (·.ta)))), (24, .int .i64 (sumL (ldP pl) ((ts.take i).map (·.ta)).flatten)), (94, vL), (95, .int .i64 ts.length), (96, .int .i64 i)]) (0, .slice none 0 0) (by repeat (first | exact Ks.le_nil _ | refine Ks.le_cons rfl ?_)) ?_ ?_
  · exact ⟨S, Nat.zero_le _⟩
  clear S rts rta
  rintro ⟨i, vo⟩ h ⟨S, g1⟩
  have q1 := hcost i
  have q2 := hsum i
  have q3 := hsub i
  all_goals (repeat' (first | refine K_seq ?_ | refine k_cond rfl ?_ | refine K_skip ?_ | refine K_exit ?_ | refine k_block ?_ | (refine K_region (id := 14) ?_; (first | (refine cS ?_ ?_ <;> intro hc)) <;> (refine KO_nil ?_))))
  · have hi : i < ts.length := by omega
    have hxm := mem_getD (show i < ts.length from hi)
    have h3 := c3 _ hxm
    have h4 := htour _ hxm
    have h5 := ownTr_rd S (.there (.there .here)) hi
    have h6 := flat_le hfl hi
    have e1 := take_map hi
    have b1 := sumL_nn (ld := ldP pl) (l := (ts.getD i default).ta) fun t _ => (hld2 t).1
    have b2 := sumL_b (ld := ldP pl) (M := 1000) (l := (ts.getD i default).ta) fun t _ => (hld2 t).2
    have e2 : ((ts.take (i + 1)).map (·.ta)).flatten = ((ts.take i).map (·.ta)).flatten ++ (ts.getD i default).ta := by rw [e1, List.flatten_append]; simp
    have e3_ : cost (stp p.tabs) ((ts.take (i + 1)).map (·.ta)) = cost (stp p.tabs) ((ts.take i).map (·.ta)) + (ts.getD i default).st := by rw [e1, cost_app, h3.2]; simp [cost]
    have e4 : sumL (ldP pl) ((ts.take (i + 1)).map (·.ta)).flatten = sumL (ldP pl) ((ts.take i).map (·.ta)).flatten + (ts.getD i default).pl := by rw [e2, sumL_app, h3.1]
    rw [← h3.2] at h4
    rw [← h3.1] at b1 b2
    obtain ⟨x0, hx⟩ : ∃ x, ts.getD (i : Int).toNat default = x := ⟨_, rfl⟩
    all_goals (repeat' (first | refine K_seq ?_ | (refine K_region (id := 15) ?_; refine ixS2 S rfl rfl ?_; refine lES2 S rfl rfl ?_; (refine al S ?_; clear S; intro b h S); (first | (refine sB S rfl rfl ?_; clear S; intro h S)); refine KO_nil ?_)))
    rw [hx] at S
    replace hx : ts.getD i default = x0 := hx
    rw [hx] at h4 h5 h6 b1 b2 e2 e3_ e4
    obtain ⟨b26, hnm⟩ : ∃ x, x = b := ⟨_, rfl⟩; subst hnm
    replace S : Hs hB0 h [.blk b26 (eTr x0) 56, .sl vo 3 1 eI ((ts.take i).map (·.ta)).flatten, .sl vL 56 3 eTr ts, ownR slTr ts, .blk b17 [.int .i64 K] 3, .sl vw 3 1 eI way, .sl vst 3 1 eI stops, .sl vp 3 1 eI pl, .blk b13 pv.cs 33] := S
    have h5' : RdL h x0.tv.val 1 eI x0.ta := by
      have := ownTr_rd S (.there (.there (.there .here))) hi
      rwa [hx] at this
    all_goals (repeat' (first | (refine K_region (id := 16) ?_; refine mv ?_; refine vl ?_; refine lB S rfl rfl ?_)))
    refine apd S rfl rfl h5' ?_; clear S; intro v2 h S; (refine mv ?_; refine KO_nil ?_)
    all_goals (repeat' (first | refine K_seq ?_ | (refine K_region (id := 17) ?_; refine mv ?_; refine vl ?_; refine lB S rfl rfl ?_; refine ad ?_; refine mv ?_; refine KO_nil ?_) | (refine K_region (id := 18) ?_; refine mv ?_; refine vl ?_; refine lB S rfl rfl ?_; refine ad ?_; refine mv ?_; refine KO_nil ?_) | (refine K_region (id := 19) ?_; refine ad ?_; refine mv ?_; refine KO_nil ?_)))
    rw [← e2] at S
    rw [← e3_, ← e4]
    refine ⟨(i + 1, v2), ?_, ?_, (by repeat (first | exact Ks.le_nil _ | refine Ks.le_cons rfl ?_))⟩
    · show ts.length - (i + 1) < ts.length - i; omega
    · exact ⟨S.pick, by omega⟩
  obtain rfl : i = ts.length := by omega
  dsimp only
  rw [List.take_of_length_le (Nat.le_refl _)] at S q1 q2 q3 ⊢
  rw [c2] at S q2 q3 ⊢
  obtain ⟨C0, hC0⟩ : ∃ C0, cost (stp p.tabs) (ts.map (·.ta)) = C0 := ⟨_, rfl⟩
  rw [hC0] at c4 q1 ⊢
  have hpsum : sumL (ldP pl) way = pl.sum := by
    rw [sumL_perm hw, ← hse]
    unfold srv
    rw [srvN_sum hpn _ (Nat.le_refl _), List.take_of_length_le (Nat.le_refl _)]
  skip
  all_goals (repeat' (first | refine K_seq ?_ | refine k_block ?_ | (refine K_region (id := 20) ?_; refine mv ?_; refine KO_nil ?_) | (refine K_region (id := 21) ?_; refine mv ?_; refine lnS S rfl rfl ?_; refine mv ?_; refine KO_nil ?_)))
  refine k_loop (σ := Nat) (fun i h' => Hs hB0 h' [.sl vo 3 1 eI way, .sl vL 56 3 eTr ts, ownR slTr ts, .blk b17 [.int .i64 K] 3, .sl vw 3 1 eI way, .sl vst 3 1 eI stops, .sl vp 3 1 eI pl, .blk b13 pv.cs 33] ∧ i ≤ pl.length ∧ 0 ≤ (pl.take i).sum ∧ (pl.take i).sum ≤ 1000 * i) (fun i => pl.length - i) (fun i => [(5, .int .u16 bits), (13, .pointer (some ⟨b13, 0, none⟩)), (15, vp), (16, vw), (17, .pointer (some ⟨b17, 0, none⟩)), (22, vo), (23, .int .i64 C0), (24, .int .i64 (sumL (ldP pl) way)), (27, .int .i64 (pl.take i).sum), (113, vp), (114, .int .i64 pl.length), (115, .int .i64 i)]) 0 (by repeat (first | exact Ks.le_nil _ | refine Ks.le_cons rfl ?_)) ?_ ?_
  · exact ⟨S, Nat.zero_le _, by simp, by simp⟩
  clear S
  rintro i h ⟨S, f1, f2, f3⟩
  all_goals (repeat' (first | refine K_seq ?_ | refine k_cond rfl ?_ | refine K_skip ?_ | refine K_exit ?_ | refine k_block ?_ | (refine K_region (id := 22) ?_; (first | (refine cS ?_ ?_ <;> intro hc)) <;> (refine KO_nil ?_))))
  · have hi : i < pl.length := by omega
    have e : pl.take (i + 1) = pl.take i ++ [pl.getD i default] := by
      rw [List.take_add_one, List.getElem?_eq_getElem hi, List.getD_eq_getElem?_getD, List.getElem?_eq_getElem hi]
      rfl
    have e2 : (pl.take (i + 1)).sum = (pl.take i).sum + pl.getD (i : Int).toNat default := by rw [e]; simp
    have h0 : 0 ≤ pl.getD (i : Int).toNat default ∧ pl.getD (i : Int).toNat default ≤ 1000 := hld2 i
    all_goals (repeat' (first | (refine K_region (id := 23) ?_; refine ixS2 S rfl rfl ?_; refine lES2 S rfl rfl ?_; refine mv ?_; refine KO_nil ?_) | (refine K_region (id := 24) ?_; refine mv ?_; refine mv ?_; refine ad ?_; refine mv ?_; refine KO_nil ?_) | (refine K_region (id := 25) ?_; refine ad ?_; refine mv ?_; refine KO_nil ?_)))
    rw [← e2]
    refine ⟨i + 1, ?_, ?_, (by repeat (first | exact Ks.le_nil _ | refine Ks.le_cons rfl ?_))⟩
    · show pl.length - (i + 1) < pl.length - i; omega
    · exact ⟨S, by omega, by omega, by omega⟩
  obtain rfl : i = pl.length := by omega
  rw [List.take_of_length_le (Nat.le_refl _)] at f2 f3 ⊢
  rw [← hpsum] at f2 f3 ⊢
  skip
  all_goals (repeat' (first | (refine K_region (id := 26) ?_; refine mv ?_; refine mv ?_)))
  (refine KO_fn rfl rfl rfl rfl rfl ((equalI_ok S.wf vo vw way way (Rd.of_sl S .here) (Rd.of_sl S (.there (.there (.there (.there .here))))) (by omega)).mono ?_); rintro _ h ⟨⟨rfl, hq⟩ | ⟨rfl, hq⟩, x⟩) <;> (replace S := S.join0 x; clear x; refine vl ?_; refine mv ?_; (first | refine off ?_ | refine mv ?_); (first | refine off ?_ | refine mv ?_); (first | refine off ?_ | (refine cF ?_)) <;> (refine vl ?_; refine mv ?_; (first | refine off ?_ | refine mv ?_); (first | refine off ?_ | (refine lnS S rfl rfl ?_)); (first | refine off ?_ | (refine vl ?_)); (first | refine off ?_ | (refine lB S rfl rfl ?_)); (first | refine off ?_ | (refine lnB S ?_)); (first | refine off ?_ | (refine cF ?_)) <;> (refine vl ?_; refine KO_nil ?_)))
  rotate_left
  · exact absurd rfl hq
  clear f1 f2 f3 hc
  have S := S.nilS (e := 3) (z := 1) (enc := eI)
  all_goals (repeat' (first | refine K_seq ?_ | refine k_cond rfl ?_ | refine K_skip ?_ | refine k_block ?_ | (refine K_region (id := 28) ?_; refine mv ?_; refine mv ?_; refine KO_nil ?_) | (refine K_region (id := 29) ?_; refine mv ?_; refine KO_nil ?_) | (refine K_region (id := 30) ?_; refine mv ?_; refine lnS S rfl rfl ?_; refine mv ?_; refine KO_nil ?_)))
  replace S : Hs hB0 h [.sl (.slice none 0 0) 3 1 eI [], .sl vo 3 1 eI way, .sl vL 56 3 eTr ts, ownR slTr ts, .blk b17 [.int .i64 K] 3, .sl vw 3 1 eI way, .sl vst 3 1 eI stops, .sl vp 3 1 eI pl, .blk b13 pv.cs 33] := S
  have S := (show Hs hB0 h [.sl (.slice none 0 0) 3 1 eI [], .blk b17 [.int .i64 K] 3, .sl vw 3 1 eI way, .sl vp 3 1 eI pl, .blk b13 pv.cs 33] from S.pick)
  refine k_loop (σ := Nat × Value × List Int × Int × List (List Int)) (fun (i, vn, now, ot, C) h' => Hs hB0 h' [.sl vn 3 1 eI now, .blk b17 [.int .i64 K] 3, .sl vw 3 1 eI way, .sl vp 3 1 eI pl, .blk b13 pv.cs 33] ∧ i ≤ way.length ∧ C.flatten ++ now = way.take i ∧ CutOk (ldP pl) K C ∧ ot = cost (stp p.tabs) C ∧ (0 ≤ ot ∧ ot ≤ 20000 * i) ∧ sumL (ldP pl) now ≤ K ∧ (i = way.length → now = []) ∧ now.length ≤ i) (fun (i, vn, now, ot, C) => way.length - i) (fun (i, vn, now, ot, C) => [(5, .int .u16 bits), (13, .pointer (some ⟨b13, 0, none⟩)), (15, vp), (16, vw), (17, .pointer (some ⟨b17, 0, none⟩)), (23, .int .i64 C0), (30, .int .i64 ot), (31, .int .i64 (sumL (ldP pl) now)), (32, vn), (140, vw), (141, .int .i64 way.length), (142, .int .i64 i)]) (0, .slice none 0 0, [], 0, []) (by repeat (first | exact Ks.le_nil _ | refine Ks.le_cons rfl ?_)) ?_ ?_
  · exact ⟨S, Nat.zero_le _, rfl, fun c hc => (by cases hc), rfl, ⟨Int.le_refl _, by omega⟩, by simp [sumL]; omega, fun _ => rfl, Nat.le_refl _⟩
  clear S
  rintro ⟨i, vn, now, ot, C⟩ h ⟨S, f1, f2, f3, f4, f5, f6, f7, f8⟩
  all_goals (repeat' (first | refine K_seq ?_ | refine k_cond rfl ?_ | refine K_skip ?_ | refine K_exit ?_ | refine k_block ?_ | (refine K_region (id := 31) ?_; (first | (refine cS ?_ ?_ <;> intro hc)) <;> (refine KO_nil ?_)) | (refine K_region (id := 32) ?_; refine mv ?_; refine ixS2 S rfl rfl ?_; refine lES2 S rfl rfl ?_; refine mv ?_; refine mv ?_; refine KO_nil ?_)))
  · have hi : i < way.length := by omega
    obtain ⟨t, ht⟩ : ∃ t, way.getD (i : Int).toNat default = t := ⟨_, rfl⟩
    rw [ht]
    replace ht : way.getD i default = t := ht
    have htb := hwr t (by rw [← ht]; exact mem_getD hi)
    have htk : way.take (i + 1) = way.take i ++ [t] := by
      rw [List.take_add_one, List.getElem?_eq_getElem hi, ← ht, List.getD_eq_getElem?_getD, List.getElem?_eq_getElem hi]
      rfl
    have b1 := sumL_nn (ld := ldP pl) (l := now) fun t _ => (hld2 t).1
    have b3 := hld2 t
    have ks : sumL (ldP pl) (now ++ [t]) = sumL (ldP pl) now + pl.getD t.toNat default := by rw [sumL_app]; simp [sumL, ldP]
    replace b3 : 0 ≤ pl.getD t.toNat default ∧ pl.getD t.toNat default ≤ 1000 := b3
    skip
    all_goals (repeat' (first | (refine K_region (id := 33) ?_; refine mv ?_; refine mv ?_; (refine one 1 S ?_; clear S; intro u h S))))
    refine app (y0 := t) S rfl rfl ?_; clear S; intro v h S; obtain ⟨v_, hv_⟩ : ∃ z, z = v := ⟨_, rfl⟩; subst hv_; refine mv ?_; refine KO_nil ?_
    all_goals (repeat' (first | refine K_seq ?_ | (refine K_region (id := 34) ?_; refine mv ?_; refine mv ?_; refine mv ?_; refine ixS2 S rfl rfl ?_; refine lES2 S rfl rfl ?_; refine ad ?_; refine mv ?_; refine KO_nil ?_)))
    rw [← ks]
    all_goals (repeat' (first | refine K_seq ?_ | refine k_cond rfl ?_ | refine K_skip ?_ | (refine K_region (id := 35) ?_; refine mv ?_; refine lB S rfl rfl ?_; (first | (refine cS ?_ ?_ <;> intro hc)) <;> (refine KO_nil ?_))))
    · all_goals (repeat' (first | (refine K_region (id := 36) ?_; skip)))
      (refine KO_fn rfl rfl rfl rfl rfl ((awake_ok).mono ?_); rintro _ _ ⟨rfl, rfl⟩) <;> (refine mv ?_; refine KO_nil ?_)
      all_goals (repeat' (fail))
      refine K_ret ⟨_, rfl, ?_⟩
      rfl
    have hnr : ∀ z ∈ now ++ [t], 0 ≤ z ∧ z < p.tabs.length := fun z hz => hwr z (by
      have : z ∈ way.take (i + 1) := by rw [htk, ← f2]; simp only [List.append_assoc, List.mem_append]; rcases List.mem_append.1 hz with r | r <;> simp_all
      exact List.mem_of_mem_take this)
    have hnl : (now ++ [t]).length ≤ 9 := by rw [List.length_append, List.length_singleton]; omega
    have hfl2 : C.flatten ++ (now ++ [t]) = way.take (i + 1) := by rw [htk, ← f2, List.append_assoc]
    have htn := tour_b hP.tabs (l := now ++ [t]) fun z hz => (hnr z hz).2
    have hne : now ++ [t] ≠ [] := by simp
    generalize hnow : now ++ [t] = nw at *
    (repeat (refine K_seq ?_)); refine K_region (id := 37) ?_; refine mv ?_; refine mv ?_; refine sR (hb := decide_eq_false (by omega)) ?_; (refine vl ?_; (first | (refine cS ?_ ?_ <;> intro hc)) <;> (refine mv ?_; (first | refine off ?_ | refine mv ?_); (first | refine off ?_ | refine mv ?_); (first | refine off ?_ | (refine lnS S rfl rfl ?_)); (first | refine off ?_ | (refine sb ?_)); (first | refine off ?_ | (first | (refine cS ?_ ?_ <;> intro hc))) <;> (refine vl ?_; refine KO_nil ?_)))
    rotate_left
    rotate_left
    · all_goals (repeat' (first | refine k_cond rfl ?_ | refine K_skip ?_ | (refine K_region (id := 43) ?_; refine ad ?_; refine mv ?_; refine KO_nil ?_)))
      refine ⟨(i + 1, v_, nw, ot, C), ?_, ?_, (by repeat (first | exact Ks.le_nil _ | refine Ks.le_cons rfl ?_))⟩
      · show way.length - (i + 1) < way.length - i; omega
      · exact ⟨S, by omega, hfl2, f3, f4, by omega, by omega, fun q => by omega, by rw [← hnow]; simp; omega⟩
    all_goals
      all_goals (repeat' (first | refine K_seq ?_ | refine k_cond rfl ?_ | (refine K_region (id := 38) ?_; refine lB S rfl rfl ?_; refine mv ?_)))
      (refine KO_fn rfl rfl rfl rfl rfl ((LengthP_ok S.wf pv p (hO.ext w1 S.ext) hP v_ nw (Rd.of_sl S .here) (by omega) hnr).mono ?_); rintro _ h ⟨rfl, x⟩) <;> (replace S := S.join0 x; clear x; refine mv ?_; refine vl ?_; refine vl ?_; refine mv ?_; refine mv ?_; refine KO_nil ?_)
      all_goals (repeat' (first | refine K_seq ?_ | refine k_cond rfl ?_ | refine K_skip ?_ | (refine K_region (id := 39) ?_; refine mv ?_; (refine cF ?_) <;> (refine KO_nil ?_)) | (refine K_region (id := 41) ?_; refine mv ?_; refine mv ?_; refine ad ?_; refine mv ?_; refine KO_nil ?_) | (refine K_region (id := 42) ?_; refine mv ?_; refine mv ?_; refine KO_nil ?_) | (refine K_region (id := 43) ?_; refine ad ?_; refine mv ?_; refine KO_nil ?_)))
      have S := Hs.nilS (e := 3) (z := 1) (enc := eI) S.tail
      refine ⟨(i + 1, .slice none 0 0, [], ot + tour (stp p.tabs) nw, C ++ [nw]), ?_, ?_, (by repeat (first | exact Ks.le_nil _ | refine Ks.le_cons rfl ?_))⟩
      · show way.length - (i + 1) < way.length - i; omega
      · refine ⟨S, by omega, ?_, fun c hc => ?_, ?_, by omega, by simp [sumL]; omega, fun _ => rfl, Nat.zero_le _⟩
        · rw [List.flatten_append, List.append_nil, ← hfl2]; simp
        · rcases List.mem_append.1 hc with r | r
          · exact f3 c r
          · rw [List.mem_singleton.1 r]; exact ⟨hne, by omega⟩
        · rw [cost_app, f4]; simp [cost]
  · obtain rfl : i = way.length := by omega
    obtain rfl := f7 rfl
    rw [List.append_nil, List.take_of_length_le (Nat.le_refl _)] at f2
    have hfin := c4 C f3 (by rw [f2]; simp)
    rw [← f4] at hfin
    all_goals (repeat' (first | (refine K_region (id := 44) ?_; refine mv ?_; refine mv ?_; (refine cT ?_) <;> (refine mv ?_; (skip)))))
    (refine KO_fn rfl rfl rfl rfl rfl ((awake_ok).mono ?_); rintro _ _ ⟨rfl, rfl⟩) <;> (refine vl ?_; refine mv ?_; refine KO_nil ?_)
    all_goals (repeat' (fail))
    refine K_ret ⟨_, rfl, ?_⟩
    rfl
end Go.Proofs.Xx

/-
  What the arguments read as is kept in every world whose old blocks are the same.
-/
namespace Go.Proofs.Xx
set_option linter.unusedSectionVars false
open Go Go.RowKit
set_option linter.unusedSimpArgs false
set_option linter.unusedVariables false

section
variable {H : Type} {enc : TypeId × Value → H} {P : Program} {W W' : World}

theorem mapM_keep {α β : Type} {f g : α → Option β} : ∀ {l : List α} {r : List β}, l.mapM f = some r → (∀ a b, a ∈ l → b ∈ r → f a = some b → g a = some b) → l.mapM g = some r := by
  intro l
  induction l with
  | nil => intro r h _; simpa using h
  | cons a l ih =>
    intro r h hk
    rw [List.mapM_cons] at h ⊢
    cases hf : f a with
    | none => rw [hf] at h; cases h
    | some b =>
      rw [hf] at h
      cases hm : l.mapM f with
      | none => rw [hm] at h; cases h
      | some r' =>
        rw [hm] at h
        simp at h
        subst h
        rw [hk a b (by simp) (by simp) hf, ih hm fun x y hx hy => hk x y (by simp [hx]) (by simp [hy])]
        rfl

theorem cells_keep (hb : ∀ k, k < W.heap.size → W'.heap[k]? = W.heap[k]?) {base n : Nat} {a : Addr} {cs : List Value} (h : W.cells? base a n = some cs) : W'.cells? base a n = some cs := by
  unfold World.cells? at h ⊢
  split at h
  · rename_i hba
    rw [if_pos hba]
    refine mapM_keep h fun i v _ _ hv => ?_
    have hlt : (a.add i).block < W.heap.size := by
      rcases Nat.lt_or_ge (a.add i).block W.heap.size with q | q
      · exact q
      · have : W.cell? (a.add i) = none := by
          unfold World.cell?
          rw [Array.getElem?_eq_none q]
        rw [this] at hv; cases hv
    rw [← hv]
    exact World.cell?_of_block (w := W) (hb _ hlt)
  · cases h

/-! ### arguments of any plain type -/
def tiles (P : Program) : List Field → Nat → Nat → Bool
  | [], at_, n => Nat.beq at_ n
  | f :: r, at_, n => Nat.beq f.offset at_ && tiles P r (at_ + P.cellsOf f.type) n
def plainT (P : Program) : Nat → TypeId → Bool
  | 0, _ => false
  | m + 1, t => match P.underlying t with
    | some .bool | some .string => Nat.beq (P.cellsOf t) 1
    | some (.int _) => Nat.beq (P.cellsOf t) 1
    | some (.slice e) => Nat.beq (P.cellsOf t) 1 && (plainT P m e && !Nat.beq (P.cellsOf e) 0)
    | some (.struct fs) => fs.toList.all (fun f => plainT P m f.type) && tiles P fs.toList 0 (P.cellsOf t)
    | some (.array n e) => plainT P m e && Nat.beq (P.cellsOf t) (n * P.cellsOf e)
    | _ => false


theorem trod_keep (hb : ∀ k, k < W.heap.size → W'.heap[k]? = W.heap[k]?) {base : Nat} {sp : Nat → Bool} {held : Bool} : ∀ (fuel m : Nat) (t : TypeId) (cs : List Value) (x : DataW H × List MemPlace), plainT P m t = true →
    DataW.trod enc P W base (fun _ => true) held fuel t cs = some x → (∀ p ∈ x.2, sp p.block = true) → DataW.trod enc P W' base sp held fuel t cs = some x := by
  intro fuel
  induction fuel with
  | zero => intro m t cs x _ h _; cases h
  | succ fuel ih =>
    intro m t cs x hp h hsp
    cases m with
    | zero => cases hp
    | succ m =>
    unfold plainT at hp
    cases hu : P.underlying t with
    | none => rw [hu] at hp; cases hp
    | some u =>
      rw [hu] at hp
      cases u with
      | bool => obtain ⟨b, rfl, rfl⟩ := DataW.trod_bool hu h; unfold DataW.trod; rw [hu]
      | int k =>
        obtain ⟨b, rfl, rfl, hwf⟩ := DataW.trod_int hu h
        unfold DataW.trod; rw [hu]
        simp [hwf]
      | string =>
        obtain ⟨b, rfl, rfl, hs⟩ := DataW.trod_string hu h
        unfold DataW.trod; rw [hu]
        simp [hs]
      | struct fs =>
        simp only [Bool.and_eq_true, List.all_eq_true] at hp
        unfold DataW.trod at h ⊢
        rw [hu] at h ⊢
        simp only at h ⊢
        split at h
        · rename_i hc
          rw [if_pos hc]
          simp only [Option.map_eq_some_iff] at h ⊢
          obtain ⟨xs, h1, rfl⟩ := h
          refine ⟨xs, mapM_keep h1 fun f y hf hy hq => ih m _ _ _ (hp.1 f hf) hq fun p hp => hsp p ?_, rfl⟩
          simp only [List.mem_flatMap]
          exact ⟨y, hy, hp⟩
        · cases h
      | array n e =>
        simp only [Bool.and_eq_true] at hp
        unfold DataW.trod at h ⊢
        rw [hu] at h ⊢
        simp only at h ⊢
        split at h
        · rename_i hc
          rw [if_pos hc]
          simp only [Option.map_eq_some_iff] at h ⊢
          obtain ⟨xs, h1, rfl⟩ := h
          refine ⟨xs, mapM_keep h1 fun f y hf hy hq => ih m _ _ _ hp.1 hq fun p hp => hsp p ?_, rfl⟩
          simp only [List.mem_flatMap]
          exact ⟨y, hy, hp⟩
        · cases h
      | slice e =>
        simp only [Bool.and_eq_true, Bool.not_eq_true'] at hp
        have hz : P.cellsOf e ≠ 0 := fun q => by have := hp.2.2; rw [q] at this; simp at this
        rcases DataW.trod_slice hu h with ⟨rfl, rfl⟩ | ⟨a, len, cap, -, -, -, -, rfl, -⟩
        · unfold DataW.trod; rw [hu]; rfl
        · unfold DataW.trod at h ⊢
          rw [hu] at h ⊢
          simp only at h ⊢
          split at h
          · rename_i hc
            rw [if_pos hc]
            simp only [if_true, Option.map_eq_some_iff, Option.bind_eq_some_iff] at h ⊢
            obtain ⟨elems, h1, rest, h2, rfl⟩ := h
            have key : ∀ i y, y ∈ elems ++ rest → (W.cells? base (a.add (i * P.cellsOf e)) (P.cellsOf e)).bind (DataW.trod enc P W base (fun _ => true) held fuel e) = some y →
                (W'.cells? base (a.add (i * P.cellsOf e)) (P.cellsOf e)).bind (DataW.trod enc P W' base sp held fuel e) = some y := by
              intro i y hy hq
              rw [Option.bind_eq_some_iff] at hq ⊢
              obtain ⟨cs', q1, q2⟩ := hq
              refine ⟨cs', cells_keep hb q1, ih m _ _ _ hp.2.1 q2 fun p hp => hsp p ?_⟩
              simp only [List.mem_append, List.mem_flatMap]
              exact .inr ⟨y, by simpa using hy, hp⟩
            refine ⟨elems, mapM_keep h1 fun i y _ hy hq => key i y (by simp [hy]) hq, rest, ?_, rfl⟩
            cases hs : sp a.block with
            | true =>
              simp only [if_true]
              exact mapM_keep h2 fun i y _ hy hq => key (len + i) y (by simp [hy]) hq
            | false =>
              simp only [Bool.false_eq_true, if_false]
              cases rest with
              | nil => rfl
              | cons y rest =>
                have hp' : sp a.block = true := by
                  refine hsp (.cell a.block (a.off + 0)) ?_
                  simp only [List.mem_append]
                  refine .inl ?_
                  unfold MemPlace.row
                  rw [List.mem_map]
                  exact ⟨0, List.mem_range.2 (Nat.mul_pos (by simp only [List.length_cons]; omega) (by omega)), rfl⟩
                rw [hs] at hp'; cases hp'
          · cases h
      | _ => cases hp
theorem trodAll_keep (hb : ∀ k, k < W.heap.size → W'.heap[k]? = W.heap[k]?) {base : Nat} {sp : Nat → Bool} {held : Bool} : ∀ (ts : List TypeId) (vs : List Value) (ds : List (DataW H)) (ps : List MemPlace), ts.all (plainT P 20) = true →
    DataW.TrodAll enc P W base (fun _ => true) held ts vs ds ps → (∀ p ∈ ps, sp p.block = true) → DataW.TrodAll enc P W' base sp held ts vs ds ps
  | [], [], [], ps, _, h, _ => h
  | t :: ts, v :: vs, d :: ds, ps, hp, h, hsp => by
    simp only [List.all_cons, Bool.and_eq_true] at hp
    obtain ⟨p, q, ⟨fuel, h1⟩, h2, rfl⟩ := h
    exact ⟨p, q, ⟨fuel, trod_keep hb fuel 20 t _ _ hp.1 h1 fun x hx => hsp x (by simp [hx])⟩, trodAll_keep hb ts vs ds q hp.2 h2 fun x hx => hsp x (by simp [hx]), rfl⟩
  | [], [], _ :: _, _, _, h, _ => h.elim
  | [], _ :: _, _, _, _, h, _ => h.elim
  | _ :: _, [], _, _, _, h, _ => h.elim
  | _ :: _, _ :: _, [], _, _, h, _ => h.elim
end
end Go.Proofs.Xx
