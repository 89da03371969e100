/-
  Waiters and their loads.
-/
import Derived.Test.YticddjokabmfmaaGreatDoorM12
import Derived.Below
import Derived.ChangeSame
import Derived.ChangeArms
import Derived.OpenShut
import Derived.Test.YticddjokabmfmaaGreatDoorM4
import Derived.Test.YticddjokabmfmaaGreatDoorM3
import Derived.WideShapes
import Derived.ChangeShapes
import Derived.Test.YticddjokabmfmaaGreatDoorM5
import Derived.Test.YticddjokabmfmaaGreatDoorM7
import Derived.Test.YticddjokabmfmaaGreatDoorRows
import Derived.Lib.LaidTab
import Derived.Stop.LaidErr
import Derived.Shelf.Vars

namespace Go.Proofs.Xx
open Go Go.Proofs
set_option linter.unusedSimpArgs false
set_option linter.unusedVariables false
set_option linter.unusedSectionVars false
set_option maxRecDepth 100000
set_option maxHeartbeats 4000000

/-- A waiter's tables. -/
structure Row_ where
  sv : SlV
  r : List Int
instance : Inhabited Row_ := ⟨⟨⟨none, 0, 0⟩, []⟩⟩
def eRow (x : Row_) : List Value := [x.sv.val]
abbrev slRow (x : Row_) : Rs := .sl x.sv.val 3 1 eI x.r
/-- The tables of a waiter, the first i tables given. -/
def divL (st best : List Int) (i w : Nat) : List Int := (((st.zip best).take i).filter fun x => decide (x.2 = (w : Int))).map (·.1)
theorem divL_s {st best : List Int} {i w : Nat} (hs : i < st.length) (hb : i < best.length) : divL st best (i + 1) w = if best.getD i default = (w : Int) then divL st best i w ++ [st.getD i default] else divL st best i w := by
  unfold divL
  have hz : i < (st.zip best).length := by rw [List.length_zip]; omega
  rw [List.take_add_one, List.getElem?_eq_getElem hz, List.filter_append, List.map_append]
  have e : (st.zip best)[i] = (st.getD i default, best.getD i default) := by
    rw [List.getElem_zip, List.getD_eq_getElem?_getD, List.getD_eq_getElem?_getD, List.getElem?_eq_getElem hs, List.getElem?_eq_getElem hb]; rfl
  rw [e]
  by_cases q : best.getD i default = (w : Int)
  · rw [if_pos q]
    have : ([(st.getD i default, best.getD i default)].filter fun x => decide (x.2 = (w : Int))) = [(st.getD i default, best.getD i default)] := by simp only [List.filter_cons, decide_eq_true_eq]; rw [if_pos q]; rfl
    simp only [Option.toList_some, this, List.map_cons, List.map_nil]
  · rw [if_neg q]
    have : ([(st.getD i default, best.getD i default)].filter fun x => decide (x.2 = (w : Int))) = [] := by simp only [List.filter_cons, decide_eq_true_eq]; rw [if_neg q]; rfl
    simp only [Option.toList_some, this, List.map_nil, List.append_nil]
/-- The division that the search finds. -/
noncomputable def bestD (p : Pb) (q : List Int) (n : Nat) : BestW := (CanL n (srv (pltV p q)).length 0 []).foldl (updW (Lw n ((srv (pltV p q)).map (ldP (pltV p q))))) ([], -1)
theorem getD_setR {F : List Row_} {i j : Nat} {x : Row_} (hi : i < F.length) : (F.set i x).getD j default = if i = j then x else F.getD j default := by
  rw [List.getD_eq_getElem?_getD, List.getElem?_set]
  by_cases e : i = j
  · subst e; rw [if_pos rfl, if_pos hi, if_pos rfl]; rfl
  · rw [if_neg e, if_neg e, ← List.getD_eq_getElem?_getD]
theorem Hs.owRows {h0 h : AH} {rs : List Rs} (S : Hs h0 h rs) (n : Nat) : Hs h0 h (ownR slRow (List.replicate n ⟨⟨none, 0, 0⟩, []⟩) :: rs) := S.anyS fun h' => by
  induction n with
  | zero => trivial
  | succ n ih => exact ⟨fun _ => False, .inl ⟨rfl, rfl⟩, fun b hb => hb, ih.mono fun b hb => hb.elim⟩
theorem waiters_ok {h0 : AH} (w : WfH h0) (pv : PbV) (p : Pb) (H : PbOk h0 pv p) (vq : Value) (q : List Int) (rq : RdL h0 vq 1 eI q) (hq : q.length ≤ 9223372036854775807) (nI : Int) :
    Fn Tryz.prog Xh 21 [pv.val, vq, .int .i64 nI] h0 (fun u h' => ∃ vo rows k e, u = .tuple #[vo, .int .i64 k, .int .i64 e] ∧ Hs h0 h' [.sl vo 30 1 eRow rows, ownR slRow rows] ∧
      ((¬ (PO p ∧ PartOk p q) ∧ (∃ i, PaC p q false i e) ∧ rows = [] ∧ k = 0) ∨ (PO p ∧ PartOk p q ∧ ((nI < 1 ∧ e = 2 ∧ rows = [] ∧ k = 0) ∨ (1 ≤ nI ∧ (9 < (srv (pltV p q)).length ∨ 9 < nI) ∧ e = 8 ∧ rows = [] ∧ k = 0) ∨
        (∃ n : Nat, nI = n ∧ 1 ≤ n ∧ n ≤ 9 ∧ (srv (pltV p q)).length ≤ 9 ∧ e = 0 ∧ rows.length = n ∧ k = (bestD p q n).2 ∧ ∀ v, v < n → (rows.getD v default).r = divL (srv (pltV p q)) (bestD p q n).1 (srv (pltV p q)).length v))))) := by
  have S := Hs.start w
  have hr := H.tab.rd
  have hl := H.tab.len
  unfold PbV.val
  refine Fn_K (by first | rfl) Tryz.func21 rfl rfl ?_
  all_goals (repeat' (first | refine K_seq ?_ | (refine K_region (id := 0) ?_; (refine bx S ?_; clear S; intro b h S); (refine bx S ?_; clear S; intro b h S); refine mv ?_; refine mv ?_; refine mv ?_; refine KO_nil ?_)))
  rename_i b3 h3
  obtain ⟨b5, hnm⟩ : ∃ x, x = b := ⟨_, rfl⟩; subst hnm
  replace S : Hs h0 h [.blk b5 [.int .i64 nI] 3, .blk b3 pv.cs 33] := S
  all_goals (repeat' (first | (refine K_region (id := 1) ?_; refine lB S rfl rfl ?_; refine mv ?_)))
  (refine KO_fn rfl rfl rfl rfl rfl ((checkPart_ok S.wf pv p (H.ext w S.ext) vq q (rq.ext w S.ext) hq).mono ?_); rintro _ h ⟨i, e, rfl, hk, x⟩) <;> (replace S := S.join0 x; clear x; refine mv ?_; refine vl ?_; refine vl ?_; refine mv ?_; refine mv ?_; refine KO_nil ?_)
  have hpo := hk.part
  have hnil : ∀ {h2 : AH} {rs : List Rs} (S2 : Hs h0 h2 rs), Hs h0 h2 [.sl (.slice none 0 0) 30 1 eRow [], ownR slRow []] := fun S2 => Hs.nilS (Hs.owNil (f := slRow) S2.drop)
  all_goals (repeat' (first | refine K_seq ?_ | refine k_cond rfl ?_ | refine K_skip ?_ | (refine K_region (id := 2) ?_; refine mv ?_; (first | (refine cS ?_ ?_ <;> intro hc)) <;> (refine KO_nil ?_))))
  · all_goals (repeat' (first | (refine K_region (id := 3) ?_; refine mv ?_; refine mv ?_; refine mv ?_; refine mv ?_; refine KO_nil ?_)))
    refine K_ret ⟨_, rfl, ?_⟩
    exact ⟨.slice none 0 0, [], 0, e, rfl, hnil S, .inl ⟨fun k => hc (hpo.2 k), ⟨i, hk⟩, rfl, rfl⟩⟩
  obtain ⟨hp, hpq⟩ := hpo.1 (by omega)
  have hql := hpq.ql hp
  have hqm := hpq.qm hl
  have hsl := srv_len (pl := pltV p q)
  have hpl := pltV_len (p := p) (q := q)
  rw [hpl] at hsl
  have hsr := srv_in (p := p) (q := q)
  have hld := ldP_b (p := p) (q := q)
  (repeat (refine K_seq ?_)); refine K_drawF2 (id := 4) (j1 := 6) (j2 := 7) (rd := [(3, (0, 1)), (6, (0, 2)), (7, (0, 2))]) (fun b1 b2 => [some (b3), some b1, some b2]) S (HintOk.direct) (HintOk.direct) ?_; clear S; intro b1 b2 h S; refine KX_cons ?_; (first | (refine lB S rfl rfl ?_ <;> refine KO_nil ⟨⟨by (first | exact True.intro), rfl⟩, ?_⟩)); refine KX_cons ?_; (first | (refine mv ?_ <;> refine KO_nil ⟨⟨by (first | exact True.intro), rfl⟩, ?_⟩))
  ((refine KX_cons ?_; first | refine KO_fn rfl rfl rfl rfl rfl ((sserved_ok S.wf pv p (H.ext w S.ext) vq q (rq.ext w S.ext) (by omega) hqm).mono ?_)); rintro vst h x) <;> ((refine KO_nil ⟨⟨True.intro, ?_⟩, ?_⟩; (focus ((show keepsX _ _ _ _ _; simp only [keepsX]; (repeat' (first | exact True.intro | refine And.intro ?_ ?_)); all_goals (intro hw; first | exact x.ext.old _ S.bB))))); replace S := S.join1 x; clear x; obtain ⟨ss, rfl⟩ := S.sV vst; refine KX_cons ?_; (first | (refine lB S rfl rfl ?_ <;> refine KO_nil ⟨⟨by (first | exact Or.inr rfl), rfl⟩, ?_⟩)); refine KX_cons ?_; (first | (refine mv ?_ <;> refine KO_nil ⟨⟨by (first | exact True.intro), rfl⟩, ?_⟩)))
  ((refine KX_cons ?_; first | refine KO_fn rfl rfl rfl rfl rfl ((splates_ok S.wf pv p (H.ext w S.ext) vq q (rq.ext w S.ext) (by omega) hqm).mono ?_)); rintro vp h x) <;> ((refine KO_nil ⟨⟨True.intro, ?_⟩, ?_⟩; (focus ((show keepsX _ _ _ _ _; simp only [keepsX]; (repeat' (first | exact True.intro | refine And.intro ?_ ?_)); all_goals (intro hw; first | exact absurd hw (by decide +kernel) | exact x.ext.old _ S.bB))))); replace S := S.join1 x; clear x; obtain ⟨sp, rfl⟩ := S.sV vp; refine fl S rfl rfl S.gB ?_; refine fl S rfl rfl S.gB ?_; refine KX_cons ?_; (first | ((refine sB S rfl rfl ?_; have S0 := S; clear S; intro h S); refine KO_nil ⟨⟨True.intro, ?_⟩, ?_⟩; (focus ((show keepsX _ _ _ _ _; simp only [keepsX]; (repeat' (first | exact True.intro | refine And.intro ?_ ?_)); all_goals (intro hw; first | exact absurd hw (by decide +kernel))))); clear S0)); refine KX_cons ?_; (first | ((refine sB S rfl rfl ?_; have S0 := S; clear S; intro h S); refine KO_nil ⟨⟨True.intro, ?_⟩, ?_⟩; (focus ((show keepsX _ _ _ _ _; simp only [keepsX]; (repeat' (first | exact True.intro | refine And.intro ?_ ?_)); all_goals (intro hw; first | exact absurd hw (by decide +kernel))))); clear S0)); refine KX_nil ?_)
  obtain ⟨stops, hst⟩ : ∃ stops, srv (pltV p q) = stops := ⟨_, rfl⟩
  obtain ⟨pl, hpe⟩ : ∃ pl, pltV p q = pl := ⟨_, rfl⟩
  have hbd : ∀ n, bestD p q n = (CanL n stops.length 0 []).foldl (updW (Lw n (stops.map (ldP pl)))) ([], -1) := fun n => by unfold bestD; rw [hst, hpe]
  rw [hst, hpe] at S
  rw [hst] at hsl hsr ⊢
  rw [hpe] at hpl hld
  have hld2 : ∀ t, 0 ≤ ldP pl t ∧ ldP pl t ≤ 1000 := fun t => by have := hld t; omega
  have hsr2 : ∀ t ∈ stops, 0 ≤ t ∧ t < pl.length := fun t ht => by rw [hpl]; exact hsr t ht
  replace S : Hs h0 h [.sl sp.val 3 1 eI pl, .sl ss.val 3 1 eI stops, .blk b2 [sp.val] 30, .blk b1 [ss.val] 30, .blk b5 [.int .i64 nI] 3, .blk b3 pv.cs 33] := S
  all_goals (repeat' (first | refine K_seq ?_ | refine k_cond rfl ?_ | refine k_block ?_ | (refine K_region (id := 5) ?_; refine lB S rfl rfl ?_; (first | (refine cS ?_ ?_ <;> intro hc)) <;> (refine mv ?_; refine KO_nil ?_))))
  · all_goals (repeat' (first | (refine K_region (id := 6) ?_; refine mv ?_; refine mv ?_; refine mv ?_; refine KO_nil ?_)))
    refine K_ret ⟨_, rfl, ?_⟩
    exact ⟨.slice none 0 0, [], 0, 2, rfl, hnil S, .inr ⟨hp, hpq, .inl ⟨by omega, rfl, rfl, rfl⟩⟩⟩
  all_goals (repeat' (first | refine K_seq ?_ | refine k_cond rfl ?_ | refine K_skip ?_ | (refine K_region (id := 7) ?_; refine lB S rfl rfl ?_; refine lnS S rfl rfl ?_; (first | (refine cS ?_ ?_ <;> intro hc)) <;> (refine mv ?_; (first | refine off ?_ | (refine lB S rfl rfl ?_)); (first | refine off ?_ | (first | (refine cS ?_ ?_ <;> intro hc))) <;> (refine vl ?_; refine mv ?_; refine KO_nil ?_)))))
  · all_goals (repeat' (first | (refine K_region (id := 8) ?_; refine mv ?_; refine mv ?_; refine mv ?_; refine KO_nil ?_)))
    refine K_ret ⟨_, rfl, ?_⟩
    exact ⟨.slice none 0 0, [], 0, 8, rfl, hnil S, .inr ⟨hp, hpq, .inr (.inl ⟨by omega, by omega, rfl, rfl, rfl⟩)⟩⟩
  · all_goals (repeat' (first | (refine K_region (id := 8) ?_; refine mv ?_; refine mv ?_; refine mv ?_; refine KO_nil ?_)))
    refine K_ret ⟨_, rfl, ?_⟩
    exact ⟨.slice none 0 0, [], 0, 8, rfl, hnil S, .inr ⟨hp, hpq, .inr (.inl ⟨by omega, by omega, rfl, rfl, rfl⟩)⟩⟩
  obtain ⟨n, rfl⟩ := Int.eq_ofNat_of_zero_le (show 0 ≤ nI by omega)
  all_goals (repeat' (first | (refine K_region (id := 9) ?_; refine lB S rfl rfl ?_)))
  refine m_make (z := 1) (by_ := 8) (enc := eI) (y0 := 0) S rfl rfl rfl rfl rfl rfl rfl rfl rfl (by intro _; rfl) (by first | omega) rfl rfl ?_; clear S; intro v h S; obtain ⟨sC, rfl⟩ := S.sV v; (refine al S ?_; clear S; intro b h S); (first | (refine sB S rfl rfl ?_; clear S; intro h S)); refine KO_nil ?_
  simp only [Int.toNat_natCast] at S
  obtain ⟨b13, hnm⟩ : ∃ x, x = b := ⟨_, rfl⟩; subst hnm
  all_goals (repeat' (first | refine K_seq ?_ | (refine K_region (id := 10) ?_; (refine al S ?_; clear S; intro b h S); (refine al S ?_; clear S; intro b h S); refine KO_nil ?_)))
  rename_i b14 h14
  obtain ⟨b15, hnm⟩ : ∃ x, x = b := ⟨_, rfl⟩; subst hnm
  all_goals (repeat' (first | refine K_seq ?_ | (refine K_region (id := 11) ?_; (refine al S ?_; clear S; intro b h S); (first | (refine sB S rfl rfl ?_; clear S; intro h S)); refine KO_nil ?_)))
  obtain ⟨b16, hnm⟩ : ∃ x, x = b := ⟨_, rfl⟩; subst hnm
  all_goals (repeat' (first | refine K_seq ?_ | (refine K_region (id := 12) ?_; (refine al S ?_; clear S; intro b h S); refine KO_nil ?_)))
  obtain ⟨b17, hnm⟩ : ∃ x, x = b := ⟨_, rfl⟩; subst hnm
  all_goals (repeat' (first | refine K_seq ?_ | (refine K_region (id := 13) ?_; refine vl ?_; (first | (refine sB S rfl rfl ?_; clear S; intro h S)); refine KO_nil ?_)))
  have S := S.nilS (e := 3) (z := 1) (enc := eI)
  have S := S.nilS (e := 3) (z := 1) (enc := eI)
  replace S : Hs h0 h [.sl (.slice none 0 0) 3 1 eI [], .sl (.slice none 0 0) 3 1 eI [], .blk b17 [cvF b13 b16 b1 b14 b15 b5 b2 b17] 94, .blk b16 [.int .i64 (-1)] 3, .blk b15 [.slice none 0 0] 30, .blk b14 [.slice none 0 0] 30, .blk b13 [sC.val] 30, .sl sC.val 3 1 eI (List.replicate n 0), .sl sp.val 3 1 eI pl, .sl ss.val 3 1 eI stops, .blk b2 [sp.val] 30, .blk b1 [ss.val] 30, .blk b5 [.int .i64 n] 3, .blk b3 pv.cs 33] := S
  have S := (show Hs h0 h (wtR b13 b16 b1 b14 b15 b5 b2 b17 ss.val sp.val sC.val stops pl n (.slice none 0 0) (.slice none 0 0) [] [] (-1) (List.replicate n 0)) from S.pick)
  dsimp only [wtR] at S
  all_goals (repeat' (first | (refine K_region (id := 14) ?_; refine lB S rfl rfl ?_)))
  have R := waiters1_ok (n := n) (by omega) (by omega) hsr2 hld2 stops.length (who := []) (best := []) (ca := List.replicate n 0) (least := -1) 0 (by simp) (by omega) (by simp) (fun v hv => by rw [lds_nil, List.getD_eq_getElem?_getD, List.getElem?_replicate, if_pos hv]; rfl) (by omega) S
  (refine KO_call rfl rfl rfl rfl ((R).mono ?_); rintro _ h ⟨vw2, vb2, S⟩) <;> (refine KO_nil ?_)
  rw [← hbd n] at S
  obtain ⟨c1, c2, c3, -⟩ := can_best (n := n) (by omega) (qs := stops.map (ldP pl)) (fun x hx => by
    obtain ⟨t, -, rfl⟩ := List.mem_map.1 hx
    exact (hld2 t).1)
  rw [List.length_map, ← hbd n] at c1 c2 c3
  have hBb : 0 ≤ (bestD p q n).2 := by rw [c3]; exact Lw_nn
  generalize hB : bestD p q n = B at S c1 c2 c3 hBb
  dsimp only [wtR] at S
  obtain ⟨sb_, rfl⟩ := S.sV vb2
  all_goals (repeat' (first | refine K_seq ?_ | (refine K_region (id := 15) ?_; refine lB S rfl rfl ?_)))
  refine m_make (z := 1) (by_ := 24) (enc := eRow) (y0 := ⟨⟨none, 0, 0⟩, []⟩) S rfl rfl rfl rfl rfl rfl rfl rfl rfl (by intro _; rfl) (by first | omega) rfl rfl ?_; clear S; intro v h S; obtain ⟨so, rfl⟩ := S.sV v; (refine mv ?_; refine KO_nil ?_)
  simp only [Int.toNat_natCast] at S
  have S := S.owRows n
  replace S : Hs h0 h [ownR slRow (List.replicate n ⟨⟨none, 0, 0⟩, []⟩), .sl so.val 30 1 eRow (List.replicate n ⟨⟨none, 0, 0⟩, []⟩), .sl vw2 3 1 eI [], .sl sC.val 3 1 eI (List.replicate n 0), .sl sb_.val 3 1 eI B.1, .blk b16 [.int .i64 B.2] 3, .blk b14 [vw2] 30, .blk b15 [sb_.val] 30, .blk b13 [sC.val] 30, .sl ss.val 3 1 eI stops, .blk b1 [ss.val] 30, .sl sp.val 3 1 eI pl, .blk b2 [sp.val] 30, .blk b5 [.int .i64 n] 3, .blk b17 [cvF b13 b16 b1 b14 b15 b5 b2 b17] 94] := S
  have S := (show Hs h0 h [.sl so.val 30 1 eRow (List.replicate n ⟨⟨none, 0, 0⟩, []⟩), ownR slRow (List.replicate n ⟨⟨none, 0, 0⟩, []⟩), .sl sb_.val 3 1 eI B.1, .blk b16 [.int .i64 B.2] 3, .blk b15 [sb_.val] 30, .sl ss.val 3 1 eI stops, .blk b1 [ss.val] 30] from S.pick)
  skip
  all_goals (repeat' (first | refine K_seq ?_ | refine k_block ?_ | (refine K_region (id := 16) ?_; refine lB S rfl rfl ?_; refine lnS S rfl rfl ?_; refine mv ?_; refine KO_nil ?_)))
  refine k_loop (σ := Nat × List Row_) (fun (i, rows) h' => Hs h0 h' [.sl so.val 30 1 eRow rows, ownR slRow rows, .sl sb_.val 3 1 eI B.1, .blk b16 [.int .i64 B.2] 3, .blk b15 [sb_.val] 30, .sl ss.val 3 1 eI stops, .blk b1 [ss.val] 30] ∧ i ≤ B.1.length ∧ rows.length = n ∧ (∀ v, v < n → (rows.getD v default).r = divL stops B.1 i v)) (fun (i, rows) => B.1.length - i) (fun (i, rows) => [(11, .pointer (some ⟨b1, 0, none⟩)), (16, .pointer (some ⟨b16, 0, none⟩)), (18, so.val), (54, sb_.val), (55, .int .i64 B.1.length), (56, .int .i64 i)]) (0, List.replicate n ⟨⟨none, 0, 0⟩, []⟩) (by repeat (first | exact Ks.le_nil _ | refine Ks.le_cons rfl ?_)) ?_ ?_
  · refine ⟨S, Nat.zero_le _, by simp, fun v hv => ?_⟩
    rw [List.getD_eq_getElem?_getD, List.getElem?_replicate, if_pos hv]
    simp [divL]
  clear S
  rintro ⟨i, rows⟩ h ⟨S, g1, g2, g3⟩
  all_goals (repeat' (first | refine K_seq ?_ | refine k_cond rfl ?_ | refine K_skip ?_ | refine K_exit ?_ | refine k_block ?_ | (refine K_region (id := 17) ?_; (first | (refine cS ?_ ?_ <;> intro hc)) <;> (refine KO_nil ?_)) | (refine K_region (id := 18) ?_; refine mv ?_; refine ixS2 S rfl rfl ?_; refine lES2 S rfl rfl ?_; refine mv ?_; refine mv ?_; refine KO_nil ?_)))
  · have hi : i < B.1.length := by omega
    have his : i < stops.length := by omega
    have hwb := c2 _ (mem_getD hi)
    obtain ⟨w0, hw0⟩ := Int.eq_ofNat_of_zero_le hwb.1
    have hw1 : B.1.getD (i : Int).toNat default = (w0 : Int) := hw0
    have hwn : w0 < n := by omega
    rw [hw1]
    obtain ⟨x0, hx0⟩ : ∃ x, rows.getD w0 default = x := ⟨_, rfl⟩
    have hx0' : rows.getD (w0 : Int).toNat default = x0 := hx0
    have hr0 := g3 w0 hwn
    rw [hx0] at hr0
    have hrl : x0.r.length ≤ 9 := by
      rw [hr0]; unfold divL
      rw [List.length_map]
      refine Nat.le_trans (List.length_filter_le _ _) ?_
      rw [List.length_take]; omega
    have hrn : 0 < rows.length := by omega
    (repeat (refine K_seq ?_)); refine K_drawX (id := 19) [(5, (0, 1))] [some (blkS so.val)] ?_; refine KX_cons ?_; (first | (refine mv ?_ <;> refine KO_nil ⟨⟨by (first | exact True.intro), rfl⟩, ?_⟩)); refine KX_cons ?_; (first | (refine mv ?_ <;> refine KO_nil ⟨⟨by (first | exact True.intro), rfl⟩, ?_⟩)); refine KX_cons ?_; (first | (refine mv ?_ <;> refine KO_nil ⟨⟨by (first | exact True.intro), rfl⟩, ?_⟩)); refine KX_cons ?_; (first | (refine mv ?_ <;> refine KO_nil ⟨⟨by (first | exact True.intro), rfl⟩, ?_⟩)); refine KX_cons ?_; (first | (refine ixS2 S rfl rfl ?_ <;> refine KO_nil ⟨⟨by (first | exact True.intro), rfl⟩, ?_⟩)); refine KX_cons ?_; (first | (refine lES2 S rfl rfl ?_ <;> refine KO_nil ⟨⟨by (first | exact Or.inr (congrArg some (blkOf_elA _ _ _ _))), rfl⟩, ?_⟩)); refine KX_cons ?_; (first | (refine lB S rfl rfl ?_ <;> refine KO_nil ⟨⟨by (first | exact True.intro), rfl⟩, ?_⟩)); refine KX_cons ?_; (first | (refine mv ?_ <;> refine KO_nil ⟨⟨by (first | exact True.intro), rfl⟩, ?_⟩)); refine KX_cons ?_; (first | (refine ixS2 S rfl rfl ?_ <;> refine KO_nil ⟨⟨by (first | exact True.intro), rfl⟩, ?_⟩)); refine KX_cons ?_; (first | (refine lES2 S rfl rfl ?_ <;> refine KO_nil ⟨⟨by (first | exact True.intro), rfl⟩, ?_⟩))
    rw [hx0']
    obtain ⟨t, ht⟩ : ∃ t, stops.getD (i : Int).toNat default = t := ⟨_, rfl⟩
    rw [ht]
    refine KX_cons ?_; refine one 1 (Hs.start S.wf) ?_; intro u h2 x; refine KO_nil ⟨⟨True.intro, ?_⟩, ?_⟩; (focus ((show keepsX _ _ _ _ _; simp only [keepsX]; (repeat' (first | exact True.intro | refine And.intro ?_ ?_)); all_goals (intro hw; first | exact x.ext.old _ (S.bR (by first | omega)))))); replace S := S.join1 x; clear x
    replace S : Hs h0 h2 [.sl u 3 1 eRaw [[.int .i64 t]], .sl so.val 30 1 eRow rows, ownR slRow rows, .sl sb_.val 3 1 eI B.1, .blk b16 [.int .i64 B.2] 3, .blk b15 [sb_.val] 30, .sl ss.val 3 1 eI stops, .blk b1 [ss.val] 30] := S
    have S := (show Hs h0 h2 [ownR slRow rows, .sl so.val 30 1 eRow rows, .sl u 3 1 eRaw [[.int .i64 t]], .sl sb_.val 3 1 eI B.1, .blk b16 [.int .i64 B.2] 3, .blk b15 [sb_.val] 30, .sl ss.val 3 1 eI stops, .blk b1 [ss.val] 30] from S.pick)
    have S := S.owOpen (f := slRow) (i := w0) (by omega)
    rw [hx0] at S
    have S := (show Hs h0 h2 [.sl u 3 1 eRaw [[.int .i64 t]], slRow x0, ownR slRow (rows.take w0 ++ rows.drop (w0 + 1)), .sl so.val 30 1 eRow rows, .sl sb_.val 3 1 eI B.1, .blk b16 [.int .i64 B.2] 3, .blk b15 [sb_.val] 30, .sl ss.val 3 1 eI stops, .blk b1 [ss.val] 30] from S.pick)
    refine KX_cons ?_; refine app (y0 := t) S rfl rfl ?_; have S0 := S; clear S; intro v1 h S; refine KO_nil ⟨⟨True.intro, ?_⟩, ?_⟩; (focus ((show keepsX _ _ _ _ _; simp only [keepsX]; (repeat' (first | exact True.intro | refine And.intro ?_ ?_)); all_goals (intro hw; first | exact absurd hw (by decide +kernel))))); clear S0
    obtain ⟨s1, rfl⟩ := S.sV v1
    replace S : Hs h0 h [.sl s1.val 3 1 eI (x0.r ++ [t]), ownR slRow (rows.take w0 ++ rows.drop (w0 + 1)), .sl so.val 30 1 eRow rows, .sl sb_.val 3 1 eI B.1, .blk b16 [.int .i64 B.2] 3, .blk b15 [sb_.val] 30, .sl ss.val 3 1 eI stops, .blk b1 [ss.val] 30] := S
    refine KX_cons ?_; refine ixS2 S rfl rfl ?_; refine KO_nil ⟨⟨by (first | exact True.intro), rfl⟩, ?_⟩
    refine KX_cons ?_; refine sE2 (y := (⟨s1, x0.r ++ [t]⟩ : Row_)) S rfl rfl ?_; have S0 := S; clear S; intro h S; refine KO_nil ⟨⟨True.intro, ?_⟩, ?_⟩; (focus ((show keepsX _ _ _ _ _; simp only [keepsX]; (repeat' (first | exact True.intro | refine And.intro ?_ ?_)); all_goals (intro hw; first | exact absurd hw (by decide +kernel))))); clear S0
    (refine KX_nil ?_)
    replace S : Hs h0 h [slRow ⟨s1, x0.r ++ [t]⟩, ownR slRow (rows.take w0 ++ rows.drop (w0 + 1)), .sl so.val 30 1 eRow (rows.set w0 ⟨s1, x0.r ++ [t]⟩), .sl sb_.val 3 1 eI B.1, .blk b16 [.int .i64 B.2] 3, .blk b15 [sb_.val] 30, .sl ss.val 3 1 eI stops, .blk b1 [ss.val] 30] := S
    have S := S.owShut (i := w0) (by omega)
    all_goals (repeat' (first | (refine K_region (id := 20) ?_; refine ad ?_; refine mv ?_; refine KO_nil ?_)))
    refine ⟨(i + 1, rows.set w0 ⟨s1, x0.r ++ [t]⟩), ?_, ?_, (by repeat (first | exact Ks.le_nil _ | refine Ks.le_cons rfl ?_))⟩
    · show B.1.length - (i + 1) < B.1.length - i; omega
    · refine ⟨S.pick, by omega, by rw [List.length_set]; exact g2, fun v hv => ?_⟩
      rw [getD_setR (by omega), divL_s his hi, hw0]
      by_cases e : w0 = v
      · subst e
        rw [if_pos rfl, if_pos rfl, ← hr0]
        have : stops.getD i default = t := ht
        rw [this]
      · rw [if_neg e, if_neg (by omega)]
        exact g3 v hv
  · obtain rfl : i = B.1.length := by omega
    all_goals (repeat' (first | (refine K_draw (id := 21) ?_; refine mv ?_; refine lB S rfl rfl ?_; refine mv ?_; refine mv ?_; refine mv ?_; refine KO_nil ?_)))
    refine K_ret ⟨_, rfl, ?_⟩
    exact ⟨so.val, rows, B.2, 0, rfl, S.pick, .inr ⟨hp, hpq, .inr (.inr ⟨n, rfl, by omega, by omega, by omega, rfl, g2, by rw [hB], fun v hv => by rw [g3 v hv, hB, c1]⟩)⟩⟩
end Go.Proofs.Xx

/-
  Divisions: what their loads are; the number that no division is below.
-/
namespace Go.Proofs.Xx
open Go Go.Proofs
set_option linter.unusedSimpArgs false
set_option linter.unusedVariables false
set_option linter.unusedSectionVars false
set_option maxRecDepth 100000
set_option maxHeartbeats 4000000

theorem take_getD {l : List Int} {i : Nat} (hi : i < l.length) : l.take (i + 1) = l.take i ++ [l.getD i default] := by
  rw [List.take_add_one, List.getElem?_eq_getElem hi, List.getD_eq_getElem?_getD, List.getElem?_eq_getElem hi]
  rfl
theorem divL_load {ld : Int → Int} {st B : List Int} {n : Nat} (hl : B.length = st.length) (hB : ∀ x ∈ B, 0 ≤ x ∧ x < (n : Int)) (v : Nat) : ∀ i, i ≤ st.length → sumL ld (divL st B i v) = lds (st.map ld) (B.take i) v
  | 0, _ => by rw [List.take_zero, lds_nil]; simp [divL, sumL]
  | i + 1, h => by
    have ih := divL_load (ld := ld) hl hB v i (by omega)
    obtain ⟨w0, hw⟩ := Int.eq_ofNat_of_zero_le (hB _ (mem_getD (show i < B.length by omega))).1
    rw [divL_s (by omega) (by omega), take_getD (show i < B.length by omega), hw]
    have hbl : (B.take i).length = i := by rw [List.length_take]; omega
    have := lds_app (qs := st.map ld) (c := B.take i) (w := w0) (by rw [hbl, List.length_map]; omega)
    rw [this, hbl]
    dsimp only
    have hq : (st.map ld).getD i default = ld (st.getD i default) := by
      rw [List.getD_eq_getElem?_getD, List.getElem?_map, List.getD_eq_getElem?_getD, List.getElem?_eq_getElem (by omega)]; rfl
    rw [hq]
    by_cases e : v = w0
    · subst e
      rw [if_pos rfl, if_pos rfl, sumL_app, ih]; simp [sumL]
    · rw [if_neg e, if_neg (fun q => e (by omega)), ih]
theorem divL_sub {st B : List Int} {i v : Nat} (hl : B.length = st.length) : (divL st B i v).Sublist st := by
  unfold divL
  have h1 : ((st.zip B).map (·.1)) = st := List.map_fst_zip (by omega)
  have h2 : ((((st.zip B).take i).filter fun x => decide (x.2 = (v : Int))).map (·.1)).Sublist ((st.zip B).map (·.1)) := (List.filter_sublist.trans (List.take_sublist ..)).map _
  rw [h1] at h2
  exact h2
/-- The tables of the first n waiters. -/
def catD (st B : List Int) (i : Nat) : Nat → List Int
  | 0 => []
  | n + 1 => catD st B i n ++ divL st B i n
theorem catD_congr {st B : List Int} {i j : Nat} : ∀ {n : Nat}, (∀ v, v < n → divL st B i v = divL st B j v) → catD st B i n = catD st B j n
  | 0, _ => rfl
  | n + 1, h => by rw [catD, catD, catD_congr fun v hv => h v (by omega), h n (by omega)]
theorem catD_s {st B : List Int} {i w0 : Nat} (hs : i < st.length) (hb : i < B.length) (hw : B.getD i default = (w0 : Int)) : ∀ {n : Nat}, w0 < n → (catD st B (i + 1) n).Perm (catD st B i n ++ [st.getD i default])
  | 0, h => by omega
  | n + 1, h => by
    rw [catD, catD]
    by_cases e : w0 = n
    · subst e
      rw [catD_congr (i := i + 1) (j := i) fun v hv => by rw [divL_s hs hb, hw, if_neg (by omega)]]
      rw [divL_s hs hb, hw, if_pos rfl, List.append_assoc]
    · rw [divL_s (w := n) hs hb, hw, if_neg (by omega)]
      have ih := catD_s hs hb hw (n := n) (by omega)
      refine (List.Perm.append_right _ ih).trans ?_
      rw [List.append_assoc, List.append_assoc]
      exact List.Perm.append_left _ List.perm_append_comm
theorem catD_perm {st B : List Int} {n : Nat} (hl : B.length = st.length) (hB : ∀ x ∈ B, 0 ≤ x ∧ x < (n : Int)) : ∀ i, i ≤ st.length → (catD st B i n).Perm (st.take i)
  | 0, _ => by
    have : ∀ n, catD st B 0 n = [] := fun n => by
      induction n with
      | zero => rfl
      | succ n ih => rw [catD, ih]; simp [divL]
    rw [this, List.take_zero]
  | i + 1, h => by
    have hb := hB _ (mem_getD (show i < B.length by omega))
    obtain ⟨w0, hw⟩ := Int.eq_ofNat_of_zero_le hb.1
    rw [take_getD (show i < st.length by omega)]
    exact (catD_s (by omega) (by omega) hw (by omega)).trans (List.Perm.append_right _ (catD_perm hl hB i (by omega)))
theorem sumL_map {ld : Int → Int} : ∀ (l : List Int), sumL ld l = (l.map ld).sum
  | [] => rfl
  | t :: l => by rw [sumL, List.map_cons, List.sum_cons, sumL_map l]
/-- The number that the greatest load of n waiters is never below. -/
def ldN (pl : List Int) (n : Int) : Int := max (mxF (fun i => pl.getD i default) pl.length) (pl.sum / n + min 1 (pl.sum % n))
theorem ldN_le {p : Pb} {q : List Int} {n : Nat} (hn : 1 ≤ n) {B : List Int} {M : Int} (hl : B.length = (srv (pltV p q)).length) (hB : ∀ x ∈ B, 0 ≤ x ∧ x < (n : Int)) (hM : M = Lw n ((srv (pltV p q)).map (ldP (pltV p q))) B) : ldN (pltV p q) n ≤ M := by
  have hld := ldP_b (p := p) (q := q)
  have hpn : ∀ i, 0 ≤ (pltV p q).getD i default := fun i => pltV_nn.1
  generalize pltV p q = pl at *
  have hq0 : ∀ x ∈ (srv pl).map (ldP pl), 0 ≤ x := fun x hx => by
    obtain ⟨t, -, rfl⟩ := List.mem_map.1 hx
    exact (hld t).1
  have hM0 : 0 ≤ M := by rw [hM]; exact Lw_nn
  have hgl : (B.map Int.toNat).length = ((srv pl).map (ldP pl)).length := by rw [List.length_map, List.length_map, hl]
  have hgw : ∀ w ∈ B.map Int.toNat, w < n := fun w hw => by
    obtain ⟨x, hx, rfl⟩ := List.mem_map.1 hw
    have := hB x hx
    omega
  have hle : ∀ v, v < n → finW (fun _ => 0) ((srv pl).map (ldP pl)) (B.map Int.toNat) v ≤ M := fun v hv => by
    rw [hM]; exact mxF_ge hv
  have hsum : pl.sum = ((srv pl).map (ldP pl)).sum := by
    rw [← sumL_map]
    unfold srv
    rw [srvN_sum hpn _ (Nat.le_refl _), List.take_of_length_le (Nat.le_refl _)]
  have hall := fin_all (n := n) ((srv pl).map (ldP pl)) (B.map Int.toNat) (fun _ => 0) hgl hgw
  have hz : allW (fun _ => 0) n = 0 := by
    clear hall hle hgw hM hB hn
    induction n with
    | zero => rfl
    | succ n ih => rw [allW, ih]; rfl
  rw [hz, Int.zero_add, ← hsum] at hall
  have h1 := allC_le (n := n) hle
  rw [hall] at h1
  have hs0 : 0 ≤ pl.sum := by
    rw [hsum, ← sumL_map]
    exact sumL_nn fun t _ => (hld t).1
  have h2 := ceilW_le (a := pl.sum) (M := M) (n := (n : Int)) (by omega) h1 hs0
  have h3 : mxF (fun i => pl.getD i default) pl.length ≤ M := mxF_le hM0 fun v hv => by
    by_cases e : 0 < pl.getD v default
    · have hm : (v : Int) ∈ srv pl := srv_mem.2 ⟨v, hv, rfl, e⟩
      obtain ⟨w, hw, h4⟩ := fin_one ((srv pl).map (ldP pl)) (B.map Int.toNat) (fun _ => 0) hq0 (fun _ => Int.le_refl _) hgl (ldP pl (v : Int)) (List.mem_map.2 ⟨_, hm, rfl⟩)
      exact Int.le_trans h4 (hle w (hgw w hw))
    · omega
  unfold ldN
  omega
theorem load_okW {h0 : AH} (w : WfH h0) (pv : PbV) (p : Pb) (H : PbOk h0 pv p) (hP : PO p) (vq : Value) (q : List Int) (rq : RdL h0 vq 1 eI q) (hQ : PartOk p q) (n : Int) (hn : 1 ≤ n) :
    Fn Tryz.prog Xh 25 [pv.val, vq, .int .i64 n] h0 (fun u h' => u = .int .i64 (ldN (pltV p q) n) ∧ Hs h0 h' []) := by
  have S := Hs.start w
  have hql := hQ.ql hP
  have hqm := hQ.qm H.tab.len
  have hl := H.tab.len
  have hld := ldP_b (p := p) (q := q)
  unfold PbV.val
  refine Fn_K (by first | rfl) Tryz.func25 rfl rfl ?_
  all_goals (repeat' (first | refine K_seq ?_ | (refine K_region (id := 0) ?_; (refine bx S ?_; clear S; intro b h S); refine mv ?_; refine KO_nil ?_)))
  obtain ⟨b3, hnm⟩ : ∃ x, x = b := ⟨_, rfl⟩; subst hnm
  all_goals (repeat' (first | (refine K_region (id := 1) ?_; refine mv ?_; (refine cF ?_) <;> (refine mv ?_; (first | (refine lB S rfl rfl ?_)); refine mv ?_; (skip)))))
  (refine KO_fn rfl rfl rfl rfl rfl ((svalid_ok S.wf pv p (H.ext w S.ext) vq q (rq.ext w S.ext) (by omega)).mono ?_); rintro _ h ⟨⟨rfl, hv⟩ | ⟨rfl, hv⟩, x⟩) <;> (replace S := S.join0 x; clear x; refine vl ?_; refine vl ?_; refine KO_nil ?_)
  rotate_left
  · exact absurd ⟨hP, hQ⟩ hv
  all_goals (repeat' (first | refine K_seq ?_ | refine k_cond rfl ?_ | refine K_skip ?_ | (refine K_region (id := 3) ?_; refine mv ?_; refine mv ?_; refine KO_nil ?_) | (refine K_region (id := 4) ?_; refine lB S rfl rfl ?_; refine mv ?_)))
  (refine KO_fn rfl rfl rfl rfl rfl ((splates_ok S.wf pv p (H.ext w S.ext) vq q (rq.ext w S.ext) (by omega) hqm).mono ?_); rintro vp h x) <;> (replace S := S.join1 x; clear x; refine lnS S rfl rfl ?_; refine mv ?_; refine KO_nil ?_)
  all_goals (repeat' (refine k_block ?_))
  have hpl := pltV_len (p := p) (q := q)
  obtain ⟨pl, hpe⟩ : ∃ pl, pltV p q = pl := ⟨_, rfl⟩
  rw [hpe] at S hpl hld ⊢
  refine k_loop (σ := Nat) (fun i h' => Hs h0 h' [.sl vp 3 1 eI pl] ∧ i ≤ pl.length ∧ (0 ≤ (pl.take i).sum ∧ (pl.take i).sum ≤ 1000 * i) ∧ (0 ≤ mxF (fun i => pl.getD i default) i ∧ mxF (fun i => pl.getD i default) i ≤ 1000)) (fun i => pl.length - i) (fun i => [(2, .int .i64 n), (7, .int .i64 (pl.take i).sum), (8, .int .i64 (mxF (fun i => pl.getD i default) i)), (21, vp), (22, .int .i64 pl.length), (23, .int .i64 i)]) 0 (by repeat (first | exact Ks.le_nil _ | refine Ks.le_cons rfl ?_)) ?_ ?_
  · exact ⟨S.pick, Nat.zero_le _, by simp, by simp [mxF]⟩
  clear S
  rintro i h ⟨S, g1, g2, g3⟩
  all_goals (repeat' (first | refine K_seq ?_ | refine k_cond rfl ?_ | refine K_skip ?_ | refine K_exit ?_ | refine k_block ?_ | (refine K_region (id := 5) ?_; (first | (refine cS ?_ ?_ <;> intro hc)) <;> (refine KO_nil ?_)) | (refine K_region (id := 6) ?_; refine ixS2 S rfl rfl ?_; refine lES2 S rfl rfl ?_; refine mv ?_; refine KO_nil ?_)))
  · have hi : i < pl.length := by omega
    have e2 : (pl.take (i + 1)).sum = (pl.take i).sum + pl.getD (i : Int).toNat default := by rw [take_getD hi]; simp
    have e3_ : mxF (fun i => pl.getD i default) (i + 1) = max (mxF (fun i => pl.getD i default) i) (pl.getD (i : Int).toNat default) := rfl
    have h0 : 0 ≤ pl.getD (i : Int).toNat default ∧ pl.getD (i : Int).toNat default ≤ q.length := hld i
    all_goals (repeat' (first | (refine K_region (id := 7) ?_; refine mv ?_; refine mv ?_; refine ad ?_; refine mv ?_; refine KO_nil ?_) | (refine K_region (id := 8) ?_; refine mv ?_; refine mv ?_; refine mx ?_; refine mv ?_; refine KO_nil ?_) | (refine K_region (id := 9) ?_; refine ad ?_; refine mv ?_; refine KO_nil ?_)))
    rw [← e2, ← e3_]
    refine ⟨i + 1, ?_, ?_, (by repeat (first | exact Ks.le_nil _ | refine Ks.le_cons rfl ?_))⟩
    · show pl.length - (i + 1) < pl.length - i; omega
    · exact ⟨S, by omega, by omega, by rw [e3_]; omega⟩
  · obtain rfl : i = pl.length := by omega
    rw [List.take_of_length_le (Nat.le_refl _)] at g2 ⊢
    have d1 := Int.ediv_nonneg g2.1 (show 0 ≤ n by omega)
    have d2 := Int.ediv_le_self n g2.1
    have d3 := Int.emod_nonneg pl.sum (show n ≠ 0 by omega)
    all_goals (repeat' (first | (refine K_draw (id := 10) ?_; refine mv ?_; refine mv ?_; refine mv ?_; refine qu ?_; refine mv ?_; refine mv ?_; refine rm ?_; refine mn ?_; refine ad ?_; refine mx ?_; refine mv ?_; refine KO_nil ?_)))
    refine K_ret ⟨_, rfl, ?_⟩
    exact ⟨rfl, S.drop⟩
end Go.Proofs.Xx

/-
  ServiceFair: its contract.
-/
namespace Go.Proofs.Xx
open Go Go.Proofs
set_option linter.unusedSimpArgs false
set_option linter.unusedVariables false
set_option linter.unusedSectionVars false
set_option maxRecDepth 100000
set_option maxHeartbeats 4000000

theorem waitersP_ok {h0 : AH} (w : WfH h0) (pv : PbV) (p : Pb) (H : PbOk h0 pv p) (hP : PO p) (hl9 : p.tabs.length ≤ 9) (vq : Value) (q : List Int) (rq : RdL h0 vq 1 eI q) (hQ : PartOk p q) (n : Nat) (hn : 1 ≤ n ∧ n ≤ 9) :
    Fn Tryz.prog Xh 21 [pv.val, vq, .int .i64 n] h0 (fun u h' => ∃ vo rows, u = .tuple #[vo, .int .i64 (bestD p q n).2, .int .i64 0] ∧ Hs h0 h' [.sl vo 30 1 eRow rows, ownR slRow rows] ∧ rows.length = n ∧ ∀ v, v < n → (rows.getD v default).r = divL (srv (pltV p q)) (bestD p q n).1 (srv (pltV p q)).length v) := by
  have := hQ.ql hP
  have hsl := srv_len (pl := pltV p q)
  rw [pltV_len] at hsl
  refine (waiters_ok w pv p H vq q rq (by omega) n).mono ?_
  rintro u h ⟨vo, rows, k, e, rfl, x, (⟨hn, -⟩ | ⟨-, -, (⟨h1, -⟩ | ⟨-, h1, -⟩ | ⟨m, h1, h2, h3, h4, rfl, h6, rfl, h8⟩)⟩)⟩
  · exact absurd ⟨hP, hQ⟩ hn
  · omega
  · omega
  · obtain rfl : n = m := by omega
    exact ⟨vo, rows, rfl, x, h6, h8⟩
theorem bestD_ok {p : Pb} {q : List Int} {n : Nat} (hn : 1 ≤ n) : (bestD p q n).1.length = (srv (pltV p q)).length ∧ (∀ x ∈ (bestD p q n).1, 0 ≤ x ∧ x < (n : Int)) ∧ (bestD p q n).2 = Lw n ((srv (pltV p q)).map (ldP (pltV p q))) (bestD p q n).1 ∧ ∀ g : List Nat, g.length = (srv (pltV p q)).length → (∀ w ∈ g, w < n) → (bestD p q n).2 ≤ mxF (finW (fun _ => 0) ((srv (pltV p q)).map (ldP (pltV p q))) g) n := by
  have := can_best (n := n) hn (qs := (srv (pltV p q)).map (ldP (pltV p q))) (fun x hx => by
    obtain ⟨t, -, rfl⟩ := List.mem_map.1 hx
    exact (ldP_b (p := p) (q := q) t).1)
  rw [List.length_map] at this
  exact this
theorem ownRow_rd {h0 h : AH} {rs : List Rs} {ts : List Row_} (S : Hs h0 h rs) (a : At rs (ownR slRow ts)) {i : Nat} (hi : i < ts.length) : RdL h (ts.getD i default).sv.val 1 eI (ts.getD i default).r := by
  obtain ⟨fp, k⟩ := S.anyP a
  obtain ⟨f2, k2⟩ := Star.get_ (r := slRow (ts.getD i default)) k (List.mem_map.2 ⟨_, mem_getD hi, rfl⟩)
  exact sl_rdL_ k2
theorem serviceFair_true {h0 : AH} (w : WfH h0) (v : NuV) (na nb nc nd : List Nat) (H : NuR h0 v na nb nc nd) (va : Value) (mo : List Nat) (rmo : RdL h0 va 1 e16 mo) (cmo : CapOk va) (hmo : mo.length ≤ 9223372036854775807) (hm16 : ∀ i, i < mo.length → mo.getD i default < 65536)
    (vs : Value) (ls : List Int) (rsl : RdL h0 vs 1 eI ls) (hls : ls.length ≤ 9223372036854775807) (nn : Nat) (hnn : nn < 256) (vb : Value) (wl : List Nat) (rwl : RdL h0 vb 1 eU wl) (hwl : wl.length ≤ 9223372036854775807) (h8 : ∀ i, i < wl.length → wl.getD i default < 256) :
    Fn Tryz.prog Xh 5 [.agg #[v.vt.val, v.vg.val, v.vi.val, v.vr.val], va, vs, .int .u8 nn, vb] h0 (fun u _ => u = .bool true) := by
  have S := Hs.start w
  refine Fn_K (by first | rfl) Tryz.func5 rfl rfl ?_
  all_goals (repeat' (first | refine K_seq ?_ | (refine K_region (id := 0) ?_; (refine bx S ?_; clear S; intro b h S); refine mv ?_; refine KO_nil ?_) | (refine K_region (id := 1) ?_; refine lB S rfl rfl ?_; refine mv ?_; refine mv ?_)))
  (refine KO_fn rfl rfl rfl rfl rfl ((made11_ok S.wf v na nb nc nd (H.ext w S.ext) va mo (rmo.ext w S.ext) cmo hmo hm16 vs ls (rsl.ext w S.ext) hls).mono ?_); rintro _ h ⟨pv, p, q, vq, rfl, hP, hl9, hO, hQ, rq, s⟩) <;> (replace S := S.join0 s; clear s; have w1 := S.wf; have rwl' := rwl.ext w S.ext; replace S := Hs.start w1; obtain ⟨hB0, hnm⟩ : ∃ x, x = h := ⟨_, rfl⟩; subst hnm; refine mv ?_; refine vl ?_; refine vl ?_; (refine al S ?_; clear S; intro b h S); (first | (refine sB S rfl rfl ?_; clear S; intro h S)); refine mv ?_; refine KO_nil ?_)
  obtain ⟨b11, hnm⟩ : ∃ x, x = b := ⟨_, rfl⟩; subst hnm
  replace S : Hs hB0 h [.blk b11 pv.cs 33] := S
  have hq64 := hQ.ql hP
  have hsl := srv_len (pl := pltV p q)
  have hpl := pltV_len (p := p) (q := q)
  rw [hpl] at hsl
  have hpl2 : (pltV p q).length ≤ 1000 := by rw [hpl]; omega
  have hsr := srv_in (p := p) (q := q)
  have inc0 := srv_inc (pl := pltV p q)
  have hld := ldP_b (p := p) (q := q)
  have m1 := Int.emod_nonneg (nn : Int) (show (9 : Int) ≠ 0 by omega)
  have m2 := Int.emod_lt_of_pos (nn : Int) (show (0 : Int) < 9 by omega)
  all_goals (repeat' (first | refine K_seq ?_ | (refine K_region (id := 2) ?_; refine mv ?_; refine rmU ?_; refine cI ?_; refine ad ?_; refine mv ?_; refine KO_nil ?_)))
  obtain ⟨K, hK⟩ : ∃ K : Nat, 1 + (nn : Int) % 9 = K := ⟨(1 + (nn : Int) % 9).toNat, by omega⟩
  rw [hK]
  have hKb : 1 ≤ K ∧ K ≤ 9 := by omega
  clear m1 m2 hK
  obtain ⟨c1, c2, c3, c4⟩ := bestD_ok (p := p) (q := q) hKb.1
  have hldn := ldN_le (p := p) (q := q) hKb.1 c1 c2 c3
  all_goals (repeat' (first | (refine K_region (id := 3) ?_; refine lB S rfl rfl ?_; refine mv ?_)))
  (refine KO_fn rfl rfl rfl rfl rfl ((PlatesP_ok S.wf pv p (hO.ext w1 S.ext) hP vq q (rq.ext w1 S.ext) hQ).mono ?_); rintro vp h x) <;> (replace S := S.join1 x; clear x; refine mv ?_; refine KO_nil ?_)
  all_goals (repeat' (first | refine K_seq ?_ | (refine K_region (id := 4) ?_; refine mv ?_)))
  (refine KO_fn rfl rfl rfl rfl rfl ((lserved_ok S.wf vp (pltV p q) (Rd.of_sl S .here) hpl2).mono ?_); rintro vst h x) <;> (replace S := S.join1 x; clear x; refine mv ?_; refine KO_nil ?_)
  all_goals (repeat' (first | refine K_seq ?_ | (refine K_region (id := 5) ?_; refine lB S rfl rfl ?_; refine mv ?_; refine mv ?_)))
  (refine KO_fn rfl rfl rfl rfl rfl ((waitersP_ok S.wf pv p (hO.ext w1 S.ext) hP hl9 vq q (rq.ext w1 S.ext) hQ K hKb).mono ?_); rintro _ h ⟨vo, rows, rfl, x, r1, r2⟩) <;> (replace S := S.join2 x; clear x; refine mv ?_; refine vl ?_; refine vl ?_; refine vl ?_; refine mv ?_; refine mv ?_; refine mv ?_; refine KO_nil ?_)
  have w2 := S.wf
  have g11 := Hs.gB (b := b11) S
  have rvo := Rd.of_sl S .here
  have rrow : ∀ i, i < rows.length → RdL h (rows.getD i default).sv.val 1 eI (rows.getD i default).r := fun i hi => ownRow_rd S (.there .here) hi
  have rst := Rd.of_sl S (.there (.there .here))
  have rp := Rd.of_sl S (.there (.there (.there .here)))
  have hO2 := hO.ext w1 S.ext
  have rq2 := rq.ext w1 S.ext
  have rwl2 := rwl'.ext w1 S.ext
  clear S hO rq rwl'
  have S := Hs.start w2
  obtain ⟨hC, hnm⟩ : ∃ x, x = h := ⟨_, rfl⟩; subst hnm
  generalize bestD p q K = B at *
  generalize hpe : pltV p q = pl at *
  generalize hse : srv pl = stops at *
  have hld2 : ∀ t, 0 ≤ ldP pl t ∧ ldP pl t ≤ 1000 := fun t => by have := hld t; omega
  have hq0 : ∀ x ∈ stops.map (ldP pl), 0 ≤ x ∧ x ≤ 1000 := fun x hx => by
    obtain ⟨t, -, rfl⟩ := List.mem_map.1 hx
    exact hld2 t
  have hq1 : ∀ x ∈ stops.map (ldP pl), 0 ≤ x := fun x hx => (hq0 x hx).1
  have hql : (stops.map (ldP pl)).length = stops.length := by simp
  have hlb : ∀ c v, 0 ≤ lds (stops.map (ldP pl)) c v ∧ lds (stops.map (ldP pl)) c v ≤ 9000 := fun c v => by
    have h1 := lds_nn (c := c) hq1 v
    have h2 := lds_b (M := 1000) (by omega) hq0 (c := c) v
    rw [hql] at h2
    omega
  have hdl : ∀ i, i < K → sumL (ldP pl) (rows.getD i default).r = lds (stops.map (ldP pl)) B.1 i := fun i hi => by
    rw [r2 i hi, divL_load c1 c2 i _ (Nat.le_refl _), List.take_of_length_le (by omega)]
  have hds : ∀ i, i < K → (rows.getD i default).r.Sublist stops := fun i hi => by rw [r2 i hi]; exact divL_sub c1
  have hcp := catD_perm c1 c2 stops.length (Nat.le_refl _)
  rw [List.take_of_length_le (Nat.le_refl _)] at hcp
  have hcl : ∀ i, i ≤ K → (catD stops B.1 stops.length i).length ≤ 9 := fun i hi => by
    have key : ∀ j, i + j = K → (catD stops B.1 stops.length i).length ≤ (catD stops B.1 stops.length K).length := by
      intro j hj
      subst hj
      clear hi hKb c2 c3 c4 hldn r1 r2 hdl hds hcp
      induction j with
      | zero => exact Nat.le_refl _
      | succ j ih => rw [show i + (j + 1) = (i + j) + 1 by omega, catD, List.length_append]; omega
    have h1 := key (K - i) (by omega)
    have h2 := hcp.length_eq
    omega
  have hBe : (stops.map (ldP pl)).length = B.1.length := by rw [hql, c1]
  all_goals (repeat' (first | refine K_seq ?_ | refine k_cond rfl ?_ | refine K_skip ?_ | (refine K_region (id := 6) ?_; refine mv ?_; (refine cF ?_) <;> (refine mv ?_; refine mv ?_; (first | (refine lnB S ?_)); refine mv ?_; (first | (refine cF ?_)) <;> (refine vl ?_; refine KO_nil ?_)))))
  have S := S.nilS (e := 3) (z := 1) (enc := eI)
  all_goals (repeat' (first | refine K_seq ?_ | refine k_block ?_ | (refine K_region (id := 8) ?_; refine mv ?_; refine KO_nil ?_) | (refine K_region (id := 9) ?_; refine mv ?_; refine KO_nil ?_) | (refine K_region (id := 10) ?_; refine mv ?_; refine lnB S ?_; refine mv ?_; refine KO_nil ?_)))
  rw [r1]
  refine k_loop (σ := Nat × Value) (fun (i, vo2) h' => Hs hC h' [.sl vo2 3 1 eI (catD stops B.1 stops.length i)] ∧ i ≤ K) (fun (i, vo2) => K - i) (fun (i, vo2) => [(4, vb), (11, .pointer (some ⟨b11, 0, none⟩)), (12, vq), (13, .int .i64 K), (14, vp), (15, vst), (17, .int .i64 B.2), (19, vo2), (20, .int .i64 (mxF (lds (stops.map (ldP pl)) B.1) i)), (62, vo), (63, .int .i64 K), (64, .int .i64 i)]) (0, .slice none 0 0) (by repeat (first | exact Ks.le_nil _ | refine Ks.le_cons rfl ?_)) ?_ ?_
  · exact ⟨S, Nat.zero_le _⟩
  clear S
  rintro ⟨i, vo2⟩ h2 ⟨S, g1⟩
  have q1 := hcl i g1
  have q2 := mxF_nn (f := lds (stops.map (ldP pl)) B.1) (n := i)
  have q3 : mxF (lds (stops.map (ldP pl)) B.1) i ≤ 9000 := mxF_le (by omega) fun v _ => (hlb B.1 v).2
  all_goals (repeat' (first | refine K_seq ?_ | refine k_cond rfl ?_ | refine K_skip ?_ | refine K_exit ?_ | refine k_block ?_ | (refine K_region (id := 11) ?_; (first | (refine cS ?_ ?_ <;> intro hc)) <;> (refine KO_nil ?_))))
  · have hi : i < K := by omega
    obtain ⟨x0, hx⟩ : ∃ x, rows.getD (i : Int).toNat default = x := ⟨_, rfl⟩
    have hx' : rows.getD i default = x0 := hx
    have rx := rrow i (by omega)
    have hd := hdl i hi
    have hsb := hds i hi
    have hr2 := r2 i hi
    rw [hx'] at rx hd hsb hr2
    have hxl : x0.r.length ≤ 9 := Nat.le_trans hsb.length_le (by omega)
    have hxr : ∀ t ∈ x0.r, 0 ≤ t ∧ t < p.tabs.length := fun t ht => hsr t (hsb.subset ht)
    all_goals (repeat' (first | refine K_seq ?_ | (refine K_region (id := 12) ?_; refine ixB S ?_; refine lEB S ?_; refine mv ?_; refine KO_nil ?_)))
    rw [hx]
    all_goals (repeat' (first | refine K_seq ?_ | refine k_block ?_ | (refine K_region (id := 13) ?_; refine mv ?_; refine KO_nil ?_) | (refine K_region (id := 14) ?_; refine mv ?_; refine lnB S ?_; refine mv ?_; refine KO_nil ?_)))
    refine k_loop (σ := Nat) (fun j h' => Hs hC h' [.sl vo2 3 1 eI (catD stops B.1 stops.length i)] ∧ j ≤ x0.r.length) (fun j => x0.r.length - j) (fun j => [(4, vb), (11, .pointer (some ⟨b11, 0, none⟩)), (12, vq), (13, .int .i64 K), (14, vp), (15, vst), (17, .int .i64 B.2), (19, vo2), (20, .int .i64 (mxF (lds (stops.map (ldP pl)) B.1) i)), (22, x0.sv.val), (23, .int .i64 (sumL (ldP pl) (x0.r.take j))), (62, vo), (63, .int .i64 K), (64, .int .i64 i), (68, x0.sv.val), (69, .int .i64 x0.r.length), (70, .int .i64 j)]) 0 (by repeat (first | exact Ks.le_nil _ | refine Ks.le_cons rfl ?_)) ?_ ?_
    · exact ⟨S, Nat.zero_le _⟩
    clear S
    rintro j h2 ⟨S, f1⟩
    all_goals (repeat' (first | refine K_seq ?_ | refine k_cond rfl ?_ | refine K_skip ?_ | refine K_exit ?_ | refine k_block ?_ | (refine K_region (id := 15) ?_; (first | (refine cS ?_ ?_ <;> intro hc)) <;> (refine KO_nil ?_)) | (refine K_region (id := 16) ?_; refine ixB S ?_; refine lEB S ?_; refine mv ?_; refine KO_nil ?_)))
    · have hj : j < x0.r.length := by omega
      obtain ⟨t, ht⟩ : ∃ t, x0.r.getD (j : Int).toNat default = t := ⟨_, rfl⟩
      rw [ht]
      replace ht : x0.r.getD j default = t := ht
      have htb := hxr t (by rw [← ht]; exact mem_getD hj)
      have htk := take_getD hj
      rw [ht] at htk
      have b1 := sumL_nn (ld := ldP pl) (l := x0.r.take j) fun t _ => (hld2 t).1
      have b2 := sumL_b (ld := ldP pl) (M := 1000) (l := x0.r.take j) fun t _ => (hld2 t).2
      rw [List.length_take, Nat.min_eq_left f1] at b2
      have b3 : 0 ≤ pl.getD t.toNat default ∧ pl.getD t.toNat default ≤ 1000 := hld2 t
      have ks : sumL (ldP pl) (x0.r.take (j + 1)) = sumL (ldP pl) (x0.r.take j) + pl.getD t.toNat default := by rw [htk, sumL_app]; simp [sumL, ldP]
      skip
      all_goals (repeat' (first | refine k_cond rfl ?_ | refine K_skip ?_ | (refine K_region (id := 17) ?_; refine mv ?_; (refine cF ?_) <;> (refine mv ?_; refine mv ?_; refine mv ?_; (first | (refine lnB S ?_)); (first | (refine cF ?_)) <;> (refine vl ?_; refine KO_nil ?_))) | (refine K_region (id := 19) ?_; refine mv ?_; refine mv ?_; refine mv ?_; refine ixB S ?_; refine lEB S ?_; refine ad ?_; refine mv ?_; refine KO_nil ?_) | (refine K_region (id := 20) ?_; refine ad ?_; refine mv ?_; refine KO_nil ?_)))
      rw [← ks]
      refine ⟨j + 1, ?_, ?_, (by repeat (first | exact Ks.le_nil _ | refine Ks.le_cons rfl ?_))⟩
      · show x0.r.length - (j + 1) < x0.r.length - j; omega
      · exact ⟨S, by omega⟩
    · obtain rfl : j = x0.r.length := by omega
      rw [List.take_of_length_le (Nat.le_refl _), hd]
      have q4 := hlb B.1 i
      skip
      all_goals (repeat' (first | refine K_seq ?_ | (refine K_region (id := 21) ?_; refine mv ?_; refine mv ?_; refine mx ?_; refine mv ?_; refine KO_nil ?_) | (refine K_region (id := 22) ?_; refine mv ?_)))
      (refine KO_fn rfl rfl rfl rfl rfl ((isSortedI_ok S.wf x0.sv.val x0.r (rx.ext w2 S.ext) (by omega) (inc0.sublist hsb)).mono ?_); rintro _ h2 ⟨rfl, x⟩) <;> (replace S := S.join0 x; clear x; refine vl ?_; refine KO_nil ?_)
      all_goals (repeat' (first | refine k_cond rfl ?_ | refine K_skip ?_ | (refine K_region (id := 24) ?_; refine mv ?_; refine mv ?_)))
      refine apd S rfl rfl (rx.ext w2 S.ext) ?_; clear S; intro v2 h2 S; (refine mv ?_; refine KO_nil ?_)
      all_goals (repeat' (first | (refine K_region (id := 25) ?_; refine ad ?_; refine mv ?_; refine KO_nil ?_)))
      have e1 : catD stops B.1 stops.length i ++ x0.r = catD stops B.1 stops.length (i + 1) := by rw [hr2]; rfl
      rw [e1] at S
      refine ⟨(i + 1, v2), ?_, ?_, (by repeat (first | exact Ks.le_nil _ | refine Ks.le_cons rfl ?_))⟩
      · show K - (i + 1) < K - i; omega
      · exact ⟨S, by omega⟩
  obtain rfl : i = K := by omega
  have hmx : mxF (lds (stops.map (ldP pl)) B.1) i = B.2 := c3.symm
  dsimp only
  rw [hmx]
  skip
  all_goals (repeat' (first | (refine K_region (id := 26) ?_; refine mv ?_)))
  (refine KO_fn rfl rfl rfl rfl rfl ((sortI_ok S (by omega)).mono ?_); rintro _ h2 ⟨l', s1, s2, S2⟩) <;> (clear S; refine KO_nil ?_)
  obtain rfl := sorted_eq (s1.trans hcp) s2 inc0
  have S := S2
  clear S2
  all_goals (repeat' (first | refine K_seq ?_ | (refine K_region (id := 27) ?_; refine mv ?_)))
  refine m_make (z := 1) (by_ := 8) (enc := eI) (y0 := 0) S rfl rfl rfl rfl rfl rfl rfl rfl rfl (by intro _; rfl) (by first | omega) rfl rfl ?_; clear S; intro v h S; obtain ⟨sO, rfl⟩ := S.sV v; refine mv ?_; refine KO_nil ?_
  simp only [Int.toNat_natCast] at S
  all_goals (repeat' (first | refine K_seq ?_ | refine k_block ?_ | (refine K_region (id := 28) ?_; refine mv ?_; refine lnB S ?_; refine mv ?_; refine KO_nil ?_)))
  refine k_loop (σ := Nat × List Int × List Int) (fun (j, lo, c) h' => Hs hC h' [.sl sO.val 3 1 eI lo, .sl vo2 3 1 eI l'] ∧ j ≤ l'.length ∧ lo.length = i ∧ c.length = j ∧ (∀ x ∈ c, 0 ≤ x ∧ x < (i : Int)) ∧ (∀ v, v < i → lo.getD v default = lds (l'.map (ldP pl)) c v)) (fun (j, lo, c) => l'.length - j) (fun (j, lo, c) => [(4, vb), (11, .pointer (some ⟨b11, 0, none⟩)), (12, vq), (13, .int .i64 i), (14, vp), (15, vst), (17, .int .i64 B.2), (19, vo2), (20, .int .i64 B.2), (26, sO.val), (103, vst), (104, .int .i64 l'.length), (105, .int .i64 j)]) (0, List.replicate i 0, []) (by repeat (first | exact Ks.le_nil _ | refine Ks.le_cons rfl ?_)) ?_ ?_
  · refine ⟨S, Nat.zero_le _, by simp, rfl, fun x hx => (by cases hx), fun v hv => ?_⟩
    rw [lds_nil, List.getD_eq_getElem?_getD, List.getElem?_replicate, if_pos hv]; rfl
  clear S
  rintro ⟨j, lo, c⟩ h2 ⟨S, f1, f2, f3, f4, f5⟩
  all_goals (repeat' (first | refine K_seq ?_ | refine k_cond rfl ?_ | refine K_skip ?_ | refine K_exit ?_ | refine k_block ?_ | (refine K_region (id := 29) ?_; (first | (refine cS ?_ ?_ <;> intro hc)) <;> (refine KO_nil ?_)) | (refine K_region (id := 30) ?_; refine mv ?_; refine ixB S ?_; refine lEB S ?_; refine mv ?_; refine mv ?_; refine KO_nil ?_)))
  · have hj : j < l'.length := by omega
    obtain ⟨t, ht⟩ : ∃ t, l'.getD (j : Int).toNat default = t := ⟨_, rfl⟩
    rw [ht]
    replace ht : l'.getD j default = t := ht
    have htb := hsr t (by rw [← ht]; exact mem_getD hj)
    skip
    all_goals (repeat' (first | refine K_seq ?_ | (refine K_region (id := 31) ?_; refine mv ?_; refine KO_nil ?_)))
    (repeat (refine K_seq ?_)); first | refine K_join (σ := Nat) (fun z h' => Hs hC h' [.sl sO.val 3 1 eI lo, .sl vo2 3 1 eI l'] ∧ z < i) (fun z => [(4, vb), (11, .pointer (some ⟨b11, 0, none⟩)), (12, vq), (13, .int .i64 i), (14, vp), (15, vst), (17, .int .i64 B.2), (19, vo2), (20, .int .i64 B.2), (26, sO.val), (28, .int .i64 t), (29, .int .i64 z), (103, vst), (104, .int .i64 l'.length), (105, .int .i64 j)]) ?_ ?_
    · all_goals (repeat' (first | refine k_cond rfl ?_ | refine K_skip ?_ | (refine K_region (id := 32) ?_; refine mv ?_; refine mv ?_; refine lnB S ?_; (first | (refine cS ?_ ?_ <;> intro hc)) <;> (refine KO_nil ?_))))
      · obtain ⟨y, hy⟩ : ∃ y, wl.getD (j : Int).toNat default = y := ⟨_, rfl⟩
        have e1 := Int.emod_nonneg ((wl.getD (j : Int).toNat default : Nat) : Int) (show (i : Int) ≠ 0 by omega)
        have e2 := Int.emod_lt_of_pos ((wl.getD (j : Int).toNat default : Nat) : Int) (show (0 : Int) < (i : Int) by omega)
        all_goals (repeat' (first | (refine K_region (id := 33) ?_; refine mv ?_; refine mv ?_; refine ixB S ?_; refine lEB S ?_; refine cI ?_; refine mv ?_; refine rm ?_; refine mv ?_; refine KO_nil ?_)))
        rw [hy] at e1 e2 ⊢
        obtain ⟨z, hz⟩ : ∃ z : Nat, ((y : Nat) : Int) % (i : Int) = z := ⟨(((y : Nat) : Int) % (i : Int)).toNat, by omega⟩
        rw [hz]
        exact ⟨z, ⟨S, by omega⟩, ((by repeat (first | exact Ks.le_nil _ | refine Ks.le_cons rfl ?_)))⟩
      · exact ⟨0, ⟨S, by omega⟩, ((by repeat (first | exact Ks.le_nil _ | refine Ks.le_cons rfl ?_)))⟩
    clear S
    rintro z h2 ⟨S, hz⟩
    have q4 := hlb c z
    rw [← f5 z hz] at q4
    replace q4 : 0 ≤ lo.getD (z : Int).toNat default ∧ lo.getD (z : Int).toNat default ≤ 9000 := q4
    have b3 : 0 ≤ pl.getD t.toNat default ∧ pl.getD t.toNat default ≤ 1000 := hld2 t
    skip
    all_goals (repeat' (first | (refine K_draw (id := 34) ?_; refine mv ?_; refine mv ?_; refine ixS2 S rfl rfl ?_; refine lES2 S rfl rfl ?_; refine mv ?_; refine mv ?_; refine ixB S ?_; refine lEB S ?_; refine ad ?_; refine ixS2 S rfl rfl ?_; (first | (refine sE2 S rfl rfl ?_; clear S; intro h S)); refine KO_nil ?_) | (refine K_region (id := 35) ?_; refine ad ?_; refine mv ?_; refine KO_nil ?_)))
    have hqt : (l'.map (ldP pl)).getD j default = ldP pl t := by
      rw [List.getD_eq_getElem?_getD, List.getElem?_map, List.getElem?_eq_getElem hj]
      rw [List.getD_eq_getElem?_getD, List.getElem?_eq_getElem hj] at ht
      simp only [Option.getD_some] at ht
      simp [ht]
    refine ⟨(j + 1, lo.set z (lo.getD z default + ldP pl t), c ++ [(z : Int)]), ?_, ?_, (by repeat (first | exact Ks.le_nil _ | refine Ks.le_cons rfl ?_))⟩
    · show l'.length - (j + 1) < l'.length - j; omega
    · refine ⟨S, by omega, by rw [List.length_set]; exact f2, by simp; omega, fun x hx => ?_, fun v hv => ?_⟩
      · rcases List.mem_append.1 hx with r | r
        · exact f4 x r
        · rw [List.mem_singleton.1 r]; omega
      · rw [getD_setI (by omega), lds_app (by rw [hql]; omega), f3, hqt]
        dsimp only
        by_cases e : z = v
        · subst e; rw [if_pos rfl, if_pos rfl, f5 z hv]
        · rw [if_neg e, if_neg (fun q => e q.symm), f5 v hv]
  have hlc : Lw i (l'.map (ldP pl)) c = mxF (finW (fun _ => 0) (l'.map (ldP pl)) (c.map Int.toNat)) i := rfl
  have hbest : B.2 ≤ Lw i (l'.map (ldP pl)) c := by
    rw [hlc]
    refine c4 _ (by rw [List.length_map]; omega) fun z hz => ?_
    obtain ⟨x, hx, rfl⟩ := List.mem_map.1 hz
    have := f4 x hx
    omega
  skip
  all_goals (repeat' (first | (refine K_region (id := 36) ?_; refine mv ?_; refine mv ?_)))
  (refine KO_fn rfl rfl rfl rfl rfl ((equalI_ok S.wf vo2 vst l' l' (Rd.of_sl S (.there .here)) (rst.ext w2 S.ext) (by omega)).mono ?_); rintro _ h2 ⟨⟨rfl, hq⟩ | ⟨rfl, hq⟩, x⟩) <;> (replace S := S.join0 x; clear x; refine mv ?_; (first | refine off ?_ | refine mv ?_); (first | refine off ?_ | refine mv ?_); (first | refine off ?_ | (refine cT ?_)) <;> (refine vl ?_; refine mv ?_; (first | refine off ?_ | refine mv ?_); (first | refine off ?_ | refine mv ?_); (first | (refine off ?_; (refine off ?_) <;> (refine vl ?_; refine mv ?_; refine off ?_; refine off ?_; refine off ?_; refine off ?_; (first | (refine off ?_; (refine off ?_) <;> (refine vl ?_; refine mv ?_; (first | (refine off ?_; refine vl ?_; refine mv ?_; refine KO_nil ?_))))))) | skip)))
  rotate_left
  · exact absurd rfl hq
  (refine KO_fn rfl rfl rfl rfl rfl ((maxI_ok S.wf sO.val lo (Rd.of_sl S .here) (by omega) (by omega)).mono ?_); rintro _ h2 ⟨m, rfl, hm1, hm2, x⟩) <;> (replace S := S.join0 x; clear x; obtain rfl := max_is hq1 f2 f5 hm1 hm2; (first | (refine cT ?_)) <;> (refine vl ?_; refine mv ?_; refine mv ?_; (first | (refine lH S ?_)); refine mv ?_; refine mv ?_; (skip)))
  (refine KO_fn rfl rfl rfl rfl rfl ((load_okW S.wf pv p (hO2.ext w2 S.ext) hP vq q (rq2.ext w2 S.ext) hQ i (by omega)).mono ?_); rintro _ h2 ⟨rfl, x⟩) <;> (replace S := S.join0 x; clear x; rw [hpe]; (first | (refine cT ?_)) <;> (refine vl ?_; refine mv ?_; (skip)))
  (refine KO_fn rfl rfl rfl rfl rfl ((awake_ok).mono ?_); rintro _ _ ⟨rfl, rfl⟩) <;> (refine vl ?_; refine mv ?_; refine KO_nil ?_)
  all_goals (repeat' (fail))
  refine K_ret ⟨_, rfl, ?_⟩
  rfl
end Go.Proofs.Xx

/-
  What the arguments read as is kept in every world whose old blocks are the same.
-/
namespace Go.Proofs.Xx
set_option linter.unusedSectionVars false
open Go Go.RowKit
set_option linter.unusedSimpArgs false
set_option linter.unusedVariables false

section
variable {H : Type} {enc : TypeId × Value → H} {P : Program} {W W' : World}

theorem mapM_keep {α β : Type} {f g : α → Option β} : ∀ {l : List α} {r : List β}, l.mapM f = some r → (∀ a b, a ∈ l → b ∈ r → f a = some b → g a = some b) → l.mapM g = some r := by
  intro l
  induction l with
  | nil => intro r h _; simpa using h
  | cons a l ih =>
    intro r h hk
    rw [List.mapM_cons] at h ⊢
    cases hf : f a with
    | none => rw [hf] at h; cases h
    | some b =>
      rw [hf] at h
      cases hm : l.mapM f with
      | none => rw [hm] at h; cases h
      | some r' =>
        rw [hm] at h
        simp at h
        subst h
        rw [hk a b (by simp) (by simp) hf, ih hm fun x y hx hy => hk x y (by simp [hx]) (by simp [hy])]
        rfl

theorem cells_keep (hb : ∀ k, k < W.heap.size → W'.heap[k]? = W.heap[k]?) {base n : Nat} {a : Addr} {cs : List Value} (h : W.cells? base a n = some cs) : W'.cells? base a n = some cs := by
  unfold World.cells? at h ⊢
  split at h
  · rename_i hba
    rw [if_pos hba]
    refine mapM_keep h fun i v _ _ hv => ?_
    have hlt : (a.add i).block < W.heap.size := by
      rcases Nat.lt_or_ge (a.add i).block W.heap.size with q | q
      · exact q
      · have : W.cell? (a.add i) = none := by
          unfold World.cell?
          rw [Array.getElem?_eq_none q]
        rw [this] at hv; cases hv
    rw [← hv]
    exact World.cell?_of_block (w := W) (hb _ hlt)
  · cases h

/-! ### arguments of any plain type -/
def tiles (P : Program) : List Field → Nat → Nat → Bool
  | [], at_, n => Nat.beq at_ n
  | f :: r, at_, n => Nat.beq f.offset at_ && tiles P r (at_ + P.cellsOf f.type) n
def plainT (P : Program) : Nat → TypeId → Bool
  | 0, _ => false
  | m + 1, t => match P.underlying t with
    | some .bool | some .string => Nat.beq (P.cellsOf t) 1
    | some (.int _) => Nat.beq (P.cellsOf t) 1
    | some (.slice e) => Nat.beq (P.cellsOf t) 1 && (plainT P m e && !Nat.beq (P.cellsOf e) 0)
    | some (.struct fs) => fs.toList.all (fun f => plainT P m f.type) && tiles P fs.toList 0 (P.cellsOf t)
    | some (.array n e) => plainT P m e && Nat.beq (P.cellsOf t) (n * P.cellsOf e)
    | _ => false


theorem trod_keep (hb : ∀ k, k < W.heap.size → W'.heap[k]? = W.heap[k]?) {base : Nat} {sp : Nat → Bool} {held : Bool} : ∀ (fuel m : Nat) (t : TypeId) (cs : List Value) (x : DataW H × List MemPlace), plainT P m t = true →
    DataW.trod enc P W base (fun _ => true) held fuel t cs = some x → (∀ p ∈ x.2, sp p.block = true) → DataW.trod enc P W' base sp held fuel t cs = some x := by
  intro fuel
  induction fuel with
  | zero => intro m t cs x _ h _; cases h
  | succ fuel ih =>
    intro m t cs x hp h hsp
    cases m with
    | zero => cases hp
    | succ m =>
    unfold plainT at hp
    cases hu : P.underlying t with
    | none => rw [hu] at hp; cases hp
    | some u =>
      rw [hu] at hp
      cases u with
      | bool => obtain ⟨b, rfl, rfl⟩ := DataW.trod_bool hu h; unfold DataW.trod; rw [hu]
      | int k =>
        obtain ⟨b, rfl, rfl, hwf⟩ := DataW.trod_int hu h
        unfold DataW.trod; rw [hu]
        simp [hwf]
      | string =>
        obtain ⟨b, rfl, rfl, hs⟩ := DataW.trod_string hu h
        unfold DataW.trod; rw [hu]
        simp [hs]
      | struct fs =>
        simp only [Bool.and_eq_true, List.all_eq_true] at hp
        unfold DataW.trod at h ⊢
        rw [hu] at h ⊢
        simp only at h ⊢
        split at h
        · rename_i hc
          rw [if_pos hc]
          simp only [Option.map_eq_some_iff] at h ⊢
          obtain ⟨xs, h1, rfl⟩ := h
          refine ⟨xs, mapM_keep h1 fun f y hf hy hq => ih m _ _ _ (hp.1 f hf) hq fun p hp => hsp p ?_, rfl⟩
          simp only [List.mem_flatMap]
          exact ⟨y, hy, hp⟩
        · cases h
      | array n e =>
        simp only [Bool.and_eq_true] at hp
        unfold DataW.trod at h ⊢
        rw [hu] at h ⊢
        simp only at h ⊢
        split at h
        · rename_i hc
          rw [if_pos hc]
          simp only [Option.map_eq_some_iff] at h ⊢
          obtain ⟨xs, h1, rfl⟩ := h
          refine ⟨xs, mapM_keep h1 fun f y hf hy hq => ih m _ _ _ hp.1 hq fun p hp => hsp p ?_, rfl⟩
          simp only [List.mem_flatMap]
          exact ⟨y, hy, hp⟩
        · cases h
      | slice e =>
        simp only [Bool.and_eq_true, Bool.not_eq_true'] at hp
        have hz : P.cellsOf e ≠ 0 := fun q => by have := hp.2.2; rw [q] at this; simp at this
        rcases DataW.trod_slice hu h with ⟨rfl, rfl⟩ | ⟨a, len, cap, -, -, -, -, rfl, -⟩
        · unfold DataW.trod; rw [hu]; rfl
        · unfold DataW.trod at h ⊢
          rw [hu] at h ⊢
          simp only at h ⊢
          split at h
          · rename_i hc
            rw [if_pos hc]
            simp only [if_true, Option.map_eq_some_iff, Option.bind_eq_some_iff] at h ⊢
            obtain ⟨elems, h1, rest, h2, rfl⟩ := h
            have key : ∀ i y, y ∈ elems ++ rest → (W.cells? base (a.add (i * P.cellsOf e)) (P.cellsOf e)).bind (DataW.trod enc P W base (fun _ => true) held fuel e) = some y →
                (W'.cells? base (a.add (i * P.cellsOf e)) (P.cellsOf e)).bind (DataW.trod enc P W' base sp held fuel e) = some y := by
              intro i y hy hq
              rw [Option.bind_eq_some_iff] at hq ⊢
              obtain ⟨cs', q1, q2⟩ := hq
              refine ⟨cs', cells_keep hb q1, ih m _ _ _ hp.2.1 q2 fun p hp => hsp p ?_⟩
              simp only [List.mem_append, List.mem_flatMap]
              exact .inr ⟨y, by simpa using hy, hp⟩
            refine ⟨elems, mapM_keep h1 fun i y _ hy hq => key i y (by simp [hy]) hq, rest, ?_, rfl⟩
            cases hs : sp a.block with
            | true =>
              simp only [if_true]
              exact mapM_keep h2 fun i y _ hy hq => key (len + i) y (by simp [hy]) hq
            | false =>
              simp only [Bool.false_eq_true, if_false]
              cases rest with
              | nil => rfl
              | cons y rest =>
                have hp' : sp a.block = true := by
                  refine hsp (.cell a.block (a.off + 0)) ?_
                  simp only [List.mem_append]
                  refine .inl ?_
                  unfold MemPlace.row
                  rw [List.mem_map]
                  exact ⟨0, List.mem_range.2 (Nat.mul_pos (by simp only [List.length_cons]; omega) (by omega)), rfl⟩
                rw [hs] at hp'; cases hp'
          · cases h
      | _ => cases hp
theorem trodAll_keep (hb : ∀ k, k < W.heap.size → W'.heap[k]? = W.heap[k]?) {base : Nat} {sp : Nat → Bool} {held : Bool} : ∀ (ts : List TypeId) (vs : List Value) (ds : List (DataW H)) (ps : List MemPlace), ts.all (plainT P 20) = true →
    DataW.TrodAll enc P W base (fun _ => true) held ts vs ds ps → (∀ p ∈ ps, sp p.block = true) → DataW.TrodAll enc P W' base sp held ts vs ds ps
  | [], [], [], ps, _, h, _ => h
  | t :: ts, v :: vs, d :: ds, ps, hp, h, hsp => by
    simp only [List.all_cons, Bool.and_eq_true] at hp
    obtain ⟨p, q, ⟨fuel, h1⟩, h2, rfl⟩ := h
    exact ⟨p, q, ⟨fuel, trod_keep hb fuel 20 t _ _ hp.1 h1 fun x hx => hsp x (by simp [hx])⟩, trodAll_keep hb ts vs ds q hp.2 h2 fun x hx => hsp x (by simp [hx]), rfl⟩
  | [], [], _ :: _, _, _, h, _ => h.elim
  | [], _ :: _, _, _, _, h, _ => h.elim
  | _ :: _, [], _, _, _, h, _ => h.elim
  | _ :: _, _ :: _, [], _, _, h, _ => h.elim
end
end Go.Proofs.Xx

/-
  The arguments of a call, as read-only blocks of the abstract memory.
-/
namespace Go.Proofs.Xx
set_option linter.unusedSectionVars false
open Go Go.RowKit
set_option linter.unusedSimpArgs false
set_option linter.unusedVariables false

section
variable {P : Program}

/-- A window of a block, to be read alone. -/
theorem Rel.addRo [Glob] {B : Bs} {e : Emb} {h : AH} {w : World} (r : Rel B e h w) {k sh : Nat} {cc : Array Value} {el : TypeId} {fr : Nat × Nat} {c : List Value} (hkB : k < B.lo) (hk : w.heap[k]? = some (.cells cc el fr)) (hsz : sh + c.length ≤ cc.size)
    (hc : ∀ i v, c[i]? = some v → ∃ v', cc[sh + i]? = some v' ∧ VR (e.put h.next ⟨k, sh, 0⟩) v v') :
    Rel B (e.put h.next ⟨k, sh, 0⟩) (h.add (.cells c el none true)) w ∧ e.le (e.put h.next ⟨k, sh, 0⟩) := by
  have hle := r.le_put ⟨k, sh, 0⟩
  have hlt : k < w.heap.size := (Array.getElem?_eq_some_iff.1 hk).1
  refine ⟨⟨fun b M q => ?_, fun b hb => ?_, fun b M q => ?_, fun b M p q1 q2 => ?_, fun b M p b' M' p' e1 e2 e3 e4 e5 e6 e7 => ?_, fun b M p q1 q2 q3 => ?_, r.base, r.keep, r.glob⟩, hle⟩
  · by_cases hb : b = h.next
    · subst hb; exact Nat.lt_succ_self _
    · rw [Emb.put_ne _ _ hb] at q; exact Nat.lt_succ_of_lt (r.dom b M q)
  · have hb' : h.next + 1 ≤ b := hb
    rw [AH.get_add, if_neg (by omega)]; exact r.wf b (by omega)
  · by_cases hb : b = h.next
    · subst hb; rw [Emb.put_same] at q; cases q; exact hlt
    · rw [Emb.put_ne _ _ hb] at q; exact r.rng b M q
  · rw [AH.get_add] at q2
    by_cases hb : b = h.next
    · subst hb; rw [Emb.put_same] at q1; cases q1; rw [if_pos rfl] at q2; cases q2
      exact ⟨cc, fr, hk, hsz, hc, (fun _ => ⟨rfl, fun q => by cases q⟩), (fun _ q => by cases q), (fun q => by cases q)⟩
    · rw [Emb.put_ne _ _ hb] at q1; rw [if_neg hb] at q2
      exact (r.obj b M p q1 q2).mono hle
  · rw [AH.get_add] at e2 e4
    by_cases hb' : b' = h.next
    · subst hb'; rw [if_pos rfl] at e4; cases e4; cases e7
    · rw [Emb.put_ne _ _ hb'] at e3; rw [if_neg hb'] at e4
      by_cases hb : b = h.next
      · subst hb
        rw [Emb.put_same] at e1; cases e1
        rw [if_pos rfl] at e2; cases e2
        have := r.own b' M' p' e3 e4 e7
        simp only at e5; omega
      · rw [Emb.put_ne _ _ hb] at e1; rw [if_neg hb] at e2
        exact r.inj b M p b' M' p' e1 e2 e3 e4 e5 e6 e7
  · rw [AH.get_add] at q2
    by_cases hb : b = h.next
    · subst hb; rw [if_pos rfl] at q2; cases q2; cases q3
    · rw [Emb.put_ne _ _ hb] at q1; rw [if_neg hb] at q2
      exact r.own b M p q1 q2 q3


/-- The world's own blocks stay as they are. -/
def Bs.of (w : World) : Bs := ⟨w.heap.size, w.heap⟩
def RoH (h : AH) : Prop := ∀ b o, h.get b = some o → writable o = false
/-- h is made of windows of w's blocks, to be read alone. -/
structure WRel [Glob] (w : World) (e : Emb) (h : AH) : Prop where
  rel : Rel (Bs.of w) e h w
  ro : RoH h
theorem WRel.empty [Glob] {w : World} (hg : Glob.ok w.heap.size w.heap) : WRel w (fun _ => none) ⟨.e, 0, 0⟩ :=
  ⟨⟨fun b L q => (by cases q), fun b _ => Tr.get_e b, fun b L q => (by cases q), fun b L o q => (by cases q), fun b L o b' L' o' q => (by cases q), fun b L o q => (by cases q), Nat.le_refl _, fun _ _ => rfl, hg⟩,
    fun b o q => by rw [show (⟨.e, 0, 0⟩ : AH).get b = none from Tr.get_e b] at q; cases q⟩
theorem WRel.wfH [Glob] {w : World} {e : Emb} {h : AH} (r : WRel w e h) : WfH h := r.rel.wf

theorem WRel.addRo [Glob] {e : Emb} {h : AH} {w : World} (r : WRel w e h) {k sh : Nat} {cc : Array Value} {el : TypeId} {fr : Nat × Nat} {c : List Value} (hk : w.heap[k]? = some (.cells cc el fr)) (hsz : sh + c.length ≤ cc.size)
    (hc : ∀ i v, c[i]? = some v → ∃ v', cc[sh + i]? = some v' ∧ VR e v v') :
    ∃ e', WRel w e' (h.add (.cells c el none true)) ∧ e.le e' ∧ Ext h (h.add (.cells c el none true)) ∧ e' h.next = some ⟨k, sh, 0⟩ := by
  have hle := r.rel.le_put ⟨k, sh, 0⟩
  obtain ⟨r1, r2⟩ := Rel.addRo (sh := sh) (c := c) r.rel (show k < w.heap.size from (Array.getElem?_eq_some_iff.1 hk).1) hk hsz (fun i v hi => by obtain ⟨v', h1, h2⟩ := hc i v hi; exact ⟨v', h1, h2.mono hle⟩)
  refine ⟨_, ⟨r1, fun b o q => ?_⟩, r2, (Ext.refl r.wfH).add _, Emb.put_same _ _ _⟩
  rw [AH.get_add] at q
  split at q
  · cases q; rfl
  · exact r.ro b o q

/-- The cells cs, of type t, read well in h. -/
def AR (P : Program) (h : AH) : Nat → TypeId → List Value → Prop
  | 0, _, _ => False
  | f + 1, t, cs =>
    match P.underlying t, cs with
    | some .bool, [.bool _] => True
    | some (.int k), [.int k' n] => k' = k ∧ (Lit.int k n).wf = true
    | some .string, [.string s] => s.size ≤ maxLen
    | some (.slice e), [v] => ∃ n c, Rd h v (P.cellsOf e) n c ∧ (n ≤ maxLen ∧ n * P.bytesOf e ≤ reachBytes) ∧ CapOk v ∧ ∀ i, i < n → AR P h f e ((c.drop (i * P.cellsOf e)).take (P.cellsOf e))
    | some (.struct fs), cs => cs.length = P.cellsOf t ∧ ∀ fd ∈ fs.toList, AR P h f fd.type ((cs.drop fd.offset).take (P.cellsOf fd.type))
    | some (.array n e), cs => cs.length = P.cellsOf t ∧ ∀ i, i < n → AR P h f e ((cs.drop (i * P.cellsOf e)).take (P.cellsOf e))
    | _, _ => False
theorem AR.ext {h h' : AH} (w : WfH h) (x : Ext h h') : ∀ (f : Nat) (t : TypeId) (cs : List Value), AR P h f t cs → AR P h' f t cs
  | 0, _, _, q => q
  | f + 1, t, cs, q => by
    unfold AR at q ⊢
    split at q
    · exact q
    · exact q
    · exact q
    · obtain ⟨n, c, h1, h2, hc, h3⟩ := q
      exact ⟨n, c, h1.ext w x, h2, hc, fun i hi => AR.ext w x f _ _ (h3 i hi)⟩
    · exact ⟨q.1, fun fd hf => AR.ext w x f _ _ (q.2 fd hf)⟩
    · exact ⟨q.1, fun i hi => AR.ext w x f _ _ (q.2 i hi)⟩
    · exact q


section
variable {H : Type} {enc : TypeId × Value → H}
/-- Each weight of d, as one of type t, is within reach. -/
def Light (P : Program) (t : TypeId) (d : DataW H) : Prop := ∀ n ∈ DataW.weights P t d, n ≤ reachBytes
theorem weightsEach_mem : ∀ (ts : List TypeId) (ds : List (DataW H)) (j : Nat) (t : TypeId) (d : DataW H), ts[j]? = some t → ds[j]? = some d → ∀ n ∈ DataW.weights P t d, n ∈ DataW.weightsEach P ts ds
  | [], _, _, _, _, q, _ => by simp at q
  | _ :: _, [], _, _, _, _, q => by simp at q
  | t :: ts, d :: ds, 0, _, _, q1, q2 => by
    simp only [List.getElem?_cons_zero, Option.some.injEq] at q1 q2
    subst q1; subst q2
    intro n hn; rw [DataW.weightsEach]; exact List.mem_append_left _ hn
  | t :: ts, d :: ds, j + 1, _, _, q1, q2 => by
    intro n hn; rw [DataW.weightsEach]; exact List.mem_append_right _ (weightsEach_mem ts ds j _ _ (by simpa using q1) (by simpa using q2) n hn)
theorem weightsAll_mem (e : TypeId) : ∀ (ds : List (DataW H)) (j : Nat) (d : DataW H), ds[j]? = some d → ∀ n ∈ DataW.weights P e d, n ∈ DataW.weightsAll P e ds
  | [], _, _, q => by simp at q
  | d :: ds, 0, _, q => by
    simp only [List.getElem?_cons_zero, Option.some.injEq] at q
    subst q
    intro n hn; rw [DataW.weightsAll]; exact List.mem_append_left _ hn
  | d :: ds, j + 1, _, q => by
    intro n hn; rw [DataW.weightsAll]; exact List.mem_append_right _ (weightsAll_mem e ds j _ (by simpa using q) n hn)
theorem Light.field {t : TypeId} {fs : Array Field} {ds : List (DataW H)} (hu : P.underlying t = some (.struct fs)) (hl : Light P t (.agg ds)) {i : Nat} {f : Field} {d : DataW H} (hf : fs[i]? = some f) (hd : ds[i]? = some d) : Light P f.type d := fun n hn => by
  refine hl n ?_
  rw [DataW.weights, hu]
  exact weightsEach_mem _ _ i _ _ (by simp [hf]) hd n hn
theorem Light.item {t e : TypeId} {k : Nat} {ds : List (DataW H)} (hu : P.underlying t = some (.array k e)) (hl : Light P t (.agg ds)) {i : Nat} {d : DataW H} (hd : ds[i]? = some d) : Light P e d := fun n hn => by
  refine hl n ?_
  rw [DataW.weights, hu]
  exact weightsAll_mem e _ i _ hd n hn
theorem Light.elem {t e : TypeId} {ds rs : List (DataW H)} (hu : P.underlying t = some (.slice e)) (hl : Light P t (.slice ds rs)) {i : Nat} {d : DataW H} (hd : ds[i]? = some d) : Light P e d := fun n hn => by
  refine hl n ?_
  rw [DataW.weights, hu]
  exact List.mem_cons_of_mem _ (List.mem_append_left _ (weightsAll_mem e _ i _ hd n hn))
theorem Light.slice {t e : TypeId} {ds rs : List (DataW H)} (hu : P.underlying t = some (.slice e)) (hl : Light P t (.slice ds rs)) : ds.length * P.bytesOf e ≤ reachBytes := by
  have h1 := hl ((ds.length + rs.length) * P.bytesOf e) (by rw [DataW.weights, hu]; exact List.mem_cons_self)
  exact Nat.le_trans (Nat.mul_le_mul_right _ (Nat.le_add_right _ _)) h1
theorem tiles_le : ∀ (fs : List Field) (a n : Nat), tiles P fs a n = true → a ≤ n
  | [], a, n, h => by have := Nat.eq_of_beq_eq_true h; omega
  | f :: r, a, n, h => by
    simp only [tiles, Bool.and_eq_true] at h
    have := tiles_le r _ n h.2
    omega
/-- cells of type t that read in w may be taken into h. -/
def Takes [Glob] (enc : TypeId × Value → H) (P : Program) (w : World) (base : Nat) (sp : Nat → Bool) (held : Bool) (n : Nat) (t : TypeId) (cs : List Value) : Prop := ∀ e h, WRel w e h → ∃ e' h' r, WRel w e' h' ∧ e.le e' ∧ Ext h h' ∧ VRs e' r cs ∧ AR P h' n t r

theorem embedFields [Glob] {w : World} {base n : Nat} {sp : Nat → Bool} {held : Bool} {cs : List Value} : ∀ (fs : List Field) (a : Nat), tiles P fs a cs.length = true →
    (∀ fd ∈ fs, Takes enc P w base sp held n fd.type ((cs.drop fd.offset).take (P.cellsOf fd.type))) → ∀ e h, WRel w e h →
    ∃ e' h' r, WRel w e' h' ∧ e.le e' ∧ Ext h h' ∧ VRs e' r (cs.drop a) ∧ ∀ fd ∈ fs, a ≤ fd.offset ∧ AR P h' n fd.type ((r.drop (fd.offset - a)).take (P.cellsOf fd.type))
  | [], a, ht, _, e, h, r => by
    have := Nat.eq_of_beq_eq_true ht
    exact ⟨e, h, [], r, e.le_refl, Ext.refl r.wfH, by rw [this, List.drop_length]; exact .nil, fun fd q => by cases q⟩
  | f :: fs, a, ht, hk, e, h, r => by
    simp only [tiles, Bool.and_eq_true] at ht
    have hoff := Nat.eq_of_beq_eq_true ht.1
    have hle := tiles_le fs _ _ ht.2
    obtain ⟨e1, h1, c1, r1, l1, x1, v1, a1⟩ := hk f (by simp) e h r
    obtain ⟨e2, h2, c2, r2, l2, x2, v2, a2⟩ := embedFields fs _ ht.2 (fun fd q => hk fd (by simp [q])) e1 h1 r1
    have hc1 : c1.length = P.cellsOf f.type := by
      have := v1.length
      rw [List.length_take, List.length_drop, hoff] at this
      omega
    refine ⟨e2, h2, c1 ++ c2, r2, Emb.le_trans l1 l2, x1.trans x2, ?_, ?_⟩
    · have := (v1.mono l2).append v2
      rw [hoff, ← List.drop_drop, List.take_append_drop] at this
      exact this
    · intro fd q
      rcases List.mem_cons.1 q with rfl | q
      · refine ⟨by omega, ?_⟩
        rw [hoff, Nat.sub_self, List.drop_zero, List.take_append_of_le_length (by omega), List.take_of_length_le (by omega)]
        exact a1.ext r1.wfH x2 _ _ _
      · obtain ⟨q1, q2⟩ := a2 fd q
        refine ⟨by omega, ?_⟩
        rw [show fd.offset - a = c1.length + (fd.offset - (a + P.cellsOf f.type)) by omega, ← List.drop_drop, List.drop_left]
        exact q2
theorem embedRow [Glob] {w : World} {base n : Nat} {sp : Nat → Bool} {held : Bool} {ty : TypeId} {z : Nat} {cs : List Value} : ∀ (k : Nat), k * z ≤ cs.length →
    (∀ i, i < k → Takes enc P w base sp held n ty ((cs.drop (i * z)).take z)) → ∀ e h, WRel w e h →
    ∃ e' h' r, WRel w e' h' ∧ e.le e' ∧ Ext h h' ∧ VRs e' r (cs.take (k * z)) ∧ ∀ i, i < k → AR P h' n ty ((r.drop (i * z)).take z)
  | 0, _, _, e, h, r => ⟨e, h, [], r, e.le_refl, Ext.refl r.wfH, by simp; exact .nil, fun i q => by omega⟩
  | k + 1, hk, ht, e, h, r => by
    rw [Nat.add_mul, Nat.one_mul] at hk
    obtain ⟨e1, h1, c1, r1, l1, x1, v1, a1⟩ := embedRow k (by omega) (fun i q => ht i (by omega)) e h r
    obtain ⟨e2, h2, c2, r2, l2, x2, v2, a2⟩ := ht k (by omega) e1 h1 r1
    have hc1 : c1.length = k * z := by
      have := v1.length
      rw [List.length_take] at this; omega
    have hc2 : c2.length = z := by
      have := v2.length
      rw [List.length_take, List.length_drop] at this; omega
    refine ⟨e2, h2, c1 ++ c2, r2, Emb.le_trans l1 l2, x1.trans x2, ?_, fun i hi => ?_⟩
    · have := (v1.mono l2).append v2
      rw [Nat.add_mul, Nat.one_mul, List.take_add]
      exact this
    · by_cases hik : i < k
      · have : (i + 1) * z ≤ k * z := Nat.mul_le_mul_right z hik
        rw [Nat.add_mul, Nat.one_mul] at this
        rw [List.drop_append_of_le_length (by omega), List.take_append_of_le_length (by rw [List.length_drop]; omega)]
        exact (a1 i hik).ext r1.wfH x2 _ _ _
      · obtain rfl : i = k := by omega
        rw [← hc1, List.drop_left, List.take_of_length_le (by omega)]
        exact a2

theorem embed [Glob] {w : World} {base : Nat} {sp : Nat → Bool} (hsp : ∀ b, sp b = true) {held : Bool} (hw : ∃ (k : Nat) (cc : Array Value) (el : TypeId) (fr : Nat × Nat), w.heap[k]? = some (.cells cc el fr)) : ∀ (n m : Nat) (t : TypeId) (cs : List Value) (x : DataW H × List MemPlace), plainT P m t = true →
    DataW.trod enc P w base sp held n t cs = some x → Light P t x.1 → Takes enc P w base sp held n t cs
  | 0, _, _, _, _, _, h, _ => by simp [DataW.trod] at h
  | _ + 1, 0, _, _, _, h, _, _ => by cases h
  | n + 1, m + 1, t, cs, x, hp, h, hlt => by
    intro e h0 r
    unfold plainT at hp
    cases hu : P.underlying t with
    | none => rw [hu] at hp; cases hp
    | some u =>
      rw [hu] at hp
      cases u with
      | bool =>
        obtain ⟨b, rfl, -⟩ := DataW.trod_bool hu h
        exact ⟨e, h0, [.bool b], r, e.le_refl, Ext.refl r.wfH, .one (.bool b), by unfold AR; rw [hu]; trivial⟩
      | int k =>
        obtain ⟨b, rfl, -, hwf⟩ := DataW.trod_int hu h
        exact ⟨e, h0, [.int k b], r, e.le_refl, Ext.refl r.wfH, .one (.int k b), by unfold AR; rw [hu]; exact ⟨rfl, hwf⟩⟩
      | string =>
        obtain ⟨s, rfl, -, hs⟩ := DataW.trod_string hu h
        exact ⟨e, h0, [.string s], r, e.le_refl, Ext.refl r.wfH, .one (.string s), by unfold AR; rw [hu]; exact hs⟩
      | struct fs =>
        simp only [Bool.and_eq_true, List.all_eq_true] at hp
        obtain ⟨xs, n', hn, hxe, hlen, hxl, hf⟩ := DataW.trod_struct hu h
        rw [hxe] at hlt
        obtain rfl : n' = n := by omega
        obtain ⟨e1, h1, c1, r1, l1, x1, v1, a1⟩ := embedFields fs.toList 0 (by rw [hlen]; exact hp.2) (fun fd hfd => by
          obtain ⟨i, hi, rfl⟩ := List.getElem_of_mem hfd
          have hg : fs[i]? = some fs.toList[i] := by rw [← Array.getElem?_toList]; exact List.getElem?_eq_getElem hi
          have h2 := hf i _ hg
          have hix : i < xs.length := by rw [hxl]; simpa using hi
          rw [List.getElem?_eq_getElem hix] at h2
          exact embed hsp hw n' m _ _ _ (hp.1 _ (List.getElem_mem hi)) h2 (hlt.field hu hg (by rw [List.getElem?_map, List.getElem?_eq_getElem hix]; rfl))) e h0 r
        refine ⟨e1, h1, c1, r1, l1, x1, by simpa using v1, ?_⟩
        unfold AR; rw [hu]
        have hl1 := v1.length
        simp only [List.drop_zero] at hl1
        exact ⟨by omega, fun fd hfd => by have := (a1 fd hfd).2; simpa using this⟩
      | array k el =>
        simp only [Bool.and_eq_true] at hp
        have hsz := Nat.eq_of_beq_eq_true hp.2
        obtain ⟨xs, n', hn, hxe, hlen, hxl, hf⟩ := DataW.trod_array hu h
        rw [hxe] at hlt
        obtain rfl : n' = n := by omega
        obtain ⟨e1, h1, c1, r1, l1, x1, v1, a1⟩ := embedRow (z := P.cellsOf el) (ty := el) (cs := cs) k (by omega) (fun i hi => by
          have h2 := hf i hi
          have hix : i < xs.length := by omega
          rw [List.getElem?_eq_getElem hix] at h2
          exact embed hsp hw n' m _ _ _ hp.1 h2 (hlt.item hu (by rw [List.getElem?_map, List.getElem?_eq_getElem hix]; rfl))) e h0 r
        rw [List.take_of_length_le (by omega)] at v1
        refine ⟨e1, h1, c1, r1, l1, x1, v1, ?_⟩
        unfold AR; rw [hu]
        exact ⟨by have := v1.length; omega, a1⟩
      | slice el =>
        simp only [Bool.and_eq_true, Bool.not_eq_true'] at hp
        have hz : P.cellsOf el ≠ 0 := fun q => by have := hp.2.2; rw [q] at this; simp at this
        rcases DataW.trod_slice hu h with ⟨rfl, -⟩ | ⟨a, len, cap, elems, rest, n', hn, rfl, hxe, hb, hl, hm, hlen, hel, hrest, -⟩
        · refine ⟨e, h0, [.slice none 0 0], r, e.le_refl, Ext.refl r.wfH, .one .nilSlice, ?_⟩
          unfold AR; rw [hu]
          exact ⟨0, [], Rd.none_ _ _, ⟨Nat.zero_le _, by rw [Nat.zero_mul]; exact Nat.zero_le _⟩, Nat.le_refl _, fun i hi => by omega⟩
        · obtain rfl : n' = n := by omega
          rw [hxe] at hlt
          have hwt : len * P.bytesOf el ≤ reachBytes := by have := hlt.slice hu; rwa [List.length_map, hlen] at this
          obtain ⟨hr1, hr2⟩ := hrest (hsp _)
          rcases Nat.eq_zero_or_pos cap with hc0 | hc0
          · subst hc0
            obtain rfl : len = 0 := by omega
            obtain ⟨k, cc, el0, fr, hk⟩ := hw
            obtain ⟨e1, r1, l1, x1, q1⟩ := r.addRo (sh := 0) (c := []) hk (by simp) (fun i v hi => by simp at hi)
            refine ⟨e1, _, [.slice (some ⟨h0.next, 0, none⟩) 0 0], r1, l1, x1, .one (.slice h0.next 0 a 0 0 ⟨k, 0, 0⟩ q1 (Nat.le_refl _) (.inr ⟨rfl, rfl⟩)), ?_⟩
            unfold AR; rw [hu]
            exact ⟨0, [], .inr ⟨h0.next, 0, 0, [], el0, none, true, rfl, by rw [AH.get_add, if_pos rfl], by simp [takeAt]⟩, ⟨Nat.zero_le _, by rw [Nat.zero_mul]; exact Nat.zero_le _⟩, Nat.le_refl _, fun i hi => by omega⟩
          · -- the first cell is there
            have hfirst : ∃ cs0 y, w.cells? base a (P.cellsOf el) = some cs0 ∧ DataW.trod enc P w base sp held n' el cs0 = some y := by
              rcases Nat.eq_zero_or_pos len with h0' | h0'
              · have h2 := hr2 0 (by omega)
                have hix : 0 < rest.length := by omega
                rw [List.getElem?_eq_getElem hix, h0', Option.bind_eq_some_iff] at h2
                obtain ⟨cs0, q1, q2⟩ := h2
                exact ⟨cs0, _, by simpa [Addr.add] using q1, q2⟩
              · have h2 := hel 0 h0'
                have hix : 0 < elems.length := by omega
                rw [List.getElem?_eq_getElem hix, Option.bind_eq_some_iff] at h2
                obtain ⟨cs0, q1, q2⟩ := h2
                exact ⟨cs0, _, by simpa [Addr.add] using q1, q2⟩
            obtain ⟨cs0, y0, g1, -⟩ := hfirst
            obtain ⟨-, g2, g3⟩ := World.cells?_some g1
            have g4 := g3 0 (by omega)
            rw [List.getElem?_eq_getElem (by omega)] at g4
            obtain ⟨ab, ao, asp⟩ := a
            simp only [Addr.add, if_true] at g4
            unfold World.cell? at g4
            simp only at g4
            cases hblk : w.heap[ab]? with
            | none => rw [hblk] at g4; cases g4
            | some ob =>
              rw [hblk] at g4
              cases ob with
              | cells cc el0 fr =>
                simp only at g4
                cases asp with
                | some s => simp at g4
                | none =>
                  simp only [Option.isSome_none, Bool.false_eq_true, if_false] at g4
                  have hao : ao < cc.size := (Array.getElem?_eq_some_iff.1 g4).1
                  have hcell : ∀ (i : Nat) (v : Value), w.cell? ⟨ab, ao + i, none⟩ = some v ↔ cc[ao + i]? = some v := fun i v => by
                    unfold World.cell?
                    simp [hblk]
                  -- each element's cells
                  have helem : ∀ i, i < len → ∃ y, DataW.trod enc P w base sp held n' el (((cc.toList.drop ao).drop (i * P.cellsOf el)).take (P.cellsOf el)) = some y ∧ Light P el y.1 ∧ ao + i * P.cellsOf el + P.cellsOf el ≤ cc.size := by
                    intro i hi
                    have h2 := hel i hi
                    have hix : i < elems.length := by omega
                    rw [List.getElem?_eq_getElem hix, Option.bind_eq_some_iff] at h2
                    obtain ⟨ci, q1, q2⟩ := h2
                    obtain ⟨-, q3, q4⟩ := World.cells?_some q1
                    have hadd : ∀ j, ((⟨ab, ao, none⟩ : Addr).add (i * P.cellsOf el)).add j = ⟨ab, ao + (i * P.cellsOf el + j), none⟩ := fun j => by rw [add_none, add_none, Nat.add_assoc]
                    have hlast : ao + i * P.cellsOf el + P.cellsOf el ≤ cc.size := by
                      have q5 := q4 (P.cellsOf el - 1) (by omega)
                      rw [List.getElem?_eq_getElem (by omega), hadd, hcell] at q5
                      have := (Array.getElem?_eq_some_iff.1 q5).1
                      omega
                    refine ⟨elems[i], ?_, hlt.elem hu (i := i) (by rw [List.getElem?_map, List.getElem?_eq_getElem hix]; rfl), hlast⟩
                    rw [← q2]
                    congr 1
                    refine List.ext_getElem? fun j => ?_
                    by_cases hj : j < P.cellsOf el
                    · rw [List.getElem?_take, if_pos hj, List.getElem?_drop, List.getElem?_drop]
                      have q5 := q4 j hj
                      have e2 : ci[j]? = some (ci[j]'(by omega)) := List.getElem?_eq_getElem (by omega)
                      rw [e2, hadd, hcell] at q5
                      rw [e2, Array.getElem?_toList]
                      exact q5
                    · rw [List.getElem?_eq_none (by rw [List.length_take]; omega), List.getElem?_eq_none (by omega)]
                  have hfit : ao + len * P.cellsOf el ≤ cc.size := by
                    rcases Nat.eq_zero_or_pos len with h0' | h0'
                    · rw [h0', Nat.zero_mul]; omega
                    · obtain ⟨-, -, -, q⟩ := helem (len - 1) (by omega)
                      have : (len - 1) * P.cellsOf el + P.cellsOf el = len * P.cellsOf el := by
                        rw [← Nat.succ_mul]; congr 1; omega
                      omega
                  obtain ⟨e1, h1, c1, r1, l1, x1, v1, a1⟩ := embedRow (z := P.cellsOf el) (ty := el) (cs := cc.toList.drop ao) len (by simp; omega) (fun i hi => by
                    obtain ⟨y, q1, q2, -⟩ := helem i hi
                    exact embed hsp hw n' m _ _ _ hp.2.1 q1 q2) e h0 r
                  have hc1 : c1.length = len * P.cellsOf el := by
                    have := v1.length
                    rw [List.length_take, List.length_drop, Array.length_toList] at this; omega
                  obtain ⟨e2, r2, l2, x2, q2⟩ := r1.addRo (sh := ao) (c := c1) hblk (by omega) (fun i v hi => by
                    obtain ⟨v', q1, q2⟩ := v1.get i v hi
                    refine ⟨v', ?_, q2⟩
                    rw [List.getElem?_take, List.getElem?_drop, Array.getElem?_toList] at q1
                    split at q1
                    · exact q1
                    · cases q1)
                  refine ⟨e2, _, [.slice (some ⟨h1.next, 0, none⟩) len cap], r2, Emb.le_trans l1 l2, x1.trans x2, .one (.slice h1.next 0 ⟨ab, ao, none⟩ len cap ⟨ab, ao, 0⟩ q2 hl (.inl rfl)), ?_⟩
                  unfold AR; rw [hu]
                  refine ⟨len, c1, .inr ⟨h1.next, 0, cap, c1, el0, none, true, rfl, by rw [AH.get_add, if_pos rfl], by rw [← hc1]; exact takeAt_all c1⟩, ⟨by omega, hwt⟩, hl, fun i hi => (a1 i hi).ext r1.wfH x2 _ _ _⟩
              | _ => cases g4
      | _ => cases hp
end
end
end Go.Proofs.Xx

/-
  From a law's contract over the checked run to the machine's call.
-/
namespace Go.Proofs.Xx
set_option linter.unusedSectionVars false
open Go Go.RowKit Go.WideShapes Go.ChangeShapes
set_option linter.unusedSimpArgs false
set_option linter.unusedVariables false

theorem VRs.one_inv {e : Emb} {r : List Value} {v : Value} (h : VRs e r [v]) : ∃ u, r = [u] ∧ VR e u v := by
  cases h with
  | cons u v' s s' h1 h2 => cases h2; exact ⟨u, rfl, h1⟩
section
variable {P : Program}
/-- A value of type t, by its cells. -/
def absV (P : Program) (t : TypeId) (r : List Value) : Value :=
  match P.underlying t with
  | some (.struct _) | some (.array _ _) => .agg r.toArray
  | _ => r.headD .nilFunc
theorem absV_ok {w : World} {rc : Reach} {b0 m : Nat} {t : TypeId} {v : Value} {e : Emb} {r : List Value} (hp : plainT P m t = true) (hval : Value.okWide P w rc b0 t v) (hv : VRs e r v.cells.toList) : VR e (absV P t r) v := by
  cases m with
  | zero => cases hp
  | succ m =>
    unfold plainT at hp
    unfold absV
    unfold Value.okWide at hval
    cases hu : P.underlying t with
    | none => rw [hu] at hp; cases hp
    | some u =>
      rw [hu] at hp hval
      cases u with
      | struct fs =>
        obtain ⟨cs, rfl, -⟩ := hval
        exact VR.agg (f := e) r cs.toList (by simpa [Value.cells] using hv)
      | array n el =>
        obtain ⟨cs, rfl, -⟩ := hval
        exact VR.agg (f := e) r cs.toList (by simpa [Value.cells] using hv)
      | bool =>
        have : ∃ b, v = .bool b := by cases v <;> simp_all [Cell.okWide, Cell.ok]
        obtain ⟨b, rfl⟩ := this
        obtain ⟨x, rfl, h1⟩ := VRs.one_inv (show VRs e r [.bool b] from hv)
        exact h1
      | int k =>
        have : ∃ k' b, v = .int k' b := by cases v <;> simp_all [Cell.okWide, Cell.ok]
        obtain ⟨k', b, rfl⟩ := this
        obtain ⟨x, rfl, h1⟩ := VRs.one_inv (show VRs e r [.int k' b] from hv)
        exact h1
      | string =>
        have : ∃ b, v = .string b := by cases v <;> simp_all [Cell.okWide, Cell.ok]
        obtain ⟨b, rfl⟩ := this
        obtain ⟨x, rfl, h1⟩ := VRs.one_inv (show VRs e r [.string b] from hv)
        exact h1
      | slice el =>
        have : ∃ a l c, v = .slice a l c := by cases v <;> simp_all [Cell.okWide, Cell.ok]
        obtain ⟨a, l, c, rfl⟩ := this
        obtain ⟨x, rfl, h1⟩ := VRs.one_inv (show VRs e r [.slice a l c] from hv)
        exact h1
      | _ => cases hp

/-- The values us, of types ts, read well in h. -/
def ArgsR (P : Program) (h : AH) : List TypeId → List Value → Prop
  | [], [] => True
  | t :: ts, u :: us => (∃ n r, AR P h n t r ∧ u = absV P t r) ∧ ArgsR P h ts us
  | _, _ => False
theorem ArgsR.ext {h h' : AH} (w : WfH h) (x : Ext h h') : ∀ (ts : List TypeId) (us : List Value), ArgsR P h ts us → ArgsR P h' ts us
  | [], [], q => q
  | t :: ts, u :: us, q => ⟨let ⟨n, r, h1, h2⟩ := q.1; ⟨n, r, h1.ext w x _ _ _, h2⟩, ArgsR.ext w x ts us q.2⟩
  | [], _ :: _, q => q.elim
  | _ :: _, [], q => q.elim

theorem ArgsR.cons_inv {h : AH} {t : TypeId} {ts : List TypeId} {us : List Value} (a : ArgsR P h (t :: ts) us) : ∃ n r us', us = absV P t r :: us' ∧ AR P h n t r ∧ ArgsR P h ts us' := by
  cases us with
  | nil => exact a.elim
  | cons u us =>
    obtain ⟨⟨n, r, h1, rfl⟩, h2⟩ := a
    exact ⟨n, r, us, rfl, h1, h2⟩
theorem ArgsR.nil_inv {h : AH} {us : List Value} (a : ArgsR P h [] us) : us = [] := by
  cases us with
  | nil => rfl
  | cons u us => exact a.elim

section
variable {H : Type} {enc : TypeId × Value → H}
theorem embedArgs [Glob] {w : World} {rc : Reach} {b0 base : Nat} {held : Bool} (hw : ∃ (k : Nat) (cc : Array Value) (el : TypeId) (fr : Nat × Nat), w.heap[k]? = some (.cells cc el fr)) : ∀ (ts : List TypeId) (vs : List Value) (ds : List (DataW H)) (ps : List MemPlace),
    ts.all (plainT P 20) = true → (∀ (j : Nat) t v, ts[j]? = some t → vs[j]? = some v → Value.okWide P w rc b0 t v) → DataW.TrodAll enc P w base (fun _ => true) held ts vs ds ps → (∀ n ∈ DataW.weightsEach P ts ds, n ≤ reachBytes) → ∀ e h, WRel w e h →
    ∃ e' h' us, WRel w e' h' ∧ e.le e' ∧ Ext h h' ∧ VRs e' us vs ∧ ArgsR P h' ts us
  | [], [], [], _, _, _, _, _, e, h, r => ⟨e, h, [], r, e.le_refl, Ext.refl r.wfH, .nil, trivial⟩
  | t :: ts, v :: vs, d :: ds, ps, hp, hval, hA, hz, e, h, r => by
    rw [DataW.weightsEach] at hz
    simp only [List.all_cons, Bool.and_eq_true] at hp
    obtain ⟨p, q, ⟨fuel, h1⟩, h2, rfl⟩ := hA
    obtain ⟨e1, g1, r1, w1, l1, x1, v1, a1⟩ := embed (fun _ => rfl) hw fuel 20 t _ _ hp.1 h1 (fun n hn => hz n (List.mem_append_left _ hn)) e h r
    obtain ⟨e2, g2, us, w2, l2, x2, v2, a2⟩ := embedArgs hw ts vs ds q hp.2 (fun j t v q1 q2 => hval (j + 1) t v (by simpa using q1) (by simpa using q2)) h2 (fun n hn => hz n (List.mem_append_right _ hn)) e1 g1 w1
    exact ⟨e2, g2, absV P t r1 :: us, w2, Emb.le_trans l1 l2, x1.trans x2, .cons _ _ _ _ (absV_ok hp.1 (hval 0 t v rfl rfl) (v1.mono l2)) v2, ⟨fuel, r1, a1.ext w1.wfH x2 _ _ _, rfl⟩, a2⟩
  | [], [], _ :: _, _, _, _, h, _, _, _, _ => h.elim
  | [], _ :: _, _, _, _, _, h, _, _, _, _ => h.elim
  | _ :: _, [], _, _, _, _, h, _, _, _, _ => h.elim
  | _ :: _, _ :: _, [], _, _, _, h, _, _, _, _ => h.elim

theorem light_app : ∀ {ts us : List TypeId} {ds gs : List (DataW H)}, (DataW.weightsEach P (ts ++ us) (ds ++ gs)).all (· ≤ reachBytes) = true → ∀ n ∈ DataW.weightsEach P ts ds, n ≤ reachBytes
  | [], _, _, _, _ => fun n hn => by simp [DataW.weightsEach] at hn
  | _ :: _, _, [], _, _ => fun n hn => by simp [DataW.weightsEach] at hn
  | t :: ts, us, d :: ds, gs, hz => fun n hn => by
    rw [List.cons_append, List.cons_append, DataW.weightsEach, List.all_append, Bool.and_eq_true] at hz
    rw [DataW.weightsEach] at hn
    rcases List.mem_append.1 hn with q | q
    · exact of_decide_eq_true (List.all_eq_true.1 hz.1 n q)
    · exact light_app hz.2 n q
/-- A LAW'S CALL: what its contract gives. -/
theorem law_calls [Glob] {X : Extern} (hm : P.follows .mixedOrders = true) (hX : XOk P X) (hN : ∀ (f : FuncId) (fn : Func), P.funcs[f]? = some fn → fn.body.isSome = true → (fn.name == "runtime.NumGoroutine") = false)
    {f : FuncId} {fn : Func} {body : Code} (hfn : P.funcs[f]? = some fn) (hb : fn.body = some body) (hXn : ∀ us h, X f us h = none) (hpl : fn.params.toList.all (plainT P 20) = true)
    (core : ∀ h us, WfH h → ArgsR P h fn.params.toList us → Fn P X f us h (fun x _ => x = .bool true))
    {w : World} {rc : Reach} {b0 : Nat} {args : Array Value} {ds : List (DataW H)} {ps : List MemPlace} (hg : Glob.ok w.heap.size w.heap) (hw : ∃ (k : Nat) (cc : Array Value) (el : TypeId) (fr : Nat × Nat), w.heap[k]? = some (.cells cc el fr))
    (hval : ∀ (j : Nat) t v, fn.params[j]? = some t → args[j]? = some v → Value.okWide P w rc b0 t v) (hA : DataW.TrodAll enc P w 0 (fun _ => true) true fn.params.toList args.toList ds ps) (hz : ∀ n ∈ DataW.weightsEach P fn.params.toList ds, n ≤ reachBytes) :
    Calls P f args w fun e w' => e = .returned (.bool true) ∧ Below w.heap.size w w' := by
  obtain ⟨e, h, us, r, -, -, v1, a1⟩ := embedArgs (P := P) hw fn.params.toList args.toList ds ps hpl (fun j t v q1 q2 => hval j t v (by simpa using q1) (by simpa using q2)) hA hz _ _ (WRel.empty hg)
  obtain ⟨n, v, h', hc, rfl⟩ := core h us r.wfH a1
  obtain ⟨e', v', w', r1, t1, hv, hcalls⟩ := callA_calls (exec_sound hm hX hN n) hc (hXn us h) hfn hb r.rel v1
  cases hv
  rw [Array.toArray_toList] at hcalls
  refine hcalls.mono fun en w'' ⟨q1, q2⟩ => ?_
  subst q2
  exact ⟨q1, t1.os, t1.tape, t1.output, t1.size, fun k hk => r1.keep k hk⟩
end
end
end Go.Proofs.Xx

/-
  Small lemmas for the rows.
-/
namespace Go.Proofs.Xx
set_option linter.unusedSectionVars false
open Go Go.RowKit Go.WideShapes Go.ChangeShapes
set_option linter.unusedSimpArgs false
set_option linter.unusedVariables false

section
variable {H : Type} {enc : TypeId × Value → H} {P : Program}
theorem trodAll_length {W : World} {base : Nat} {sp : Nat → Bool} {held : Bool} : ∀ {ts : List TypeId} {vs : List Value} {ds : List (DataW H)} {ps : List MemPlace}, DataW.TrodAll enc P W base sp held ts vs ds ps → ds.length = ts.length
  | [], [], [], _, _ => rfl
  | t :: ts, v :: vs, d :: ds, ps, h => by
    obtain ⟨p, q, _, h2, _⟩ := h
    simp [trodAll_length h2]
  | [], [], _ :: _, _, h => h.elim
  | [], _ :: _, _, _, h => h.elim
  | _ :: _, [], _, _, h => h.elim
  | _ :: _, _ :: _, [], _, h => h.elim

theorem post_of_below {f : Func} {s : ChangeSpec} {apart fresh handsOn again : Bool} {W W' : World} {args : Array Value} {v : Value} {ds gs : List (DataW H)} {before pa pv : List MemPlace}
    (hW : DataW.Whole enc P f.params.toList s.vars apart W args.toList ds gs before)
    (hres : ∀ (b : Nat) (sp : Nat → Bool) (hd : Bool), DataW.TrodAll enc P W' b sp hd f.resultTypes.toList (v.resultList f.resultTypes.size) (s.fn H (ds ++ gs)).results [])
    (hargs : ∀ sp : Nat → Bool, (∀ p ∈ before, sp p.block = true) → DataW.TrodAll enc P W' 0 sp true f.params.toList args.toList (s.fn H (ds ++ gs)).args pa)
    (hvars : ∀ sp : Nat → Bool, (∀ p ∈ before, sp p.block = true) → DataW.TrodVars enc P W' sp s.vars (s.fn H (ds ++ gs)).vars pv)
    (hps : before = pa ++ pv) (hb : Below W.heap.size W W')
    (hok : ∀ (j : Nat) (t : TypeId) (r : Value), f.resultTypes[j]? = some t → (v.resultList f.resultTypes.size)[j]? = some r → Value.okWide P W' .any 0 t r) :
    s.post enc P f apart fresh handsOn again W args v W' := by
  have hlt : ∀ p ∈ before, p.block < W.heap.size := fun p hp => hW.lt p hp
  have hold : ∀ p ∈ before, (fun b => decide (b < W.heap.size)) p.block = true := fun p hp => by simpa using hlt p hp
  refine ⟨ds, gs, before, [], pa, pv, hW, hres _ _ _, hargs _ hold, hvars _ hold, World.keptBut_mono (fun p hp => ⟨hp, ?_⟩) (hb.frame (· ∈ before)), fun _ => ?_⟩
  · rw [hps, List.mem_append] at hp
    exact Or.inr hp
  · obtain ⟨_, _, _, _, _, hz, hn⟩ := hW
    refine ⟨hok, _, _, ([] ++ pa) ++ pv, ⟨[] ++ pa, pv, trodAll_append (hargs _ (fun _ _ => rfl)) (hres _ _ _), hvars _ (fun _ _ => rfl), rfl, ?_, ?_⟩, ?_⟩
    · intro b off hp
      have hin : MemPlace.cell b off ∈ before := by rw [hps]; simpa using hp
      rw [hb.frozen (hlt _ hin)]
      exact hz b off hin
    · intro ha
      have := hn ha
      rw [hps] at this
      simpa using this
    · intro p hp _
      rw [hps]
      simpa using hp
end
end Go.Proofs.Xx

/-
  Arguments of a law, opened by their types.
-/
namespace Go.Proofs.Xx
set_option linter.unusedSectionVars false
open Go
set_option linter.unusedSimpArgs false
set_option linter.unusedVariables false

section
variable {P : Program} {h : AH}
theorem AR.int1 {n : Nat} {t : TypeId} {r : List Value} {k : IntKind} (a : AR P h n t r) (hu : P.underlying t = some (.int k)) : ∃ x : Int, r = [.int k x] ∧ (Lit.int k x).wf = true := by
  cases n with
  | zero => exact a.elim
  | succ n =>
    unfold AR at a
    rw [hu] at a
    split at a
    all_goals (first | exact a.elim | (rename_i q _; cases q; done) | (rename_i q; cases q; done) | skip)
    rename_i k0 k' x q
    cases q
    obtain ⟨rfl, h2⟩ := a
    exact ⟨x, rfl, h2⟩
theorem AR.struct1 {n : Nat} {t : TypeId} {r : List Value} {fs : Array Field} {m : List (Nat × TypeId)} {z : Nat} (a : AR P h n t r) (hu : P.underlying t = some (.struct fs)) (hm : fs.toList.map (fun f => (f.offset, f.type)) = m) (hz : P.cellsOf t = z) :
    ∃ n', r.length = z ∧ ∀ p ∈ m, AR P h n' p.2 ((r.drop p.1).take (P.cellsOf p.2)) := by
  cases n with
  | zero => exact a.elim
  | succ n =>
    unfold AR at a
    rw [hu] at a
    replace a : r.length = P.cellsOf t ∧ ∀ fd ∈ fs.toList, AR P h n fd.type ((r.drop fd.offset).take (P.cellsOf fd.type)) := a
    refine ⟨n, by rw [a.1, hz], fun p hp => ?_⟩
    rw [← hm, List.mem_map] at hp
    obtain ⟨fd, hf, rfl⟩ := hp
    exact a.2 fd hf
theorem pieces {α : Type} {z : Nat} {enc : α → List Value} {good : α → Prop} : ∀ (n : Nat) (c : List Value), c.length = n * z → (∀ i, i < n → ∃ y, (c.drop (i * z)).take z = enc y ∧ good y) → ∃ l : List α, l.length = n ∧ c = l.flatMap enc ∧ ∀ y ∈ l, good y
  | 0, c, hc, _ => ⟨[], rfl, by rw [Nat.zero_mul] at hc; rw [List.length_eq_zero_iff.1 hc]; rfl, fun y q => by cases q⟩
  | n + 1, c, hc, hk => by
    rw [Nat.add_mul, Nat.one_mul] at hc
    obtain ⟨y, h1, h2⟩ := hk 0 (by omega)
    obtain ⟨l, l1, l2, l3⟩ := pieces (z := z) (enc := enc) (good := good) n (c.drop z) (by rw [List.length_drop, hc]; omega) (fun i hi => by
      obtain ⟨y, q1, q2⟩ := hk (i + 1) (by omega)
      refine ⟨y, ?_, q2⟩
      rw [List.drop_drop, ← q1, Nat.add_mul, Nat.one_mul, Nat.add_comm z])
    rw [Nat.zero_mul, List.drop_zero] at h1
    refine ⟨y :: l, by simp [l1], ?_, fun x q => ?_⟩
    · rw [List.flatMap_cons, ← h1, ← l2, List.take_append_drop]
    · rcases List.mem_cons.1 q with rfl | q
      · exact h2
      · exact l3 x q
theorem AR.slice1w {α : Type} [Inhabited α] {n : Nat} {t e : TypeId} {r : List Value} {z : Nat} (enc : α → List Value) (good : α → Prop) (a : AR P h n t r) (hu : P.underlying t = some (.slice e)) (hz : P.cellsOf e = z) (hk : ∀ n cs, AR P h n e cs → ∃ y, cs = enc y ∧ good y) :
    ∃ v l, r = [v] ∧ RdL h v z enc l ∧ (l.length ≤ maxLen ∧ l.length * P.bytesOf e ≤ reachBytes) ∧ CapOk v ∧ ∀ i, i < l.length → good (l.getD i default) := by
  cases n with
  | zero => exact a.elim
  | succ n =>
    unfold AR at a
    rw [hu] at a
    split at a
    all_goals (first | exact a.elim | (rename_i q _; cases q; done) | (rename_i q; cases q; done) | skip)
    rename_i e' v q
    cases q
    obtain ⟨k, c, h1, h2, hc, h3⟩ := a
    rw [hz] at h1 h3
    obtain ⟨l, l1, l2, l3⟩ := pieces (enc := enc) (good := good) k c h1.length (fun i hi => hk n _ (h3 i hi))
    subst l1 l2
    refine ⟨v, l, rfl, h1, h2, hc, fun i hi => ?_⟩
    rw [List.getD_eq_getElem?_getD, List.getElem?_eq_getElem hi]
    exact l3 _ (List.getElem_mem hi)
theorem AR.slice1 {α : Type} [Inhabited α] {n : Nat} {t e : TypeId} {r : List Value} {z : Nat} (enc : α → List Value) (good : α → Prop) (a : AR P h n t r) (hu : P.underlying t = some (.slice e)) (hz : P.cellsOf e = z) (hk : ∀ n cs, AR P h n e cs → ∃ y, cs = enc y ∧ good y) :
    ∃ v l, r = [v] ∧ RdL h v z enc l ∧ l.length ≤ maxLen ∧ CapOk v ∧ ∀ i, i < l.length → good (l.getD i default) := by
  obtain ⟨v, l, h1, h2, h3, h4, h5⟩ := AR.slice1w enc good a hu hz hk
  exact ⟨v, l, h1, h2, h3.1, h4, h5⟩
theorem AR.ints1 {n : Nat} {t e : TypeId} {r : List Value} (a : AR P h n t r) (hu : P.underlying t = some (.slice e)) (he : P.underlying e = some (.int .i64)) (hc : P.cellsOf e = 1) :
    ∃ v l, r = [v] ∧ RdL h v 1 eI l ∧ l.length ≤ maxLen ∧ CapOk v := by
  obtain ⟨v, l, h1, h2, h3, h4, -⟩ := AR.slice1 eI (fun _ => True) a hu hc (fun n cs q => by
    obtain ⟨x, hx, -⟩ := q.int1 he
    exact ⟨x, hx, trivial⟩)
  exact ⟨v, l, h1, h2, h3, h4⟩
theorem AR.bytes1 {n : Nat} {t e : TypeId} {r : List Value} (a : AR P h n t r) (hu : P.underlying t = some (.slice e)) (he : P.underlying e = some (.int .u8)) (hc : P.cellsOf e = 1) :
    ∃ v l, r = [v] ∧ RdL h v 1 eU l ∧ l.length ≤ maxLen ∧ CapOk v ∧ ∀ i, i < l.length → l.getD i default < 256 :=
  AR.slice1 eU (fun x => x < 256) a hu hc (fun n cs q => by
    obtain ⟨x, hx, hw⟩ := q.int1 he
    have : 0 ≤ x ∧ x < 256 := by
      simp [Lit.wf, IntKind.min, IntKind.max, IntKind.signed, IntKind.bits] at hw
      omega
    refine ⟨x.toNat, ?_, by omega⟩
    rw [hx]; unfold eU; rw [Int.toNat_of_nonneg this.1])
end
end Go.Proofs.Xx

/-
  Numbers that a problem is made of, among the arguments; the core of ServiceMetric.
-/
namespace Go.Proofs.Xx
open Go Go.RowKit Go.Proofs
set_option linter.unusedSimpArgs false
set_option linter.unusedVariables false
set_option linter.unusedSectionVars false
set_option maxRecDepth 100000
theorem AR.e16s {h : AH} {n : Nat} {r : List Value} (a : AR Tryz.prog h n 23 r) : ∃ v l, r = [v] ∧ RdL h v 1 e16 l ∧ l.length ≤ maxLen ∧ CapOk v ∧ ∀ i, i < l.length → l.getD i default < 65536 :=
  AR.slice1 (e := 45) (z := 1) e16 (fun x => x < 65536) a (by kernel_rfl) (by kernel_rfl) (fun n cs q => by
    obtain ⟨x, hx, hw⟩ := q.int1 (k := .u16) (by kernel_rfl)
    have : 0 ≤ x ∧ x < 65536 := by
      simp [Lit.wf, IntKind.min, IntKind.max, IntKind.signed, IntKind.bits] at hw
      omega
    refine ⟨x.toNat, ?_, by omega⟩
    rw [hx]; unfold e16; rw [Int.toNat_of_nonneg this.1])
theorem AR.e32s {h : AH} {n : Nat} {r : List Value} (a : AR Tryz.prog h n 24 r) : ∃ v l, r = [v] ∧ RdL h v 1 e32 l ∧ l.length ≤ maxLen ∧ CapOk v ∧ ∀ i, i < l.length → l.getD i default < 4294967296 :=
  AR.slice1 (e := 111) (z := 1) e32 (fun x => x < 4294967296) a (by kernel_rfl) (by kernel_rfl) (fun n cs q => by
    obtain ⟨x, hx, hw⟩ := q.int1 (k := .u32) (by kernel_rfl)
    have : 0 ≤ x ∧ x < 4294967296 := by
      simp [Lit.wf, IntKind.min, IntKind.max, IntKind.signed, IntKind.bits] at hw
      omega
    refine ⟨x.toNat, ?_, by omega⟩
    rw [hx]; unfold e32; rw [Int.toNat_of_nonneg this.1])
theorem AR.e8s {h : AH} {n : Nat} {r : List Value} (a : AR Tryz.prog h n 22 r) : ∃ v l, r = [v] ∧ RdL h v 1 eU l ∧ l.length ≤ maxLen ∧ CapOk v ∧ ∀ i, i < l.length → l.getD i default < 256 :=
  AR.bytes1 (e := 5) a (by kernel_rfl) (by kernel_rfl) (by kernel_rfl)
theorem AR.u8n {h : AH} {n : Nat} {r : List Value} (a : AR Tryz.prog h n 5 r) : ∃ x : Nat, r = [.int .u8 x] ∧ x < 256 := by
  obtain ⟨x, hx, hw⟩ := a.int1 (k := .u8) (by kernel_rfl)
  have : 0 ≤ x ∧ x < 256 := by
    simp [Lit.wf, IntKind.min, IntKind.max, IntKind.signed, IntKind.bits] at hw
    omega
  exact ⟨x.toNat, by rw [hx, Int.toNat_of_nonneg this.1], by omega⟩
theorem AR.nums1 {h : AH} {n : Nat} {r : List Value} (a : AR Tryz.prog h n 26 r) : ∃ (v : NuV) (na nb nc nd : List Nat), r = v.cs ∧ NuR h v na nb nc nd := by
  obtain ⟨n', hl, hk⟩ := a.struct1 (m := [(0, 22), (1, 23), (2, 22), (3, 24)]) (z := 4) rfl (by kernel_rfl) (by kernel_rfl)
  match r, hl with
  | [x0, x1, x2, x3], _ =>
    obtain ⟨v0, l0, e0, r0, m0, c0, b0⟩ := AR.e8s (show AR Tryz.prog h n' 22 [x0] from hk (0, 22) (by simp))
    obtain ⟨v1, l1, e1, r1, m1, c1, b1⟩ := AR.e16s (show AR Tryz.prog h n' 23 [x1] from hk (1, 23) (by simp))
    obtain ⟨v2, l2, e2, r2, m2, c2, b2⟩ := AR.e8s (show AR Tryz.prog h n' 22 [x2] from hk (2, 22) (by simp))
    obtain ⟨v3, l3, e3, r3, m3, c3, b3⟩ := AR.e32s (show AR Tryz.prog h n' 24 [x3] from hk (3, 24) (by simp))
    obtain ⟨s0, rfl⟩ := r0.isSl
    obtain ⟨s1, rfl⟩ := r1.isSl
    obtain ⟨s2, rfl⟩ := r2.isSl
    obtain ⟨s3, rfl⟩ := r3.isSl
    cases e0; cases e1; cases e2; cases e3
    unfold maxLen at m0 m1 m2 m3
    exact ⟨⟨s0, s1, s2, s3⟩, l0, l1, l2, l3, rfl, ⟨r0, r1, c1, r2, r3, by omega, by omega, by omega, by omega, b0, b1, b2, b3⟩⟩
end Go.Proofs.Xx

/-
  Pairs of small numbers, among the arguments; the core of ServiceShortest.
-/
namespace Go.Proofs.Xx
open Go Go.RowKit Go.Proofs
set_option linter.unusedSimpArgs false
set_option linter.unusedVariables false
set_option linter.unusedSectionVars false
set_option maxRecDepth 100000
theorem AR.intsN {h : AH} {n : Nat} {r : List Value} (a : AR Tryz.prog h n 30 r) : ∃ v l, r = [v] ∧ RdL h v 1 eI l ∧ l.length ≤ maxLen ∧ CapOk v :=
  by
    obtain ⟨v, l, h1, h2, h3, h4⟩ := a.ints1 (e := 3) (by kernel_rfl) (by kernel_rfl) (by kernel_rfl)
    exact ⟨v, l, h1, h2, h3, h4⟩
end Go.Proofs.Xx

/-
  The core of ServiceFair.
-/
namespace Go.Proofs.Xx
open Go Go.RowKit Go.Proofs
set_option linter.unusedSimpArgs false
set_option linter.unusedVariables false
set_option linter.unusedSectionVars false
set_option maxRecDepth 100000
theorem serviceFair_core (h : AH) (us : List Value) (w : WfH h) (a : ArgsR Tryz.prog h Tryz.f5.params.toList us) : Fn Tryz.prog Xh 5 us h (fun x _ => x = .bool true) := by
  rw [show Tryz.f5.params.toList = [26, 23, 30, 5, 22] by kernel_rfl] at a
  obtain ⟨n0, r0, us, rfl, a0, a⟩ := a.cons_inv
  obtain ⟨n1, r1, us, rfl, a1, a⟩ := a.cons_inv
  obtain ⟨n2, r2, us, rfl, a2, a⟩ := a.cons_inv
  obtain ⟨n3, r3, us, rfl, a3, a⟩ := a.cons_inv
  obtain ⟨n4, r4, us, rfl, a4, a⟩ := a.cons_inv
  obtain rfl := a.nil_inv
  obtain ⟨v, na, nb, nc, nd, rfl, H⟩ := a0.nums1
  obtain ⟨va, la, rfl, ra, la1, ca, la2⟩ := a1.e16s
  obtain ⟨vb, lb, rfl, rb, lb1, cb⟩ := a2.intsN
  obtain ⟨x, rfl, hx⟩ := a3.u8n
  obtain ⟨vc, lc, rfl, rc, lc1, cc, lc2⟩ := a4.e8s
  unfold maxLen at la1 lb1 lc1
  exact serviceFair_true w v na nb nc nd H va la ra ca (by omega) la2 vb lb rb (by omega) x hx vc lc rc (by omega) lc2
end Go.Proofs.Xx

/-
  What lies in every world that fits: a number for the longest needle of a quick search; the functions that are known.
-/
namespace Go.Proofs.Xx
set_option linter.unusedSectionVars false
set_option linter.unusedVariables false
set_option linter.unusedSimpArgs false
open Go Go.RowKit Go.Proofs
def KN : List Nat := [12, 218, 164, 244, 227, 191, 176]
theorem Xh_none (f : FuncId) (hk : KN.all (fun n => !Nat.beq f n) = true) (us : List Value) (h : AH) : Xh f us h = none := by
  have e : ∀ n, n ∈ KN → Nat.beq f n = false := fun n q => by have := List.all_eq_true.1 hk n q; simpa using this
  unfold Xh withKnown Xa withGrow withDigits Xd withIns X0 withOvl withCmp externNoEscape
  simp only [e 12 (by decide), e 218 (by decide), e 164 (by decide), e 244 (by decide), e 227 (by decide), e 191 (by decide), e 176 (by decide)]
theorem max_there {W : World} (h : W.ShapedOpen Tryz.prog) : 1 < W.heap.size ∧ ∃ m el fr, W.heap[0]? = some (.cells #[.int .i64 m] el fr) := by
  have h0 : ((begin Tryz.prog (fun _ _ => 0) default).world.heap[0]?).bind Obj.row? = some (#[.int .i64 0], 3) := by kernel_rfl
  obtain ⟨m, hm⟩ := cell_of_shapedOpen_int h (g := 0) (t := 3) (of_decide_eq_true (by kernel_rfl)) h0 rfl (by kernel_rfl) (by kernel_rfl) Tryz.underlying3
  obtain ⟨cs, hh, hs, -⟩ := h.1 0 _ 3 (of_decide_eq_true (by kernel_rfl)) h0
  refine ⟨?_, m, 3, (0, 0), ?_⟩
  · have h1 : (((begin Tryz.prog (fun _ _ => 0) default).world.heap[1]?).bind Obj.row?).isSome = true := by kernel_rfl
    obtain ⟨⟨z, t⟩, h1⟩ := Option.isSome_iff_exists.1 h1
    obtain ⟨cs, hh, -⟩ := h.1 1 z t (of_decide_eq_true (by kernel_rfl)) h1
    exact (Array.getElem?_eq_some_iff.1 hh).1
  · rw [hh]
    have : cs = #[.int .i64 m] := by
      simp only [World.cell?, hh] at hm
      obtain ⟨l⟩ := cs
      match l, hs, hm with
      | [x], _, hm => simp at hm; rw [hm]
      | [], hs, _ => cases hs
      | _ :: _ :: _, hs, _ => simp at hs
    rw [this]
theorem cells_there {W : World} (h : W.ShapedOpen Tryz.prog) : ∃ (k : Nat) (cc : Array Value) (el : TypeId) (fr : Nat × Nat), W.heap[k]? = some (.cells cc el fr) := by
  obtain ⟨-, m, el, fr, q⟩ := max_there h
  exact ⟨0, _, el, fr, q⟩
end Go.Proofs.Xx
