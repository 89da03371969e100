/-
  The least sum of steps that joins all.
-/
import Derived.Test.YticddjokabmfmaaGreatDoorM12
import Derived.Test.YticddjokabmfmaaGreatDoorM10
import Derived.Test.YticddjokabmfmaaGreatDoorM7
namespace Go.Proofs.Xx
open Go Go.Proofs
set_option linter.unusedSimpArgs false
set_option linter.unusedVariables false
set_option linter.unusedSectionVars false
set_option maxRecDepth 100000
set_option maxHeartbeats 4000000
def Bst (d : Int → Int → Int) (L J : List Int) (i k best : Nat) (least : Int) : Prop :=
 (i = 0 ∧ k = 0 ∧ best = 0 ∧ least = -1) ∨ (best < L.length ∧ 0 ≤ least ∧ (∃ u ∈ J, least = d (L.getD best default) u) ∧ (∀ j, j < i → ∀ y ∈ J, least ≤ d (L.getD j default) y) ∧ ∀ m, m < k → least ≤ d (L.getD i default) (J.getD m default))
theorem Bst.new {d : Int → Int → Int} (m : Met d) {L J : List Int} {i k best : Nat} {least : Int} (h : Bst d L J i k best least) (hi : i < L.length) (hk : k < J.length) (hx : least < 0 ∨ d (L.getD i default) (J.getD k default) < least) :
 Bst d L J i (k + 1) i (d (L.getD i default) (J.getD k default)) := by
 refine .inr ⟨hi, m.nn _ _, ⟨_, mem_getD hk, rfl⟩, ?_, ?_⟩
 ·rcases h with ⟨rfl, -, -, -⟩ | ⟨-, h2, -, h4, -⟩
  ·exact fun j hj => absurd hj (Nat.not_lt_zero _)
  ·exact fun j hj y hy => by have := h4 j hj y hy; omega
 ·rcases h with ⟨-, rfl, -, -⟩ | ⟨-, h2, -, -, h5⟩
  ·intro j hj; rw [show j = 0 by omega]; exact Int.le_refl _
  ·exact nxtD (fun j hj => by have := h5 j hj; omega) (Int.le_refl _)
theorem Bst.old {d : Int → Int → Int} {L J : List Int} {i k best : Nat} {least : Int} (h : Bst d L J i k best least) (hx : ¬ least < 0) (hy : ¬ d (L.getD i default) (J.getD k default) < least) : Bst d L J i (k + 1) best least := by
 rcases h with ⟨-, -, -, rfl⟩ | ⟨h1, h2, h3, h4, h5⟩
 ·exact absurd (show (-1 : Int) < 0 by omega) hx
 ·exact .inr ⟨h1, h2, h3, h4, nxtD h5 (by omega)⟩
theorem Bst.row {d : Int → Int → Int} {L J : List Int} {i best : Nat} {least : Int} (h : Bst d L J i J.length best least) (hJ : J ≠ []) : Bst d L J (i + 1) 0 best least := by
 rcases h with ⟨-, h, -, -⟩ | ⟨h1, h2, h3, h4, h5⟩
 ·exact absurd (List.length_eq_zero_iff.1 h) hJ
 ·refine .inr ⟨h1, h2, h3, nxtD h4 fun y hy => ?_, fun m hm => absurd hm (Nat.not_lt_zero _)⟩
  obtain ⟨j, hj, rfl⟩ := mem_iff_getD.1 hy
  exact h5 j hj
theorem Bst.fin {d : Int → Int → Int} {L J : List Int} {best : Nat} {least : Int} (h : Bst d L J L.length 0 best least) (hL : 0 < L.length) : best < L.length ∧ 0 ≤ least ∧ ∃ u ∈ J, least = d (L.getD best default) u ∧ ∀ x ∈ L, ∀ y ∈ J, d (L.getD best default) u ≤ d x y := by
 rcases h with ⟨h, -, -, -⟩ | ⟨h1, h2, ⟨u, h3, h4⟩, h5, -⟩
 ·omega
 ·refine ⟨h1, h2, u, h3, h4, fun x hx y hy => ?_⟩
  obtain ⟨j, hj, rfl⟩ := mem_iff_getD.1 hx
  rw [← h4]; exact h5 j hj y hy
theorem erase_at {l : List Int} (nd : l.Nodup) {i : Nat} (hi : i < l.length) : l.take i ++ l.drop (i + 1) = l.erase (l.getD i default) := by
 induction l generalizing i with
 | nil => cases hi
 | cons x l ih =>
  rw [List.nodup_cons] at nd
  cases i with
  | zero => simp
  | succ i =>
   have hi' : i < l.length := by simpa using hi
   have hm : l.getD i default ∈ l := mem_getD hi'
   have e : (x :: l).getD (i + 1) default = l.getD i default := rfl
   rw [e, List.erase_cons_tail (by simp only [beq_iff_eq]; intro q; rw [← q] at hm; exact nd.1 hm), ← ih nd.2 hi']
   simp
end Go.Proofs.Xx
namespace Go.Proofs.Xx
set_option linter.unusedSectionVars false
set_option linter.unusedSimpArgs false
set_option linter.unusedVariables false
def exch (l : List Int) (a b : Nat) : List Int := (l.set a (l.getD b default)).set b (l.getD a default)
theorem exch_perm {l : List Int} {a b : Nat} (ha : a < l.length) (hb : b < l.length) : (exch l a b).Perm l := by
 have h := Array.swap_perm (xs := l.toArray) (i := a) (j := b) (by simpa using ha) (by simpa using hb)
 have e : (l.toArray.swap a b (by simpa using ha) (by simpa using hb)).toList = exch l a b := by
  unfold exch
  rw [Array.toList_swap]
  simp [List.getD_eq_getElem?_getD, ha, hb]
 rw [← e]
 exact (Array.perm_iff_toList_perm.1 h)
end Go.Proofs.Xx
namespace Go.Proofs.Xx
open Go Go.Proofs
set_option linter.unusedSimpArgs false
set_option linter.unusedVariables false
set_option linter.unusedSectionVars false
set_option maxRecDepth 100000
set_option maxHeartbeats 4000000
theorem Plates_ok {h0 : AH} (w : WfH h0) (pv : PbV) (p : Pb) (H : PbOk h0 pv p) (vq : Value) (q : List Int) (rq : RdL h0 vq 1 eI q) (hq : q.length ≤ 9223372036854775807) :
 Fn Tryz.prog Xh 13 [pv.val, vq] h0 (fun u h' => ((¬ (PO p ∧ PartOk p q) ∧ u = .slice none 0 0 ∧ Hs h0 h' []) ∨ (PO p ∧ PartOk p q ∧ Hs h0 h' [.sl u 3 1 eI (pltV p q)]))) := by
 have S := Hs.start w
 have hl := H.tab.len
 unfold PbV.val
 refine Fn_K (by first | rfl) Tryz.func13 rfl rfl ?_
 all_goals (repeat' (first | refine K_seq ?_ | (refine K_region (id := 0) ?_; (refine bx S ?_; clear S; intro b h S); refine mv ?_; refine KO_nil ?_)))
 obtain ⟨b2, hnm⟩ : ∃ x, x = b := ⟨_, rfl⟩; subst hnm
 all_goals (repeat' (first | (refine K_region (id := 1) ?_; refine lB S rfl rfl ?_; refine mv ?_)))
 (refine KO_fn rfl rfl rfl rfl rfl ((svalid_ok S.wf pv p (H.ext w S.ext) vq q (rq.ext w S.ext) hq).mono ?_); rintro _ h ⟨⟨rfl, hv⟩ | ⟨rfl, hv⟩, x⟩) <;> (replace S := S.join0 x; clear x; refine vl ?_; refine KO_nil ?_)
 ·obtain ⟨hp, hpq⟩ := hv
  have hql := hpq.ql hp
  have hqm := hpq.qm hl
  all_goals (repeat' (first | refine K_seq ?_ | refine k_cond rfl ?_ | refine K_skip ?_ | (refine K_region (id := 3) ?_; refine lB S rfl rfl ?_; refine mv ?_)))
  (refine KO_fn rfl rfl rfl rfl rfl ((splates_ok S.wf pv p (H.ext w S.ext) vq q (rq.ext w S.ext) (by omega) hqm).mono ?_); rintro vn h x) <;> (replace S := S.join1 x; clear x; refine mv ?_; refine KO_nil ?_)
  all_goals (repeat' (fail))
  refine K_ret ⟨_, rfl, ?_⟩
  exact .inr ⟨hp, hpq, S.only .here⟩
 ·all_goals (repeat' (first | refine K_seq ?_ | refine k_cond rfl ?_ | (refine K_region (id := 2) ?_; refine mv ?_; refine KO_nil ?_)))
  refine K_ret ⟨_, rfl, ?_⟩
  exact .inl ⟨hv, rfl, S.drop⟩
theorem lserved_ok {h0 : AH} (w : WfH h0) (vt : Value) (pl : List Int) (rp : RdL h0 vt 1 eI pl) (hll : pl.length ≤ 1000) :
 Fn Tryz.prog Xh 15 [vt] h0 (fun u h' => Hs h0 h' [.sl u 3 1 eI (srv pl)]) := by
 have S := Hs.start w
 refine Fn_K (by first | rfl) Tryz.func15 rfl rfl ?_
 all_goals (repeat' (first | refine K_seq ?_ | (refine K_region (id := 0) ?_; refine mv ?_; refine KO_nil ?_)))
 have S := S.nilS (e := 3) (z := 1) (enc := eI)
 all_goals (repeat' (first | refine K_seq ?_ | refine k_block ?_ | (refine K_region (id := 1) ?_; refine mv ?_; refine KO_nil ?_) | (refine K_region (id := 2) ?_; refine mv ?_; refine lnB S ?_; refine mv ?_; refine KO_nil ?_)))
 refine k_loop (σ := Nat × Value) (fun (i, vo) h' => Hs h0 h' [.sl vo 3 1 eI (srvN pl i)] ∧ i ≤ pl.length) (fun (i, vo) => pl.length - i) (fun (i, vo) => [(3, vo), (6, vt), (7, .int .i64 pl.length), (8, .int .i64 i)]) (0, .slice none 0 0) (by repeat (first | exact Ks.le_nil _ | refine Ks.le_cons rfl ?_)) ?_ ?_
 ·exact ⟨S, Nat.zero_le _⟩
 clear S
 rintro ⟨i, vo⟩ h ⟨S, g1⟩
 have hsl := (srvN_inc (pl := pl) (n := i)).2
 all_goals (repeat' (first | refine K_seq ?_ | refine k_cond rfl ?_ | refine K_skip ?_ | refine K_exit ?_ | refine k_block ?_ | (refine K_region (id := 3) ?_; (first | (refine cS ?_ ?_ <;> intro hc)) <;> (refine KO_nil ?_)) | (refine K_region (id := 4) ?_; refine mv ?_; refine ixB S ?_; refine lEB S ?_; refine mv ?_; refine mv ?_; refine KO_nil ?_)))
 ·obtain ⟨x, hx⟩ : ∃ x, pl.getD (i : Int).toNat default = x := ⟨_, rfl⟩
  rw [hx]
  replace hx : pl.getD i default = x := hx
  skip
  all_goals (repeat' (first | refine k_cond rfl ?_ | refine K_skip ?_ | (refine K_region (id := 5) ?_; refine mv ?_; (first | (refine cS ?_ ?_ <;> intro hc)) <;> (refine KO_nil ?_))))
  ·have key : srvN pl (i + 1) = srvN pl i ++ [(i : Int)] := by rw [srvN, if_pos (by omega)]
   all_goals (repeat' (first | (refine K_region (id := 6) ?_; refine mv ?_; refine mv ?_; (refine one 1 S ?_; clear S; intro u h S))))
   refine app (y0 := (i : Int)) S rfl rfl ?_; clear S; intro v h S; refine mv ?_; refine KO_nil ?_
   rw [← key] at S
   all_goals (repeat' (first | (refine K_region (id := 7) ?_; refine ad ?_; refine mv ?_; refine KO_nil ?_)))
   refine ⟨(i + 1, v), ?_, ?_, (by repeat (first | exact Ks.le_nil _ | refine Ks.le_cons rfl ?_))⟩
   ·show pl.length - (i + 1) < pl.length - i; omega
   ·exact ⟨S, by omega⟩
  ·have key : srvN pl (i + 1) = srvN pl i := by rw [srvN, if_neg (by omega)]
   all_goals (repeat' (first | (refine K_region (id := 7) ?_; refine ad ?_; refine mv ?_; refine KO_nil ?_)))
   rw [← key] at S
   refine ⟨(i + 1, vo), ?_, ?_, (by repeat (first | exact Ks.le_nil _ | refine Ks.le_cons rfl ?_))⟩
   ·show pl.length - (i + 1) < pl.length - i; omega
   ·exact ⟨S, by omega⟩
 ·all_goals (repeat' (first | (refine K_region (id := 8) ?_; refine mv ?_; refine mv ?_; refine KO_nil ?_)))
  refine K_ret ⟨_, rfl, ?_⟩
  obtain rfl : i = pl.length := by omega
  exact S
def e82 (x : Nat × Nat) : List Value := [.int .u8 x.1, .int .u8 x.2]
theorem exchanged_ok {h0 : AH} (w : WfH h0) (vw : Value) (l : List Int) (rw_ : RdL h0 vw 1 eI l) (hl : l.length ≤ 1000) (vsw : Value) (sw : List (Nat × Nat)) (rs : RdL h0 vsw 2 e82 sw) (cs : CapOk vsw) (hs : sw.length ≤ 9223372036854775807) (hb : ∀ i, i < sw.length → (sw.getD i default).1 < 256 ∧ (sw.getD i default).2 < 256) :
 Fn Tryz.prog Xh 14 [vw, vsw] h0 (fun u h' => ∃ l' : List Int, l'.Perm l ∧ Hs h0 h' [.sl u 3 1 eI l']) := by
 have S := Hs.start w
 refine Fn_K (by first | rfl) Tryz.func14 rfl rfl ?_
 all_goals (repeat' (first | refine K_seq ?_ | (refine K_region (id := 0) ?_; refine mv ?_; refine KO_nil ?_) | (refine K_region (id := 1) ?_; refine mv ?_)))
 (refine KO_fn rfl rfl rfl rfl rfl ((cloneI_ok S.wf vw l (rw_.ext w S.ext) (by omega)).mono ?_); rintro vo h x) <;> (replace S := S.join1 x; clear x; obtain ⟨so, rfl⟩ := S.sV vo; refine mv ?_; refine KO_nil ?_)
 obtain ⟨n, hn, hn1, hn2⟩ : ∃ n : Nat, min (sw.length : Int) 12 = n ∧ n ≤ sw.length ∧ n ≤ 12 := ⟨min sw.length 12, by omega, by omega, by omega⟩
 all_goals (repeat' (first | refine K_seq ?_ | (refine K_region (id := 2) ?_; refine mv ?_; refine mv ?_; refine lnB S ?_; refine mn ?_)))
 rw [hn]
 refine su0 0 n S w rs cs ?_; intro vm hrm hcm; ((refine lnB S ?_); refine mv ?_; refine KO_nil ?_)
 have hml : ((sw.drop 0).take (n - 0)).length = n := by simp; omega
 have hmv : ∀ i, i < n → (((sw.drop 0).take (n - 0)).getD i default).1 < 256 ∧ (((sw.drop 0).take (n - 0)).getD i default).2 < 256 := fun i q => by
  rw [List.drop_zero, Nat.sub_zero, getD_take (by omega)]; exact hb i (by omega)
 generalize (sw.drop 0).take (n - 0) = mre at hrm hml hmv ⊢
 all_goals (repeat' (refine k_block ?_))
 refine k_loop (σ := Nat × List Int) (fun (i, m) h' => Hs h0 h' [.sl so.val 3 1 eI m] ∧ i ≤ n ∧ m.Perm l) (fun (i, m) => n - i) (fun (i, m) => [(5, so.val), (17, vm), (18, .int .i64 n), (19, .int .i64 i)]) (0, l) (by repeat (first | exact Ks.le_nil _ | refine Ks.le_cons rfl ?_ | refine Ks.le_int ?_)) ?_ ?_
 ·exact ⟨S, Nat.zero_le _, .refl _⟩
 clear S
 rintro ⟨i, m⟩ h ⟨S, g1, g2⟩
 have hll := g2.length_eq
 all_goals (repeat' (first | refine K_seq ?_ | refine k_cond rfl ?_ | refine K_skip ?_ | refine K_exit ?_ | refine k_block ?_ | (refine K_region (id := 3) ?_; (first | (refine cS ?_ ?_ <;> intro hc)) <;> (refine KO_nil ?_)) | (refine K_region (id := 4) ?_; refine ixB S ?_; refine lEB S ?_; (refine al S ?_; clear S; intro b h S); (first | (refine sB S rfl rfl ?_; clear S; intro h S)); refine KO_nil ?_)))
 ·have hi : i < n := by omega
  have hv := hmv (i : Int).toNat (by omega)
  obtain ⟨x, hx⟩ : ∃ x, mre.getD (i : Int).toNat default = x := ⟨_, rfl⟩
  rw [hx] at hv S
  obtain ⟨x1, x2⟩ := x
  simp only at hv
  obtain ⟨b7, hnm⟩ : ∃ x, x = b := ⟨_, rfl⟩; subst hnm
  replace S : Hs h0 h [.blk b7 [.int .u8 x1, .int .u8 x2] 86, .sl so.val 3 1 eI m] := S
  skip
  all_goals (repeat' (first | refine K_seq ?_ | (refine K_region (id := 5) ?_; refine mv ?_; refine lnS S rfl rfl ?_; refine mv ?_; refine KO_nil ?_)))
  all_goals (repeat' (first | refine K_seq ?_ | refine k_cond rfl ?_ | refine K_skip ?_ | (refine K_region (id := 6) ?_; refine mv ?_; (first | (refine cS ?_ ?_ <;> intro hc)) <;> (refine KO_nil ?_))))
  ·have e1 := Int.emod_nonneg (x1 : Int) (show (m.length : Int) ≠ 0 by omega)
   have e2 := Int.emod_lt_of_pos (x1 : Int) (show (0 : Int) < (m.length : Int) by omega)
   have e3 := Int.emod_nonneg (x2 : Int) (show (m.length : Int) ≠ 0 by omega)
   have e4 := Int.emod_lt_of_pos (x2 : Int) (show (0 : Int) < (m.length : Int) by omega)
   all_goals (repeat' (first | (refine K_draw (id := 7) ?_; refine vl ?_; refine lB S rfl rfl ?_; refine cI ?_; refine mv ?_; refine rm ?_; refine vl ?_; refine lB S rfl rfl ?_; refine cI ?_; refine mv ?_; refine rm ?_; refine mv ?_; refine mv ?_; refine KO_nil ?_)))
   obtain ⟨A, hA⟩ : ∃ A : Nat, (x1 : Int) % (m.length : Int) = A := ⟨((x1 : Int) % (m.length : Int)).toNat, by omega⟩
   obtain ⟨B, hB⟩ : ∃ B : Nat, (x2 : Int) % (m.length : Int) = B := ⟨((x2 : Int) % (m.length : Int)).toNat, by omega⟩
   rw [hA] at e1 e2 ⊢
   rw [hB] at e3 e4 ⊢
   have hAl : A < m.length := by omega
   have hBl : B < m.length := by omega
   all_goals (repeat' (first | (refine K_draw (id := 8) ?_; refine mv ?_; refine mv ?_; refine mv ?_; refine mv ?_; refine mv ?_; refine mv ?_; refine ixS2 S rfl rfl ?_; refine lES2 S rfl rfl ?_; refine mv ?_; refine mv ?_; refine ixS2 S rfl rfl ?_; refine lES2 S rfl rfl ?_; refine ixS2 S rfl rfl ?_; (first | (refine sE2 S rfl rfl ?_; clear S; intro h S)); refine ixS2 S rfl rfl ?_; (first | (refine sE2 S rfl rfl ?_; clear S; intro h S)); refine KO_nil ?_) | (refine K_region (id := 9) ?_; refine ad ?_; refine mv ?_; refine KO_nil ?_)))
   refine ⟨(i + 1, exch m A B), ?_, ?_, (by repeat (first | exact Ks.le_nil _ | refine Ks.le_cons rfl ?_))⟩
   ·show n - (i + 1) < n - i; omega
   ·exact ⟨S.tail, by omega, (exch_perm hAl hBl).trans g2⟩
  ·all_goals (repeat' (first | (refine K_region (id := 9) ?_; refine ad ?_; refine mv ?_; refine KO_nil ?_)))
   refine ⟨(i + 1, m), ?_, ?_, (by repeat (first | exact Ks.le_nil _ | refine Ks.le_cons rfl ?_))⟩
   ·show n - (i + 1) < n - i; omega
   ·exact ⟨S.tail, by omega, g2⟩
 ·all_goals (repeat' (first | (refine K_region (id := 10) ?_; refine mv ?_; refine mv ?_; refine KO_nil ?_)))
  refine K_ret ⟨_, rfl, ?_⟩
  exact ⟨m, g2, S⟩
end Go.Proofs.Xx
namespace Go.Proofs.Xx
open Go Go.Proofs
set_option linter.unusedSimpArgs false
set_option linter.unusedVariables false
set_option linter.unusedSectionVars false
set_option maxRecDepth 100000
set_option maxHeartbeats 4000000
theorem rev_of {l m : List Int} (hl : m.length = l.length) (h : ∀ k, k < l.length → m.getD k default = l.getD (l.length - 1 - k) default) : m = l.reverse := by
 apply List.ext_getElem (by simp [hl])
 intro k h1 h2
 have := h k (by omega)
 rw [List.getD_eq_getElem?_getD, List.getElem?_eq_getElem h1, List.getD_eq_getElem?_getD, List.getElem?_eq_getElem (by omega)] at this
 rw [List.getElem_reverse]
 simpa using this
theorem rev_ok {h0 h : AH} {rs : List Rs} {v : Value} {l : List Int} (hl : l.length ≤ 1000000) (S : Hs h0 h (.sl v 3 1 eI l :: rs)) : Fn Tryz.prog Xh 11 [v] h (fun _ h' => Hs h0 h' (.sl v 3 1 eI l.reverse :: rs)) := by
 refine Fn_K (by first | rfl) Tryz.func11 rfl rfl ?_
 all_goals (repeat' (first | refine K_seq ?_ | refine k_block ?_ | (refine K_region (id := 0) ?_; refine mv ?_; refine lnS S rfl rfl ?_; refine sb ?_; refine mv ?_; refine mv ?_; refine KO_nil ?_)))
 refine k_loop (σ := Nat × Int × List Int) (fun (i, j, m) h' => Hs h0 h' (.sl v 3 1 eI m :: rs) ∧ m.length = l.length ∧ j = (l.length : Int) - 1 - i ∧ 2 * i ≤ l.length ∧ ∀ k, k < l.length → m.getD k default = if k < i ∨ l.length - i ≤ k then l.getD (l.length - 1 - k) default else l.getD k default) (fun (i, j, m) => l.length - i) (fun (i, j, m) => [(0, v), (2, .int .i64 i), (3, .int .i64 j)]) (0, (l.length : Int) - 1, l) (by repeat (first | exact Ks.le_nil _ | refine Ks.le_cons rfl ?_)) ?_ ?_
 ·refine ⟨S, rfl, by simp, by omega, fun k hk => by rw [if_neg (by omega)]⟩
 clear S
 rintro ⟨i, j, m⟩ h ⟨S, h1, hj, h2, h3⟩
 all_goals (repeat' (first | refine K_seq ?_ | refine k_cond rfl ?_ | refine K_skip ?_ | refine K_exit ?_ | refine k_block ?_ | (refine K_region (id := 1) ?_; refine mv ?_; refine mv ?_; (first | (refine cS ?_ ?_ <;> intro hc)) <;> (refine KO_nil ?_))))
 ·obtain ⟨jn, rfl⟩ := Int.eq_ofNat_of_zero_le (show 0 ≤ j by omega)
  have hjn : jn = l.length - 1 - i := by omega
  have q1 := h3 i (by omega)
  have q2 := h3 jn (by omega)
  rw [if_neg (by omega)] at q1 q2
  all_goals (repeat' (first | (refine K_region (id := 2) ?_; refine mv ?_; refine ad ?_; refine mv ?_; refine sb ?_; refine mv ?_; refine mv ?_; refine KO_nil ?_) | (refine K_draw (id := 3) ?_; refine mv ?_; refine mv ?_; refine mv ?_; refine mv ?_; refine mv ?_; refine mv ?_; refine ixS2 S rfl rfl ?_; refine lES2 S rfl rfl ?_; refine mv ?_; refine mv ?_; refine ixS2 S rfl rfl ?_; refine lES2 S rfl rfl ?_; refine ixS2 S rfl rfl ?_; (first | (refine sE2 S rfl rfl ?_; clear S; intro h S)); refine ixS2 S rfl rfl ?_; (first | (refine sE2 S rfl rfl ?_; clear S; intro h S)); refine KO_nil ?_)))
  refine ⟨(i + 1, (jn : Int) - 1, (m.set i (m.getD (jn : Int).toNat default)).set (jn : Int).toNat (m.getD (i : Int).toNat default)), ?_, ?_, (by repeat (first | exact Ks.le_nil _ | refine Ks.le_cons rfl ?_))⟩
  ·show l.length - (i + 1) < l.length - i; omega
  ·refine ⟨S, by simp [h1], by omega, by omega, fun k hk => ?_⟩
   show ((m.set i (m.getD jn default)).set jn (m.getD i default)).getD k default = _
   rw [List.getD_eq_getElem?_getD, List.getElem?_set]
   by_cases e1 : jn = k
   ·subst e1
    rw [if_pos rfl, if_pos (by simp; omega), if_pos (by omega)]
    show m.getD i default = _
    rw [q1]; congr 1; omega
   ·rw [if_neg e1, List.getElem?_set]
    by_cases e2 : i = k
    ·subst e2
     rw [if_pos rfl, if_pos (by omega), if_pos (by omega)]
     show m.getD jn default = _
     rw [q2]; congr 1
    ·rw [if_neg e2, ← List.getD_eq_getElem?_getD, h3 k hk]
     by_cases e3 : k < i ∨ l.length - i ≤ k
     ·rw [if_pos e3, if_pos (by omega)]
     ·rw [if_neg e3, if_neg (by omega)]
 ·refine ⟨_, rfl, ?_⟩
  have e : m = l.reverse := rev_of h1 fun k hk => by
   rw [h3 k hk]
   split
   ·rfl
   ·rw [show l.length - 1 - k = k by omega]
  rw [← e]
  exact S
end Go.Proofs.Xx
namespace Go.Proofs.Xx
open Go Go.Proofs
set_option linter.unusedSimpArgs false
set_option linter.unusedVariables false
set_option linter.unusedSectionVars false
set_option maxRecDepth 100000
set_option maxHeartbeats 4000000
theorem sorted_eq : ∀ {a b : List Int}, a.Perm b → a.Pairwise (· ≤ ·) → b.Pairwise (· < ·) → a = b
 | [], b, h, _, _ => (List.nil_perm.1 h).symm ▸ rfl
 | x :: a, [], h, _, _ => by have := h.length_eq; cases this
 | x :: a, y :: b, h, h1, h2 => by
  rw [List.pairwise_cons] at h1 h2
  have hx : x ∈ y :: b := h.mem_iff.1 (by simp)
  have hy : y ∈ x :: a := h.mem_iff.2 (by simp)
  have e : x = y := by
   rcases List.mem_cons.1 hx with q | q
   ·exact q
   ·rcases List.mem_cons.1 hy with r | r
    ·exact r.symm
    ·have := h2.1 x q
     have := h1.1 y r
     omega
  subst e
  rw [sorted_eq (h.cons_inv) h1.2 h2.2]
theorem bestW_ok {p : Pb} {q : List Int} (hp : PO p) : (bestW p q).1.Perm (srv (pltV p q)) ∧ (bestW p q).2 = tour (stp p.tabs) (bestW p q).1 ∧ ∀ c, c.Perm (srv (pltV p q)) → tour (stp p.tabs) (bestW p q).1 ≤ tour (stp p.tabs) c ∧ (tour (stp p.tabs) c = tour (stp p.tabs) (bestW p q).1 → ¬ lexL c (bestW p q).1) :=
 best_way (L := tour (stp p.tabs)) (fun c => plen_nn (stp_met p.tabs) c (-1) (-1)) srv_inc
theorem PlatesP_ok {h0 : AH} (w : WfH h0) (pv : PbV) (p : Pb) (H : PbOk h0 pv p) (hP : PO p) (vq : Value) (q : List Int) (rq : RdL h0 vq 1 eI q) (hQ : PartOk p q) :
 Fn Tryz.prog Xh 13 [pv.val, vq] h0 (fun u h' => Hs h0 h' [.sl u 3 1 eI (pltV p q)]) := by
 have := hQ.ql hP
 refine (Plates_ok w pv p H vq q rq (by omega)).mono ?_
 rintro u h (⟨hn, -, -⟩ | ⟨-, -, x⟩)
 ·exact absurd ⟨hP, hQ⟩ hn
 ·exact x
theorem routeP_ok {h0 : AH} (w : WfH h0) (pv : PbV) (p : Pb) (H : PbOk h0 pv p) (hP : PO p) (hl : p.tabs.length ≤ 9) (vq : Value) (q : List Int) (rq : RdL h0 vq 1 eI q) (hQ : PartOk p q) :
 Fn Tryz.prog Xh 28 [pv.val, vq] h0 (fun u h' => ∃ vw : SlV, u = .tuple #[vw.val, .int .i64 (bestW p q).2, .int .i64 0] ∧ RdL h' vw.val 1 eI (bestW p q).1 ∧ Hs h0 h' []) := by
 have := hQ.ql hP
 have hsl := srv_len (pl := pltV p q)
 rw [pltV_len] at hsl
 refine (route_ok w pv p H vq q rq (by omega)).mono ?_
 rintro u h ⟨⟨vw, way, n, e, rfl, r, (⟨hn, -⟩ | ⟨-, -, h9, -⟩ | ⟨-, -, -, rfl, hb⟩)⟩, x⟩
 ·exact absurd ⟨hP, hQ⟩ hn
 ·omega
 ·obtain ⟨rfl, rfl⟩ : way = (bestW p q).1 ∧ n = (bestW p q).2 := ⟨congrArg Prod.fst hb, congrArg Prod.snd hb⟩
  exact ⟨vw, rfl, r, x⟩
end Go.Proofs.Xx
namespace Go.Proofs.Xx
set_option linter.unusedSectionVars false
set_option linter.unusedSimpArgs false
set_option linter.unusedVariables false
def sumL (ld : Int → Int) : List Int → Int
 | [] => 0
 | t :: l => ld t + sumL ld l
theorem sumL_app {ld : Int → Int} : ∀ (a b : List Int), sumL ld (a ++ b) = sumL ld a + sumL ld b
 | [], b => by simp [sumL]
 | t :: a, b => by simp only [List.cons_append, sumL, sumL_app a b]; omega
theorem sumL_perm {ld : Int → Int} {a b : List Int} (h : a.Perm b) : sumL ld a = sumL ld b := by
 induction h with
 | nil => rfl
 | cons x h ih => simp only [sumL, ih]
 | swap x y l => simp only [sumL]; omega
 | trans h1 h2 i1 i2 => exact i1.trans i2
theorem sumL_nn {ld : Int → Int} : ∀ {l : List Int}, (∀ t ∈ l, 0 ≤ ld t) → 0 ≤ sumL ld l
 | [], _ => Int.le_refl _
 | t :: l, h => by
  have h1 := h t (by simp)
  have h2 := sumL_nn (l := l) fun x q => h x (List.mem_cons_of_mem _ q)
  simp only [sumL]; omega
theorem sumL_b {ld : Int → Int} {M : Int} : ∀ {l : List Int}, (∀ t ∈ l, ld t ≤ M) → sumL ld l ≤ M * l.length
 | [], _ => by simp [sumL]
 | t :: l, h => by
  have h1 := h t (by simp)
  have h2 := sumL_b (l := l) fun x q => h x (List.mem_cons_of_mem _ q)
  simp only [sumL, List.length_cons]; push_cast; rw [Int.mul_add]; omega
def seg (w : List Int) (i j : Nat) : List Int := (w.drop i).take (j - i)
theorem seg_len {w : List Int} {i j : Nat} (h : i ≤ j) (hj : j ≤ w.length) : (seg w i j).length = j - i := by simp [seg]; omega
theorem seg_mem {w : List Int} {i j : Nat} {t : Int} (h : t ∈ seg w i j) : t ∈ w := List.mem_of_mem_drop (List.mem_of_mem_take h)
theorem seg_drop {w : List Int} {i j : Nat} (h : i ≤ j) : seg w i j ++ w.drop j = w.drop i := by
 have := List.take_append_drop (j - i) (w.drop i)
 rw [List.drop_drop, show i + (j - i) = j by omega] at this
 exact this
theorem seg_nil {w : List Int} {i : Nat} : seg w i i = [] := by simp [seg]
theorem seg_succ {w : List Int} {i j : Nat} (h : i ≤ j) (hj : j < w.length) : seg w i (j + 1) = seg w i j ++ [w.getD j default] := by
 unfold seg
 rw [show j + 1 - i = (j - i) + 1 by omega, List.take_add_one, List.getElem?_drop, show i + (j - i) = j by omega, List.getElem?_eq_getElem hj, List.getD_eq_getElem?_getD, List.getElem?_eq_getElem hj]
 simp
def CutOk (ld : Int → Int) (k : Int) (c : List (List Int)) : Prop := ∀ p ∈ c, p ≠ [] ∧ sumL ld p ≤ k
def cost (d : Int → Int → Int) : List (List Int) → Int
 | [] => 0
 | p :: c => tour d p + cost d c
theorem cost_app {d : Int → Int → Int} : ∀ (a b : List (List Int)), cost d (a ++ b) = cost d a + cost d b
 | [], b => by simp [cost]
 | t :: a, b => by simp only [List.cons_append, cost, cost_app a b]; omega
def BestC (d : Int → Int → Int) (ld : Int → Int) (k : Int) (w : List Int) (i : Nat) (f : Int) : Prop := ∀ c, CutOk ld k c → c.flatten = w.drop i → f ≤ cost d c
theorem BestC.last {d : Int → Int → Int} (m : Met d) {ld : Int → Int} {k : Int} {w : List Int} : BestC d ld k w w.length 0 := fun c _ h => by
 rw [List.drop_length] at h
 induction c with
 | nil => exact Int.le_refl _
 | cons p c ih =>
  simp only [List.flatten_cons, List.append_eq_nil_iff] at h
  have h1 := plen_nn m p (-1) (-1)
  have h2 := ih (fun q hq => by rename_i hc; exact hc q (List.mem_cons_of_mem _ hq)) h.2
  show 0 ≤ tour d p + cost d c
  unfold tour; omega
theorem BestC.step {d : Int → Int → Int} {ld : Int → Int} {k : Int} {w : List Int} {i : Nat} {f : Int} {F : Nat → Int} (hi : i < w.length) (hF : ∀ j, i < j → j ≤ w.length → BestC d ld k w j (F j))
 (h : ∀ j, i < j → j ≤ w.length → sumL ld (seg w i j) ≤ k → f ≤ tour d (seg w i j) + F j) : BestC d ld k w i f := fun c hc e => by
 cases c with
 | nil =>
  have := congrArg List.length e
  simp at this; omega
 | cons p c =>
  obtain ⟨h1, h2⟩ := hc p (by simp)
  have hp : 0 < p.length := List.length_pos_iff.2 h1
  rw [List.flatten_cons] at e
  have el := congrArg List.length e
  simp only [List.length_append, List.length_drop] at el
  have es : seg w i (i + p.length) = p := by
   unfold seg
   rw [← e, show i + p.length - i = p.length by omega]
   simp
  have ed : c.flatten = w.drop (i + p.length) := by
   have := seg_drop (w := w) (i := i) (j := i + p.length) (by omega)
   rw [es, ← e] at this
   exact (List.append_cancel_left this).symm
  have h3 := h (i + p.length) (by omega) (by omega) (by rw [es]; exact h2)
  have h4 := hF (i + p.length) (by omega) (by omega) c (fun q hq => hc q (List.mem_cons_of_mem _ hq)) ed
  rw [es] at h3
  show f ≤ tour d p + cost d c
  omega
theorem seg_mono {ld : Int → Int} {w : List Int} {i j j' : Nat} (h0 : ∀ t ∈ w, 0 ≤ ld t) (h1 : i ≤ j) (h2 : j ≤ j') (h3 : j' ≤ w.length) : sumL ld (seg w i j) ≤ sumL ld (seg w i j') := by
 induction h2 with
 | refl => exact Int.le_refl _
 | @step n h ih =>
  have hn : n ≤ w.length := by simp at h3; omega
  rw [seg_succ (Nat.le_trans h1 h) (by simp at h3; omega), sumL_app]
  have := h0 (w.getD n default) (by
   rw [List.getD_eq_getElem?_getD, List.getElem?_eq_getElem (by simp at h3; omega)]
   exact List.getElem_mem _)
  have := ih hn
  simp only [sumL]; omega
theorem cost_ge {d : Int → Int → Int} (m : Met d) : ∀ (c : List (List Int)), tour d c.flatten ≤ cost d c
 | [] => by have := m.z (-1); simp [tour, plen, cost, this]
 | p :: c => by
  have h1 := tour_app m p c.flatten
  have h2 := cost_ge m c
  rw [List.flatten_cons]
  show _ ≤ tour d p + cost d c
  omega
end Go.Proofs.Xx
namespace Go.Proofs.Xx
open Go Go.Proofs
set_option linter.unusedSimpArgs false
set_option linter.unusedVariables false
set_option linter.unusedSectionVars false
set_option maxRecDepth 100000
section
variable {P : Program} {X : Extern} {sz : Nat} {L L' : Ks} {h h0 : AH} {rs : List Rs} {ops : Array Oper} {os : List Oper} {o : Oper} {R : Ks → AH → Prop}
theorem cpy {x y : Operand} {ty ty2 e e' : TypeId} {zc : List Value} {vd u : Value} {l m : List Int} {d : Tmp} (S : Hs h0 h (.sl vd e 1 eI l :: rs)) (hr : RdL h u 1 eI m) (hc : CapOk u) (hl : 1 ≤ l.length) (hm : l.length ≤ m.length)
 (w : ∀ h', Hs h0 h' (.sl vd e 1 eI (m.take l.length) :: rs) → KO P X sz ops os (L.put d (.int .i64 l.length)) h' R) (ho : o.op = .call { callee := .builtin .copy, args := #[x, y], argTypes := #[ty, ty2] } := by exact rfl) (hg : guardA ops L.tree o.guard = some true := by exact rfl)
 (hx : kA L x = some vd := by exact rfl) (hy : kA L y = some u := by exact rfl) (hs : sliceElem P ty = some e' := by exact rfl) (hz : zeroCellsT P e' = some zc := by exact rfl) (hzl : zc.length = 1 := by exact rfl) (hdst : o.dst = some d := by exact rfl) (hds : Nat.blt d sz = true := by exact rfl) : KO P X sz ops (o :: os) L h R := by
 obtain ⟨fp, k1, k2, k3⟩ := S.sep
 rcases k1 with ⟨-, rfl⟩ | ⟨b, oo, cc, slk, cap, e1, g1, fb, t1, c1, s1⟩
 ·simp at hl
 rcases hr with ⟨-, h1, -⟩ | ⟨b2, o2, c2, cc2, e2, s2, r2, rfl, g2, t2⟩
 ·omega
 subst e1
 obtain ⟨N, hN⟩ : ∃ N, l.length = N := ⟨_, rfl⟩
 rw [hN] at t1 c1 hx hl hm
 have hmin : Nat.min m.length N = N := by simp only [Nat.min_def]; split <;> omega
 have hnew : (m.take N).flatMap eI = (m.flatMap eI).take (N * 1) := (flatMap_take (z := 1) (enc := eI) (by intro _; rfl) m N)
 have hnl : ((m.take N).flatMap eI).length = N := by rw [flatMap_length (z := 1) (enc := eI) (by intro _; rfl), List.length_take]; omega
 have rsub : Rd h (.slice (some ⟨b2, o2, none⟩) (Nat.min m.length N) c2) 1 N ((m.take N).flatMap eI) := by
  rw [hmin]
  refine .inr ⟨b2, o2, c2, cc2, e2, s2, r2, rfl, g2, ?_⟩
  have := takeAt_sub (i := 0) (m := N * 1) t2 (by omega)
  rw [hnew]
  simpa using this
 have hsrc := rsub.source
 have hfit : oo + ((m.take N).flatMap eI).length ≤ cc.length := by rw [hnl]; omega
 have hcap : m.length ≤ c2 := hc
 have hone : ((m.take N).flatMap eI).all one? = true := by
  rw [List.all_eq_true]
  intro x hx
  obtain ⟨y, -, hy⟩ := List.mem_flatMap.1 hx
  simp [eI] at hy
  subst hy; rfl
 rw [hmin] at hsrc
 have hput : putCells h b oo cc e slk ((m.take N).flatMap eI) = some (h.put b (.cells (splice cc oo ((m.take N).flatMap eI)) e slk false)) := by
  unfold putCells
  simp only [Nat.ble_eq_true_of_le hfit, hone, Bool.and_self]
 refine KO_val (v := .int .i64 N) (h' := h.put b (.cells (splice cc oo ((m.take N).flatMap eI)) e slk false)) hg ?_ (by simp only [putK, hdst, hds, hN]) (w _ ?_)
 ·rw [ho]
  have ha : aCopy P ty (.slice (some ⟨b, oo, none⟩) N cap) (.slice (some ⟨b2, o2, none⟩) m.length c2) h = some (.int .i64 N, h.put b (.cells (splice cc oo ((m.take N).flatMap eI)) e slk false)) := by
   unfold aCopy
   simp only [hs, hz, hzl, Nat.ble_eq_true_of_le hl, Nat.ble_eq_true_of_le (show 1 ≤ m.length by omega), Nat.ble_eq_true_of_le hcap, Bool.and_self, hsrc, g1, hput, hmin]
  simp [aOp, tree_le hx, tree_le hy, evAll, aBuiltin, ha, nextOf2]
 ·have hTl : (m.take N).length = N := by rw [List.length_take]; omega
  rw [hN] at S ⊢
  refine S.turn .here (Nat.le_refl _) (S.wf.put (S.wf.lt g1) _) fun fq p1 p2 => ?_
  rcases p1 with ⟨p1, -⟩ | ⟨b3, o3, cc3, sl3, cap3, p1, -, p3, -⟩
  ·cases p1
  obtain rfl : b3 = b := by cases p1; rfl
  refine ⟨fun j _ hf => by rw [AH.get_put, if_neg]; intro q; subst q; exact hf p3, fun j => j = b3, .inr ⟨b3, oo, _, slk, cap, by rw [hTl], by rw [AH.get_put, if_pos rfl], rfl, ?_, ⟨by rw [hTl]; exact c1.1, ?_⟩, s1⟩, fun j hj => ?_⟩
  ·rw [hTl]
   refine takeAt_ext (by rw [hnl]; omega) ?_ fun j hj => ?_
   ·rw [splice_length _ _ _ hfit]; omega
   ·rw [splice_get _ _ _ hfit, if_neg (by omega), if_pos (by omega)]
    congr 1; omega
  ·rw [splice_length _ _ _ hfit]; exact c1.2
  ·subst hj; exact ⟨S.wf.lt g1, .inl p3⟩
end
abbrev ownR {α : Type} (f : α → Rs) (l : List α) : Rs := .any (fun h fp => Star h (l.map f) fp)
theorem Star.snoc_ {h : AH} {r : Rs} {fp : Fp} (hr : r.ok h fp) : ∀ {l : List Rs} {U : Fp}, Star h l U → (∀ b, fp b → ¬ U b) → Star h (l ++ [r]) (fun b => U b ∨ fp b)
 | [], U, _, _ => ⟨fp, hr, fun b hb => .inr hb, trivial⟩
 | x :: l, U, ⟨fx, h1, h2, h3⟩, hd => ⟨fx, h1, fun b hb => .inl (h2 b hb), (Star.snoc_ hr h3 fun b hb q => hd b hb q.1).mono fun b hb => by
  rcases hb with hb | hb
  ·exact ⟨.inl hb.1, hb.2⟩
  ·exact ⟨.inr hb, fun q => hd b hb (h2 b q)⟩⟩
section
variable {α : Type} {f : α → Rs} {h0 h : AH} {rs : List Rs} {gs : List α} {g : α}
theorem Hs.owNil (S : Hs h0 h rs) : Hs h0 h (ownR f [] :: rs) := S.anyS fun h' => trivial
theorem Hs.owApp (S : Hs h0 h (f g :: ownR f gs :: rs)) : Hs h0 h (ownR f (gs ++ [g]) :: rs) := by
 obtain ⟨f1, k1, k2, f2, k3, k4, k5⟩ := S.sep
 refine ⟨S.ext, fun b => f2 b ∨ f1 b, fun h' q => ?_, fun b hb => ?_, k5.mono fun b hb => ⟨trivial, fun q => ?_⟩⟩
 ·rw [List.map_append]
  exact Star.snoc_ (k1.local fun b hb => q b (.inr hb)) (k3 h' fun b hb => q b (.inl hb)) fun b hb q => (k4 b q).2.2.2 hb
 ·rcases hb with hb | hb
  ·exact ⟨(k4 b hb).1, (k4 b hb).2.1, trivial⟩
  ·exact k2 b hb
 ·rcases q with q | q
  ·exact hb.2 q
  ·exact hb.1.2 q
theorem Star.get_ {r : Rs} : ∀ {l : List Rs} {U : Fp}, Star h l U → r ∈ l → ∃ fp, r.ok h fp
 | x :: l, U, ⟨fx, h1, h2, h3⟩, hr => by
  rcases List.mem_cons.1 hr with rfl | hr
  ·exact ⟨fx, h1⟩
  ·exact Star.get_ h3 hr
theorem sl_rdL_ {α : Type} {v : Value} {e : TypeId} {z : Nat} {enc : α → List Value} {l : List α} {h : AH} {fp : Fp} (k : (Rs.sl v e z enc l).ok h fp) : RdL h v z enc l := by
 rcases k with ⟨rfl, rfl⟩ | ⟨b, o, cc, slk, cap, h1, h2, h3, h4, -⟩
 ·exact .inl ⟨rfl, rfl, rfl⟩
 ·exact .inr ⟨b, o, _, cc, e, slk, false, h1, h2, h4⟩
theorem Sep.front_ {lo : Nat} {r : Rs} {l2 : List Rs} : ∀ {l1 : List Rs} {V : Fp}, Sep lo h (l1 ++ r :: l2) V → Sep lo h (r :: (l1 ++ l2)) V
 | [], _, k => k
 | x :: l1, V, ⟨fx, h1, h2, h3⟩ => by
  obtain ⟨fr, k1, k2, k3⟩ := Sep.front_ h3
  exact ⟨fr, k1, fun b hb => ⟨(k2 b hb).1, (k2 b hb).2.1, (k2 b hb).2.2.1⟩, fx, h1, fun b hb => ⟨(h2 b hb).1, (h2 b hb).2.1, (h2 b hb).2.2, fun q => (k2 b q).2.2.2 hb⟩, k3.mono fun b hb => ⟨⟨hb.1.1, hb.2⟩, hb.1.2⟩⟩
theorem Sep.back_ {lo : Nat} {r : Rs} {l2 : List Rs} : ∀ {l1 : List Rs} {V : Fp}, Sep lo h (r :: (l1 ++ l2)) V → Sep lo h (l1 ++ r :: l2) V
 | [], _, k => k
 | x :: l1, V, ⟨fr, k1, k2, fx, h1, h2, k3⟩ =>
  ⟨fx, h1, fun b hb => ⟨(h2 b hb).1, (h2 b hb).2.1, (h2 b hb).2.2.1⟩, Sep.back_ ⟨fr, k1, fun b hb => ⟨(k2 b hb).1, (k2 b hb).2.1, (k2 b hb).2.2, fun q => (h2 b q).2.2.2 hb⟩, k3.mono fun b hb => ⟨⟨hb.1.1, hb.2⟩, hb.1.2⟩⟩⟩
theorem Hs.owFlat (S : Hs h0 h (ownR f gs :: rs)) : Hs h0 h (gs.map f ++ rs) := by
 obtain ⟨U, k1, k2, k3⟩ := S.sep
 exact ⟨S.ext, Star.sep (k1 h fun _ _ => rfl) k2 k3⟩
theorem Hs.owPack (S : Hs h0 h (gs.map f ++ rs)) : Hs h0 h (ownR f gs :: rs) := by
 obtain ⟨U, k1, k2, k3⟩ := Sep.star S.sep
 exact ⟨S.ext, U, fun h' q => k1.local q, k2, k3⟩
theorem Hs.owOpen [Inhabited α] (S : Hs h0 h (ownR f gs :: rs)) {i : Nat} (hi : i < gs.length) : Hs h0 h (f (gs.getD i default) :: ownR f (gs.take i ++ gs.drop (i + 1)) :: rs) := by
 have S := S.owFlat
 have e : gs = gs.take i ++ gs.getD i default :: gs.drop (i + 1) := by
  rw [List.getD_eq_getElem?_getD, List.getElem?_eq_getElem hi, Option.getD_some, ← List.drop_eq_getElem_cons hi, List.take_append_drop]
 have S2 : Hs h0 h ((gs.take i).map f ++ f (gs.getD i default) :: ((gs.drop (i + 1)).map f ++ rs)) := by
  have := S; rw [e] at this
  simpa using this
 have S3 : Hs h0 h (f (gs.getD i default) :: ((gs.take i).map f ++ ((gs.drop (i + 1)).map f ++ rs))) := ⟨S.ext, Sep.front_ S2.sep⟩
 obtain ⟨fp, k1, k2, k3⟩ := S3.sep
 refine ⟨S.ext, fp, k1, k2, ?_⟩
 rw [← List.append_assoc, ← List.map_append] at k3
 obtain ⟨U, q1, q2, q3⟩ := Sep.star k3
 exact ⟨U, fun h' q => q1.local q, q2, q3⟩
theorem Hs.owShut {i : Nat} (S : Hs h0 h (f g :: ownR f (gs.take i ++ gs.drop (i + 1)) :: rs)) (hi : i < gs.length) : Hs h0 h (ownR f (gs.set i g) :: rs) := by
 obtain ⟨fp, k1, k2, U, q1, q2, q3⟩ := S.sep
 have k3 := Star.sep (q1 h fun _ _ => rfl) q2 q3
 rw [List.map_append, List.append_assoc] at k3
 have S2 : Hs h0 h ((gs.take i).map f ++ f g :: ((gs.drop (i + 1)).map f ++ rs)) := ⟨S.ext, Sep.back_ ⟨fp, k1, k2, k3⟩⟩
 refine Hs.owPack ?_
 rw [List.set_eq_take_append_cons_drop, if_pos hi]
 simpa using S2
end
end Go.Proofs.Xx
namespace Go.Proofs.Xx
open Go Go.Proofs
set_option linter.unusedSimpArgs false
set_option linter.unusedVariables false
set_option linter.unusedSectionVars false
set_option maxRecDepth 100000
set_option maxHeartbeats 4000000
def ldP (pl : List Int) (t : Int) : Int := pl.getD t.toNat default
theorem ldP_b {p : Pb} {q : List Int} (t : Int) : 0 ≤ ldP (pltV p q) t ∧ ldP (pltV p q) t ≤ q.length := pltV_nn
theorem sum_ok {h0 : AH} (w : WfH h0) (vp : Value) (pl : List Int) (rp : RdL h0 vp 1 eI pl) (vt : Value) (l : List Int) (rt : RdL h0 vt 1 eI l) (hl : l.length ≤ 1000000) (ht : ∀ t ∈ l, 0 ≤ t ∧ t < pl.length) (hb : ∀ t, 0 ≤ ldP pl t ∧ ldP pl t ≤ 1000) :
 Fn Tryz.prog Xh 47 [vp, vt] h0 (fun u h' => u = .int .i64 (sumL (ldP pl) l) ∧ Hs h0 h' []) := by
 have S := Hs.start w
 refine Fn_K (by first | rfl) Tryz.func47 rfl rfl ?_
 all_goals (repeat' (first | refine K_seq ?_ | refine k_block ?_ | (refine K_region (id := 0) ?_; refine mv ?_; refine KO_nil ?_) | (refine K_region (id := 1) ?_; refine mv ?_; refine KO_nil ?_) | (refine K_region (id := 2) ?_; refine mv ?_; refine lnB S ?_; refine mv ?_; refine KO_nil ?_)))
 refine k_loop (σ := Nat) (fun i h' => Hs h0 h' [] ∧ i ≤ l.length) (fun i => l.length - i) (fun i => [(0, vp), (5, .int .i64 (sumL (ldP pl) (l.take i))), (8, vt), (9, .int .i64 l.length), (10, .int .i64 i)]) 0 (by repeat (first | exact Ks.le_nil _ | refine Ks.le_cons rfl ?_)) ?_ ?_
 ·exact ⟨S, Nat.zero_le _⟩
 clear S
 rintro i h ⟨S, g1⟩
 all_goals (repeat' (first | refine K_seq ?_ | refine k_cond rfl ?_ | refine K_skip ?_ | refine K_exit ?_ | refine k_block ?_ | (refine K_region (id := 3) ?_; (first | (refine cS ?_ ?_ <;> intro hc)) <;> (refine KO_nil ?_)) | (refine K_region (id := 4) ?_; refine ixB S ?_; refine lEB S ?_; refine mv ?_; refine KO_nil ?_)))
 ·obtain ⟨x, hx⟩ : ∃ x, l.getD (i : Int).toNat default = x := ⟨_, rfl⟩
  rw [hx]
  replace hx : l.getD i default = x := hx
  have hi : i < l.length := by omega
  have hxm := ht x (by rw [← hx]; exact mem_getD hi)
  have key : l.take (i + 1) = l.take i ++ [x] := by
   rw [List.take_add_one, List.getElem?_eq_getElem hi, ← hx, List.getD_eq_getElem?_getD, List.getElem?_eq_getElem hi]
   rfl
  have b1 := sumL_b (ld := ldP pl) (M := 1000) (l := l.take i) fun t _ => (hb t).2
  have b2 := sumL_nn (ld := ldP pl) (l := l.take i) fun t _ => (hb t).1
  rw [List.length_take, Nat.min_eq_left g1] at b1
  have b3 := hb x
  have ks : sumL (ldP pl) (l.take (i + 1)) = sumL (ldP pl) (l.take i) + ldP pl x := by rw [key, sumL_app]; simp [sumL]
  replace b3 : 0 ≤ pl.getD x.toNat default ∧ pl.getD x.toNat default ≤ 1000 := b3
  replace ks : sumL (ldP pl) (l.take (i + 1)) = sumL (ldP pl) (l.take i) + pl.getD x.toNat default := ks
  skip
  all_goals (repeat' (first | (refine K_region (id := 5) ?_; refine mv ?_; refine mv ?_; refine mv ?_; refine ixB S ?_; refine lEB S ?_; refine ad ?_; refine mv ?_; refine KO_nil ?_) | (refine K_region (id := 6) ?_; refine ad ?_; refine mv ?_; refine KO_nil ?_)))
  refine ⟨i + 1, ?_, ?_, (by repeat (first | exact Ks.le_nil _ | refine Ks.le_cons rfl ?_ | refine Ks.le_int ?_))⟩
  ·show l.length - (i + 1) < l.length - i; omega
  ·exact ⟨S, by omega⟩
 ·all_goals (repeat' (first | (refine K_region (id := 7) ?_; refine mv ?_; refine mv ?_; refine KO_nil ?_)))
  refine K_ret ⟨_, rfl, ?_⟩
  obtain rfl : i = l.length := by omega
  rw [List.take_of_length_le (Nat.le_refl _)]
  exact ⟨rfl, S⟩
structure B3 where
 s : Int
 t : Int
 e : Int
instance : Inhabited B3 := ⟨⟨0, 0, 0⟩⟩
def e3 (x : B3) : List Value := [.int .i64 x.s, .int .i64 x.t, .int .i64 x.e]
structure Tr_ where
 tv : SlV
 ta : List Int
 pl : Int
 st : Int
instance : Inhabited Tr_ := ⟨⟨⟨none, 0, 0⟩, [], 0, 0⟩⟩
def eTr (x : Tr_) : List Value := [x.tv.val, .int .i64 x.pl, .int .i64 x.st]
abbrev slTr (x : Tr_) : Rs := .sl x.tv.val 3 1 eI x.ta
theorem List.take_append_drop_take {l : List Int} {i e : Nat} : l.take i ++ (l.drop i).take (e - i) = l.take (i + (e - i)) := by
 rw [List.take_add]
theorem nodup_ne {l : List Int} (h : l.Nodup) {i j : Nat} (hij : i < j) (hj : j < l.length) : l.getD i default ≠ l.getD j default := by
 rw [List.getD_eq_getElem?_getD, List.getD_eq_getElem?_getD, List.getElem?_eq_getElem (by omega), List.getElem?_eq_getElem hj]
 exact List.pairwise_iff_getElem.1 h i j (by omega) hj hij
structure FrI (p : Pb) (ld : Int → Int) (k : Int) (way : List Int) (m : Nat) (F : List B3) : Prop where
 len : F.length = way.length + 1
 best : ∀ j, m ≤ j → j ≤ way.length → BestC (stp p.tabs) ld k way j (F.getD j default).s
 last : (F.getD way.length default).s = 0
 bnd : ∀ j, j ≤ way.length → (0 ≤ (F.getD j default).s ∧ (F.getD j default).s ≤ 4000 * (way.length - j : Int)) ∧ 0 ≤ (F.getD j default).t ∧ (F.getD j default).t ≤ (way.length - j : Int)
 stp_ : ∀ j, m ≤ j → j < way.length → ∃ e : Nat, (F.getD j default).e = e ∧ j < e ∧ e ≤ way.length ∧ sumL ld (seg way j e) ≤ k ∧ (F.getD j default).s = tour (stp p.tabs) (seg way j e) + (F.getD e default).s
theorem getD_set3 {F : List B3} {i j : Nat} {x : B3} (hi : i < F.length) : (F.set i x).getD j default = if i = j then x else F.getD j default := by
 rw [List.getD_eq_getElem?_getD, List.getElem?_set]
 by_cases e : i = j
 ·subst e; rw [if_pos rfl, if_pos hi, if_pos rfl]; rfl
 ·rw [if_neg e, if_neg e, ← List.getD_eq_getElem?_getD]
theorem trips_ok {h0 : AH} (w : WfH h0) (pv : PbV) (p : Pb) (H : PbOk h0 pv p) (hP : PO p) (vq : Value) (q : List Int) (rq : RdL h0 vq 1 eI q) (hQ : PartOk p q) (hl9 : p.tabs.length ≤ 9) (vw : Value) (way : List Int) (rw_ : RdL h0 vw 1 eI way) (cw : CapOk vw) (hw : way.Perm (srv (pltV p q))) (k : Int) (hk : 1 ≤ k ∧ k ≤ 1000) :
 Fn Tryz.prog Xh 16 [pv.val, vq, vw, .int .i64 k] h0 (fun u h' => ((∃ t ∈ way, k < ldP (pltV p q) t) ∧ u = .tuple #[.slice none 0 0, .int .i64 110] ∧ Hs h0 h' []) ∨
  ((∀ t ∈ way, ldP (pltV p q) t ≤ k) ∧ ∃ vL ts, u = .tuple #[vL, .int .i64 0] ∧ Hs h0 h' [.sl vL 56 3 eTr ts, ownR slTr ts] ∧ CutOk (ldP (pltV p q)) k (ts.map (·.ta)) ∧ (ts.map (·.ta)).flatten = way ∧ (∀ x ∈ ts, x.pl = sumL (ldP (pltV p q)) x.ta ∧ x.st = tour (stp p.tabs) x.ta) ∧ BestC (stp p.tabs) (ldP (pltV p q)) k way 0 (cost (stp p.tabs) (ts.map (·.ta))))) := by
 have S := Hs.start w
 have hq64 := hQ.ql hP
 have hqm := hQ.qm H.tab.len
 have hsl := srv_len (pl := pltV p q)
 rw [pltV_len] at hsl
 have nd0 : (srv (pltV p q)).Nodup := srv_inc.imp fun h => Int.ne_of_lt h
 have hsr := srv_in (p := p) (q := q)
 have nw : way.Nodup := hw.symm.nodup nd0
 have hwl : way.length ≤ 9 := by have := hw.length_eq; omega
 have hwr : ∀ t ∈ way, 0 ≤ t ∧ t < p.tabs.length := fun t ht => hsr t (hw.mem_iff.1 ht)
 have hpl := pltV_len (p := p) (q := q)
 have hld := ldP_b (p := p) (q := q)
 have met := stp_met p.tabs
 unfold PbV.val
 refine Fn_K (by first | rfl) Tryz.func16 rfl rfl ?_
 all_goals (repeat' (first | refine K_seq ?_ | (refine K_region (id := 0) ?_; (refine bx S ?_; clear S; intro b h S); refine mv ?_; refine mv ?_; refine KO_nil ?_)))
 obtain ⟨b4, hnm⟩ : ∃ x, x = b := ⟨_, rfl⟩; subst hnm
 all_goals (repeat' (first | (refine K_region (id := 1) ?_; refine lB S rfl rfl ?_; refine mv ?_)))
 (refine KO_fn rfl rfl rfl rfl rfl ((partP_ok S.wf pv p (H.ext w S.ext) hP vq q (rq.ext w S.ext) hQ).mono ?_); rintro _ h ⟨i, rfl, x⟩) <;> (replace S := S.join0 x; clear x; refine mv ?_; refine vl ?_; refine vl ?_; refine mv ?_; refine mv ?_; refine KO_nil ?_)
 all_goals (repeat' (first | refine K_seq ?_ | refine k_cond rfl ?_ | refine K_skip ?_ | (refine K_region (id := 2) ?_; refine mv ?_; (refine cF ?_) <;> (refine KO_nil ?_))))
 all_goals (repeat' (first | refine K_seq ?_ | refine k_cond rfl ?_ | refine K_skip ?_ | (refine K_region (id := 4) ?_; refine mv ?_; (refine cF ?_) <;> (refine KO_nil ?_))))
 (repeat (refine K_seq ?_)); refine K_drawX (id := 6) [(3, (0, 1))] [some (b4)] ?_; refine KX_cons ?_; (first | (refine lB S rfl rfl ?_ <;> refine KO_nil ⟨⟨by (first | exact True.intro), rfl⟩, ?_⟩)); refine KX_cons ?_; (first | (refine mv ?_ <;> refine KO_nil ⟨⟨by (first | exact True.intro), rfl⟩, ?_⟩))
 ((refine KX_cons ?_; first | refine KO_fn rfl rfl rfl rfl rfl ((sserved_ok S.wf pv p (H.ext w S.ext) vq q (rq.ext w S.ext) (by omega) hqm).mono ?_)); rintro vst h x) <;> ((refine KO_nil ⟨⟨True.intro, ?_⟩, ?_⟩; (focus ((show keepsX _ _ _ _ _; simp only [keepsX]; (repeat' (first | exact True.intro | refine And.intro ?_ ?_)); all_goals (intro hw; first | exact x.ext.old _ S.bB))))); replace S := S.join1 x; clear x; refine KX_cons ?_; (first | (refine lB S rfl rfl ?_ <;> refine KO_nil ⟨⟨by (first | exact Or.inr rfl), rfl⟩, ?_⟩)); refine KX_cons ?_; (first | (refine mv ?_ <;> refine KO_nil ⟨⟨by (first | exact True.intro), rfl⟩, ?_⟩)))
 ((refine KX_cons ?_; first | refine KO_fn rfl rfl rfl rfl rfl ((splates_ok S.wf pv p (H.ext w S.ext) vq q (rq.ext w S.ext) (by omega) hqm).mono ?_)); rintro vp h x) <;> ((refine KO_nil ⟨⟨True.intro, ?_⟩, ?_⟩; (focus ((show keepsX _ _ _ _ _; simp only [keepsX]; (repeat' (first | exact True.intro | refine And.intro ?_ ?_)); all_goals (intro hw; first | exact absurd hw (by decide +kernel)))))); replace S := S.join1 x; clear x; refine KX_cons ?_; (first | (refine mv ?_ <;> refine KO_nil ⟨⟨by (first | exact True.intro), rfl⟩, ?_⟩)); refine KX_cons ?_; (first | (refine mv ?_ <;> refine KO_nil ⟨⟨by (first | exact True.intro), rfl⟩, ?_⟩)); refine KX_nil ?_)
 obtain ⟨stops, hst⟩ : ∃ stops, srv (pltV p q) = stops := ⟨_, rfl⟩
 obtain ⟨pl, hpe⟩ : ∃ pl, pltV p q = pl := ⟨_, rfl⟩
 rw [hst, hpe] at S
 rw [hst] at hw hsl
 have hs6 : stops.length ≤ 1000000 := by omega
 rw [hpe] at hpl hld ⊢
 have hld2 : ∀ t, 0 ≤ ldP pl t ∧ ldP pl t ≤ 1000 := fun t => by have := hld t; omega
 replace S : Hs h0 h [.sl vp 3 1 eI pl, .sl vst 3 1 eI stops, .blk b4 pv.cs 33] := S
 all_goals (repeat' (first | refine K_seq ?_ | refine k_block ?_ | (refine K_region (id := 7) ?_; refine mv ?_; refine lnB S ?_; refine mv ?_; refine KO_nil ?_)))
 refine k_loop (σ := Nat) (fun i h' => Hs h0 h' [.sl vp 3 1 eI pl, .sl vst 3 1 eI stops, .blk b4 pv.cs 33] ∧ i ≤ way.length) (fun i => way.length - i) (fun i => [(1, vq), (2, vw), (3, .int .i64 k), (4, .pointer (some ⟨b4, 0, none⟩)), (12, vst), (13, vp), (43, vw), (44, .int .i64 way.length), (45, .int .i64 i)]) 0 (by repeat (first | exact Ks.le_nil _ | refine Ks.le_cons rfl ?_)) ?_ ?_
 ·exact ⟨S, Nat.zero_le _⟩
 clear S
 rintro i h ⟨S, g1⟩
 all_goals (repeat' (first | refine K_seq ?_ | refine k_cond rfl ?_ | refine K_skip ?_ | refine K_exit ?_ | refine k_block ?_ | (refine K_region (id := 8) ?_; (first | (refine cS ?_ ?_ <;> intro hc)) <;> (refine KO_nil ?_)) | (refine K_region (id := 9) ?_; refine mv ?_; refine ixB S ?_; refine lEB S ?_; refine mv ?_; refine mv ?_; refine KO_nil ?_)))
 ·obtain ⟨t, ht⟩ : ∃ t, way.getD (i : Int).toNat default = t := ⟨_, rfl⟩
  rw [ht]
  replace ht : way.getD i default = t := ht
  have hi : i < way.length := by omega
  have htm : t ∈ way := by rw [← ht]; exact mem_getD hi
  skip
  all_goals (repeat' (first | (refine K_region (id := 10) ?_; refine mv ?_; refine mv ?_)))
  (refine KO_fn rfl rfl rfl rfl rfl ((containsI_ok S.wf vst stops (Rd.of_sl S (.there .here)) hs6 t).mono ?_); rintro _ h ⟨⟨rfl, hq⟩ | ⟨rfl, hq⟩, x⟩) <;> (replace S := S.join0 x; clear x; refine vl ?_; refine mv ?_; (first | refine off ?_ | refine mv ?_); (first | refine off ?_ | refine mv ?_); (first | (refine off ?_; refine off ?_; (first | (refine off ?_; refine vl ?_; refine KO_nil ?_))) | skip))
  rotate_left
  ·exact absurd (mem_iff_getD.1 (hw.mem_iff.1 htm)) hq
  refine su0 0 i S w rw_ cw ?_; intro vm hrm hcm; ((refine mv ?_); (skip))
  have hnm2 : t ∉ (way.drop 0).take (i - 0) := by
   rw [List.drop_zero, Nat.sub_zero]
   intro q
   obtain ⟨j, hj, e⟩ := mem_iff_getD.1 q
   rw [List.length_take] at hj
   rw [getD_take (by omega)] at e
   exact nodup_ne nw (show j < i by omega) hi (by rw [e, ht])
  have hvl : ((way.drop 0).take (i - 0)).length ≤ 1000000 := by rw [List.length_take]; omega
  (refine KO_fn rfl rfl rfl rfl rfl ((containsI_ok S.wf vm _ (hrm.ext w S.ext) hvl t).mono ?_); rintro _ h ⟨⟨rfl, hq2⟩ | ⟨rfl, hq2⟩, x⟩) <;> (replace S := S.join0 x; clear x; refine vl ?_; refine KO_nil ?_)
  ·exact absurd (mem_iff_getD.2 hq2) hnm2
  all_goals (repeat' (first | refine k_cond rfl ?_ | refine K_skip ?_ | (refine K_region (id := 12) ?_; refine ad ?_; refine mv ?_; refine KO_nil ?_)))
  refine ⟨i + 1, ?_, ?_, (by repeat (first | exact Ks.le_nil _ | refine Ks.le_cons rfl ?_))⟩
  ·show way.length - (i + 1) < way.length - i; omega
  ·exact ⟨S, by omega⟩
 clear g1
 all_goals (repeat' (first | refine k_block ?_ | (refine K_region (id := 13) ?_; refine mv ?_; refine lnB S ?_; refine mv ?_; refine KO_nil ?_)))
 refine k_loop (σ := Nat) (fun i h' => Hs h0 h' [.sl vp 3 1 eI pl, .sl vst 3 1 eI stops, .blk b4 pv.cs 33] ∧ i ≤ way.length ∧ ∀ j, j < i → ldP pl (way.getD j default) ≤ k) (fun i => way.length - i) (fun i => [(1, vq), (2, vw), (3, .int .i64 k), (4, .pointer (some ⟨b4, 0, none⟩)), (12, vst), (13, vp), (62, vw), (63, .int .i64 way.length), (64, .int .i64 i)]) 0 (by repeat (first | exact Ks.le_nil _ | refine Ks.le_cons rfl ?_)) ?_ ?_
 ·exact ⟨S, Nat.zero_le _, fun j hj => absurd hj (Nat.not_lt_zero _)⟩
 clear S
 rintro i h ⟨S, g1, g2⟩
 all_goals (repeat' (first | refine K_seq ?_ | refine k_cond rfl ?_ | refine K_skip ?_ | refine K_exit ?_ | refine k_block ?_ | (refine K_region (id := 14) ?_; (first | (refine cS ?_ ?_ <;> intro hc)) <;> (refine KO_nil ?_)) | (refine K_region (id := 15) ?_; refine ixB S ?_; refine lEB S ?_; refine mv ?_; refine KO_nil ?_)))
 ·obtain ⟨t, ht⟩ : ∃ t, way.getD (i : Int).toNat default = t := ⟨_, rfl⟩
  rw [ht]
  replace ht : way.getD i default = t := ht
  have hi : i < way.length := by omega
  have htm : t ∈ way := by rw [← ht]; exact mem_getD hi
  have htb := hwr t htm
  skip
  all_goals (repeat' (first | refine K_seq ?_ | refine k_cond rfl ?_ | refine K_skip ?_ | (refine K_region (id := 16) ?_; refine mv ?_; refine mv ?_; refine ixS2 S rfl rfl ?_; refine lES2 S rfl rfl ?_; refine mv ?_; (first | (refine cS ?_ ?_ <;> intro hc)) <;> (refine KO_nil ?_))))
  ·all_goals (repeat' (first | (refine K_region (id := 17) ?_; refine mv ?_; refine mv ?_; refine KO_nil ?_)))
   refine K_ret ⟨_, rfl, ?_⟩
   exact .inl ⟨⟨t, htm, by unfold ldP; omega⟩, rfl, S.drop⟩
  ·all_goals (repeat' (first | (refine K_region (id := 18) ?_; refine ad ?_; refine mv ?_; refine KO_nil ?_)))
   refine ⟨i + 1, ?_, ?_, (by repeat (first | exact Ks.le_nil _ | refine Ks.le_cons rfl ?_))⟩
   ·show way.length - (i + 1) < way.length - i; omega
   ·exact ⟨S, by omega, nxtD g2 (by rw [ht]; unfold ldP; omega)⟩
 have hle : ∀ t ∈ way, ldP pl t ≤ k := fun t ht => by
  obtain ⟨j, hj, rfl⟩ := mem_iff_getD.1 ht
  exact g2 j (by omega)
 clear g1 g2
 all_goals (repeat' (first | (refine K_region (id := 19) ?_; refine mv ?_; refine lnB S ?_; refine ad ?_)))
 refine m_make (z := 3) (by_ := 24) (enc := e3) (y0 := ⟨0, 0, 0⟩) S rfl rfl rfl rfl rfl rfl rfl rfl rfl (by intro _; rfl) (by first | omega) rfl rfl ?_; clear S; intro v h S; obtain ⟨vf, rfl⟩ := S.sV v; (refine mv ?_; refine KO_nil ?_)
 have e19 : ((way.length : Int) + 1).toNat = way.length + 1 := by omega
 rw [e19] at S
 have fr0 : FrI p (ldP pl) k way way.length (List.replicate (way.length + 1) ⟨0, 0, 0⟩) := by
  have hz : ∀ j, j ≤ way.length → (List.replicate (way.length + 1) (⟨0, 0, 0⟩ : B3)).getD j default = ⟨0, 0, 0⟩ := fun j hj => by
   rw [List.getD_eq_getElem?_getD, List.getElem?_replicate, if_pos (by omega)]; rfl
  refine ⟨by simp, fun j h1 h2 => ?_, by rw [hz _ (Nat.le_refl _)], fun j hj => ?_, fun j h1 h2 => by omega⟩
  ·obtain rfl : j = way.length := by omega
   rw [hz _ (Nat.le_refl _)]
   exact BestC.last met
  ·rw [hz j hj]; dsimp only; omega
 all_goals (repeat' (first | refine K_seq ?_ | refine k_block ?_ | (refine K_region (id := 20) ?_; refine mv ?_; refine lnB S ?_; refine sb ?_; refine mv ?_; refine KO_nil ?_)))
 refine k_loop (σ := Nat × List B3) (fun (m, F) h' => Hs h0 h' [.sl vf.val 90 3 e3 F, .sl vp 3 1 eI pl, .sl vst 3 1 eI stops, .blk b4 pv.cs 33] ∧ m ≤ way.length ∧ FrI p (ldP pl) k way m F) (fun (m, F) => m) (fun (m, F) => [(1, vq), (2, vw), (3, .int .i64 k), (4, .pointer (some ⟨b4, 0, none⟩)), (13, vp), (18, vf.val), (19, .int .i64 ((m : Int) - 1))]) (way.length, List.replicate (way.length + 1) ⟨0, 0, 0⟩) (by repeat (first | exact Ks.le_nil _ | refine Ks.le_cons rfl ?_)) ?_ ?_
 ·exact ⟨S, Nat.le_refl _, fr0⟩
 clear S fr0
 rintro ⟨m, F⟩ h ⟨S, g1, g2⟩
 have hFl := g2.len
 dsimp only
 all_goals (repeat' (first | refine K_seq ?_ | refine k_cond rfl ?_ | refine K_skip ?_ | refine K_exit ?_ | refine k_block ?_ | (refine K_region (id := 21) ?_; refine mv ?_; (first | (refine cS ?_ ?_ <;> intro hc)) <;> (refine KO_nil ?_))))
 ·obtain ⟨i, rfl⟩ : ∃ i, m = i + 1 := ⟨m - 1, by omega⟩
  rw [show ((i + 1 : Nat) : Int) - 1 = (i : Int) by omega]
  have hi : i < way.length := by omega
  (repeat (refine K_seq ?_)); refine K_region (id := 23) ?_; refine mv ?_; refine mv ?_; refine ixS2 S rfl rfl ?_; refine fS S rfl rfl ?_; refine sE2 (y := (⟨(F.getD (i : Int).toNat default).s, (F.getD (i : Int).toNat default).t, -1⟩ : B3)) S rfl rfl ?_; clear S; intro h S; refine KO_nil ?_
  replace S : Hs h0 h [.sl vf.val 90 3 e3 (F.set i ⟨(F.getD i default).s, (F.getD i default).t, -1⟩), .sl vp 3 1 eI pl, .sl vst 3 1 eI stops, .blk b4 pv.cs 33] := S
  skip
  all_goals (repeat' (first | refine K_seq ?_ | refine k_block ?_ | (refine K_region (id := 24) ?_; refine mv ?_; refine ad ?_; refine mv ?_; refine KO_nil ?_)))
  refine k_loop (σ := Nat × B3) (fun (kk, xb) h' => Hs h0 h' [.sl vf.val 90 3 e3 (F.set i xb), .sl vp 3 1 eI pl, .sl vst 3 1 eI stops, .blk b4 pv.cs 33] ∧ i < kk ∧ kk ≤ way.length + 1 ∧ (∀ j, i < j → j < kk → sumL (ldP pl) (seg way i j) ≤ k) ∧ ((kk = i + 1 ∧ xb = ⟨(F.getD i default).s, (F.getD i default).t, -1⟩) ∨ (i + 1 < kk ∧ (∃ e : Nat, xb.e = e ∧ i < e ∧ e ≤ way.length ∧ sumL (ldP pl) (seg way i e) ≤ k ∧ xb.s = tour (stp p.tabs) (seg way i e) + (F.getD e default).s ∧ xb.t = 1 + (F.getD e default).t) ∧ ∀ j, i < j → j < kk → xb.s ≤ tour (stp p.tabs) (seg way i j) + (F.getD j default).s))) (fun (kk, xb) => way.length + 1 - kk) (fun (kk, xb) => [(1, vq), (2, vw), (3, .int .i64 k), (4, .pointer (some ⟨b4, 0, none⟩)), (13, vp), (18, vf.val), (19, .int .i64 i), (20, .int .i64 kk)]) (i + 1, ⟨(F.getD i default).s, (F.getD i default).t, -1⟩) (by repeat (first | exact Ks.le_nil _ | refine Ks.le_cons rfl ?_)) ?_ ?_
  ·exact ⟨S, by omega, by omega, fun j h1 h2 => by omega, .inl ⟨rfl, rfl⟩⟩
  clear S
  rintro ⟨kk, xb⟩ h ⟨S, f1, f2, f3, f4⟩
  have hwi := hwr _ (mem_getD hi)
  have fin3 : (∀ j, kk ≤ j → j ≤ way.length → ¬ sumL (ldP pl) (seg way i j) ≤ k) → FrI p (ldP pl) k way i (F.set i xb) := fun hn => by
   have hgs : ∀ j, (F.set i xb).getD j default = if i = j then xb else F.getD j default := fun j => getD_set3 (by omega)
   have one : sumL (ldP pl) (seg way i (i + 1)) ≤ k := by
    rw [seg_succ (Nat.le_refl _) hi, seg_nil, List.nil_append]
    have := hle _ (mem_getD hi)
    simp only [sumL]; omega
   obtain ⟨f5, ⟨e, e1, e2, e3_, e4, e5, e6⟩, f8⟩ : i + 1 < kk ∧ (∃ e : Nat, xb.e = e ∧ i < e ∧ e ≤ way.length ∧ sumL (ldP pl) (seg way i e) ≤ k ∧ xb.s = tour (stp p.tabs) (seg way i e) + (F.getD e default).s ∧ xb.t = 1 + (F.getD e default).t) ∧ ∀ j, i < j → j < kk → xb.s ≤ tour (stp p.tabs) (seg way i j) + (F.getD j default).s := by
    rcases f4 with ⟨f5, -⟩ | f5
    ·exact absurd one (hn (i + 1) (by omega) (by omega))
    ·exact f5
   have hb3 := g2.bnd e e3_
   have htb := tour_b hP.tabs (l := seg way i e) fun t ht => (hwr t (seg_mem ht)).2
   rw [seg_len (by omega) e3_] at htb
   refine ⟨by rw [List.length_set]; exact hFl, fun j h1 h2 => ?_, ?_, fun j h1 => ?_, fun j h1 h2 => ?_⟩
   ·rw [hgs j]
    by_cases e : i = j
    ·subst e
     rw [if_pos rfl]
     refine BestC.step (F := fun j => (F.getD j default).s) hi (fun j h3 h4 => g2.best j (by omega) h4) fun j h3 h4 h5 => f8 j h3 ?_
     rcases Nat.lt_or_ge j kk with r | r
     ·exact r
     ·exact absurd h5 (hn j r h4)
    ·rw [if_neg e]; exact g2.best j (by omega) h2
   ·rw [hgs, if_neg (by omega)]; exact g2.last
   ·rw [hgs j]
    by_cases e : i = j
    ·subst e; rw [if_pos rfl]; omega
    ·rw [if_neg e]; exact g2.bnd j h1
   ·rw [hgs j]
    by_cases e : i = j
    ·subst e
     rw [if_pos rfl]
     exact ⟨_, e1, e2, e3_, e4, by rw [hgs, if_neg (by omega)]; exact e5⟩
    ·rw [if_neg e]
     obtain ⟨e', q1, q2, q3, q4, q5⟩ := g2.stp_ j (by omega) h2
     exact ⟨e', q1, q2, q3, q4, by rw [hgs, if_neg (by omega)]; exact q5⟩
  all_goals (repeat' (first | refine K_seq ?_ | refine k_cond rfl ?_ | refine K_exit ?_ | (refine K_region (id := 25) ?_; refine mv ?_; refine mv ?_; refine lnB S ?_; (first | (refine cS ?_ ?_ <;> intro hc)) <;> (refine mv ?_; (first | refine off ?_ | refine mv ?_); (first | refine off ?_ | refine mv ?_); (first | refine off ?_ | refine mv ?_); (first | refine off ?_ | refine mv ?_); (first | (refine off ?_; (first | (refine off ?_; refine off ?_; (refine off ?_) <;> (refine vl ?_; refine KO_nil ?_)))) | skip)))))
  ·have hkk : kk ≤ way.length := by omega
   refine su0 i kk S w rw_ cw ?_; intro vm hrm hcm; ((skip))
   replace hrm : RdL h0 vm 1 eI (seg way i kk) := hrm
   have hsg := seg_len (w := way) (i := i) (j := kk) (by omega) hkk
   have hsl3 : (seg way i kk).length ≤ 1000000 := by omega
   have hsr3 : ∀ t ∈ seg way i kk, 0 ≤ t ∧ t < p.tabs.length := fun t ht => hwr t (seg_mem ht)
   have hsr4 : ∀ t ∈ seg way i kk, 0 ≤ t ∧ t < pl.length := fun t ht => by rw [hpl]; exact hsr3 t ht
   have htb := tour_b hP.tabs (l := seg way i kk) fun t ht => (hsr3 t ht).2
   obtain ⟨y, hy⟩ : ∃ y, F.getD kk default = y := ⟨_, rfl⟩
   have hgk : (F.set i xb).getD (kk : Int).toNat default = y := by
    show (F.set i xb).getD kk default = y
    rw [getD_set3 (by omega), if_neg (by omega)]; exact hy
   have hyb := g2.bnd kk hkk
   rw [hy] at hyb
   (refine KO_fn rfl rfl rfl rfl rfl ((sum_ok S.wf vp pl (Rd.of_sl S (.there .here)) vm (seg way i kk) (hrm.ext w S.ext) hsl3 hsr4 hld2).mono ?_); rintro _ h ⟨rfl, s⟩) <;> (replace S := S.join0 s; clear s; refine mv ?_; (first | (first | (refine cS ?_ ?_ <;> intro hc))) <;> (refine vl ?_; refine KO_nil ?_))
   ·all_goals (repeat' (first | refine K_seq ?_ | refine k_cond rfl ?_ | refine K_skip ?_ | refine k_block ?_))
    (repeat (refine K_seq ?_)); refine K_drawF1 (id := 27) (j1 := 20) (rd := [(10, (0, 1)), (16, (0, 1)), (20, (0, 1))]) (fun b1 => [some (blkS vf.val), some (blkS vf.val), some b1]) S (HintOk.direct) ?_; clear S; intro b1 h S; refine KX_cons ?_; (first | (refine lB S rfl rfl ?_ <;> refine KO_nil ⟨⟨by (first | exact True.intro), rfl⟩, ?_⟩)); refine KX_cons ?_; (first | (refine mv ?_ <;> refine KO_nil ⟨⟨by (first | exact True.intro), rfl⟩, ?_⟩)); refine KX_cons ?_; (first | (refine mv ?_ <;> refine KO_nil ⟨⟨by (first | exact True.intro), rfl⟩, ?_⟩)); refine KX_cons ?_; (first | (refine mv ?_ <;> refine KO_nil ⟨⟨by (first | exact True.intro), rfl⟩, ?_⟩))
    refine KX_cons ?_; refine su0 i kk S w rw_ cw ?_; intro vm2 hrm2 hcm2; refine KO_nil ⟨⟨by (first | exact True.intro), rfl⟩, ?_⟩; (skip)
    replace hrm2 : RdL h0 vm2 1 eI (seg way i kk) := hrm2
    ((refine KX_cons ?_; first | refine KO_fn rfl rfl rfl rfl rfl ((slength_ok S.wf pv p (H.ext w S.ext) hP.tabs vm2 (seg way i kk) (hrm2.ext w S.ext) hsl3 (fun t ht => (hsr3 t ht).2)).mono ?_)); rintro _ h ⟨rfl, x⟩) <;> ((refine KO_nil ⟨⟨True.intro, ?_⟩, ?_⟩; (focus ((show keepsX _ _ _ _ _; simp only [keepsX]; (repeat' (first | exact True.intro | refine And.intro ?_ ?_)); all_goals (intro hw; first | exact x.ext.old _ S.bB | exact x.ext.old _ (S.bR (by first | grind))))))); replace S := S.join0 x; clear x; have hq1 := hyb.1.1; have hq2 := hyb.1.2; have hq3 := hyb.2.1; have hq4 := hyb.2.2; rw [← hgk] at hq1 hq2 hq3 hq4; refine KX_cons ?_; (first | (refine mv ?_ <;> refine KO_nil ⟨⟨by (first | exact True.intro), rfl⟩, ?_⟩)); refine KX_cons ?_; (first | (refine mv ?_ <;> refine KO_nil ⟨⟨by (first | exact True.intro), rfl⟩, ?_⟩)); refine KX_cons ?_; (first | (refine ixS2 S rfl rfl ?_ <;> refine KO_nil ⟨⟨by (first | exact True.intro), rfl⟩, ?_⟩)); refine KX_cons ?_; (first | (refine fS S rfl rfl ?_ <;> refine KO_nil ⟨⟨by (first | exact True.intro), rfl⟩, ?_⟩)); refine KX_cons ?_; (first | (refine lES2 S rfl rfl ?_ <;> refine KO_nil ⟨⟨by (first | exact Or.inr (congrArg some (blkOf_elA _ _ _ _))), rfl⟩, ?_⟩)); refine KX_cons ?_; (first | (refine ad ?_ <;> refine KO_nil ⟨⟨by (first | exact True.intro), rfl⟩, ?_⟩)); refine KX_cons ?_; (first | (refine mv ?_ <;> refine KO_nil ⟨⟨by (first | exact True.intro), rfl⟩, ?_⟩)); refine KX_cons ?_; (first | (refine mv ?_ <;> refine KO_nil ⟨⟨by (first | exact True.intro), rfl⟩, ?_⟩)); refine KX_cons ?_; (first | (refine ixS2 S rfl rfl ?_ <;> refine KO_nil ⟨⟨by (first | exact True.intro), rfl⟩, ?_⟩)); refine KX_cons ?_; (first | (refine fS S rfl rfl ?_ <;> refine KO_nil ⟨⟨by (first | exact True.intro), rfl⟩, ?_⟩)); refine KX_cons ?_; (first | (refine lES2 S rfl rfl ?_ <;> refine KO_nil ⟨⟨by (first | exact Or.inr (congrArg some (blkOf_elA _ _ _ _))), rfl⟩, ?_⟩)); refine KX_cons ?_; (first | (refine ad ?_ <;> refine KO_nil ⟨⟨by (first | exact True.intro), rfl⟩, ?_⟩)); refine KX_cons ?_; (first | (refine mv ?_ <;> refine KO_nil ⟨⟨by (first | exact True.intro), rfl⟩, ?_⟩)); refine KX_cons ?_; (first | (refine vl ?_ <;> refine KO_nil ⟨⟨by (first | exact True.intro), rfl⟩, ?_⟩)); refine fl S rfl rfl S.gB ?_; refine KX_cons ?_; (first | ((refine sB S rfl rfl ?_; have S0 := S; clear S; intro h S); refine KO_nil ⟨⟨True.intro, ?_⟩, ?_⟩; (focus ((show keepsX _ _ _ _ _; simp only [keepsX]; (repeat' (first | exact True.intro | refine And.intro ?_ ?_)); all_goals (intro hw; first | exact absurd hw (by decide +kernel))))); clear S0)); refine KX_nil ?_)
    rw [hgk] at S
    replace S : Hs h0 h [.blk b1 (e3 ⟨tour (stp p.tabs) (seg way i kk) + y.s, 1 + y.t, kk⟩) 90, .sl vf.val 90 3 e3 (F.set i xb), .sl vp 3 1 eI pl, .sl vst 3 1 eI stops, .blk b4 pv.cs 33] := S
    have hgi : (F.set i xb).getD (i : Int).toNat default = xb := by
     show (F.set i xb).getD i default = xb
     rw [getD_set3 (by omega), if_pos rfl]
    have hsl4 : (F.set i xb).length = way.length + 1 := by rw [List.length_set]; exact hFl
    skip
    all_goals (repeat' (first | refine K_seq ?_ | (refine K_region (id := 28) ?_; refine mv ?_; refine mv ?_; refine ixS2 S rfl rfl ?_; refine lES2 S rfl rfl ?_; (refine al S ?_; clear S; intro b h S); (first | (refine sB S rfl rfl ?_; clear S; intro h S)); refine KO_nil ?_)))
    rw [hgi] at S
    replace S : Hs h0 h [.blk b (e3 xb) 90, .blk b1 (e3 ⟨tour (stp p.tabs) (seg way i kk) + y.s, 1 + y.t, kk⟩) 90, .sl vf.val 90 3 e3 (F.set i xb), .sl vp 3 1 eI pl, .sl vst 3 1 eI stops, .blk b4 pv.cs 33] := S
    have hmono : ∀ z : B3, z.s = tour (stp p.tabs) (seg way i kk) + y.s → z.t = 1 + y.t → z.e = (kk : Int) → (xb.e < 0 ∨ z.s ≤ xb.s) → (∃ e : Nat, z.e = e ∧ i < e ∧ e ≤ way.length ∧ sumL (ldP pl) (seg way i e) ≤ k ∧ z.s = tour (stp p.tabs) (seg way i e) + (F.getD e default).s ∧ z.t = 1 + (F.getD e default).t) ∧ ∀ j, i < j → j < kk + 1 → z.s ≤ tour (stp p.tabs) (seg way i j) + (F.getD j default).s := fun z z1 z2 z3 z4 => by
     refine ⟨⟨kk, z3, f1, hkk, by assumption, by rw [z1, hy], by rw [z2, hy]⟩, fun j h1 h2 => ?_⟩
     rcases Nat.lt_or_ge j kk with r | r
     ·rcases f4 with ⟨f5, -⟩ | ⟨f5, ⟨e, f6, f7, -⟩, f8⟩
      ·omega
      ·have := f8 j h1 r
       rcases z4 with z4 | z4
       ·omega
       ·omega
     ·obtain rfl : j = kk := by omega
      rw [z1, hy]; exact Int.le_refl _
    have hkeep : ¬ xb.e < 0 → ¬ (tour (stp p.tabs) (seg way i kk) + y.s < xb.s) → i + 1 < kk ∧ (∃ e : Nat, xb.e = e ∧ i < e ∧ e ≤ way.length ∧ sumL (ldP pl) (seg way i e) ≤ k ∧ xb.s = tour (stp p.tabs) (seg way i e) + (F.getD e default).s ∧ xb.t = 1 + (F.getD e default).t) ∧ ∀ j, i < j → j < kk + 1 → xb.s ≤ tour (stp p.tabs) (seg way i j) + (F.getD j default).s := fun z1 z2 => by
     rcases f4 with ⟨f5, rfl⟩ | ⟨f5, f6, f8⟩
     ·exact absurd (show (-1 : Int) < 0 by omega) z1
     ·refine ⟨f5, f6, fun j h1 h2 => ?_⟩
      rcases Nat.lt_or_ge j kk with r | r
      ·exact f8 j h1 r
      ·obtain rfl : j = kk := by omega
       rw [hy]; omega
    have f3' : ∀ j, i < j → j < kk + 1 → sumL (ldP pl) (seg way i j) ≤ k := fun j h1 h2 => by
     rcases Nat.lt_or_ge j kk with r | r
     ·exact f3 j h1 r
     ·obtain rfl : j = kk := by omega
      assumption
    skip
    all_goals (repeat' (first | refine k_cond rfl ?_ | refine K_skip ?_ | (refine K_region (id := 29) ?_; refine vl ?_; refine lB S rfl rfl ?_; (first | (refine cS ?_ ?_ <;> intro hc)) <;> (refine mv ?_; (first | refine off ?_ | (refine vl ?_)); (first | refine off ?_ | (refine lB S rfl rfl ?_)); (first | refine off ?_ | (refine vl ?_)); (first | refine off ?_ | (refine lB S rfl rfl ?_)); (first | refine off ?_ | (first | (refine cS ?_ ?_ <;> intro hc))) <;> (refine vl ?_; refine mv ?_; (first | refine off ?_ | (refine vl ?_)); (first | refine off ?_ | (refine lB S rfl rfl ?_)); (first | refine off ?_ | (refine vl ?_)); (first | refine off ?_ | (refine lB S rfl rfl ?_)); (first | refine off ?_ | (first | (refine cS ?_ ?_ <;> intro hc))) <;> ((first | refine off ?_ | refine mv ?_); (first | refine off ?_ | (refine vl ?_)); (first | refine off ?_ | (refine lB S rfl rfl ?_)); (first | refine off ?_ | (refine vl ?_)); (first | refine off ?_ | (refine lB S rfl rfl ?_)); (first | refine off ?_ | (first | (refine cS ?_ ?_ <;> intro hc))) <;> ((first | refine off ?_ | refine vl ?_); refine vl ?_; refine KO_nil ?_)))))))
    rotate_left
    rotate_left
    rotate_left
    ·rename_i d1 d2 d3
     all_goals (repeat' (first | (refine K_region (id := 26) ?_; refine mv ?_; refine ad ?_; refine mv ?_; refine KO_nil ?_)))
     refine ⟨(kk + 1, xb), ?_, ?_, (by repeat (first | exact Ks.le_nil _ | refine Ks.le_cons rfl ?_))⟩
     ·show way.length + 1 - (kk + 1) < way.length + 1 - kk; omega
     ·have := hkeep d1 d2
      exact ⟨S.pick, by omega, by omega, f3', .inr ⟨by omega, this.2.1, this.2.2⟩⟩
    ·rename_i d1 d2
     all_goals (repeat' (first | (refine K_region (id := 26) ?_; refine mv ?_; refine ad ?_; refine mv ?_; refine KO_nil ?_)))
     refine ⟨(kk + 1, xb), ?_, ?_, (by repeat (first | exact Ks.le_nil _ | refine Ks.le_cons rfl ?_))⟩
     ·show way.length + 1 - (kk + 1) < way.length + 1 - kk; omega
     ·have := hkeep d1 d2
      exact ⟨S.pick, by omega, by omega, f3', .inr ⟨by omega, this.2.1, this.2.2⟩⟩
    all_goals
     (repeat (refine K_seq ?_)); refine K_region (id := 30) ?_; refine mv ?_; refine mv ?_; refine lB S rfl rfl ?_; refine ixS2 S rfl rfl ?_; refine sE2 (y := (⟨tour (stp p.tabs) (seg way i kk) + y.s, 1 + y.t, kk⟩ : B3)) S rfl rfl ?_; clear S; intro h S; refine KO_nil ?_
     replace S : Hs h0 h [.blk b (e3 xb) 90, .blk b1 (e3 ⟨tour (stp p.tabs) (seg way i kk) + y.s, 1 + y.t, kk⟩) 90, .sl vf.val 90 3 e3 ((F.set i xb).set i ⟨tour (stp p.tabs) (seg way i kk) + y.s, 1 + y.t, kk⟩), .sl vp 3 1 eI pl, .sl vst 3 1 eI stops, .blk b4 pv.cs 33] := S
     rw [List.set_set] at S
     all_goals (repeat' (first | (refine K_region (id := 26) ?_; refine mv ?_; refine ad ?_; refine mv ?_; refine KO_nil ?_)))
     refine ⟨(kk + 1, ⟨tour (stp p.tabs) (seg way i kk) + y.s, 1 + y.t, kk⟩), ?_, ?_, (by repeat (first | exact Ks.le_nil _ | refine Ks.le_cons rfl ?_))⟩
     ·show way.length + 1 - (kk + 1) < way.length + 1 - kk; omega
     ·have := hmono ⟨tour (stp p.tabs) (seg way i kk) + y.s, 1 + y.t, kk⟩ rfl rfl rfl (by first | exact .inl (by assumption) | exact .inr (Int.le_of_lt (by assumption)) | exact .inr (Int.le_of_eq (by assumption)))
      exact ⟨S.pick, by omega, by omega, f3', .inr ⟨by omega, this.1, this.2⟩⟩
   ·have hF := fin3 fun j h1 h2 h3 => by
     have := seg_mono (ld := ldP pl) (w := way) (i := i) (j := kk) (j' := j) (fun t _ => (hld t).1) (by omega) h1 h2
     omega
    all_goals (repeat' (first | refine k_cond rfl ?_ | refine K_exit ?_ | (refine K_region (id := 22) ?_; refine mv ?_; refine sb ?_; refine mv ?_; refine KO_nil ?_)))
    refine ⟨(i, F.set i xb), ?_, ?_, (by repeat (first | exact Ks.le_nil _ | refine Ks.le_cons rfl ?_))⟩
    ·show i < i + 1; omega
    ·exact ⟨S, by omega, hF⟩
  ·have hF := fin3 fun j h1 h2 h3 => by omega
   all_goals (repeat' (first | (refine K_region (id := 22) ?_; refine mv ?_; refine sb ?_; refine mv ?_; refine KO_nil ?_)))
   refine ⟨(i, F.set i xb), ?_, ?_, (by repeat (first | exact Ks.le_nil _ | refine Ks.le_cons rfl ?_))⟩
   ·show i < i + 1; omega
   ·exact ⟨S, by omega, hF⟩
 ·obtain rfl : m = 0 := by omega
  clear g1
  have S := S.nilS (e := 56) (z := 3) (enc := eTr)
  have S := S.owNil (f := slTr)
  skip
  all_goals (repeat' (first | refine K_seq ?_ | refine k_block ?_ | (refine K_region (id := 31) ?_; refine mv ?_; refine KO_nil ?_) | (refine K_region (id := 32) ?_; refine mv ?_; refine KO_nil ?_)))
  skip
  replace S : Hs h0 h [ownR slTr [], .sl (.slice none 0 0) 56 3 eTr [], .sl vf.val 90 3 e3 F, .sl vp 3 1 eI pl, .sl vst 3 1 eI stops, .blk b4 pv.cs 33] := S
  refine k_loop (σ := Nat × Value × List Tr_) (fun (i, vo, ts) h' => Hs h0 h' [ownR slTr ts, .sl vo 56 3 eTr ts, .sl vf.val 90 3 e3 F, .sl vp 3 1 eI pl, .sl vst 3 1 eI stops, .blk b4 pv.cs 33] ∧ i ≤ way.length ∧ CutOk (ldP pl) k (ts.map (·.ta)) ∧ (ts.map (·.ta)).flatten = way.take i ∧ (∀ x ∈ ts, x.pl = sumL (ldP pl) x.ta ∧ x.st = tour (stp p.tabs) x.ta) ∧ cost (stp p.tabs) (ts.map (·.ta)) + (F.getD i default).s = (F.getD 0 default).s ∧ ts.length ≤ i) (fun (i, vo, ts) => way.length - i) (fun (i, vo, ts) => [(2, vw), (4, .pointer (some ⟨b4, 0, none⟩)), (13, vp), (18, vf.val), (23, vo), (24, .int .i64 i)]) (0, .slice none 0 0, []) (by repeat (first | exact Ks.le_nil _ | refine Ks.le_cons rfl ?_)) ?_ ?_
  ·exact ⟨S, Nat.zero_le _, fun p hp => (by cases hp), rfl, fun x hx => (by cases hx), by simp [cost], Nat.le_refl _⟩
  clear S
  rintro ⟨i, vo, ts⟩ h ⟨S, f1, f2, f3, f4, f5, f6⟩
  all_goals (repeat' (first | refine K_seq ?_ | refine k_cond rfl ?_ | refine K_skip ?_ | refine K_exit ?_ | refine k_block ?_ | (refine K_region (id := 33) ?_; refine mv ?_; refine mv ?_; refine lnB S ?_; (first | (refine cS ?_ ?_ <;> intro hc)) <;> (refine KO_nil ?_))))
  ·have hi : i < way.length := by omega
   obtain ⟨e, e1, e2, e3_, e4, e5⟩ := g2.stp_ i (Nat.zero_le _) hi
   have he : (F.getD (i : Int).toNat default).e = (e : Int) := e1
   all_goals (repeat' (first | (refine K_region (id := 35) ?_; refine mv ?_; refine mv ?_; refine ixS2 S rfl rfl ?_; refine fS S rfl rfl ?_; refine lES2 S rfl rfl ?_; refine mv ?_; refine sb ?_)))
   refine m_make (z := 1) (by_ := 8) (enc := eI) (y0 := 0) S rfl rfl rfl rfl rfl rfl rfl rfl rfl (by intro _; rfl) (by first | omega) rfl rfl ?_; clear S; intro v h S; refine mv ?_; refine KO_nil ?_
   rw [he] at S
   rw [show ((e : Int) - (i : Int)).toNat = e - i by omega] at S
   obtain ⟨sl_, rfl⟩ := S.sV v
   all_goals (repeat' (first | refine K_seq ?_ | (refine K_region (id := 36) ?_; refine mv ?_; refine mv ?_; refine mv ?_; skip)))
   refine su0 i way.length S w rw_ cw ?_; intro vm hrm hcm
   have hml : ((way.drop i).take (way.length - i)).length = way.length - i := by simp
   refine cpy S (hrm.ext w S.ext) hcm (by simp; omega) (by rw [hml]; simp; omega) (fun h S => ?_)
   rw [List.length_replicate] at S
   have hseg : ((way.drop i).take (way.length - i)).take (e - i) = seg way i e := by
    unfold seg
    rw [List.take_take, Nat.min_eq_left (by omega)]
   rw [hseg] at S
   have hsgl := seg_len (w := way) (i := i) (j := e) (by omega) e3_
   have hsl3 : (seg way i e).length ≤ 1000000 := by omega
   have hsr3 : ∀ t ∈ seg way i e, 0 ≤ t ∧ t < p.tabs.length := fun t ht => hwr t (seg_mem ht)
   have hsr4 : ∀ t ∈ seg way i e, 0 ≤ t ∧ t < pl.length := fun t ht => by rw [hpl]; exact hsr3 t ht
   replace S : Hs h0 h [.sl sl_.val 3 1 eI (seg way i e), ownR slTr ts, .sl vo 56 3 eTr ts, .sl vf.val 90 3 e3 F, .sl vp 3 1 eI pl, .sl vst 3 1 eI stops, .blk b4 pv.cs 33] := S
   (refine KO_nil ?_)
   skip
   (repeat (refine K_seq ?_)); refine K_drawX (id := 37) [(5, (0, 1))] [some (b4)] ?_; refine KX_cons ?_; (first | (refine mv ?_ <;> refine KO_nil ⟨⟨by (first | exact True.intro), rfl⟩, ?_⟩)); refine KX_cons ?_; (first | (refine mv ?_ <;> refine KO_nil ⟨⟨by (first | exact True.intro), rfl⟩, ?_⟩)); refine KX_cons ?_; (first | (refine mv ?_ <;> refine KO_nil ⟨⟨by (first | exact True.intro), rfl⟩, ?_⟩)); refine KX_cons ?_; (first | (refine mv ?_ <;> refine KO_nil ⟨⟨by (first | exact True.intro), rfl⟩, ?_⟩))
   ((refine KX_cons ?_; first | refine KO_fn rfl rfl rfl rfl rfl ((sum_ok S.wf vp pl (Rd.of_sl S (.there (.there (.there (.there .here))))) sl_.val (seg way i e) (Rd.of_sl S .here) hsl3 hsr4 hld2).mono ?_)); rintro _ h ⟨rfl, x⟩) <;> ((refine KO_nil ⟨⟨True.intro, ?_⟩, ?_⟩; (focus ((show keepsX _ _ _ _ _; simp only [keepsX]; (repeat' (first | exact True.intro | refine And.intro ?_ ?_)); all_goals (intro hw; first | exact x.ext.old _ S.bB))))); replace S := S.join0 x; clear x; refine KX_cons ?_; (first | (refine lB S rfl rfl ?_ <;> refine KO_nil ⟨⟨by (first | exact Or.inr rfl), rfl⟩, ?_⟩)); refine KX_cons ?_; (first | (refine mv ?_ <;> refine KO_nil ⟨⟨by (first | exact True.intro), rfl⟩, ?_⟩)))
   ((refine KX_cons ?_; first | refine KO_fn rfl rfl rfl rfl rfl ((slength_ok S.wf pv p (H.ext w S.ext) hP.tabs sl_.val (seg way i e) (Rd.of_sl S .here) hsl3 (fun t ht => (hsr3 t ht).2)).mono ?_)); rintro _ h ⟨rfl, x⟩) <;> ((refine KO_nil ⟨⟨True.intro, ?_⟩, ?_⟩; (focus ((show keepsX _ _ _ _ _; simp only [keepsX]; (repeat' (first | exact True.intro | refine And.intro ?_ ?_)); all_goals (intro hw; first | exact absurd hw (by decide +kernel)))))); replace S := S.join0 x; clear x; refine KX_cons ?_; (first | (refine vl ?_ <;> refine KO_nil ⟨⟨by (first | exact True.intro), rfl⟩, ?_⟩)); refine KX_cons ?_; (first | ((refine one 3 S ?_; have S0 := S; clear S; intro u h S); refine KO_nil ⟨⟨True.intro, ?_⟩, ?_⟩; (focus ((show keepsX _ _ _ _ _; simp only [keepsX]; (repeat' (first | exact True.intro | refine And.intro ?_ ?_)); all_goals (intro hw; first | exact absurd hw (by decide +kernel))))); clear S0)))
   obtain ⟨so, rfl⟩ := S.sV vo
   refine KX_cons ?_; refine app (y0 := (⟨sl_, seg way i e, sumL (ldP pl) (seg way i e), tour (stp p.tabs) (seg way i e)⟩ : Tr_)) S rfl rfl ?_; have S0 := S; clear S; intro v1 h S; refine KO_nil ⟨⟨True.intro, ?_⟩, ?_⟩; (focus ((show keepsX _ _ _ _ _; simp only [keepsX]; (repeat' (first | exact True.intro | refine And.intro ?_ ?_)); all_goals (intro hw; first | exact absurd hw (by decide +kernel))))); clear S0
   (refine KX_cons ?_; (first | (refine mv ?_ <;> refine KO_nil ⟨⟨by (first | exact True.intro), rfl⟩, ?_⟩)); refine KX_nil ?_)
   obtain ⟨tr, htr⟩ : ∃ tr : Tr_, tr = ⟨sl_, seg way i e, sumL (ldP pl) (seg way i e), tour (stp p.tabs) (seg way i e)⟩ := ⟨_, rfl⟩
   rw [← htr] at S
   replace S : Hs h0 h [.sl v1 56 3 eTr (ts ++ [tr]), .sl sl_.val 3 1 eI (seg way i e), ownR slTr ts, .sl vf.val 90 3 e3 F, .sl vp 3 1 eI pl, .sl vst 3 1 eI stops, .blk b4 pv.cs 33] := S
   have S := (show Hs h0 h [.sl sl_.val 3 1 eI (seg way i e), ownR slTr ts, .sl v1 56 3 eTr (ts ++ [tr]), .sl vf.val 90 3 e3 F, .sl vp 3 1 eI pl, .sl vst 3 1 eI stops, .blk b4 pv.cs 33] from S.pick)
   have esl : Rs.sl sl_.val 3 1 eI (seg way i e) = slTr tr := by rw [htr]
   rw [esl] at S
   have S := Hs.owApp (f := slTr) (g := tr) S
   have hta : tr.ta = seg way i e := by rw [htr]
   have hmap : (ts ++ [tr]).map (·.ta) = ts.map (·.ta) ++ [seg way i e] := by rw [List.map_append, List.map_singleton, hta]
   skip
   all_goals (repeat' (first | (refine K_region (id := 34) ?_; refine mv ?_; refine mv ?_; refine ixS2 S rfl rfl ?_; refine fS S rfl rfl ?_; refine lES2 S rfl rfl ?_; refine mv ?_; refine KO_nil ?_)))
   rw [he]
   refine ⟨(e, v1, ts ++ [tr]), ?_, ?_, (by repeat (first | exact Ks.le_nil _ | refine Ks.le_cons rfl ?_))⟩
   ·show way.length - e < way.length - i; omega
   ·refine ⟨S, e3_, fun c hc => ?_, ?_, fun x hx => ?_, ?_, by simp; omega⟩
    ·rw [hmap] at hc
     rcases List.mem_append.1 hc with r | r
     ·exact f2 c r
     ·rw [List.mem_singleton.1 r]
      refine ⟨fun z => ?_, e4⟩
      rw [z] at hsgl; simp at hsgl; omega
    ·rw [hmap, List.flatten_append, f3]
     simp only [List.flatten_singleton]
     unfold seg
     rw [List.take_append_drop_take, show i + (e - i) = e by omega]
    ·rcases List.mem_append.1 hx with r | r
     ·exact f4 x r
     ·rw [List.mem_singleton.1 r, htr]
      exact ⟨rfl, rfl⟩
    ·rw [hmap, cost_app, ← f5, e5]
     simp only [cost]; omega
  ·all_goals (repeat' (first | (refine K_region (id := 38) ?_; refine mv ?_; refine mv ?_; refine mv ?_; refine KO_nil ?_)))
   refine K_ret ⟨_, rfl, ?_⟩
   obtain rfl : i = way.length := by omega
   rw [List.take_of_length_le (Nat.le_refl _)] at f3
   have hl := g2.last
   refine .inr ⟨hle, vo, ts, rfl, S.pick, f2, f3, f4, ?_⟩
   have hb := g2.best 0 (Nat.le_refl _) (Nat.zero_le _)
   rw [← f5, hl, Int.add_zero] at hb
   exact hb
end Go.Proofs.Xx
namespace Go.Proofs.Xx
open Go Go.Proofs
set_option linter.unusedSimpArgs false
set_option linter.unusedVariables false
set_option linter.unusedSectionVars false
set_option maxRecDepth 100000
set_option maxHeartbeats 4000000
def TrOk (p : Pb) (ld : Int → Int) (k : Int) (x : Tr_) : Prop := x.ta ≠ [] ∧ x.pl = sumL ld x.ta ∧ x.st = tour (stp p.tabs) x.ta ∧ x.pl ≤ k
def GoodT (p : Pb) (ld : Int → Int) (k : Int) (stops : List Int) (ts : List Tr_) : Prop := ((ts.map (·.ta)).flatten).Perm stops ∧ ∀ x ∈ ts, TrOk p ld k x
theorem flat_at {ts : List Tr_} {i : Nat} (hi : i < ts.length) : (ts.map (·.ta)).flatten = ((ts.take i).map (·.ta)).flatten ++ (ts.getD i default).ta ++ ((ts.drop (i + 1)).map (·.ta)).flatten := by
 have e : ts = ts.take i ++ ts.getD i default :: ts.drop (i + 1) := by
  rw [List.getD_eq_getElem?_getD, List.getElem?_eq_getElem hi, Option.getD_some, ← List.drop_eq_getElem_cons hi, List.take_append_drop]
 have e2 := congrArg (fun l : List Tr_ => (l.map (·.ta)).flatten) e
 simp only [List.map_append, List.flatten_append, List.map_cons, List.flatten_cons] at e2
 rw [e2, List.append_assoc]
theorem take_flat {ts : List Tr_} {i : Nat} (hi : i < ts.length) : ((ts.take (i + 1)).map (·.ta)).flatten = ((ts.take i).map (·.ta)).flatten ++ (ts.getD i default).ta := by
 rw [List.take_add_one, List.getElem?_eq_getElem hi, List.getD_eq_getElem?_getD, List.getElem?_eq_getElem hi, List.map_append, List.flatten_append]
 simp
theorem checkTrips_ok {h0 : AH} (w : WfH h0) (pv : PbV) (p : Pb) (H : PbOk h0 pv p) (hP : PO p) (vq : Value) (q : List Int) (rq : RdL h0 vq 1 eI q) (hQ : PartOk p q) (hl9 : p.tabs.length ≤ 9) (vt : Value) (ts : List Tr_) (rt : RdL h0 vt 3 eTr ts) (htl : ts.length ≤ 1000) (hta : ∀ i, i < ts.length → RdL h0 (ts.getD i default).tv.val 1 eI (ts.getD i default).ta ∧ (ts.getD i default).ta.length ≤ 9223372036854775807) (k : Int) (hk : 1 ≤ k ∧ k ≤ 1000) :
 Fn Tryz.prog Xh 19 [pv.val, vq, vt, .int .i64 k] h0 (fun u h' => ∃ i e, u = .tuple #[.int .i64 i, .int .i64 e] ∧ ((e = 0 ∧ i = 0 ∧ GoodT p (ldP (pltV p q)) k (srv (pltV p q)) ts) ∨ (e = 110 ∧ ¬ GoodT p (ldP (pltV p q)) k (srv (pltV p q)) ts)) ∧ Hs h0 h' []) := by
 have S := Hs.start w
 have hq64 := hQ.ql hP
 have hqm := hQ.qm H.tab.len
 have hsl := srv_len (pl := pltV p q)
 rw [pltV_len] at hsl
 have nd0 : (srv (pltV p q)).Nodup := srv_inc.imp fun h => Int.ne_of_lt h
 have hsr := srv_in (p := p) (q := q)
 have hpl := pltV_len (p := p) (q := q)
 have hld := ldP_b (p := p) (q := q)
 have met := stp_met p.tabs
 unfold PbV.val
 refine Fn_K (by first | rfl) Tryz.func19 rfl rfl ?_
 all_goals (repeat' (first | refine K_seq ?_ | (refine K_region (id := 0) ?_; (refine bx S ?_; clear S; intro b h S); refine mv ?_; refine mv ?_; refine KO_nil ?_)))
 obtain ⟨b4, hnm⟩ : ∃ x, x = b := ⟨_, rfl⟩; subst hnm
 all_goals (repeat' (first | (refine K_region (id := 1) ?_; refine lB S rfl rfl ?_; refine mv ?_)))
 (refine KO_fn rfl rfl rfl rfl rfl ((partP_ok S.wf pv p (H.ext w S.ext) hP vq q (rq.ext w S.ext) hQ).mono ?_); rintro _ h ⟨i, rfl, x⟩) <;> (replace S := S.join0 x; clear x; refine mv ?_; refine vl ?_; refine vl ?_; refine mv ?_; refine mv ?_; refine KO_nil ?_)
 all_goals (repeat' (first | refine K_seq ?_ | refine k_cond rfl ?_ | refine K_skip ?_ | (refine K_region (id := 2) ?_; refine mv ?_; (refine cF ?_) <;> (refine KO_nil ?_))))
 all_goals (repeat' (first | refine K_seq ?_ | refine k_cond rfl ?_ | refine K_skip ?_ | (refine K_region (id := 4) ?_; refine mv ?_; (refine cF ?_) <;> (refine KO_nil ?_))))
 (repeat (refine K_seq ?_)); refine K_drawX (id := 6) [(3, (0, 1))] [some (b4)] ?_; refine KX_cons ?_; (first | (refine lB S rfl rfl ?_ <;> refine KO_nil ⟨⟨by (first | exact True.intro), rfl⟩, ?_⟩)); refine KX_cons ?_; (first | (refine mv ?_ <;> refine KO_nil ⟨⟨by (first | exact True.intro), rfl⟩, ?_⟩))
 ((refine KX_cons ?_; first | refine KO_fn rfl rfl rfl rfl rfl ((sserved_ok S.wf pv p (H.ext w S.ext) vq q (rq.ext w S.ext) (by omega) hqm).mono ?_)); rintro vst h x) <;> ((refine KO_nil ⟨⟨True.intro, ?_⟩, ?_⟩; (focus ((show keepsX _ _ _ _ _; simp only [keepsX]; (repeat' (first | exact True.intro | refine And.intro ?_ ?_)); all_goals (intro hw; first | exact x.ext.old _ S.bB))))); replace S := S.join1 x; clear x; refine KX_cons ?_; (first | (refine lB S rfl rfl ?_ <;> refine KO_nil ⟨⟨by (first | exact Or.inr rfl), rfl⟩, ?_⟩)); refine KX_cons ?_; (first | (refine mv ?_ <;> refine KO_nil ⟨⟨by (first | exact True.intro), rfl⟩, ?_⟩)))
 ((refine KX_cons ?_; first | refine KO_fn rfl rfl rfl rfl rfl ((splates_ok S.wf pv p (H.ext w S.ext) vq q (rq.ext w S.ext) (by omega) hqm).mono ?_)); rintro vp h x) <;> ((refine KO_nil ⟨⟨True.intro, ?_⟩, ?_⟩; (focus ((show keepsX _ _ _ _ _; simp only [keepsX]; (repeat' (first | exact True.intro | refine And.intro ?_ ?_)); all_goals (intro hw; first | exact absurd hw (by decide +kernel)))))); replace S := S.join1 x; clear x; refine KX_cons ?_; (first | (refine mv ?_ <;> refine KO_nil ⟨⟨by (first | exact True.intro), rfl⟩, ?_⟩)); refine KX_cons ?_; (first | (refine mv ?_ <;> refine KO_nil ⟨⟨by (first | exact True.intro), rfl⟩, ?_⟩)); refine KX_nil ?_)
 obtain ⟨stops, hst⟩ : ∃ stops, srv (pltV p q) = stops := ⟨_, rfl⟩
 obtain ⟨pl, hpe⟩ : ∃ pl, pltV p q = pl := ⟨_, rfl⟩
 rw [hst, hpe] at S
 rw [hst] at hsl nd0 hsr ⊢
 rw [hpe] at hpl hld ⊢
 have hld2 : ∀ t, 0 ≤ ldP pl t ∧ ldP pl t ≤ 1000 := fun t => by have := hld t; omega
 replace S : Hs h0 h [.sl vp 3 1 eI pl, .sl vst 3 1 eI stops, .blk b4 pv.cs 33] := S
 have S := (show Hs h0 h [.sl vst 3 1 eI stops, .sl vp 3 1 eI pl, .blk b4 pv.cs 33] from S.pick)
 all_goals (repeat' (first | refine K_seq ?_ | refine k_block ?_ | (refine K_region (id := 7) ?_; refine mv ?_; refine lnB S ?_; refine mv ?_; refine KO_nil ?_)))
 refine k_loop (σ := Nat × Value × List Int) (fun (i, vo, L) h' => Hs h0 h' [.sl vo 3 1 eI L, .sl vp 3 1 eI pl, .blk b4 pv.cs 33] ∧ i ≤ ts.length ∧ (((ts.take i).map (·.ta)).flatten ++ L).Perm stops ∧ ∀ j, j < i → TrOk p (ldP pl) k (ts.getD j default)) (fun (i, vo, L) => ts.length - i) (fun (i, vo, L) => [(2, vt), (3, .int .i64 k), (4, .pointer (some ⟨b4, 0, none⟩)), (12, vo), (13, vp), (36, vt), (37, .int .i64 ts.length), (38, .int .i64 i)]) (0, vst, stops) (by repeat (first | exact Ks.le_nil _ | refine Ks.le_cons rfl ?_)) ?_ ?_
 ·exact ⟨S, Nat.zero_le _, by simp, fun j hj => absurd hj (Nat.not_lt_zero _)⟩
 clear S
 rintro ⟨i, vo, L⟩ h ⟨S, g1, g2, g3⟩
 all_goals (repeat' (first | refine K_seq ?_ | refine k_cond rfl ?_ | refine K_skip ?_ | refine K_exit ?_ | refine k_block ?_ | (refine K_region (id := 8) ?_; (first | (refine cS ?_ ?_ <;> intro hc)) <;> (refine KO_nil ?_)) | (refine K_region (id := 9) ?_; refine mv ?_; refine ixB S ?_; refine lEB S ?_; (refine al S ?_; clear S; intro b h S); refine mv ?_; (first | (refine sB S rfl rfl ?_; clear S; intro h S)); refine KO_nil ?_)))
 ·have hi : i < ts.length := by omega
  obtain ⟨rx, hxl⟩ := hta i hi
  obtain ⟨x0, hx⟩ : ∃ x, ts.getD (i : Int).toNat default = x := ⟨_, rfl⟩
  rw [hx] at S
  replace hx : ts.getD i default = x0 := hx
  rw [hx] at rx hxl
  have hfl := flat_at hi
  have htf := take_flat hi
  rw [hx] at hfl htf
  obtain ⟨b15, hnm⟩ : ∃ x, x = b := ⟨_, rfl⟩; subst hnm
  replace S : Hs h0 h [.blk b15 (eTr x0) 56, .sl vo 3 1 eI L, .sl vp 3 1 eI pl, .blk b4 pv.cs 33] := S
  skip
  all_goals (repeat' (first | refine k_block ?_ | (refine K_region (id := 10) ?_; refine vl ?_; refine lB S rfl rfl ?_; refine lnB S ?_; refine mv ?_; refine KO_nil ?_)))
  refine k_loop (σ := Nat × Value × List Int) (fun (j, vo, L) h' => Hs h0 h' [.sl vo 3 1 eI L, .blk b15 (eTr x0) 56, .sl vp 3 1 eI pl, .blk b4 pv.cs 33] ∧ j ≤ x0.ta.length ∧ (((ts.take i).map (·.ta)).flatten ++ (x0.ta.take j ++ L)).Perm stops) (fun (j, vo, L) => x0.ta.length - j) (fun (j, vo, L) => [(2, vt), (3, .int .i64 k), (4, .pointer (some ⟨b4, 0, none⟩)), (12, vo), (13, vp), (14, .int .i64 i), (15, .pointer (some ⟨b15, 0, none⟩)), (36, vt), (37, .int .i64 ts.length), (38, .int .i64 i), (44, x0.tv.val), (45, .int .i64 x0.ta.length), (46, .int .i64 j)]) (0, vo, L) (by repeat (first | exact Ks.le_nil _ | refine Ks.le_cons rfl ?_)) ?_ ?_
  ·exact ⟨S.pick, Nat.zero_le _, by simpa using g2⟩
  clear S g2
  rintro ⟨j, vo, L⟩ h ⟨S, f1, f2⟩
  have hLl : L.length ≤ 9 ∧ j ≤ 9 := by
   have := f2.length_eq
   simp only [List.length_append, List.length_take] at this
   omega
  all_goals (repeat' (first | refine K_seq ?_ | refine k_cond rfl ?_ | refine K_skip ?_ | refine K_exit ?_ | refine k_block ?_ | (refine K_region (id := 11) ?_; (first | (refine cS ?_ ?_ <;> intro hc)) <;> (refine KO_nil ?_)) | (refine K_region (id := 12) ?_; refine ixB S ?_; refine lEB S ?_; refine mv ?_; refine KO_nil ?_)))
  ·have hj : j < x0.ta.length := by omega
   obtain ⟨t, ht⟩ : ∃ t, x0.ta.getD (j : Int).toNat default = t := ⟨_, rfl⟩
   rw [ht]
   replace ht : x0.ta.getD j default = t := ht
   have htk : x0.ta.take (j + 1) = x0.ta.take j ++ [t] := by
    rw [List.take_add_one, List.getElem?_eq_getElem hj, ← ht, List.getD_eq_getElem?_getD, List.getElem?_eq_getElem hj]
    rfl
   have htd : x0.ta = x0.ta.take j ++ t :: x0.ta.drop (j + 1) := by
    rw [← ht, List.getD_eq_getElem?_getD, List.getElem?_eq_getElem hj, Option.getD_some, ← List.drop_eq_getElem_cons hj, List.take_append_drop]
   skip
   all_goals (repeat' (first | (refine K_region (id := 13) ?_; refine mv ?_; refine mv ?_)))
   (refine KO_fn rfl rfl rfl rfl rfl ((indexN_ok S.wf vo L (Rd.of_sl S .here) (by omega) t).mono ?_); rintro _ h ⟨⟨m, hm, rfl, hmt, -⟩ | ⟨rfl, hn⟩, s⟩) <;> (replace S := S.join0 s; clear s; refine mv ?_; refine KO_nil ?_)
   ·obtain ⟨so, rfl⟩ := S.sV vo
    all_goals (repeat' (first | refine K_seq ?_ | refine k_cond rfl ?_ | refine K_skip ?_ | (refine K_region (id := 14) ?_; refine mv ?_; (refine cF ?_) <;> (refine KO_nil ?_))))
    all_goals (repeat' (first | (refine K_region (id := 16) ?_; refine mv ?_; refine mv ?_; refine mv ?_; refine ad ?_)))
    (refine KO_fn rfl rfl rfl rfl rfl ((delI_ok m hm (by omega) S).mono ?_); rintro vn h S) <;> (refine mv ?_; refine KO_nil ?_)
    have ndL : L.Nodup := by
     have n1 := f2.symm.nodup nd0
     rw [List.nodup_append, List.nodup_append] at n1
     exact n1.2.1.2.1
    rw [erase_at ndL hm, hmt] at S
    have hmL : t ∈ L := by rw [← hmt]; exact mem_getD hm
    all_goals (repeat' (first | (refine K_region (id := 17) ?_; refine ad ?_; refine mv ?_; refine KO_nil ?_)))
    refine ⟨(j + 1, vn, L.erase t), ?_, ?_, (by repeat (first | exact Ks.le_nil _ | refine Ks.le_cons rfl ?_))⟩
    ·show x0.ta.length - (j + 1) < x0.ta.length - j; omega
    ·refine ⟨S, by omega, ?_⟩
     rw [htk]
     refine List.Perm.trans (List.Perm.append_left _ ?_) f2
     rw [List.append_assoc]
     exact List.Perm.append_left _ (List.perm_cons_erase hmL).symm
   ·all_goals (repeat' (first | refine K_seq ?_ | refine k_cond rfl ?_ | (refine K_region (id := 14) ?_; refine mv ?_; (refine cT ?_) <;> (refine KO_nil ?_)) | (refine K_region (id := 15) ?_; refine mv ?_; refine mv ?_; refine mv ?_; refine KO_nil ?_)))
    refine K_ret ⟨_, rfl, ?_⟩
    refine ⟨i, 110, rfl, .inr ⟨rfl, fun g => ?_⟩, S.drop⟩
    have g0 := g.1
    rw [hfl, htd] at g0
    have g4 := g0.trans f2.symm
    simp only [List.append_assoc, List.cons_append] at g4
    rw [List.perm_append_left_iff, List.perm_append_left_iff] at g4
    obtain ⟨z, hz, hzt⟩ := mem_iff_getD.1 (g4.mem_iff.1 (List.mem_cons_self ..))
    exact hn z hz hzt
  ·obtain rfl : j = x0.ta.length := by omega
   rw [List.take_of_length_le (Nat.le_refl _)] at f2
   have hxs : ∀ t ∈ x0.ta, 0 ≤ t ∧ t < p.tabs.length := fun t ht => hsr t (f2.mem_iff.1 (by simp [ht]))
   have hxs2 : ∀ t ∈ x0.ta, 0 ≤ t ∧ t < pl.length := fun t ht => by rw [hpl]; exact hxs t ht
   have hxl2 : x0.ta.length ≤ 1000000 := by omega
   have hbad : ¬ TrOk p (ldP pl) k x0 → ¬ GoodT p (ldP pl) k stops ts := fun z g => z (by rw [← hx]; exact g.2 _ (mem_getD hi))
   have htb := tour_b hP.tabs (l := x0.ta) fun t ht => (hxs t ht).2
   (repeat (refine K_seq ?_)); refine K_drawX (id := 18) [(6, (0, 1)), (15, (1, 2))] [some (b15), some (b15)] ?_; refine KX_cons ?_; (first | (refine vl ?_ <;> refine KO_nil ⟨⟨by (first | exact True.intro), rfl⟩, ?_⟩)); refine KX_cons ?_; (first | (refine lB S rfl rfl ?_ <;> refine KO_nil ⟨⟨by (first | exact True.intro), rfl⟩, ?_⟩)); refine KX_cons ?_; (first | (refine lnB S ?_ <;> refine KO_nil ⟨⟨by (first | exact True.intro), rfl⟩, ?_⟩)); refine KX_cons ?_; (first | ((refine cS ?_ ?_ <;> intro hc) <;> refine KO_nil ⟨⟨by (first | exact True.intro), rfl⟩, ?_⟩)) <;> (refine KX_cons ?_; (first | (refine mv ?_ <;> refine KO_nil ⟨⟨by (first | exact True.intro), rfl⟩, ?_⟩)); refine KX_cons ?_; (first | (refine off ?_; refine KO_nil ⟨⟨by (first | exact True.intro), rfl⟩, ?_⟩) | (refine vl ?_ <;> refine KO_nil ⟨⟨by (first | exact True.intro), rfl⟩, ?_⟩)); refine KX_cons ?_; (first | (refine off ?_; refine KO_nil ⟨⟨by (first | exact Or.inl rfl), rfl⟩, ?_⟩) | (refine lB S rfl rfl ?_ <;> refine KO_nil ⟨⟨by (first | exact Or.inr rfl), rfl⟩, ?_⟩)); refine KX_cons ?_; (first | (refine off ?_; refine KO_nil ⟨⟨by (first | exact True.intro), rfl⟩, ?_⟩) | (refine mv ?_ <;> refine KO_nil ⟨⟨by (first | exact True.intro), rfl⟩, ?_⟩)); refine KX_cons ?_; (first | (refine off ?_; refine KO_nil ⟨⟨by (first | exact True.intro), rfl⟩, ?_⟩) | (refine vl ?_ <;> refine KO_nil ⟨⟨by (first | exact True.intro), rfl⟩, ?_⟩)); refine KX_cons ?_; (first | (refine off ?_; refine KO_nil ⟨⟨by (first | exact True.intro), rfl⟩, ?_⟩) | (refine lB S rfl rfl ?_ <;> refine KO_nil ⟨⟨by (first | exact True.intro), rfl⟩, ?_⟩)); (first | (refine KX_cons ?_; refine off ?_; refine KO_nil ⟨⟨True.intro, by show keepsX _ _ _ _ _; simp [keepsX]⟩, ?_⟩; refine KX_cons ?_; (first | (refine off ?_; refine KO_nil ⟨⟨by (first | exact True.intro), rfl⟩, ?_⟩)) <;> (refine KX_cons ?_; (first | (refine vl ?_ <;> refine KO_nil ⟨⟨by (first | exact True.intro), rfl⟩, ?_⟩)); refine KX_cons ?_; (first | (refine mv ?_ <;> refine KO_nil ⟨⟨by (first | exact True.intro), rfl⟩, ?_⟩)); refine KX_cons ?_; (first | (refine off ?_; refine KO_nil ⟨⟨by (first | exact True.intro), rfl⟩, ?_⟩)); refine KX_cons ?_; (first | (refine off ?_; refine KO_nil ⟨⟨by (first | exact Or.inl rfl), rfl⟩, ?_⟩)); refine KX_cons ?_; (first | (refine off ?_; refine KO_nil ⟨⟨by (first | exact True.intro), rfl⟩, ?_⟩)); refine KX_cons ?_; (first | (refine off ?_; refine KO_nil ⟨⟨by (first | exact True.intro), rfl⟩, ?_⟩)); refine KX_cons ?_; (first | (refine off ?_; refine KO_nil ⟨⟨by (first | exact True.intro), rfl⟩, ?_⟩)); (first | (refine KX_cons ?_; refine off ?_; refine KO_nil ⟨⟨True.intro, by show keepsX _ _ _ _ _; simp [keepsX]⟩, ?_⟩; refine KX_cons ?_; (first | (refine off ?_; refine KO_nil ⟨⟨by (first | exact True.intro), rfl⟩, ?_⟩)) <;> (refine KX_cons ?_; (first | (refine vl ?_ <;> refine KO_nil ⟨⟨by (first | exact True.intro), rfl⟩, ?_⟩)); refine KX_cons ?_; (first | (refine mv ?_ <;> refine KO_nil ⟨⟨by (first | exact True.intro), rfl⟩, ?_⟩)); refine KX_cons ?_; (first | (refine off ?_; refine KO_nil ⟨⟨by (first | exact True.intro), rfl⟩, ?_⟩)); refine KX_cons ?_; (first | (refine off ?_; refine KO_nil ⟨⟨by (first | exact True.intro), rfl⟩, ?_⟩)); refine KX_cons ?_; (first | (refine off ?_; refine KO_nil ⟨⟨by (first | exact True.intro), rfl⟩, ?_⟩)); refine KX_cons ?_; (first | (refine off ?_; refine KO_nil ⟨⟨by (first | exact True.intro), rfl⟩, ?_⟩)) <;> (refine KX_cons ?_; (first | (refine vl ?_ <;> refine KO_nil ⟨⟨by (first | exact True.intro), rfl⟩, ?_⟩)); refine KX_nil ?_)))))) | skip))
   ·all_goals (repeat' (first | refine K_seq ?_ | refine k_cond rfl ?_ | (refine K_region (id := 19) ?_; refine mv ?_; refine mv ?_; refine mv ?_; refine KO_nil ?_)))
    refine K_ret ⟨_, rfl, ?_⟩
    exact ⟨i, 110, rfl, .inr ⟨rfl, hbad fun z => z.1 (List.length_eq_zero_iff.1 (by omega))⟩, S.drop⟩
   ((refine KX_cons ?_; first | refine KO_fn rfl rfl rfl rfl rfl ((sum_ok S.wf vp pl (Rd.of_sl S (.there (.there .here))) x0.tv.val x0.ta (rx.ext w S.ext) hxl2 hxs2 hld2).mono ?_)); rintro _ h ⟨rfl, x⟩) <;> ((refine KO_nil ⟨⟨True.intro, ?_⟩, ?_⟩; (focus ((show keepsX _ _ _ _ _; simp only [keepsX]; (repeat' (first | exact True.intro | refine And.intro ?_ ?_)); all_goals (intro hw; first | exact absurd hw (by decide +kernel) | exact x.ext.old _ S.bB))))); replace S := S.join0 x; clear x; refine KX_cons ?_; (first | ((refine cS ?_ ?_ <;> intro hc) <;> refine KO_nil ⟨⟨by (first | exact True.intro), rfl⟩, ?_⟩)) <;> (refine KX_cons ?_; (first | (refine vl ?_ <;> refine KO_nil ⟨⟨by (first | exact True.intro), rfl⟩, ?_⟩)); refine KX_cons ?_; (first | (refine mv ?_ <;> refine KO_nil ⟨⟨by (first | exact True.intro), rfl⟩, ?_⟩)); refine KX_cons ?_; (first | (refine off ?_; refine KO_nil ⟨⟨by (first | exact True.intro), rfl⟩, ?_⟩) | (refine vl ?_ <;> refine KO_nil ⟨⟨by (first | exact True.intro), rfl⟩, ?_⟩)); refine KX_cons ?_; (first | (refine off ?_; refine KO_nil ⟨⟨by (first | exact Or.inl rfl), rfl⟩, ?_⟩) | (refine lB S rfl rfl ?_ <;> refine KO_nil ⟨⟨by (first | exact Or.inr rfl), rfl⟩, ?_⟩)); refine KX_cons ?_; (first | (refine off ?_; refine KO_nil ⟨⟨by (first | exact True.intro), rfl⟩, ?_⟩) | (refine lB S rfl rfl ?_ <;> refine KO_nil ⟨⟨by (first | exact True.intro), rfl⟩, ?_⟩)); refine KX_cons ?_; (first | (refine off ?_; refine KO_nil ⟨⟨by (first | exact True.intro), rfl⟩, ?_⟩) | (refine vl ?_ <;> refine KO_nil ⟨⟨by (first | exact True.intro), rfl⟩, ?_⟩)); refine KX_cons ?_; (first | (refine off ?_; refine KO_nil ⟨⟨by (first | exact True.intro), rfl⟩, ?_⟩) | (refine lB S rfl rfl ?_ <;> refine KO_nil ⟨⟨by (first | exact True.intro), rfl⟩, ?_⟩)); (first | (refine KX_cons ?_; refine off ?_; refine KO_nil ⟨⟨True.intro, by show keepsX _ _ _ _ _; simp [keepsX]⟩, ?_⟩; refine KX_cons ?_; (first | (refine off ?_; refine KO_nil ⟨⟨by (first | exact True.intro), rfl⟩, ?_⟩)) <;> (refine KX_cons ?_; (first | (refine vl ?_ <;> refine KO_nil ⟨⟨by (first | exact True.intro), rfl⟩, ?_⟩)); refine KX_cons ?_; (first | (refine mv ?_ <;> refine KO_nil ⟨⟨by (first | exact True.intro), rfl⟩, ?_⟩)); refine KX_cons ?_; (first | (refine off ?_; refine KO_nil ⟨⟨by (first | exact True.intro), rfl⟩, ?_⟩)); refine KX_cons ?_; (first | (refine off ?_; refine KO_nil ⟨⟨by (first | exact True.intro), rfl⟩, ?_⟩)); refine KX_cons ?_; (first | (refine off ?_; refine KO_nil ⟨⟨by (first | exact True.intro), rfl⟩, ?_⟩)); refine KX_cons ?_; (first | (refine off ?_; refine KO_nil ⟨⟨by (first | exact True.intro), rfl⟩, ?_⟩)) <;> (refine KX_cons ?_; (first | (refine vl ?_ <;> refine KO_nil ⟨⟨by (first | exact True.intro), rfl⟩, ?_⟩)); refine KX_nil ?_))) | skip)))
   ·all_goals (repeat' (first | refine K_seq ?_ | refine k_cond rfl ?_ | (refine K_region (id := 19) ?_; refine mv ?_; refine mv ?_; refine mv ?_; refine KO_nil ?_)))
    refine K_ret ⟨_, rfl, ?_⟩
    exact ⟨i, 110, rfl, .inr ⟨rfl, hbad fun z => hc z.2.1⟩, S.drop⟩
   have hc1 : x0.pl = sumL (ldP pl) x0.ta := by omega
   ((refine KX_cons ?_; first | refine KO_fn rfl rfl rfl rfl rfl ((slength_ok S.wf pv p (H.ext w S.ext) hP.tabs x0.tv.val x0.ta (rx.ext w S.ext) hxl2 (fun t ht => (hxs t ht).2)).mono ?_)); rintro _ h ⟨rfl, x⟩) <;> ((refine KO_nil ⟨⟨True.intro, ?_⟩, ?_⟩; (focus ((show keepsX _ _ _ _ _; simp only [keepsX]; (repeat' (first | exact True.intro | refine And.intro ?_ ?_)); all_goals (intro hw; first | exact absurd hw (by decide +kernel) | exact x.ext.old _ S.bB))))); replace S := S.join0 x; clear x; refine KX_cons ?_; (first | ((refine cS ?_ ?_ <;> intro hc) <;> refine KO_nil ⟨⟨by (first | exact True.intro), rfl⟩, ?_⟩)) <;> (refine KX_cons ?_; (first | (refine vl ?_ <;> refine KO_nil ⟨⟨by (first | exact True.intro), rfl⟩, ?_⟩)); refine KX_cons ?_; (first | (refine mv ?_ <;> refine KO_nil ⟨⟨by (first | exact True.intro), rfl⟩, ?_⟩)); refine KX_cons ?_; (first | (refine off ?_; refine KO_nil ⟨⟨by (first | exact True.intro), rfl⟩, ?_⟩) | (refine vl ?_ <;> refine KO_nil ⟨⟨by (first | exact True.intro), rfl⟩, ?_⟩)); refine KX_cons ?_; (first | (refine off ?_; refine KO_nil ⟨⟨by (first | exact True.intro), rfl⟩, ?_⟩) | (refine lB S rfl rfl ?_ <;> refine KO_nil ⟨⟨by (first | exact True.intro), rfl⟩, ?_⟩)); refine KX_cons ?_; (first | (refine off ?_; refine KO_nil ⟨⟨by (first | exact True.intro), rfl⟩, ?_⟩) | (refine mv ?_ <;> refine KO_nil ⟨⟨by (first | exact True.intro), rfl⟩, ?_⟩)); refine KX_cons ?_; (first | (refine off ?_; refine KO_nil ⟨⟨by (first | exact True.intro), rfl⟩, ?_⟩) | ((refine cS ?_ ?_ <;> intro hc) <;> refine KO_nil ⟨⟨by (first | exact True.intro), rfl⟩, ?_⟩)) <;> (refine KX_cons ?_; (first | (refine vl ?_ <;> refine KO_nil ⟨⟨by (first | exact True.intro), rfl⟩, ?_⟩)); refine KX_nil ?_)))
   ·all_goals (repeat' (first | refine K_seq ?_ | refine k_cond rfl ?_ | (refine K_region (id := 19) ?_; refine mv ?_; refine mv ?_; refine mv ?_; refine KO_nil ?_)))
    refine K_ret ⟨_, rfl, ?_⟩
    exact ⟨i, 110, rfl, .inr ⟨rfl, hbad fun z => absurd z.2.2.1 (by assumption)⟩, S.drop⟩
   ·all_goals (repeat' (first | refine K_seq ?_ | refine k_cond rfl ?_ | (refine K_region (id := 19) ?_; refine mv ?_; refine mv ?_; refine mv ?_; refine KO_nil ?_)))
    refine K_ret ⟨_, rfl, ?_⟩
    exact ⟨i, 110, rfl, .inr ⟨rfl, hbad fun z => by have := z.2.2.2; omega⟩, S.drop⟩
   ·have hgood : TrOk p (ldP pl) k x0 := ⟨fun z => by rw [z] at hLl; simp_all, hc1, by omega, by omega⟩
    all_goals (repeat' (first | refine k_cond rfl ?_ | refine K_skip ?_ | (refine K_region (id := 20) ?_; refine ad ?_; refine mv ?_; refine KO_nil ?_)))
    refine ⟨(i + 1, vo, L), ?_, ?_, (by repeat (first | exact Ks.le_nil _ | refine Ks.le_cons rfl ?_))⟩
    ·show ts.length - (i + 1) < ts.length - i; omega
    ·exact ⟨S.pick, by omega, by rw [htf, List.append_assoc]; exact f2, nxtD g3 (by rw [hx]; exact hgood)⟩
 ·obtain rfl : i = ts.length := by omega
  rw [List.take_of_length_le (Nat.le_refl _)] at g2
  all_goals (repeat' (first | refine K_seq ?_ | refine k_cond rfl ?_ | refine K_skip ?_ | (refine K_region (id := 21) ?_; refine mv ?_; refine lnS S rfl rfl ?_; (first | (refine cS ?_ ?_ <;> intro hc)) <;> (refine KO_nil ?_))))
  ·all_goals (repeat' (first | (refine K_region (id := 22) ?_; refine mv ?_; refine lnB S ?_; refine mv ?_; refine mv ?_; refine KO_nil ?_)))
   refine K_ret ⟨_, rfl, ?_⟩
   refine ⟨ts.length, 110, rfl, .inr ⟨rfl, fun g => ?_⟩, S.drop⟩
   have h1 := g.1.length_eq
   have h2 := g2.length_eq
   rw [List.length_append] at h2
   omega
  ·all_goals (repeat' (first | (refine K_region (id := 23) ?_; refine mv ?_; refine mv ?_; refine KO_nil ?_)))
   refine K_ret ⟨_, rfl, ?_⟩
   obtain rfl : L = [] := List.length_eq_zero_iff.1 (by omega)
   rw [List.append_nil] at g2
   refine ⟨0, 0, rfl, .inl ⟨rfl, rfl, g2, fun x hx => ?_⟩, S.drop⟩
   obtain ⟨j, hj, rfl⟩ := mem_iff_getD.1 hx
   exact g3 j hj
end Go.Proofs.Xx
namespace Go.Proofs.Xx
open Go Go.Proofs
set_option linter.unusedSimpArgs false
set_option linter.unusedVariables false
set_option linter.unusedSectionVars false
set_option maxRecDepth 100000
set_option maxHeartbeats 4000000
theorem ownTr_rd {h0 h : AH} {rs : List Rs} {ts : List Tr_} (S : Hs h0 h rs) (a : At rs (ownR slTr ts)) {i : Nat} (hi : i < ts.length) : RdL h (ts.getD i default).tv.val 1 eI (ts.getD i default).ta := by
 obtain ⟨fp, k⟩ := S.anyP a
 obtain ⟨f2, k2⟩ := Star.get_ (r := slTr (ts.getD i default)) k (List.mem_map.2 ⟨_, mem_getD hi, rfl⟩)
 exact sl_rdL_ k2
theorem flat_le {ts : List Tr_} {n : Nat} (h : (ts.map (·.ta)).flatten.length ≤ n) {i : Nat} (hi : i < ts.length) : (ts.getD i default).ta.length ≤ n := by
 rw [flat_at hi] at h
 simp only [List.length_append] at h
 omega
theorem flat_len {ts : List Tr_} {n : Nat} (h : (ts.map (·.ta)).flatten.length ≤ n) (hne : ∀ x ∈ ts, x.ta ≠ []) : ts.length ≤ n := by
 refine Nat.le_trans ?_ h
 clear h
 induction ts with
 | nil => simp
 | cons x ts ih =>
  have := ih fun y hy => hne y (List.mem_cons_of_mem _ hy)
  have h1 : 0 < x.ta.length := List.length_pos_iff.2 (hne x (by simp))
  simp only [List.map_cons, List.flatten_cons, List.length_append, List.length_cons]
  omega
theorem cost_b {d : Int → Int → Int} {M : Int} : ∀ {c : List (List Int)}, (∀ p ∈ c, 0 ≤ tour d p ∧ tour d p ≤ M) → 0 ≤ cost d c ∧ cost d c ≤ M * c.length
 | [], _ => by simp [cost]
 | p :: c, h => by
  have h1 := h p (by simp)
  have h2 := cost_b (c := c) fun x q => h x (List.mem_cons_of_mem _ q)
  simp only [cost, List.length_cons]; push_cast; rw [Int.mul_add]; omega
theorem take_map {ts : List Tr_} {i : Nat} (hi : i < ts.length) : (ts.take (i + 1)).map (·.ta) = (ts.take i).map (·.ta) ++ [(ts.getD i default).ta] := by
 rw [List.take_add_one, List.getElem?_eq_getElem hi, List.getD_eq_getElem?_getD, List.getElem?_eq_getElem hi, List.map_append]
 simp
end Go.Proofs.Xx
