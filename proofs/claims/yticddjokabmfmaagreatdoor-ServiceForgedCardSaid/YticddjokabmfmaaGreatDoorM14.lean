/-
  A trip is deleted.
-/
import Derived.Test.YticddjokabmfmaaGreatDoorM13
import Derived.Test.YticddjokabmfmaaGreatDoorM12
import Derived.Below
import Derived.ChangeSame
import Derived.ChangeArms
import Derived.OpenShut
import Derived.Test.YticddjokabmfmaaGreatDoorM4
import Derived.Test.YticddjokabmfmaaGreatDoorM3
import Derived.WideShapes
import Derived.ChangeShapes
import Derived.Test.YticddjokabmfmaaGreatDoorM5
import Derived.Test.YticddjokabmfmaaGreatDoorM7
import Derived.Test.YticddjokabmfmaaGreatDoorRows
import Derived.Lib.LaidTab
import Derived.Stop.LaidErr
import Derived.Shelf.Vars
namespace Go.Proofs.Xx
open Go Go.Proofs
set_option linter.unusedSimpArgs false
set_option linter.unusedVariables false
set_option linter.unusedSectionVars false
set_option maxRecDepth 100000
set_option maxHeartbeats 4000000
theorem delTr_ok {h0 h : AH} {rs : List Rs} {v : SlV} {l : List Tr_} (i : Nat) (hi : i < l.length) (hl : l.length ≤ 1000000) (S : Hs h0 h (.sl v.val 56 3 eTr l :: rs)) :
 Fn Tryz.prog Xh 26 [v.val, .int .i64 i, .int .i64 ((i : Int) + 1)] h (fun u h' => Hs h0 h' (.sl u 56 3 eTr (l.take i ++ l.drop (i + 1)) :: rs)) := by
 have S0 := S
 obtain ⟨f1, k1, k2, k3⟩ := S.sep
 have hr := Rd.of_sl S .here
 rcases k1 with ⟨-, rfl⟩ | ⟨b, o, cc, slk, cap, e1, g1, fb, t1, c1, s1⟩
 ·simp at hi
 rw [e1] at hr ⊢
 have hb := g1
 have w := S.wf
 have hcc : o + cap * 3 ≤ cc.length := c1.2
 replace S := Hs.start S.wf
 have hfl := flatMap_length (enc := eTr) (z := 3) (by intro _; rfl) l
 have hcap := c1.1
 refine Fn_K (by first | rfl) Tryz.func26 rfl rfl ?_
 all_goals (repeat' (first | refine K_seq ?_ | (refine K_region (id := 0) ?_; refine mv ?_; refine KO_nil ?_) | (refine K_region (id := 1) ?_; refine mv ?_; refine mv ?_; refine mv ?_; refine mv ?_; refine lnB S ?_)))
 refine rw3 (l := i) (r := i + 1) (m := l.length) hb w (fun ha ca => ?_)
 have xa : Ext h ha := ⟨ca.next, fun j hj => by
  by_cases q : j = b
  ·subst q; rw [ca.at_, hb]
  ·exact ca.old j q hj, ca.wf⟩
 have ra := hr.ext w xa
 have wa := ca.wf
 have ba := ca.at_
 clear S
 have S := Hs.start wa
 (refine KO_nil ?_)
 skip
 all_goals (repeat' (first | refine K_seq ?_ | refine k_cond rfl ?_ | refine K_skip ?_ | (refine K_region (id := 2) ?_; refine mv ?_; refine mv ?_; (refine cF ?_) <;> (refine KO_nil ?_)) | (refine K_region (id := 4) ?_; refine mv ?_; refine lnB S ?_; refine mv ?_; refine KO_nil ?_) | (refine K_draw (id := 5) ?_; refine mv ?_; refine mv ?_)))
 refine rw2 (l := 0) (r := i) ba (fun o2 q1 _ => ?_)
 rw [show o2 = o by have := q1 (by omega); omega]
 refine mv ?_; refine mv ?_
 refine rw2 (l := i + 1) (r := l.length) ba (fun o3 q3 q4 => ?_)
 have ru : Rd ha (.slice (some ⟨b, o3, none⟩) (l.length - (i + 1)) (cap - (i + 1))) 3 (l.length - (i + 1)) ((l.drop (i + 1)).flatMap eTr) := by
  refine .inr ⟨b, o3, _, cc, 56, slk, false, rfl, ba, ?_⟩
  rcases Nat.lt_or_ge (i + 1) cap with z | z
  ·have z1 := q3 z
   have z2 : o3 = o + (i + 1) * 3 := z1
   have := takeAt_sub (i := (i + 1) * 3) (m := (l.length - (i + 1)) * 3) t1 (by omega)
   rw [z2, this, flatMap_drop (z := 3) (by intro _; rfl), List.take_of_length_le (by rw [List.length_drop, hfl]; omega)]
  ·rw [show l.length - (i + 1) = 0 by omega, List.drop_of_length_le (by omega)]
   rfl
 have hone : ((l.drop (i + 1)).flatMap eTr).all one? = true := by
  rw [List.all_eq_true]
  intro x hx
  obtain ⟨y, -, hy⟩ := List.mem_flatMap.1 hx
  simp [eTr] at hy
  rcases hy with rfl | rfl | rfl <;> rfl
 refine rwa (z := 3) ba wa ru (fun hd cd => ?_)
 (refine mv ?_; refine KO_nil ?_)
 have hln : l.length - (i - 0 + (l.length - (i + 1))) = 1 := by omega
 (repeat (refine K_seq ?_)); refine K_region (id := 6) ?_; refine mv ?_; refine mv ?_; refine vl ?_; refine mv ?_
 refine rw2 (l := i - 0 + (l.length - (i + 1))) (r := l.length) cd.at_ (fun o4 q5 _ => ?_)
 have q6 := q5 (by omega)
 have hq6 : o4 = o + (i - 0 + (l.length - (i + 1))) * 3 := q6
 have hsl : (splice cc (o + (i - 0) * 3) ((l.drop (i + 1)).flatMap eTr)).length = cc.length := splice_length _ _ _ (by rw [flatMap_length (z := 3) (by intro _; rfl), List.length_drop]; omega)
 refine rwc cd.at_ cd.wf (fun he ce => ?_) (hfit := ?_)
 rotate_left
 ·rw [hsl]
  show o4 + (l.length - (i - 0 + (l.length - (i + 1)))) * 3 ≤ cc.length
  omega
 (refine KO_nil ?_)
 skip
 all_goals (repeat' (first | refine K_seq ?_ | (refine K_region (id := 7) ?_; refine mv ?_; refine mv ?_; refine KO_nil ?_)))
 refine K_ret ⟨_, rfl, ?_⟩
 have C := (ca.trans cd).trans ce
 have hm : ∀ a c : Nat, a - 0 + c = a + c := fun a c => by omega
 have hlen : (l.take i ++ l.drop (i + 1)).length = i - 0 + (l.length - (i + 1)) := by rw [List.length_append, List.length_take, List.length_drop]; omega
 have hzl : (zeroRow (Value.agg #[Value.slice none 0 0, Value.int IntKind.i64 0, Value.int IntKind.i64 0]).cells.toList (l.length - (i - 0 + (l.length - (i + 1))))).length = (i + 1) * 3 - i * 3 := by
  rw [zrow_len, hln]; show 1 * 3 = _; omega
 have hdrop := flatMap_drop (enc := eTr) (z := 3) (by intro _; rfl) l (i + 1)
 have htake := flatMap_take (enc := eTr) (z := 3) (by intro _; rfl) l i
 show Hs h0 he (.sl (.slice (some ⟨b, o, none⟩) (i - 0 + (l.length - (i + 1))) (cap - 0)) 56 3 eTr (l.take i ++ l.drop (i + 1)) :: rs)
 refine S0.turn .here C.next C.wf fun fp p1 p2 => ?_
 rcases p1 with ⟨p1, -⟩ | ⟨b2, o2, cc2, sl2, cap2, p1, -, p3, -⟩
 ·rw [p1] at e1; cases e1
 obtain rfl : b2 = b := by rw [p1] at e1; cases e1; rfl
 refine ⟨fun j hj hf => C.old j (fun q => by subst q; exact hf p3) hj, fun j => j = b2, .inr ⟨b2, o, _, slk, cap - 0, by rw [hlen], C.at_, rfl, ?_, ⟨by rw [hlen]; omega, ?_⟩, s1⟩, fun j hj => ?_⟩
 ·rw [hlen]
  have hg : ∀ j, j < l.length * 3 → cc[o + j]? = (l.flatMap eTr)[j]? := fun j hj => takeAt_get t1 hj
  have D := del_get (zr := zeroRow (Value.agg #[Value.slice none 0 0, Value.int IntKind.i64 0, Value.int IntKind.i64 0]).cells.toList (l.length - (i - 0 + (l.length - (i + 1))))) (a := i * 3) (b := (i + 1) * 3) (z := 3) hg hfl (by omega) hzl (by omega)
  rw [hdrop, hq6, Nat.sub_zero, show (i + (l.length - (i + 1))) * 3 = i * 3 + (l.length * 3 - (i + 1) * 3) by omega]
  have e2 : (l.take i ++ l.drop (i + 1)).flatMap eTr = (l.flatMap eTr).take (i * 3) ++ (l.flatMap eTr).drop ((i + 1) * 3) := by rw [List.flatMap_append, htake, hdrop]
  rw [e2]
  rw [Nat.sub_zero] at D
  refine takeAt_ext ?_ ?_ D
  ·rw [List.length_append, List.length_take, List.length_drop, hfl]; omega
  ·rw [splice_length, splice_length]
   ·omega
   ·rw [List.length_drop, hfl]; omega
   ·rw [splice_length _ _ _ (by rw [List.length_drop, hfl]; omega)]
    have hz2 := hzl
    simp only [Nat.sub_zero] at hz2 ⊢
    rw [hz2]; omega
 ·rw [splice_length, hsl]
  ·show o + (cap - 0) * 3 ≤ _; omega
  ·rw [hsl, hzl]; omega
 ·subst hj; exact ⟨C.wf.lt C.at_, .inl p3⟩
end Go.Proofs.Xx
namespace Go.Proofs.Xx
open Go Go.Proofs
set_option linter.unusedSimpArgs false
set_option linter.unusedVariables false
set_option linter.unusedSectionVars false
set_option maxRecDepth 100000
set_option maxHeartbeats 4000000
theorem forged1_ok {h0 : AH} (w : WfH h0) {b : Nat} {k : Int} (hb : h0.get b = some (.cells [.int .i64 k] 3 none false)) (x : Int) : Fn Tryz.prog Xh 27 [.int .i64 x, .pointer (some ⟨b, 0, none⟩)] h0 (fun v h' => BoolIs v (k < x) ∧ Hs h0 h' []) := by
 have S := Hs.start w
 refine Fn_K (by first | rfl) Tryz.func27 rfl rfl ?_
 all_goals (repeat' (first | refine K_seq ?_ | (refine K_region (id := 0) ?_; refine mv ?_; refine KO_nil ?_) | (refine K_region (id := 1) ?_; refine mv ?_; refine lH S ?_; (first | (refine cS ?_ ?_ <;> intro hc)) <;> (refine mv ?_; refine KO_nil ?_))))
 all_goals (refine K_ret ⟨_, rfl, ?_⟩)
 ·exact ⟨.inl ⟨rfl, by omega⟩, S⟩
 ·exact ⟨.inr ⟨rfl, by omega⟩, S⟩
theorem getD_setT {F : List Tr_} {i j : Nat} {x : Tr_} (hi : i < F.length) : (F.set i x).getD j default = if i = j then x else F.getD j default := by
 rw [List.getD_eq_getElem?_getD, List.getElem?_set]
 by_cases e : i = j
 ·subst e; rw [if_pos rfl, if_pos hi, if_pos rfl]; rfl
 ·rw [if_neg e, if_neg e, ← List.getD_eq_getElem?_getD]
theorem set_parts {ts : List Tr_} {i : Nat} {x : Tr_} (hi : i < ts.length) : ts = ts.take i ++ ts.getD i default :: ts.drop (i + 1) ∧ ts.set i x = ts.take i ++ x :: ts.drop (i + 1) := by
 refine ⟨?_, by rw [List.set_eq_take_append_cons_drop, if_pos hi]⟩
 rw [List.getD_eq_getElem?_getD, List.getElem?_eq_getElem hi, Option.getD_some, ← List.drop_eq_getElem_cons hi, List.take_append_drop]
theorem rd_same {h : AH} {v : Value} {ts : List Tr_} {i : Nat} {x : Tr_} (hi : i < ts.length) (e : eTr x = eTr (ts.getD i default)) (r : RdL h v 3 eTr ts) : RdL h v 3 eTr (ts.set i x) := by
 obtain ⟨p1, p2⟩ := set_parts (x := x) hi
 have : (ts.set i x).flatMap eTr = ts.flatMap eTr := by
  rw [p2]
  conv => rhs; rw [p1]
  simp only [List.flatMap_append, List.flatMap_cons, e]
 show Rd h v 3 (ts.set i x).length ((ts.set i x).flatMap eTr)
 rw [this, List.length_set]
 exact r
theorem good_rev {p : Pb} {ld : Int → Int} {k : Int} {st : List Int} {ts : List Tr_} {i : Nat} (hi : i < ts.length) (g : GoodT p ld k st ts) : GoodT p ld k st (ts.set i { ts.getD i default with ta := (ts.getD i default).ta.reverse }) := by
 obtain ⟨p1, p2⟩ := set_parts (x := { ts.getD i default with ta := (ts.getD i default).ta.reverse }) hi
 refine ⟨?_, fun x hx => ?_⟩
 ·have e := g.1
  rw [flat_at hi] at e
  rw [p2]
  simp only [List.map_append, List.map_cons, List.flatten_append, List.flatten_cons]
  refine List.Perm.trans ?_ e
  rw [List.append_assoc]
  exact List.Perm.append_left _ (List.Perm.append_right _ (List.reverse_perm _))
 ·rw [p2] at hx
  rcases List.mem_append.1 hx with r | r
  ·exact g.2 x (List.mem_of_mem_take r)
  ·rcases List.mem_cons.1 r with r | r
   ·obtain ⟨q1, q2, q3, q4⟩ := g.2 _ (mem_getD hi)
    rw [r]
    exact ⟨fun z => q1 (List.reverse_eq_nil_iff.1 z), by rw [show (_ : Tr_).pl = (ts.getD i default).pl from rfl, q2]; exact sumL_perm (List.reverse_perm _).symm, by rw [show (_ : Tr_).st = (ts.getD i default).st from rfl, q3]; exact (tour_rev (stp_met p.tabs) _).symm, q4⟩
   ·exact g.2 x (List.mem_of_mem_drop r)
theorem serviceForged_true {h0 : AH} (w : WfH h0) (v : NuV) (na nb nc nd : List Nat) (H : NuR h0 v na nb nc nd) (va : Value) (mo : List Nat) (rmo : RdL h0 va 1 e16 mo) (cmo : CapOk va) (hmo : mo.length ≤ 9223372036854775807) (hm16 : ∀ i, i < mo.length → mo.getD i default < 65536)
 (vs : Value) (ls : List Int) (rsl : RdL h0 vs 1 eI ls) (hls : ls.length ≤ 9223372036854775807) (vsw : Value) (sw : List (Nat × Nat)) (rs : RdL h0 vsw 2 e82 sw) (cs : CapOk vsw) (hs : sw.length ≤ 9223372036854775807) (hb : ∀ i, i < sw.length → (sw.getD i default).1 < 256 ∧ (sw.getD i default).2 < 256) (mst at_ wy : Nat) (hmst : mst < 256) (hat : at_ < 256) (hwy : wy < 256) (x0 : Tr_) (rx0 : RdL h0 x0.tv.val 1 eI x0.ta) (hx0 : x0.ta.length ≤ 9223372036854775807) :
 Fn Tryz.prog Xh 6 [.agg #[v.vt.val, v.vg.val, v.vi.val, v.vr.val], va, vs, vsw, .int .u8 mst, .int .u8 at_, .int .u8 wy, .agg (eTr x0).toArray] h0 (fun u _ => u = .bool true) := by
 have S := Hs.start w
 refine Fn_K (by first | rfl) Tryz.func6 rfl rfl ?_
 all_goals (repeat' (first | refine K_seq ?_ | (refine K_region (id := 0) ?_; (refine bx S ?_; clear S; intro b h S); (refine bx S ?_; clear S; intro b h S); refine mv ?_; refine KO_nil ?_)))
 rename_i b8 h8
 obtain ⟨b15, hnm⟩ : ∃ x, x = b := ⟨_, rfl⟩; subst hnm
 replace S : Hs h0 h [.blk b15 (eTr x0) 56, .blk b8 v.cs 26] := S
 all_goals (repeat' (first | (refine K_region (id := 1) ?_; refine lB S rfl rfl ?_; refine mv ?_; refine mv ?_)))
 (refine KO_fn rfl rfl rfl rfl rfl ((made11_ok S.wf v na nb nc nd (H.ext w S.ext) va mo (rmo.ext w S.ext) cmo hmo hm16 vs ls (rsl.ext w S.ext) hls).mono ?_); rintro _ h ⟨pv, p, q, vq, rfl, hP, hl9, hO, hQ, rq, s⟩) <;> (replace S := S.join0 s; clear s; have w1 := S.wf; have rs' := rs.ext w S.ext; have rx1 := rx0.ext w S.ext; have g15 := Hs.gB (b := b15) S; replace S := Hs.start w1; obtain ⟨hB0, hnm⟩ : ∃ x, x = h := ⟨_, rfl⟩; subst hnm; refine mv ?_; refine vl ?_; refine vl ?_; (refine al S ?_; clear S; intro b h S); (first | (refine sB S rfl rfl ?_; clear S; intro h S)); refine mv ?_; refine KO_nil ?_)
 obtain ⟨b17, hnm⟩ : ∃ x, x = b := ⟨_, rfl⟩; subst hnm
 replace S : Hs hB0 h [.blk b17 pv.cs 33] := S
 have hq64 := hQ.ql hP
 have hsl := srv_len (pl := pltV p q)
 have hpl := pltV_len (p := p) (q := q)
 rw [hpl] at hsl
 have hpl2 : (pltV p q).length ≤ 1000 := by rw [hpl]; omega
 have hsr := srv_in (p := p) (q := q)
 have inc0 := srv_inc (pl := pltV p q)
 have nd0 : (srv (pltV p q)).Nodup := srv_inc.imp fun h => Int.ne_of_lt h
 have hld := ldP_b (p := p) (q := q)
 have hpn : ∀ i, 0 ≤ (pltV p q).getD i default := fun i => pltV_nn.1
 obtain ⟨k1, k2, k3⟩ := bestW_ok (q := q) hP
 all_goals (repeat' (first | refine K_seq ?_ | (refine K_region (id := 2) ?_; refine lB S rfl rfl ?_; refine mv ?_)))
 (refine KO_fn rfl rfl rfl rfl rfl ((PlatesP_ok S.wf pv p (hO.ext w1 S.ext) hP vq q (rq.ext w1 S.ext) hQ).mono ?_); rintro vp h x) <;> (replace S := S.join1 x; clear x; refine mv ?_; refine KO_nil ?_)
 have m1 := Int.emod_nonneg (mst : Int) (show (12 : Int) ≠ 0 by omega)
 have m2 := Int.emod_lt_of_pos (mst : Int) (show (0 : Int) < 12 by omega)
 all_goals (repeat' (first | refine K_seq ?_ | (refine K_region (id := 3) ?_; refine mv ?_; refine rmU ?_; refine cI ?_; refine ad ?_; (refine al S ?_; clear S; intro b h S); (first | (refine sB S rfl rfl ?_; clear S; intro h S)); refine KO_nil ?_)))
 obtain ⟨K, hK⟩ : ∃ K, 1 + (mst : Int) % 12 = K := ⟨_, rfl⟩
 rw [hK] at S
 have hKb : 1 ≤ K ∧ K ≤ 12 := by omega
 clear m1 m2 hK
 obtain ⟨b20, hnm⟩ : ∃ x, x = b := ⟨_, rfl⟩; subst hnm
 replace S : Hs hB0 h [.blk b20 [.int .i64 K] 3, .sl vp 3 1 eI (pltV p q), .blk b17 pv.cs 33] := S
 obtain ⟨pl, hpe⟩ : ∃ pl, pltV p q = pl := ⟨_, rfl⟩
 obtain ⟨stops, hse⟩ : ∃ stops, srv pl = stops := ⟨_, rfl⟩
 have hld2 : ∀ t, 0 ≤ ldP pl t ∧ ldP pl t ≤ 1000 := fun t => by have := hld t; rw [hpe] at this; omega
 skip
 (repeat (refine K_seq ?_)); first | refine K_join1 (σ := Value × List Tr_) (fun (vL, ts) h' => Hs hB0 h' [.sl vL 56 3 eTr ts, ownR slTr ts, .blk b20 [.int .i64 K] 3, .sl vp 3 1 eI pl, .blk b17 pv.cs 33] ∧ ts.length ≤ 9 ∧ (ts.map (·.ta)).flatten.length ≤ 9 ∧ (∀ x ∈ ts, 0 ≤ x.st ∧ x.st ≤ 20000) ∧ ((∀ t ∈ stops, ldP pl t ≤ K) → GoodT p (ldP pl) K stops ts)) (fun (vL, ts) => [(5, .int .u8 at_), (6, .int .u8 wy), (15, .pointer (some ⟨b15, 0, none⟩)), (17, .pointer (some ⟨b17, 0, none⟩)), (18, vq), (19, vp), (20, .pointer (some ⟨b20, 0, none⟩)), (21, vL)]) ?_ ?_
 ·(repeat (refine K_seq ?_)); refine K_drawX (id := 4) [(0, (0, 2)), (6, (0, 2))] [some (b17), some (b20)] ?_; refine KX_cons ?_; (first | (refine lB S rfl rfl ?_ <;> refine KO_nil ⟨⟨by (first | exact Or.inr rfl), rfl⟩, ?_⟩)); refine KX_cons ?_; (first | (refine mv ?_ <;> refine KO_nil ⟨⟨by (first | exact True.intro), rfl⟩, ?_⟩)); refine KX_cons ?_; (first | (refine mv ?_ <;> refine KO_nil ⟨⟨by (first | exact True.intro), rfl⟩, ?_⟩))
  ((refine KX_cons ?_; first | refine KO_fn rfl rfl rfl rfl rfl ((lserved_ok S.wf vp (pltV p q) (Rd.of_sl S (.there .here)) hpl2).mono ?_)); rintro vst h x) <;> ((refine KO_nil ⟨⟨True.intro, ?_⟩, ?_⟩; (focus ((show keepsX _ _ _ _ _; simp only [keepsX]; (repeat' (first | exact True.intro | refine And.intro ?_ ?_)); all_goals (intro hw; first | exact x.ext.old _ S.bB))))); replace S := S.join1 x; clear x; refine KX_cons ?_; (first | (refine mv ?_ <;> refine KO_nil ⟨⟨by (first | exact True.intro), rfl⟩, ?_⟩)))
  ((refine KX_cons ?_; first | refine KO_fn rfl rfl rfl rfl rfl ((exchanged_ok S.wf vst (srv (pltV p q)) (Rd.of_sl S .here) (by omega) vsw sw (rs'.ext w1 S.ext) cs hs hb).mono ?_)); rintro vw h ⟨way, hw, x⟩) <;> ((refine KO_nil ⟨⟨True.intro, ?_⟩, ?_⟩; (focus ((show keepsX _ _ _ _ _; simp only [keepsX]; (repeat' (first | exact True.intro | refine And.intro ?_ ?_)); all_goals (intro hw; first | exact x.ext.old _ S.bB))))); replace S := S.join1 x; clear x; refine KX_cons ?_; (first | (refine lB S rfl rfl ?_ <;> refine KO_nil ⟨⟨by (first | exact Or.inr rfl), rfl⟩, ?_⟩)))
  have hwl : way.length ≤ 9 := by have := hw.length_eq; omega
  have hwr : ∀ t ∈ way, 0 ≤ t ∧ t < p.tabs.length := fun t ht => hsr t (hw.mem_iff.1 ht)
  have cvw := S.capS .here
  ((refine KX_cons ?_; first | refine KO_fn rfl rfl rfl rfl rfl ((trips_ok S.wf pv p (hO.ext w1 S.ext) hP vq q (rq.ext w1 S.ext) hQ hl9 vw way (Rd.of_sl S .here) cvw hw K (by omega)).mono ?_)); rintro _ h (⟨⟨t0, ht0, htk⟩, rfl, x⟩ | ⟨hle, vL, ts, rfl, x, c1, c2, c3, c4⟩)) <;> ((refine KO_nil ⟨⟨True.intro, ?_⟩, ?_⟩; (focus ((show keepsX _ _ _ _ _; simp only [keepsX]; (repeat' (first | exact True.intro | refine And.intro ?_ ?_)); all_goals (intro hw; first | exact absurd hw (by decide +kernel)))))); (first | replace S := S.join2 x | replace S := S.join0 x); clear x; refine KX_cons ?_; (first | (refine mv ?_ <;> refine KO_nil ⟨⟨by (first | exact True.intro), rfl⟩, ?_⟩)); refine KX_cons ?_; (first | (refine vl ?_ <;> refine KO_nil ⟨⟨by (first | exact True.intro), rfl⟩, ?_⟩)); refine KX_cons ?_; (first | (refine vl ?_ <;> refine KO_nil ⟨⟨by (first | exact True.intro), rfl⟩, ?_⟩)); refine KX_cons ?_; (first | (refine mv ?_ <;> refine KO_nil ⟨⟨by (first | exact True.intro), rfl⟩, ?_⟩)); refine KX_cons ?_; (first | (refine mv ?_ <;> refine KO_nil ⟨⟨by (first | exact True.intro), rfl⟩, ?_⟩)); refine KX_nil ?_)
  ·rw [hpe] at S htk
   have S := S.nilS (e := 56) (z := 3) (enc := eTr)
   have S := S.owNil (f := slTr)
   replace S : Hs hB0 h [ownR slTr [], .sl (.slice none 0 0) 56 3 eTr [], .sl vw 3 1 eI way, .sl vst 3 1 eI (srv pl), .blk b20 [.int .i64 K] 3, .sl vp 3 1 eI pl, .blk b17 pv.cs 33] := S
   refine ⟨(.slice none 0 0, []), ⟨S.pick, by simp, by simp, fun x hx => (by cases hx), fun ha => ?_⟩, ((by repeat (first | exact Ks.le_nil _ | refine Ks.le_cons rfl ?_)))⟩
   rw [hpe, hse] at hw
   have := ha t0 (hw.mem_iff.1 ht0)
   omega
  ·rw [hpe] at S hle c1 c3 c4
   rw [hpe, hse] at hw
   have hfl : (ts.map (·.ta)).flatten.length ≤ 9 := by rw [c2]; exact hwl
   have htsl : ts.length ≤ 9 := flat_len hfl fun x hx => (c1 x.ta (List.mem_map.2 ⟨x, hx, rfl⟩)).1
   refine ⟨(vL, ts), ⟨S.pick, htsl, hfl, fun x hx => ?_, fun _ => ⟨by rw [c2]; exact hw, fun x hx => ?_⟩⟩, ((by repeat (first | exact Ks.le_nil _ | refine Ks.le_cons rfl ?_)))⟩
   ·rw [(c3 x hx).2]
    have h1 := tour_b hP.tabs (l := x.ta) fun t ht => (hwr t (by rw [← c2]; exact List.mem_flatten.2 ⟨x.ta, List.mem_map.2 ⟨x, hx, rfl⟩, ht⟩)).2
    obtain ⟨j, hj, rfl⟩ := mem_iff_getD.1 hx
    have h2 := flat_le hfl hj
    omega
   ·have q1 := c1 x.ta (List.mem_map.2 ⟨x, hx, rfl⟩)
    have q2 := c3 x hx
    exact ⟨q1.1, q2.1, q2.2, by rw [q2.1]; exact q1.2⟩
 clear S
 rw [hpe] at hpl hpl2 hsl hsr inc0 nd0 hpn k1 k3
 rw [hse] at hsl hsr inc0 nd0 k1 k3
 rintro ⟨vL, ts⟩ h ⟨S, d1, d2, d3, d4⟩
 have rall : ∀ {h2 : AH} {rs2 : List Rs} (S2 : Hs hB0 h2 rs2) (a : At rs2 (ownR slTr ts)), ∀ i, i < ts.length → RdL h2 (ts.getD i default).tv.val 1 eI (ts.getD i default).ta ∧ (ts.getD i default).ta.length ≤ 9223372036854775807 := fun S2 a i hi => ⟨ownTr_rd S2 a hi, by have := flat_le d2 hi; omega⟩
 skip
 (repeat (refine K_seq ?_)); first | refine K_join (σ := Value × List Tr_) (fun (vL, ts) h' => Hs hB0 h' [.blk b20 [.int .i64 K] 3, .sl vp 3 1 eI pl, .blk b17 pv.cs 33] ∧ RdL h' vL 3 eTr ts ∧ ts.length ≤ 10 ∧ (∀ i, i < ts.length → RdL h' (ts.getD i default).tv.val 1 eI (ts.getD i default).ta ∧ (ts.getD i default).ta.length ≤ 9223372036854775807) ∧ (¬ ((wy : Int) % 6 < 4) → (∀ t ∈ stops, ldP pl t ≤ K) → GoodT p (ldP pl) K stops ts)) (fun (vL, ts) => [(6, .int .u8 wy), (17, .pointer (some ⟨b17, 0, none⟩)), (18, vq), (19, vp), (20, .pointer (some ⟨b20, 0, none⟩)), (21, vL)]) ?_ ?_
 ·all_goals (repeat' (first | refine K_seq ?_ | refine k_cond rfl ?_ | refine K_skip ?_ | (refine K_region (id := 5) ?_; refine mv ?_; refine lnS S rfl rfl ?_; (first | (refine cS ?_ ?_ <;> intro hc)) <;> (refine KO_nil ?_))))
  ·have e1 := Int.emod_nonneg (at_ : Int) (show (ts.length : Int) ≠ 0 by omega)
   have e2 := Int.emod_lt_of_pos (at_ : Int) (show (0 : Int) < (ts.length : Int) by omega)
   all_goals (repeat' (first | refine K_seq ?_ | (refine K_region (id := 6) ?_; refine mv ?_; refine cI ?_; refine mv ?_; refine lnS S rfl rfl ?_; refine rm ?_; refine mv ?_; refine KO_nil ?_)))
   obtain ⟨i, hi⟩ : ∃ i : Nat, (at_ : Int) % (ts.length : Int) = i := ⟨((at_ : Int) % (ts.length : Int)).toNat, by omega⟩
   rw [hi] at e1 e2 ⊢
   have hil : i < ts.length := by omega
   have f1 := Int.emod_nonneg (wy : Int) (show (6 : Int) ≠ 0 by omega)
   have f2 := Int.emod_lt_of_pos (wy : Int) (show (0 : Int) < 6 by omega)
   all_goals (repeat' (first | refine K_seq ?_ | refine k_block ?_ | (refine K_region (id := 7) ?_; refine mv ?_; refine rmU ?_; refine KO_nil ?_)))
   all_goals (repeat' (first | refine K_seq ?_ | refine k_cond rfl ?_ | (refine K_region (id := 8) ?_; (first | (refine cS ?_ ?_ <;> intro hc)) <;> (refine mv ?_; refine KO_nil ?_))))
   ·(repeat (refine K_seq ?_)); refine K_region (id := 9) ?_; refine mv ?_; refine mv ?_; refine lH S ?_; refine ixS2 S rfl rfl ?_; refine sE2 (y := x0) S rfl rfl ?_; clear S; intro h S; refine KO_nil ?_
    replace S : Hs hB0 h [.sl vL 56 3 eTr (ts.set i x0), ownR slTr ts, .blk b20 [.int .i64 K] 3, .sl vp 3 1 eI pl, .blk b17 pv.cs 33] := S
    refine ⟨(vL, ts.set i x0), ⟨S.pick, Rd.of_sl S .here, by rw [List.length_set]; omega, fun j hj => ?_, fun hn => absurd (by omega) hn⟩, ((by repeat (first | exact Ks.le_nil _ | refine Ks.le_cons rfl ?_)))⟩
    rw [List.length_set] at hj
    rw [getD_setT hil]
    split
    ·exact ⟨rx1.ext w1 S.ext, hx0⟩
    ·exact rall S (.there .here) j hj
   all_goals (repeat' (first | refine K_seq ?_ | refine k_cond rfl ?_ | (refine K_region (id := 10) ?_; (first | (refine cS ?_ ?_ <;> intro hc)) <;> (refine mv ?_; refine KO_nil ?_))))
   ·all_goals (repeat' (first | (refine K_region (id := 11) ?_; refine mv ?_; refine mv ?_; refine mv ?_; refine ixS2 S rfl rfl ?_; refine lES2 S rfl rfl ?_; (refine one 3 S ?_; clear S; intro u h S))))
    refine app (y0 := (ts.getD (i : Int).toNat default)) S rfl rfl ?_; clear S; intro v h S; refine mv ?_; refine KO_nil ?_
    replace S : Hs hB0 h [.sl v 56 3 eTr (ts ++ [ts.getD i default]), ownR slTr ts, .blk b20 [.int .i64 K] 3, .sl vp 3 1 eI pl, .blk b17 pv.cs 33] := S
    refine ⟨(v, ts ++ [ts.getD i default]), ⟨S.pick, Rd.of_sl S .here, by simp; omega, fun j hj => ?_, fun hn => absurd (by omega) hn⟩, ((by repeat (first | exact Ks.le_nil _ | refine Ks.le_cons rfl ?_)))⟩
    have hm : (ts ++ [ts.getD i default]).getD j default ∈ ts := by
     have := mem_getD hj
     rcases List.mem_append.1 this with r | r
     ·exact r
     ·rw [List.mem_singleton.1 r]; exact mem_getD hil
    obtain ⟨j2, hj2, e⟩ := mem_iff_getD.1 hm
    rw [← e]
    exact rall S (.there .here) j2 hj2
   all_goals (repeat' (first | refine K_seq ?_ | refine k_cond rfl ?_ | (refine K_region (id := 12) ?_; (first | (refine cS ?_ ?_ <;> intro hc)) <;> (refine mv ?_; refine KO_nil ?_))))
   ·obtain ⟨sL, rfl⟩ := S.sV vL
    all_goals (repeat' (first | (refine K_region (id := 13) ?_; refine mv ?_; refine mv ?_; refine mv ?_; refine ad ?_)))
    (refine KO_fn rfl rfl rfl rfl rfl ((delTr_ok i hil (by omega) S).mono ?_); rintro vn h S) <;> (refine mv ?_; refine KO_nil ?_)
    all_goals (repeat' (fail))
    refine ⟨(vn, ts.take i ++ ts.drop (i + 1)), ⟨S.pick, Rd.of_sl S .here, by simp; omega, fun j hj => ?_, fun hn => absurd (by omega) hn⟩, ((by repeat (first | exact Ks.le_nil _ | refine Ks.le_cons rfl ?_)))⟩
    have hm : (ts.take i ++ ts.drop (i + 1)).getD j default ∈ ts := by
     have := mem_getD hj
     rcases List.mem_append.1 this with r | r
     ·exact List.mem_of_mem_take r
     ·exact List.mem_of_mem_drop r
    obtain ⟨j2, hj2, e⟩ := mem_iff_getD.1 hm
    rw [← e]
    exact rall S (.there .here) j2 hj2
   all_goals (repeat' (first | refine K_seq ?_ | refine k_cond rfl ?_ | (refine K_region (id := 14) ?_; (first | (refine cS ?_ ?_ <;> intro hc)) <;> (refine mv ?_; refine KO_nil ?_))))
   ·have hst := d3 _ (mem_getD hil)
    replace hst : 0 ≤ (ts.getD (i : Int).toNat default).st ∧ (ts.getD (i : Int).toNat default).st ≤ 20000 := hst
    (repeat (refine K_seq ?_)); refine K_region (id := 15) ?_; refine mv ?_; refine mv ?_; refine ixS2 S rfl rfl ?_; refine fS S rfl rfl ?_; refine lES2 S rfl rfl ?_; refine sb ?_; refine ixS2 S rfl rfl ?_; refine fS S rfl rfl ?_; refine sE2 (y := ({ ts.getD (i : Int).toNat default with st := (ts.getD (i : Int).toNat default).st - 1 } : Tr_)) S rfl rfl ?_; clear S; intro h S; refine KO_nil ?_
    replace S : Hs hB0 h [.sl vL 56 3 eTr (ts.set i { ts.getD i default with st := (ts.getD i default).st - 1 }), ownR slTr ts, .blk b20 [.int .i64 K] 3, .sl vp 3 1 eI pl, .blk b17 pv.cs 33] := S
    refine ⟨(vL, ts.set i { ts.getD i default with st := (ts.getD i default).st - 1 }), ⟨S.pick, Rd.of_sl S .here, by rw [List.length_set]; omega, fun j hj => ?_, fun hn => absurd (by omega) hn⟩, ((by repeat (first | exact Ks.le_nil _ | refine Ks.le_cons rfl ?_)))⟩
    rw [List.length_set] at hj
    rw [getD_setT hil]
    split
    ·exact rall S (.there .here) i hil
    ·exact rall S (.there .here) j hj
   all_goals (repeat' (first | refine k_cond rfl ?_ | refine K_skip ?_ | (refine K_region (id := 16) ?_; (first | (refine cS ?_ ?_ <;> intro hc)) <;> (refine mv ?_; refine KO_nil ?_))))
   ·all_goals (repeat' (first | (refine K_region (id := 17) ?_; refine mv ?_; refine mv ?_; refine ixS2 S rfl rfl ?_; refine fS S rfl rfl ?_; refine lES2 S rfl rfl ?_)))
    have S := Hs.owOpen (f := slTr) (show Hs hB0 h [ownR slTr ts, .sl vL 56 3 eTr ts, .blk b20 [.int .i64 K] 3, .sl vp 3 1 eI pl, .blk b17 pv.cs 33] from S.pick) hil
    have hxl := flat_le d2 hil
    (refine KO_fn rfl rfl rfl rfl rfl ((rev_ok (l := (ts.getD i default).ta) (by omega) S).mono ?_); rintro _ h S) <;> (refine KO_nil ?_)
    have S := Hs.owShut (f := slTr) (gs := ts) (g := { ts.getD i default with ta := (ts.getD i default).ta.reverse }) S hil
    have r2 := rd_same hil (x := { ts.getD i default with ta := (ts.getD i default).ta.reverse }) rfl (Rd.of_sl S (.there .here))
    refine ⟨(vL, ts.set i { ts.getD i default with ta := (ts.getD i default).ta.reverse }), ⟨S.pick, r2, by rw [List.length_set]; omega, fun j hj => ⟨ownTr_rd S .here hj, ?_⟩, fun _ ha => good_rev hil (d4 ha)⟩, ((by repeat (first | exact Ks.le_nil _ | refine Ks.le_cons rfl ?_)))⟩
    rw [List.length_set] at hj
    rw [getD_setT hil]
    split
    ·show (ts.getD i default).ta.reverse.length ≤ _
     rw [List.length_reverse]; omega
    ·have := flat_le d2 hj; omega
   ·exact ⟨(vL, ts), ⟨S.pick, Rd.of_sl S .here, by omega, rall S (.there .here), fun _ => d4⟩, ((by repeat (first | exact Ks.le_nil _ | refine Ks.le_cons rfl ?_)))⟩
  ·exact ⟨(vL, ts), ⟨S.pick, Rd.of_sl S .here, by omega, rall S (.there .here), fun _ => d4⟩, ((by repeat (first | exact Ks.le_nil _ | refine Ks.le_cons rfl ?_)))⟩
 clear S rall d1 d2 d3 d4
 rintro ⟨vL, ts⟩ h ⟨S, d0, d1, d2, d3⟩
 have w2 := S.wf
 obtain ⟨hC, hnm⟩ : ∃ x, x = h := ⟨_, rfl⟩; subst hnm
 have g17 := Hs.gB (b := b17) S
 have g20 := Hs.gB (b := b20) S
 have rp := Rd.of_sl S (.there .here)
 have hO2 := hO.ext w1 S.ext
 have rq2 := rq.ext w1 S.ext
 clear S hO rq rs' rx1
 have S := Hs.start w2
 skip
 all_goals (repeat' (first | refine K_seq ?_ | (refine K_region (id := 18) ?_; refine lH S ?_; refine mv ?_; refine mv ?_; refine lH S ?_)))
 (refine KO_fn rfl rfl rfl rfl rfl ((checkTrips_ok S.wf pv p (hO2.ext w2 S.ext) hP vq q (rq2.ext w2 S.ext) hQ hl9 vL ts (d0.ext w2 S.ext) (by omega) (fun i hi => ⟨(d2 i hi).1.ext w2 S.ext, (d2 i hi).2⟩) K (by omega)).mono ?_); rintro _ h2 ⟨i, e, rfl, hg, x⟩) <;> (replace S := S.join0 x; clear x; refine mv ?_; refine vl ?_; refine vl ?_; refine mv ?_; refine mv ?_; refine KO_nil ?_)
 rw [hpe, hse] at hg
 all_goals (repeat' (first | refine K_seq ?_ | refine k_cond rfl ?_ | refine K_skip ?_ | (refine K_region (id := 19) ?_; refine mv ?_; (first | (refine cS ?_ ?_ <;> intro hc)) <;> (refine KO_nil ?_))))
 ·have hbad : ¬ GoodT p (ldP pl) K stops ts := by
   rcases hg with ⟨q1, -⟩ | ⟨-, q1⟩
   ·exact absurd q1 (by assumption)
   ·exact q1
  have f1 := Int.emod_nonneg (wy : Int) (show (6 : Int) ≠ 0 by omega)
  have f2 := Int.emod_lt_of_pos (wy : Int) (show (0 : Int) < 6 by omega)
  all_goals (repeat' (first | (refine K_region (id := 20) ?_; refine mv ?_; refine rmU ?_; (first | (refine cS ?_ ?_ <;> intro hc)) <;> (refine mv ?_; (first | refine off ?_ | refine mv ?_); (first | refine off ?_ | refine vl ?_); (first | (refine off ?_; refine vl ?_; refine mv ?_; (skip)) | skip)))))
  ·(refine KO_fn rfl rfl rfl rfl rfl ((awake_ok).mono ?_); rintro _ _ ⟨rfl, rfl⟩) <;> (refine vl ?_; refine mv ?_; refine KO_nil ?_)
   all_goals (repeat' (fail))
   refine K_ret ⟨_, rfl, ?_⟩
   rfl
  ·have w3 := S.wf
   have g20' := S.ext.get w2 g20
   (refine KO_fn rfl rfl rfl rfl rfl ((containsFN_ok S.wf vp pl (rp.ext w2 S.ext) (by omega) (27, #[.pointer (some ⟨b20, 0, none⟩)]) (fun x => K < x) (fun h' i e _ _ => forged1_ok e.wf (e.get w3 g20') _)).mono ?_); rintro _ h2 ⟨⟨rfl, hq⟩ | ⟨rfl, hq⟩, x⟩) <;> (replace S := S.join0 x; clear x; refine vl ?_; refine mv ?_; (first | (refine off ?_; refine vl ?_; refine mv ?_; refine KO_nil ?_) | skip))
   ·(refine KO_fn rfl rfl rfl rfl rfl ((awake_ok).mono ?_); rintro _ _ ⟨rfl, rfl⟩) <;> (refine vl ?_; refine mv ?_; refine KO_nil ?_)
    all_goals (repeat' (fail))
    refine K_ret ⟨_, rfl, ?_⟩
    rfl
   ·exfalso
    refine hbad (d3 (by assumption) fun t ht => ?_)
    rw [← hse] at ht
    obtain ⟨j, hj, rfl, -⟩ := srv_mem.1 ht
    have e : ldP pl (j : Int) = pl.getD j default := rfl
    rw [e]
    exact Int.not_lt.1 fun z => hq ⟨j, hj, z⟩
 have hgood : GoodT p (ldP pl) K stops ts := by
  rcases hg with ⟨-, -, q1⟩ | ⟨q1, -⟩
  ·exact q1
  ·omega
 clear hg d3
 have hfl : (ts.map (·.ta)).flatten.length ≤ 9 := by rw [hgood.1.length_eq]; omega
 have htsl : ts.length ≤ 9 := flat_len hfl fun x hx => (hgood.2 x hx).1
 have htx : ∀ x ∈ ts, ∀ t ∈ x.ta, 0 ≤ t ∧ t < p.tabs.length := fun x hx t ht => hsr t (hgood.1.mem_iff.1 (List.mem_flatten.2 ⟨x.ta, List.mem_map.2 ⟨x, hx, rfl⟩, ht⟩))
 have htour : ∀ x ∈ ts, 0 ≤ tour (stp p.tabs) x.ta ∧ tour (stp p.tabs) x.ta ≤ 20000 := fun x hx => by
  have h1 := tour_b hP.tabs (l := x.ta) fun t ht => (htx x hx t ht).2
  obtain ⟨j, hj, rfl⟩ := mem_iff_getD.1 hx
  have h2 := flat_le hfl hj
  omega
 have hcost : ∀ i, 0 ≤ cost (stp p.tabs) ((ts.take i).map (·.ta)) ∧ cost (stp p.tabs) ((ts.take i).map (·.ta)) ≤ 180000 := fun i => by
  have h1 := cost_b (d := stp p.tabs) (M := 20000) (c := (ts.take i).map (·.ta)) fun z hz => by
   obtain ⟨x, hx, rfl⟩ := List.mem_map.1 hz
   exact htour x (List.mem_of_mem_take hx)
  rw [List.length_map, List.length_take] at h1
  omega
 have hsub : ∀ i, ((ts.take i).map (·.ta)).flatten.length ≤ 9 := fun i => by
  have e : (ts.map (·.ta)).flatten = ((ts.take i).map (·.ta)).flatten ++ ((ts.drop i).map (·.ta)).flatten := by
   rw [← List.flatten_append, ← List.map_append, List.take_append_drop]
  rw [e, List.length_append] at hfl
  omega
 have S := S.nilS (e := 3) (z := 1) (enc := eI)
 skip
 all_goals (repeat' (first | refine K_seq ?_ | refine k_block ?_ | (refine K_region (id := 21) ?_; refine mv ?_; refine KO_nil ?_) | (refine K_region (id := 22) ?_; refine mv ?_; refine KO_nil ?_) | (refine K_region (id := 23) ?_; refine mv ?_; refine lnB S ?_; refine mv ?_; refine KO_nil ?_)))
 refine k_loop (σ := Nat × Value) (fun (i, vo) h' => Hs hC h' [.sl vo 3 1 eI ((ts.take i).map (·.ta)).flatten] ∧ i ≤ ts.length) (fun (i, vo) => ts.length - i) (fun (i, vo) => [(17, .pointer (some ⟨b17, 0, none⟩)), (18, vq), (19, vp), (20, .pointer (some ⟨b20, 0, none⟩)), (26, vo), (27, .int .i64 (cost (stp p.tabs) ((ts.take i).map (·.ta)))), (132, vL), (133, .int .i64 ts.length), (134, .int .i64 i)]) (0, .slice none 0 0) (by repeat (first | exact Ks.le_nil _ | refine Ks.le_cons rfl ?_)) ?_ ?_
 ·exact ⟨S, Nat.zero_le _⟩
 clear S
 rintro ⟨i, vo⟩ h2 ⟨S, g1⟩
 have q1 := hcost i
 have q3 := hsub i
 all_goals (repeat' (first | refine K_seq ?_ | refine k_cond rfl ?_ | refine K_skip ?_ | refine K_exit ?_ | refine k_block ?_ | (refine K_region (id := 24) ?_; (first | (refine cS ?_ ?_ <;> intro hc)) <;> (refine KO_nil ?_))))
 ·have hi : i < ts.length := by omega
  have hxm := mem_getD (show i < ts.length from hi)
  have h3 := hgood.2 _ hxm
  have h4 := htour _ hxm
  have h5 := (d2 i hi).1
  have h6 := flat_le hfl hi
  have h7 := htx _ hxm
  have e1 := take_map hi
  have e2 : ((ts.take (i + 1)).map (·.ta)).flatten = ((ts.take i).map (·.ta)).flatten ++ (ts.getD i default).ta := by rw [e1, List.flatten_append]; simp
  have e3_ : cost (stp p.tabs) ((ts.take (i + 1)).map (·.ta)) = cost (stp p.tabs) ((ts.take i).map (·.ta)) + (ts.getD i default).st := by rw [e1, cost_app, h3.2.2.1]; simp [cost]
  rw [← h3.2.2.1] at h4
  obtain ⟨y0, hx⟩ : ∃ x, ts.getD (i : Int).toNat default = x := ⟨_, rfl⟩
  all_goals (repeat' (first | refine K_seq ?_ | (refine K_region (id := 25) ?_; refine ixB S ?_; refine lEB S ?_; (refine al S ?_; clear S; intro b h S); (first | (refine sB S rfl rfl ?_; clear S; intro h S)); refine KO_nil ?_)))
  rw [hx] at S
  replace hx : ts.getD i default = y0 := hx
  rw [hx] at h3 h4 h5 h6 h7 e2 e3_
  obtain ⟨b29, hnm⟩ : ∃ x, x = b := ⟨_, rfl⟩; subst hnm
  replace S : Hs hC h [.blk b29 (eTr y0) 56, .sl vo 3 1 eI ((ts.take i).map (·.ta)).flatten] := S
  all_goals (repeat' (first | refine K_seq ?_ | refine k_block ?_ | (refine K_region (id := 26) ?_; refine mv ?_; refine KO_nil ?_) | (refine K_region (id := 27) ?_; refine vl ?_; refine lB S rfl rfl ?_; refine lnB S ?_; refine mv ?_; refine KO_nil ?_)))
  refine k_loop (σ := Nat) (fun j h' => Hs hC h' [.blk b29 (eTr y0) 56, .sl vo 3 1 eI ((ts.take i).map (·.ta)).flatten] ∧ j ≤ y0.ta.length) (fun j => y0.ta.length - j) (fun j => [(17, .pointer (some ⟨b17, 0, none⟩)), (18, vq), (19, vp), (20, .pointer (some ⟨b20, 0, none⟩)), (26, vo), (27, .int .i64 (cost (stp p.tabs) ((ts.take i).map (·.ta)))), (29, .pointer (some ⟨b29, 0, none⟩)), (30, .int .i64 (sumL (ldP pl) (y0.ta.take j))), (132, vL), (133, .int .i64 ts.length), (134, .int .i64 i), (139, y0.tv.val), (140, .int .i64 y0.ta.length), (141, .int .i64 j)]) 0 (by repeat (first | exact Ks.le_nil _ | refine Ks.le_cons rfl ?_)) ?_ ?_
  ·exact ⟨S, Nat.zero_le _⟩
  clear S
  rintro j h2 ⟨S, f1⟩
  all_goals (repeat' (first | refine K_seq ?_ | refine k_cond rfl ?_ | refine K_skip ?_ | refine K_exit ?_ | refine k_block ?_ | (refine K_region (id := 28) ?_; (first | (refine cS ?_ ?_ <;> intro hc)) <;> (refine KO_nil ?_)) | (refine K_region (id := 29) ?_; refine ixB S ?_; refine lEB S ?_; refine mv ?_; refine KO_nil ?_)))
  ·have hj : j < y0.ta.length := by omega
   obtain ⟨t, ht⟩ : ∃ t, y0.ta.getD (j : Int).toNat default = t := ⟨_, rfl⟩
   rw [ht]
   replace ht : y0.ta.getD j default = t := ht
   have htb := h7 t (by rw [← ht]; exact mem_getD hj)
   have htk : y0.ta.take (j + 1) = y0.ta.take j ++ [t] := by
    rw [List.take_add_one, List.getElem?_eq_getElem hj, ← ht, List.getD_eq_getElem?_getD, List.getElem?_eq_getElem hj]
    rfl
   have b1 := sumL_nn (ld := ldP pl) (l := y0.ta.take j) fun t _ => (hld2 t).1
   have b2 := sumL_b (ld := ldP pl) (M := 1000) (l := y0.ta.take j) fun t _ => (hld2 t).2
   rw [List.length_take, Nat.min_eq_left f1] at b2
   have b3 : 0 ≤ pl.getD t.toNat default ∧ pl.getD t.toNat default ≤ 1000 := hld2 t
   have ks : sumL (ldP pl) (y0.ta.take (j + 1)) = sumL (ldP pl) (y0.ta.take j) + pl.getD t.toNat default := by rw [htk, sumL_app]; simp [sumL, ldP]
   skip
   all_goals (repeat' (first | refine k_cond rfl ?_ | refine K_skip ?_ | (refine K_region (id := 30) ?_; refine mv ?_; (refine cF ?_) <;> (refine mv ?_; refine mv ?_; refine mv ?_; (first | (refine lnB S ?_)); (first | (refine cF ?_)) <;> (refine vl ?_; refine KO_nil ?_))) | (refine K_region (id := 32) ?_; refine mv ?_; refine mv ?_; refine mv ?_; refine ixB S ?_; refine lEB S ?_; refine ad ?_; refine mv ?_; refine KO_nil ?_) | (refine K_region (id := 33) ?_; refine ad ?_; refine mv ?_; refine KO_nil ?_)))
   rw [← ks]
   refine ⟨j + 1, ?_, ?_, (by repeat (first | exact Ks.le_nil _ | refine Ks.le_cons rfl ?_))⟩
   ·show y0.ta.length - (j + 1) < y0.ta.length - j; omega
   ·exact ⟨S, by omega⟩
  ·obtain rfl : j = y0.ta.length := by omega
   have hpl3 := h3.2.1
   have hpk := h3.2.2.2
   dsimp only
   rw [List.take_of_length_le (Nat.le_refl _), ← hpl3]
   skip
   all_goals (repeat' (first | refine K_seq ?_ | refine k_cond rfl ?_ | refine K_skip ?_ | (refine K_region (id := 34) ?_; refine mv ?_; refine vl ?_; refine lB S rfl rfl ?_; (refine cF ?_) <;> (refine mv ?_; refine mv ?_; (first | (refine lH S ?_)); (first | (refine cF ?_)) <;> (refine vl ?_; refine KO_nil ?_)))))
   all_goals (repeat' (first | (refine K_region (id := 36) ?_; refine mv ?_; refine vl ?_; refine lB S rfl rfl ?_)))
   refine apd S rfl rfl (h5.ext w2 S.ext) ?_; clear S; intro v2 h2 S; (refine mv ?_; refine KO_nil ?_)
   all_goals (repeat' (first | (refine K_region (id := 37) ?_; refine mv ?_; refine vl ?_; refine lB S rfl rfl ?_; refine ad ?_; refine mv ?_; refine KO_nil ?_) | (refine K_region (id := 38) ?_; refine ad ?_; refine mv ?_; refine KO_nil ?_)))
   rw [← e2] at S
   rw [← e3_]
   refine ⟨(i + 1, v2), ?_, ?_, (by repeat (first | exact Ks.le_nil _ | refine Ks.le_cons rfl ?_))⟩
   ·show ts.length - (i + 1) < ts.length - i; omega
   ·exact ⟨S.pick, by omega⟩
 obtain rfl : i = ts.length := by omega
 dsimp only
 rw [List.take_of_length_le (Nat.le_refl _)] at S q1 q3 ⊢
 skip
 all_goals (repeat' (first | (refine K_region (id := 39) ?_; refine mv ?_)))
 (refine KO_fn rfl rfl rfl rfl rfl ((sortI_ok S (by omega)).mono ?_); rintro _ h2 ⟨l', s1, s2, S⟩) <;> (refine KO_nil ?_)
 obtain rfl := sorted_eq (s1.trans hgood.1) s2 inc0
 all_goals (repeat' (first | refine K_seq ?_ | (refine K_region (id := 40) ?_; refine lH S ?_; refine mv ?_)))
 (refine KO_fn rfl rfl rfl rfl rfl ((routeP_ok S.wf pv p (hO2.ext w2 S.ext) hP hl9 vq q (rq2.ext w2 S.ext) hQ).mono ?_); rintro _ h2 ⟨sw1, rfl, r0, x⟩) <;> (replace S := S.join0 x; clear x; refine mv ?_; refine vl ?_; refine vl ?_; refine vl ?_; refine mv ?_; refine mv ?_; refine mv ?_; refine KO_nil ?_)
 have hfin : (bestW p q).2 ≤ cost (stp p.tabs) (ts.map (·.ta)) := by
  have z1 := cost_ge (stp_met p.tabs) (ts.map (·.ta))
  have z2 := (k3 _ hgood.1).1
  omega
 all_goals (repeat' (first | refine K_seq ?_ | (refine K_region (id := 41) ?_; refine mv ?_; (refine cT ?_) <;> (refine mv ?_; refine mv ?_; refine mv ?_; (skip)))))
 (refine KO_fn rfl rfl rfl rfl rfl ((lserved_ok S.wf vp pl (rp.ext w2 S.ext) hpl2).mono ?_); rintro vst h2 x) <;> (replace S := S.join1 x; clear x; (skip))
 rw [hse] at S
 (refine KO_fn rfl rfl rfl rfl rfl ((equalI_ok S.wf vo vst l' l' (Rd.of_sl S (.there .here)) (Rd.of_sl S .here) (by omega)).mono ?_); rintro _ h2 ⟨⟨rfl, hq⟩ | ⟨rfl, hq⟩, x⟩) <;> (replace S := S.join0 x; clear x; refine vl ?_; refine mv ?_; (first | refine off ?_ | refine mv ?_); (first | refine off ?_ | refine mv ?_); (first | refine off ?_ | (refine cT ?_)) <;> (refine vl ?_; refine mv ?_; (first | (refine off ?_; refine vl ?_; refine mv ?_; refine KO_nil ?_) | skip)))
 rotate_left
 ·exact absurd rfl hq
 (refine KO_fn rfl rfl rfl rfl rfl ((awake_ok).mono ?_); rintro _ _ ⟨rfl, rfl⟩) <;> (refine vl ?_; refine mv ?_; refine KO_nil ?_)
 all_goals (repeat' (fail))
 refine K_ret ⟨_, rfl, ?_⟩
 rfl
end Go.Proofs.Xx
namespace Go.Proofs.Xx
set_option linter.unusedSectionVars false
open Go Go.RowKit
set_option linter.unusedSimpArgs false
set_option linter.unusedVariables false
section
variable {H : Type} {enc : TypeId × Value → H} {P : Program} {W W' : World}
theorem mapM_keep {α β : Type} {f g : α → Option β} : ∀ {l : List α} {r : List β}, l.mapM f = some r → (∀ a b, a ∈ l → b ∈ r → f a = some b → g a = some b) → l.mapM g = some r := by
 intro l
 induction l with
 | nil => intro r h _; simpa using h
 | cons a l ih =>
  intro r h hk
  rw [List.mapM_cons] at h ⊢
  cases hf : f a with
  | none => rw [hf] at h; cases h
  | some b =>
   rw [hf] at h
   cases hm : l.mapM f with
   | none => rw [hm] at h; cases h
   | some r' =>
    rw [hm] at h
    simp at h
    subst h
    rw [hk a b (by simp) (by simp) hf, ih hm fun x y hx hy => hk x y (by simp [hx]) (by simp [hy])]
    rfl
theorem cells_keep (hb : ∀ k, k < W.heap.size → W'.heap[k]? = W.heap[k]?) {base n : Nat} {a : Addr} {cs : List Value} (h : W.cells? base a n = some cs) : W'.cells? base a n = some cs := by
 unfold World.cells? at h ⊢
 split at h
 ·rename_i hba
  rw [if_pos hba]
  refine mapM_keep h fun i v _ _ hv => ?_
  have hlt : (a.add i).block < W.heap.size := by
   rcases Nat.lt_or_ge (a.add i).block W.heap.size with q | q
   ·exact q
   ·have : W.cell? (a.add i) = none := by
     unfold World.cell?
     rw [Array.getElem?_eq_none q]
    rw [this] at hv; cases hv
  rw [← hv]
  exact World.cell?_of_block (w := W) (hb _ hlt)
 ·cases h
def tiles (P : Program) : List Field → Nat → Nat → Bool
 | [], at_, n => Nat.beq at_ n
 | f :: r, at_, n => Nat.beq f.offset at_ && tiles P r (at_ + P.cellsOf f.type) n
def plainT (P : Program) : Nat → TypeId → Bool
 | 0, _ => false
 | m + 1, t => match P.underlying t with
  | some .bool | some .string => Nat.beq (P.cellsOf t) 1
  | some (.int _) => Nat.beq (P.cellsOf t) 1
  | some (.slice e) => Nat.beq (P.cellsOf t) 1 && (plainT P m e && !Nat.beq (P.cellsOf e) 0)
  | some (.struct fs) => fs.toList.all (fun f => plainT P m f.type) && tiles P fs.toList 0 (P.cellsOf t)
  | some (.array n e) => plainT P m e && Nat.beq (P.cellsOf t) (n * P.cellsOf e)
  | _ => false
theorem trod_keep (hb : ∀ k, k < W.heap.size → W'.heap[k]? = W.heap[k]?) {base : Nat} {sp : Nat → Bool} {held : Bool} : ∀ (fuel m : Nat) (t : TypeId) (cs : List Value) (x : DataW H × List MemPlace), plainT P m t = true →
 DataW.trod enc P W base (fun _ => true) held fuel t cs = some x → (∀ p ∈ x.2, sp p.block = true) → DataW.trod enc P W' base sp held fuel t cs = some x := by
 intro fuel
 induction fuel with
 | zero => intro m t cs x _ h _; cases h
 | succ fuel ih =>
  intro m t cs x hp h hsp
  cases m with
  | zero => cases hp
  | succ m =>
  unfold plainT at hp
  cases hu : P.underlying t with
  | none => rw [hu] at hp; cases hp
  | some u =>
   rw [hu] at hp
   cases u with
   | bool => obtain ⟨b, rfl, rfl⟩ := DataW.trod_bool hu h; unfold DataW.trod; rw [hu]
   | int k =>
    obtain ⟨b, rfl, rfl, hwf⟩ := DataW.trod_int hu h
    unfold DataW.trod; rw [hu]
    simp [hwf]
   | string =>
    obtain ⟨b, rfl, rfl, hs⟩ := DataW.trod_string hu h
    unfold DataW.trod; rw [hu]
    simp [hs]
   | struct fs =>
    simp only [Bool.and_eq_true, List.all_eq_true] at hp
    unfold DataW.trod at h ⊢
    rw [hu] at h ⊢
    simp only at h ⊢
    split at h
    ·rename_i hc
     rw [if_pos hc]
     simp only [Option.map_eq_some_iff] at h ⊢
     obtain ⟨xs, h1, rfl⟩ := h
     refine ⟨xs, mapM_keep h1 fun f y hf hy hq => ih m _ _ _ (hp.1 f hf) hq fun p hp => hsp p ?_, rfl⟩
     simp only [List.mem_flatMap]
     exact ⟨y, hy, hp⟩
    ·cases h
   | array n e =>
    simp only [Bool.and_eq_true] at hp
    unfold DataW.trod at h ⊢
    rw [hu] at h ⊢
    simp only at h ⊢
    split at h
    ·rename_i hc
     rw [if_pos hc]
     simp only [Option.map_eq_some_iff] at h ⊢
     obtain ⟨xs, h1, rfl⟩ := h
     refine ⟨xs, mapM_keep h1 fun f y hf hy hq => ih m _ _ _ hp.1 hq fun p hp => hsp p ?_, rfl⟩
     simp only [List.mem_flatMap]
     exact ⟨y, hy, hp⟩
    ·cases h
   | slice e =>
    simp only [Bool.and_eq_true, Bool.not_eq_true'] at hp
    have hz : P.cellsOf e ≠ 0 := fun q => by have := hp.2.2; rw [q] at this; simp at this
    rcases DataW.trod_slice hu h with ⟨rfl, rfl⟩ | ⟨a, len, cap, -, -, -, -, rfl, -⟩
    ·unfold DataW.trod; rw [hu]; rfl
    ·unfold DataW.trod at h ⊢
     rw [hu] at h ⊢
     simp only at h ⊢
     split at h
     ·rename_i hc
      rw [if_pos hc]
      simp only [if_true, Option.map_eq_some_iff, Option.bind_eq_some_iff] at h ⊢
      obtain ⟨elems, h1, rest, h2, rfl⟩ := h
      have key : ∀ i y, y ∈ elems ++ rest → (W.cells? base (a.add (i * P.cellsOf e)) (P.cellsOf e)).bind (DataW.trod enc P W base (fun _ => true) held fuel e) = some y →
       (W'.cells? base (a.add (i * P.cellsOf e)) (P.cellsOf e)).bind (DataW.trod enc P W' base sp held fuel e) = some y := by
       intro i y hy hq
       rw [Option.bind_eq_some_iff] at hq ⊢
       obtain ⟨cs', q1, q2⟩ := hq
       refine ⟨cs', cells_keep hb q1, ih m _ _ _ hp.2.1 q2 fun p hp => hsp p ?_⟩
       simp only [List.mem_append, List.mem_flatMap]
       exact .inr ⟨y, by simpa using hy, hp⟩
      refine ⟨elems, mapM_keep h1 fun i y _ hy hq => key i y (by simp [hy]) hq, rest, ?_, rfl⟩
      cases hs : sp a.block with
      | true =>
       simp only [if_true]
       exact mapM_keep h2 fun i y _ hy hq => key (len + i) y (by simp [hy]) hq
      | false =>
       simp only [Bool.false_eq_true, if_false]
       cases rest with
       | nil => rfl
       | cons y rest =>
        have hp' : sp a.block = true := by
         refine hsp (.cell a.block (a.off + 0)) ?_
         simp only [List.mem_append]
         refine .inl ?_
         unfold MemPlace.row
         rw [List.mem_map]
         exact ⟨0, List.mem_range.2 (Nat.mul_pos (by simp only [List.length_cons]; omega) (by omega)), rfl⟩
        rw [hs] at hp'; cases hp'
     ·cases h
   | _ => cases hp
theorem trodAll_keep (hb : ∀ k, k < W.heap.size → W'.heap[k]? = W.heap[k]?) {base : Nat} {sp : Nat → Bool} {held : Bool} : ∀ (ts : List TypeId) (vs : List Value) (ds : List (DataW H)) (ps : List MemPlace), ts.all (plainT P 20) = true →
 DataW.TrodAll enc P W base (fun _ => true) held ts vs ds ps → (∀ p ∈ ps, sp p.block = true) → DataW.TrodAll enc P W' base sp held ts vs ds ps
 | [], [], [], ps, _, h, _ => h
 | t :: ts, v :: vs, d :: ds, ps, hp, h, hsp => by
  simp only [List.all_cons, Bool.and_eq_true] at hp
  obtain ⟨p, q, ⟨fuel, h1⟩, h2, rfl⟩ := h
  exact ⟨p, q, ⟨fuel, trod_keep hb fuel 20 t _ _ hp.1 h1 fun x hx => hsp x (by simp [hx])⟩, trodAll_keep hb ts vs ds q hp.2 h2 fun x hx => hsp x (by simp [hx]), rfl⟩
 | [], [], _ :: _, _, _, h, _ => h.elim
 | [], _ :: _, _, _, _, h, _ => h.elim
 | _ :: _, [], _, _, _, h, _ => h.elim
 | _ :: _, _ :: _, [], _, _, h, _ => h.elim
end
end Go.Proofs.Xx
namespace Go.Proofs.Xx
set_option linter.unusedSectionVars false
open Go Go.RowKit
set_option linter.unusedSimpArgs false
set_option linter.unusedVariables false
section
variable {P : Program}
theorem Rel.addRo [Glob] {B : Bs} {e : Emb} {h : AH} {w : World} (r : Rel B e h w) {k sh : Nat} {cc : Array Value} {el : TypeId} {fr : Nat × Nat} {c : List Value} (hkB : k < B.lo) (hk : w.heap[k]? = some (.cells cc el fr)) (hsz : sh + c.length ≤ cc.size)
 (hc : ∀ i v, c[i]? = some v → ∃ v', cc[sh + i]? = some v' ∧ VR (e.put h.next ⟨k, sh, 0⟩) v v') :
 Rel B (e.put h.next ⟨k, sh, 0⟩) (h.add (.cells c el none true)) w ∧ e.le (e.put h.next ⟨k, sh, 0⟩) := by
 have hle := r.le_put ⟨k, sh, 0⟩
 have hlt : k < w.heap.size := (Array.getElem?_eq_some_iff.1 hk).1
 refine ⟨⟨fun b M q => ?_, fun b hb => ?_, fun b M q => ?_, fun b M p q1 q2 => ?_, fun b M p b' M' p' e1 e2 e3 e4 e5 e6 e7 => ?_, fun b M p q1 q2 q3 => ?_, r.base, r.keep, r.glob⟩, hle⟩
 ·by_cases hb : b = h.next
  ·subst hb; exact Nat.lt_succ_self _
  ·rw [Emb.put_ne _ _ hb] at q; exact Nat.lt_succ_of_lt (r.dom b M q)
 ·have hb' : h.next + 1 ≤ b := hb
  rw [AH.get_add, if_neg (by omega)]; exact r.wf b (by omega)
 ·by_cases hb : b = h.next
  ·subst hb; rw [Emb.put_same] at q; cases q; exact hlt
  ·rw [Emb.put_ne _ _ hb] at q; exact r.rng b M q
 ·rw [AH.get_add] at q2
  by_cases hb : b = h.next
  ·subst hb; rw [Emb.put_same] at q1; cases q1; rw [if_pos rfl] at q2; cases q2
   exact ⟨cc, fr, hk, hsz, hc, (fun _ => ⟨rfl, fun q => by cases q⟩), (fun _ q => by cases q), (fun q => by cases q)⟩
  ·rw [Emb.put_ne _ _ hb] at q1; rw [if_neg hb] at q2
   exact (r.obj b M p q1 q2).mono hle
 ·rw [AH.get_add] at e2 e4
  by_cases hb' : b' = h.next
  ·subst hb'; rw [if_pos rfl] at e4; cases e4; cases e7
  ·rw [Emb.put_ne _ _ hb'] at e3; rw [if_neg hb'] at e4
   by_cases hb : b = h.next
   ·subst hb
    rw [Emb.put_same] at e1; cases e1
    rw [if_pos rfl] at e2; cases e2
    have := r.own b' M' p' e3 e4 e7
    simp only at e5; omega
   ·rw [Emb.put_ne _ _ hb] at e1; rw [if_neg hb] at e2
    exact r.inj b M p b' M' p' e1 e2 e3 e4 e5 e6 e7
 ·rw [AH.get_add] at q2
  by_cases hb : b = h.next
  ·subst hb; rw [if_pos rfl] at q2; cases q2; cases q3
  ·rw [Emb.put_ne _ _ hb] at q1; rw [if_neg hb] at q2
   exact r.own b M p q1 q2 q3
def Bs.of (w : World) : Bs := ⟨w.heap.size, w.heap⟩
def RoH (h : AH) : Prop := ∀ b o, h.get b = some o → writable o = false
structure WRel [Glob] (w : World) (e : Emb) (h : AH) : Prop where
 rel : Rel (Bs.of w) e h w
 ro : RoH h
theorem WRel.empty [Glob] {w : World} (hg : Glob.ok w.heap.size w.heap) : WRel w (fun _ => none) ⟨.e, 0, 0⟩ :=
 ⟨⟨fun b L q => (by cases q), fun b _ => Tr.get_e b, fun b L q => (by cases q), fun b L o q => (by cases q), fun b L o b' L' o' q => (by cases q), fun b L o q => (by cases q), Nat.le_refl _, fun _ _ => rfl, hg⟩,
  fun b o q => by rw [show (⟨.e, 0, 0⟩ : AH).get b = none from Tr.get_e b] at q; cases q⟩
theorem WRel.wfH [Glob] {w : World} {e : Emb} {h : AH} (r : WRel w e h) : WfH h := r.rel.wf
theorem WRel.addRo [Glob] {e : Emb} {h : AH} {w : World} (r : WRel w e h) {k sh : Nat} {cc : Array Value} {el : TypeId} {fr : Nat × Nat} {c : List Value} (hk : w.heap[k]? = some (.cells cc el fr)) (hsz : sh + c.length ≤ cc.size)
 (hc : ∀ i v, c[i]? = some v → ∃ v', cc[sh + i]? = some v' ∧ VR e v v') :
 ∃ e', WRel w e' (h.add (.cells c el none true)) ∧ e.le e' ∧ Ext h (h.add (.cells c el none true)) ∧ e' h.next = some ⟨k, sh, 0⟩ := by
 have hle := r.rel.le_put ⟨k, sh, 0⟩
 obtain ⟨r1, r2⟩ := Rel.addRo (sh := sh) (c := c) r.rel (show k < w.heap.size from (Array.getElem?_eq_some_iff.1 hk).1) hk hsz (fun i v hi => by obtain ⟨v', h1, h2⟩ := hc i v hi; exact ⟨v', h1, h2.mono hle⟩)
 refine ⟨_, ⟨r1, fun b o q => ?_⟩, r2, (Ext.refl r.wfH).add _, Emb.put_same _ _ _⟩
 rw [AH.get_add] at q
 split at q
 ·cases q; rfl
 ·exact r.ro b o q
def AR (P : Program) (h : AH) : Nat → TypeId → List Value → Prop
 | 0, _, _ => False
 | f + 1, t, cs =>
  match P.underlying t, cs with
  | some .bool, [.bool _] => True
  | some (.int k), [.int k' n] => k' = k ∧ (Lit.int k n).wf = true
  | some .string, [.string s] => s.size ≤ maxLen
  | some (.slice e), [v] => ∃ n c, Rd h v (P.cellsOf e) n c ∧ (n ≤ maxLen ∧ n * P.bytesOf e ≤ reachBytes) ∧ CapOk v ∧ ∀ i, i < n → AR P h f e ((c.drop (i * P.cellsOf e)).take (P.cellsOf e))
  | some (.struct fs), cs => cs.length = P.cellsOf t ∧ ∀ fd ∈ fs.toList, AR P h f fd.type ((cs.drop fd.offset).take (P.cellsOf fd.type))
  | some (.array n e), cs => cs.length = P.cellsOf t ∧ ∀ i, i < n → AR P h f e ((cs.drop (i * P.cellsOf e)).take (P.cellsOf e))
  | _, _ => False
theorem AR.ext {h h' : AH} (w : WfH h) (x : Ext h h') : ∀ (f : Nat) (t : TypeId) (cs : List Value), AR P h f t cs → AR P h' f t cs
 | 0, _, _, q => q
 | f + 1, t, cs, q => by
  unfold AR at q ⊢
  split at q
  ·exact q
  ·exact q
  ·exact q
  ·obtain ⟨n, c, h1, h2, hc, h3⟩ := q
   exact ⟨n, c, h1.ext w x, h2, hc, fun i hi => AR.ext w x f _ _ (h3 i hi)⟩
  ·exact ⟨q.1, fun fd hf => AR.ext w x f _ _ (q.2 fd hf)⟩
  ·exact ⟨q.1, fun i hi => AR.ext w x f _ _ (q.2 i hi)⟩
  ·exact q
section
variable {H : Type} {enc : TypeId × Value → H}
def Light (P : Program) (t : TypeId) (d : DataW H) : Prop := ∀ n ∈ DataW.weights P t d, n ≤ reachBytes
theorem weightsEach_mem : ∀ (ts : List TypeId) (ds : List (DataW H)) (j : Nat) (t : TypeId) (d : DataW H), ts[j]? = some t → ds[j]? = some d → ∀ n ∈ DataW.weights P t d, n ∈ DataW.weightsEach P ts ds
 | [], _, _, _, _, q, _ => by simp at q
 | _ :: _, [], _, _, _, _, q => by simp at q
 | t :: ts, d :: ds, 0, _, _, q1, q2 => by
  simp only [List.getElem?_cons_zero, Option.some.injEq] at q1 q2
  subst q1; subst q2
  intro n hn; rw [DataW.weightsEach]; exact List.mem_append_left _ hn
 | t :: ts, d :: ds, j + 1, _, _, q1, q2 => by
  intro n hn; rw [DataW.weightsEach]; exact List.mem_append_right _ (weightsEach_mem ts ds j _ _ (by simpa using q1) (by simpa using q2) n hn)
theorem weightsAll_mem (e : TypeId) : ∀ (ds : List (DataW H)) (j : Nat) (d : DataW H), ds[j]? = some d → ∀ n ∈ DataW.weights P e d, n ∈ DataW.weightsAll P e ds
 | [], _, _, q => by simp at q
 | d :: ds, 0, _, q => by
  simp only [List.getElem?_cons_zero, Option.some.injEq] at q
  subst q
  intro n hn; rw [DataW.weightsAll]; exact List.mem_append_left _ hn
 | d :: ds, j + 1, _, q => by
  intro n hn; rw [DataW.weightsAll]; exact List.mem_append_right _ (weightsAll_mem e ds j _ (by simpa using q) n hn)
theorem Light.field {t : TypeId} {fs : Array Field} {ds : List (DataW H)} (hu : P.underlying t = some (.struct fs)) (hl : Light P t (.agg ds)) {i : Nat} {f : Field} {d : DataW H} (hf : fs[i]? = some f) (hd : ds[i]? = some d) : Light P f.type d := fun n hn => by
 refine hl n ?_
 rw [DataW.weights, hu]
 exact weightsEach_mem _ _ i _ _ (by simp [hf]) hd n hn
theorem Light.item {t e : TypeId} {k : Nat} {ds : List (DataW H)} (hu : P.underlying t = some (.array k e)) (hl : Light P t (.agg ds)) {i : Nat} {d : DataW H} (hd : ds[i]? = some d) : Light P e d := fun n hn => by
 refine hl n ?_
 rw [DataW.weights, hu]
 exact weightsAll_mem e _ i _ hd n hn
theorem Light.elem {t e : TypeId} {ds rs : List (DataW H)} (hu : P.underlying t = some (.slice e)) (hl : Light P t (.slice ds rs)) {i : Nat} {d : DataW H} (hd : ds[i]? = some d) : Light P e d := fun n hn => by
 refine hl n ?_
 rw [DataW.weights, hu]
 exact List.mem_cons_of_mem _ (List.mem_append_left _ (weightsAll_mem e _ i _ hd n hn))
theorem Light.slice {t e : TypeId} {ds rs : List (DataW H)} (hu : P.underlying t = some (.slice e)) (hl : Light P t (.slice ds rs)) : ds.length * P.bytesOf e ≤ reachBytes := by
 have h1 := hl ((ds.length + rs.length) * P.bytesOf e) (by rw [DataW.weights, hu]; exact List.mem_cons_self)
 exact Nat.le_trans (Nat.mul_le_mul_right _ (Nat.le_add_right _ _)) h1
theorem tiles_le : ∀ (fs : List Field) (a n : Nat), tiles P fs a n = true → a ≤ n
 | [], a, n, h => by have := Nat.eq_of_beq_eq_true h; omega
 | f :: r, a, n, h => by
  simp only [tiles, Bool.and_eq_true] at h
  have := tiles_le r _ n h.2
  omega
def Takes [Glob] (enc : TypeId × Value → H) (P : Program) (w : World) (base : Nat) (sp : Nat → Bool) (held : Bool) (n : Nat) (t : TypeId) (cs : List Value) : Prop := ∀ e h, WRel w e h → ∃ e' h' r, WRel w e' h' ∧ e.le e' ∧ Ext h h' ∧ VRs e' r cs ∧ AR P h' n t r
theorem embedFields [Glob] {w : World} {base n : Nat} {sp : Nat → Bool} {held : Bool} {cs : List Value} : ∀ (fs : List Field) (a : Nat), tiles P fs a cs.length = true →
 (∀ fd ∈ fs, Takes enc P w base sp held n fd.type ((cs.drop fd.offset).take (P.cellsOf fd.type))) → ∀ e h, WRel w e h →
 ∃ e' h' r, WRel w e' h' ∧ e.le e' ∧ Ext h h' ∧ VRs e' r (cs.drop a) ∧ ∀ fd ∈ fs, a ≤ fd.offset ∧ AR P h' n fd.type ((r.drop (fd.offset - a)).take (P.cellsOf fd.type))
 | [], a, ht, _, e, h, r => by
  have := Nat.eq_of_beq_eq_true ht
  exact ⟨e, h, [], r, e.le_refl, Ext.refl r.wfH, by rw [this, List.drop_length]; exact .nil, fun fd q => by cases q⟩
 | f :: fs, a, ht, hk, e, h, r => by
  simp only [tiles, Bool.and_eq_true] at ht
  have hoff := Nat.eq_of_beq_eq_true ht.1
  have hle := tiles_le fs _ _ ht.2
  obtain ⟨e1, h1, c1, r1, l1, x1, v1, a1⟩ := hk f (by simp) e h r
  obtain ⟨e2, h2, c2, r2, l2, x2, v2, a2⟩ := embedFields fs _ ht.2 (fun fd q => hk fd (by simp [q])) e1 h1 r1
  have hc1 : c1.length = P.cellsOf f.type := by
   have := v1.length
   rw [List.length_take, List.length_drop, hoff] at this
   omega
  refine ⟨e2, h2, c1 ++ c2, r2, Emb.le_trans l1 l2, x1.trans x2, ?_, ?_⟩
  ·have := (v1.mono l2).append v2
   rw [hoff, ← List.drop_drop, List.take_append_drop] at this
   exact this
  ·intro fd q
   rcases List.mem_cons.1 q with rfl | q
   ·refine ⟨by omega, ?_⟩
    rw [hoff, Nat.sub_self, List.drop_zero, List.take_append_of_le_length (by omega), List.take_of_length_le (by omega)]
    exact a1.ext r1.wfH x2 _ _ _
   ·obtain ⟨q1, q2⟩ := a2 fd q
    refine ⟨by omega, ?_⟩
    rw [show fd.offset - a = c1.length + (fd.offset - (a + P.cellsOf f.type)) by omega, ← List.drop_drop, List.drop_left]
    exact q2
theorem embedRow [Glob] {w : World} {base n : Nat} {sp : Nat → Bool} {held : Bool} {ty : TypeId} {z : Nat} {cs : List Value} : ∀ (k : Nat), k * z ≤ cs.length →
 (∀ i, i < k → Takes enc P w base sp held n ty ((cs.drop (i * z)).take z)) → ∀ e h, WRel w e h →
 ∃ e' h' r, WRel w e' h' ∧ e.le e' ∧ Ext h h' ∧ VRs e' r (cs.take (k * z)) ∧ ∀ i, i < k → AR P h' n ty ((r.drop (i * z)).take z)
 | 0, _, _, e, h, r => ⟨e, h, [], r, e.le_refl, Ext.refl r.wfH, by simp; exact .nil, fun i q => by omega⟩
 | k + 1, hk, ht, e, h, r => by
  rw [Nat.add_mul, Nat.one_mul] at hk
  obtain ⟨e1, h1, c1, r1, l1, x1, v1, a1⟩ := embedRow k (by omega) (fun i q => ht i (by omega)) e h r
  obtain ⟨e2, h2, c2, r2, l2, x2, v2, a2⟩ := ht k (by omega) e1 h1 r1
  have hc1 : c1.length = k * z := by
   have := v1.length
   rw [List.length_take] at this; omega
  have hc2 : c2.length = z := by
   have := v2.length
   rw [List.length_take, List.length_drop] at this; omega
  refine ⟨e2, h2, c1 ++ c2, r2, Emb.le_trans l1 l2, x1.trans x2, ?_, fun i hi => ?_⟩
  ·have := (v1.mono l2).append v2
   rw [Nat.add_mul, Nat.one_mul, List.take_add]
   exact this
  ·by_cases hik : i < k
   ·have : (i + 1) * z ≤ k * z := Nat.mul_le_mul_right z hik
    rw [Nat.add_mul, Nat.one_mul] at this
    rw [List.drop_append_of_le_length (by omega), List.take_append_of_le_length (by rw [List.length_drop]; omega)]
    exact (a1 i hik).ext r1.wfH x2 _ _ _
   ·obtain rfl : i = k := by omega
    rw [← hc1, List.drop_left, List.take_of_length_le (by omega)]
    exact a2
theorem embed [Glob] {w : World} {base : Nat} {sp : Nat → Bool} (hsp : ∀ b, sp b = true) {held : Bool} (hw : ∃ (k : Nat) (cc : Array Value) (el : TypeId) (fr : Nat × Nat), w.heap[k]? = some (.cells cc el fr)) : ∀ (n m : Nat) (t : TypeId) (cs : List Value) (x : DataW H × List MemPlace), plainT P m t = true →
 DataW.trod enc P w base sp held n t cs = some x → Light P t x.1 → Takes enc P w base sp held n t cs
 | 0, _, _, _, _, _, h, _ => by simp [DataW.trod] at h
 | _ + 1, 0, _, _, _, h, _, _ => by cases h
 | n + 1, m + 1, t, cs, x, hp, h, hlt => by
  intro e h0 r
  unfold plainT at hp
  cases hu : P.underlying t with
  | none => rw [hu] at hp; cases hp
  | some u =>
   rw [hu] at hp
   cases u with
   | bool =>
    obtain ⟨b, rfl, -⟩ := DataW.trod_bool hu h
    exact ⟨e, h0, [.bool b], r, e.le_refl, Ext.refl r.wfH, .one (.bool b), by unfold AR; rw [hu]; trivial⟩
   | int k =>
    obtain ⟨b, rfl, -, hwf⟩ := DataW.trod_int hu h
    exact ⟨e, h0, [.int k b], r, e.le_refl, Ext.refl r.wfH, .one (.int k b), by unfold AR; rw [hu]; exact ⟨rfl, hwf⟩⟩
   | string =>
    obtain ⟨s, rfl, -, hs⟩ := DataW.trod_string hu h
    exact ⟨e, h0, [.string s], r, e.le_refl, Ext.refl r.wfH, .one (.string s), by unfold AR; rw [hu]; exact hs⟩
   | struct fs =>
    simp only [Bool.and_eq_true, List.all_eq_true] at hp
    obtain ⟨xs, n', hn, hxe, hlen, hxl, hf⟩ := DataW.trod_struct hu h
    rw [hxe] at hlt
    obtain rfl : n' = n := by omega
    obtain ⟨e1, h1, c1, r1, l1, x1, v1, a1⟩ := embedFields fs.toList 0 (by rw [hlen]; exact hp.2) (fun fd hfd => by
     obtain ⟨i, hi, rfl⟩ := List.getElem_of_mem hfd
     have hg : fs[i]? = some fs.toList[i] := by rw [← Array.getElem?_toList]; exact List.getElem?_eq_getElem hi
     have h2 := hf i _ hg
     have hix : i < xs.length := by rw [hxl]; simpa using hi
     rw [List.getElem?_eq_getElem hix] at h2
     exact embed hsp hw n' m _ _ _ (hp.1 _ (List.getElem_mem hi)) h2 (hlt.field hu hg (by rw [List.getElem?_map, List.getElem?_eq_getElem hix]; rfl))) e h0 r
    refine ⟨e1, h1, c1, r1, l1, x1, by simpa using v1, ?_⟩
    unfold AR; rw [hu]
    have hl1 := v1.length
    simp only [List.drop_zero] at hl1
    exact ⟨by omega, fun fd hfd => by have := (a1 fd hfd).2; simpa using this⟩
   | array k el =>
    simp only [Bool.and_eq_true] at hp
    have hsz := Nat.eq_of_beq_eq_true hp.2
    obtain ⟨xs, n', hn, hxe, hlen, hxl, hf⟩ := DataW.trod_array hu h
    rw [hxe] at hlt
    obtain rfl : n' = n := by omega
    obtain ⟨e1, h1, c1, r1, l1, x1, v1, a1⟩ := embedRow (z := P.cellsOf el) (ty := el) (cs := cs) k (by omega) (fun i hi => by
     have h2 := hf i hi
     have hix : i < xs.length := by omega
     rw [List.getElem?_eq_getElem hix] at h2
     exact embed hsp hw n' m _ _ _ hp.1 h2 (hlt.item hu (by rw [List.getElem?_map, List.getElem?_eq_getElem hix]; rfl))) e h0 r
    rw [List.take_of_length_le (by omega)] at v1
    refine ⟨e1, h1, c1, r1, l1, x1, v1, ?_⟩
    unfold AR; rw [hu]
    exact ⟨by have := v1.length; omega, a1⟩
   | slice el =>
    simp only [Bool.and_eq_true, Bool.not_eq_true'] at hp
    have hz : P.cellsOf el ≠ 0 := fun q => by have := hp.2.2; rw [q] at this; simp at this
    rcases DataW.trod_slice hu h with ⟨rfl, -⟩ | ⟨a, len, cap, elems, rest, n', hn, rfl, hxe, hb, hl, hm, hlen, hel, hrest, -⟩
    ·refine ⟨e, h0, [.slice none 0 0], r, e.le_refl, Ext.refl r.wfH, .one .nilSlice, ?_⟩
     unfold AR; rw [hu]
     exact ⟨0, [], Rd.none_ _ _, ⟨Nat.zero_le _, by rw [Nat.zero_mul]; exact Nat.zero_le _⟩, Nat.le_refl _, fun i hi => by omega⟩
    ·obtain rfl : n' = n := by omega
     rw [hxe] at hlt
     have hwt : len * P.bytesOf el ≤ reachBytes := by have := hlt.slice hu; rwa [List.length_map, hlen] at this
     obtain ⟨hr1, hr2⟩ := hrest (hsp _)
     rcases Nat.eq_zero_or_pos cap with hc0 | hc0
     ·subst hc0
      obtain rfl : len = 0 := by omega
      obtain ⟨k, cc, el0, fr, hk⟩ := hw
      obtain ⟨e1, r1, l1, x1, q1⟩ := r.addRo (sh := 0) (c := []) hk (by simp) (fun i v hi => by simp at hi)
      refine ⟨e1, _, [.slice (some ⟨h0.next, 0, none⟩) 0 0], r1, l1, x1, .one (.slice h0.next 0 a 0 0 ⟨k, 0, 0⟩ q1 (Nat.le_refl _) (.inr ⟨rfl, rfl⟩)), ?_⟩
      unfold AR; rw [hu]
      exact ⟨0, [], .inr ⟨h0.next, 0, 0, [], el0, none, true, rfl, by rw [AH.get_add, if_pos rfl], by simp [takeAt]⟩, ⟨Nat.zero_le _, by rw [Nat.zero_mul]; exact Nat.zero_le _⟩, Nat.le_refl _, fun i hi => by omega⟩
     ·
      have hfirst : ∃ cs0 y, w.cells? base a (P.cellsOf el) = some cs0 ∧ DataW.trod enc P w base sp held n' el cs0 = some y := by
       rcases Nat.eq_zero_or_pos len with h0' | h0'
       ·have h2 := hr2 0 (by omega)
        have hix : 0 < rest.length := by omega
        rw [List.getElem?_eq_getElem hix, h0', Option.bind_eq_some_iff] at h2
        obtain ⟨cs0, q1, q2⟩ := h2
        exact ⟨cs0, _, by simpa [Addr.add] using q1, q2⟩
       ·have h2 := hel 0 h0'
        have hix : 0 < elems.length := by omega
        rw [List.getElem?_eq_getElem hix, Option.bind_eq_some_iff] at h2
        obtain ⟨cs0, q1, q2⟩ := h2
        exact ⟨cs0, _, by simpa [Addr.add] using q1, q2⟩
      obtain ⟨cs0, y0, g1, -⟩ := hfirst
      obtain ⟨-, g2, g3⟩ := World.cells?_some g1
      have g4 := g3 0 (by omega)
      rw [List.getElem?_eq_getElem (by omega)] at g4
      obtain ⟨ab, ao, asp⟩ := a
      simp only [Addr.add, if_true] at g4
      unfold World.cell? at g4
      simp only at g4
      cases hblk : w.heap[ab]? with
      | none => rw [hblk] at g4; cases g4
      | some ob =>
       rw [hblk] at g4
       cases ob with
       | cells cc el0 fr =>
        simp only at g4
        cases asp with
        | some s => simp at g4
        | none =>
         simp only [Option.isSome_none, Bool.false_eq_true, if_false] at g4
         have hao : ao < cc.size := (Array.getElem?_eq_some_iff.1 g4).1
         have hcell : ∀ (i : Nat) (v : Value), w.cell? ⟨ab, ao + i, none⟩ = some v ↔ cc[ao + i]? = some v := fun i v => by
          unfold World.cell?
          simp [hblk]
         have helem : ∀ i, i < len → ∃ y, DataW.trod enc P w base sp held n' el (((cc.toList.drop ao).drop (i * P.cellsOf el)).take (P.cellsOf el)) = some y ∧ Light P el y.1 ∧ ao + i * P.cellsOf el + P.cellsOf el ≤ cc.size := by
          intro i hi
          have h2 := hel i hi
          have hix : i < elems.length := by omega
          rw [List.getElem?_eq_getElem hix, Option.bind_eq_some_iff] at h2
          obtain ⟨ci, q1, q2⟩ := h2
          obtain ⟨-, q3, q4⟩ := World.cells?_some q1
          have hadd : ∀ j, ((⟨ab, ao, none⟩ : Addr).add (i * P.cellsOf el)).add j = ⟨ab, ao + (i * P.cellsOf el + j), none⟩ := fun j => by rw [add_none, add_none, Nat.add_assoc]
          have hlast : ao + i * P.cellsOf el + P.cellsOf el ≤ cc.size := by
           have q5 := q4 (P.cellsOf el - 1) (by omega)
           rw [List.getElem?_eq_getElem (by omega), hadd, hcell] at q5
           have := (Array.getElem?_eq_some_iff.1 q5).1
           omega
          refine ⟨elems[i], ?_, hlt.elem hu (i := i) (by rw [List.getElem?_map, List.getElem?_eq_getElem hix]; rfl), hlast⟩
          rw [← q2]
          congr 1
          refine List.ext_getElem? fun j => ?_
          by_cases hj : j < P.cellsOf el
          ·rw [List.getElem?_take, if_pos hj, List.getElem?_drop, List.getElem?_drop]
           have q5 := q4 j hj
           have e2 : ci[j]? = some (ci[j]'(by omega)) := List.getElem?_eq_getElem (by omega)
           rw [e2, hadd, hcell] at q5
           rw [e2, Array.getElem?_toList]
           exact q5
          ·rw [List.getElem?_eq_none (by rw [List.length_take]; omega), List.getElem?_eq_none (by omega)]
         have hfit : ao + len * P.cellsOf el ≤ cc.size := by
          rcases Nat.eq_zero_or_pos len with h0' | h0'
          ·rw [h0', Nat.zero_mul]; omega
          ·obtain ⟨-, -, -, q⟩ := helem (len - 1) (by omega)
           have : (len - 1) * P.cellsOf el + P.cellsOf el = len * P.cellsOf el := by
            rw [← Nat.succ_mul]; congr 1; omega
           omega
         obtain ⟨e1, h1, c1, r1, l1, x1, v1, a1⟩ := embedRow (z := P.cellsOf el) (ty := el) (cs := cc.toList.drop ao) len (by simp; omega) (fun i hi => by
          obtain ⟨y, q1, q2, -⟩ := helem i hi
          exact embed hsp hw n' m _ _ _ hp.2.1 q1 q2) e h0 r
         have hc1 : c1.length = len * P.cellsOf el := by
          have := v1.length
          rw [List.length_take, List.length_drop, Array.length_toList] at this; omega
         obtain ⟨e2, r2, l2, x2, q2⟩ := r1.addRo (sh := ao) (c := c1) hblk (by omega) (fun i v hi => by
          obtain ⟨v', q1, q2⟩ := v1.get i v hi
          refine ⟨v', ?_, q2⟩
          rw [List.getElem?_take, List.getElem?_drop, Array.getElem?_toList] at q1
          split at q1
          ·exact q1
          ·cases q1)
         refine ⟨e2, _, [.slice (some ⟨h1.next, 0, none⟩) len cap], r2, Emb.le_trans l1 l2, x1.trans x2, .one (.slice h1.next 0 ⟨ab, ao, none⟩ len cap ⟨ab, ao, 0⟩ q2 hl (.inl rfl)), ?_⟩
         unfold AR; rw [hu]
         refine ⟨len, c1, .inr ⟨h1.next, 0, cap, c1, el0, none, true, rfl, by rw [AH.get_add, if_pos rfl], by rw [← hc1]; exact takeAt_all c1⟩, ⟨by omega, hwt⟩, hl, fun i hi => (a1 i hi).ext r1.wfH x2 _ _ _⟩
       | _ => cases g4
   | _ => cases hp
end
end
end Go.Proofs.Xx
namespace Go.Proofs.Xx
set_option linter.unusedSectionVars false
open Go Go.RowKit Go.WideShapes Go.ChangeShapes
set_option linter.unusedSimpArgs false
set_option linter.unusedVariables false
theorem VRs.one_inv {e : Emb} {r : List Value} {v : Value} (h : VRs e r [v]) : ∃ u, r = [u] ∧ VR e u v := by
 cases h with
 | cons u v' s s' h1 h2 => cases h2; exact ⟨u, rfl, h1⟩
section
variable {P : Program}
def absV (P : Program) (t : TypeId) (r : List Value) : Value :=
 match P.underlying t with
 | some (.struct _) | some (.array _ _) => .agg r.toArray
 | _ => r.headD .nilFunc
theorem absV_ok {w : World} {rc : Reach} {b0 m : Nat} {t : TypeId} {v : Value} {e : Emb} {r : List Value} (hp : plainT P m t = true) (hval : Value.okWide P w rc b0 t v) (hv : VRs e r v.cells.toList) : VR e (absV P t r) v := by
 cases m with
 | zero => cases hp
 | succ m =>
  unfold plainT at hp
  unfold absV
  unfold Value.okWide at hval
  cases hu : P.underlying t with
  | none => rw [hu] at hp; cases hp
  | some u =>
   rw [hu] at hp hval
   cases u with
   | struct fs =>
    obtain ⟨cs, rfl, -⟩ := hval
    exact VR.agg (f := e) r cs.toList (by simpa [Value.cells] using hv)
   | array n el =>
    obtain ⟨cs, rfl, -⟩ := hval
    exact VR.agg (f := e) r cs.toList (by simpa [Value.cells] using hv)
   | bool =>
    have : ∃ b, v = .bool b := by cases v <;> simp_all [Cell.okWide, Cell.ok]
    obtain ⟨b, rfl⟩ := this
    obtain ⟨x, rfl, h1⟩ := VRs.one_inv (show VRs e r [.bool b] from hv)
    exact h1
   | int k =>
    have : ∃ k' b, v = .int k' b := by cases v <;> simp_all [Cell.okWide, Cell.ok]
    obtain ⟨k', b, rfl⟩ := this
    obtain ⟨x, rfl, h1⟩ := VRs.one_inv (show VRs e r [.int k' b] from hv)
    exact h1
   | string =>
    have : ∃ b, v = .string b := by cases v <;> simp_all [Cell.okWide, Cell.ok]
    obtain ⟨b, rfl⟩ := this
    obtain ⟨x, rfl, h1⟩ := VRs.one_inv (show VRs e r [.string b] from hv)
    exact h1
   | slice el =>
    have : ∃ a l c, v = .slice a l c := by cases v <;> simp_all [Cell.okWide, Cell.ok]
    obtain ⟨a, l, c, rfl⟩ := this
    obtain ⟨x, rfl, h1⟩ := VRs.one_inv (show VRs e r [.slice a l c] from hv)
    exact h1
   | _ => cases hp
def ArgsR (P : Program) (h : AH) : List TypeId → List Value → Prop
 | [], [] => True
 | t :: ts, u :: us => (∃ n r, AR P h n t r ∧ u = absV P t r) ∧ ArgsR P h ts us
 | _, _ => False
theorem ArgsR.ext {h h' : AH} (w : WfH h) (x : Ext h h') : ∀ (ts : List TypeId) (us : List Value), ArgsR P h ts us → ArgsR P h' ts us
 | [], [], q => q
 | t :: ts, u :: us, q => ⟨let ⟨n, r, h1, h2⟩ := q.1; ⟨n, r, h1.ext w x _ _ _, h2⟩, ArgsR.ext w x ts us q.2⟩
 | [], _ :: _, q => q.elim
 | _ :: _, [], q => q.elim
theorem ArgsR.cons_inv {h : AH} {t : TypeId} {ts : List TypeId} {us : List Value} (a : ArgsR P h (t :: ts) us) : ∃ n r us', us = absV P t r :: us' ∧ AR P h n t r ∧ ArgsR P h ts us' := by
 cases us with
 | nil => exact a.elim
 | cons u us =>
  obtain ⟨⟨n, r, h1, rfl⟩, h2⟩ := a
  exact ⟨n, r, us, rfl, h1, h2⟩
theorem ArgsR.nil_inv {h : AH} {us : List Value} (a : ArgsR P h [] us) : us = [] := by
 cases us with
 | nil => rfl
 | cons u us => exact a.elim
section
variable {H : Type} {enc : TypeId × Value → H}
theorem embedArgs [Glob] {w : World} {rc : Reach} {b0 base : Nat} {held : Bool} (hw : ∃ (k : Nat) (cc : Array Value) (el : TypeId) (fr : Nat × Nat), w.heap[k]? = some (.cells cc el fr)) : ∀ (ts : List TypeId) (vs : List Value) (ds : List (DataW H)) (ps : List MemPlace),
 ts.all (plainT P 20) = true → (∀ (j : Nat) t v, ts[j]? = some t → vs[j]? = some v → Value.okWide P w rc b0 t v) → DataW.TrodAll enc P w base (fun _ => true) held ts vs ds ps → (∀ n ∈ DataW.weightsEach P ts ds, n ≤ reachBytes) → ∀ e h, WRel w e h →
 ∃ e' h' us, WRel w e' h' ∧ e.le e' ∧ Ext h h' ∧ VRs e' us vs ∧ ArgsR P h' ts us
 | [], [], [], _, _, _, _, _, e, h, r => ⟨e, h, [], r, e.le_refl, Ext.refl r.wfH, .nil, trivial⟩
 | t :: ts, v :: vs, d :: ds, ps, hp, hval, hA, hz, e, h, r => by
  rw [DataW.weightsEach] at hz
  simp only [List.all_cons, Bool.and_eq_true] at hp
  obtain ⟨p, q, ⟨fuel, h1⟩, h2, rfl⟩ := hA
  obtain ⟨e1, g1, r1, w1, l1, x1, v1, a1⟩ := embed (fun _ => rfl) hw fuel 20 t _ _ hp.1 h1 (fun n hn => hz n (List.mem_append_left _ hn)) e h r
  obtain ⟨e2, g2, us, w2, l2, x2, v2, a2⟩ := embedArgs hw ts vs ds q hp.2 (fun j t v q1 q2 => hval (j + 1) t v (by simpa using q1) (by simpa using q2)) h2 (fun n hn => hz n (List.mem_append_right _ hn)) e1 g1 w1
  exact ⟨e2, g2, absV P t r1 :: us, w2, Emb.le_trans l1 l2, x1.trans x2, .cons _ _ _ _ (absV_ok hp.1 (hval 0 t v rfl rfl) (v1.mono l2)) v2, ⟨fuel, r1, a1.ext w1.wfH x2 _ _ _, rfl⟩, a2⟩
 | [], [], _ :: _, _, _, _, h, _, _, _, _ => h.elim
 | [], _ :: _, _, _, _, _, h, _, _, _, _ => h.elim
 | _ :: _, [], _, _, _, _, h, _, _, _, _ => h.elim
 | _ :: _, _ :: _, [], _, _, _, h, _, _, _, _ => h.elim
theorem light_app : ∀ {ts us : List TypeId} {ds gs : List (DataW H)}, (DataW.weightsEach P (ts ++ us) (ds ++ gs)).all (· ≤ reachBytes) = true → ∀ n ∈ DataW.weightsEach P ts ds, n ≤ reachBytes
 | [], _, _, _, _ => fun n hn => by simp [DataW.weightsEach] at hn
 | _ :: _, _, [], _, _ => fun n hn => by simp [DataW.weightsEach] at hn
 | t :: ts, us, d :: ds, gs, hz => fun n hn => by
  rw [List.cons_append, List.cons_append, DataW.weightsEach, List.all_append, Bool.and_eq_true] at hz
  rw [DataW.weightsEach] at hn
  rcases List.mem_append.1 hn with q | q
  ·exact of_decide_eq_true (List.all_eq_true.1 hz.1 n q)
  ·exact light_app hz.2 n q
theorem law_calls [Glob] {X : Extern} (hm : P.follows .mixedOrders = true) (hX : XOk P X) (hN : ∀ (f : FuncId) (fn : Func), P.funcs[f]? = some fn → fn.body.isSome = true → (fn.name == "runtime.NumGoroutine") = false)
 {f : FuncId} {fn : Func} {body : Code} (hfn : P.funcs[f]? = some fn) (hb : fn.body = some body) (hXn : ∀ us h, X f us h = none) (hpl : fn.params.toList.all (plainT P 20) = true)
 (core : ∀ h us, WfH h → ArgsR P h fn.params.toList us → Fn P X f us h (fun x _ => x = .bool true))
 {w : World} {rc : Reach} {b0 : Nat} {args : Array Value} {ds : List (DataW H)} {ps : List MemPlace} (hg : Glob.ok w.heap.size w.heap) (hw : ∃ (k : Nat) (cc : Array Value) (el : TypeId) (fr : Nat × Nat), w.heap[k]? = some (.cells cc el fr))
 (hval : ∀ (j : Nat) t v, fn.params[j]? = some t → args[j]? = some v → Value.okWide P w rc b0 t v) (hA : DataW.TrodAll enc P w 0 (fun _ => true) true fn.params.toList args.toList ds ps) (hz : ∀ n ∈ DataW.weightsEach P fn.params.toList ds, n ≤ reachBytes) :
 Calls P f args w fun e w' => e = .returned (.bool true) ∧ Below w.heap.size w w' := by
 obtain ⟨e, h, us, r, -, -, v1, a1⟩ := embedArgs (P := P) hw fn.params.toList args.toList ds ps hpl (fun j t v q1 q2 => hval j t v (by simpa using q1) (by simpa using q2)) hA hz _ _ (WRel.empty hg)
 obtain ⟨n, v, h', hc, rfl⟩ := core h us r.wfH a1
 obtain ⟨e', v', w', r1, t1, hv, hcalls⟩ := callA_calls (exec_sound hm hX hN n) hc (hXn us h) hfn hb r.rel v1
 cases hv
 rw [Array.toArray_toList] at hcalls
 refine hcalls.mono fun en w'' ⟨q1, q2⟩ => ?_
 subst q2
 exact ⟨q1, t1.os, t1.tape, t1.output, t1.size, fun k hk => r1.keep k hk⟩
end
end
end Go.Proofs.Xx
namespace Go.Proofs.Xx
set_option linter.unusedSectionVars false
open Go Go.RowKit Go.WideShapes Go.ChangeShapes
set_option linter.unusedSimpArgs false
set_option linter.unusedVariables false
section
variable {H : Type} {enc : TypeId × Value → H} {P : Program}
theorem trodAll_length {W : World} {base : Nat} {sp : Nat → Bool} {held : Bool} : ∀ {ts : List TypeId} {vs : List Value} {ds : List (DataW H)} {ps : List MemPlace}, DataW.TrodAll enc P W base sp held ts vs ds ps → ds.length = ts.length
 | [], [], [], _, _ => rfl
 | t :: ts, v :: vs, d :: ds, ps, h => by
  obtain ⟨p, q, _, h2, _⟩ := h
  simp [trodAll_length h2]
 | [], [], _ :: _, _, h => h.elim
 | [], _ :: _, _, _, h => h.elim
 | _ :: _, [], _, _, h => h.elim
 | _ :: _, _ :: _, [], _, h => h.elim
theorem post_of_below {f : Func} {s : ChangeSpec} {apart fresh handsOn again : Bool} {W W' : World} {args : Array Value} {v : Value} {ds gs : List (DataW H)} {before pa pv : List MemPlace}
 (hW : DataW.Whole enc P f.params.toList s.vars apart W args.toList ds gs before)
 (hres : ∀ (b : Nat) (sp : Nat → Bool) (hd : Bool), DataW.TrodAll enc P W' b sp hd f.resultTypes.toList (v.resultList f.resultTypes.size) (s.fn H (ds ++ gs)).results [])
 (hargs : ∀ sp : Nat → Bool, (∀ p ∈ before, sp p.block = true) → DataW.TrodAll enc P W' 0 sp true f.params.toList args.toList (s.fn H (ds ++ gs)).args pa)
 (hvars : ∀ sp : Nat → Bool, (∀ p ∈ before, sp p.block = true) → DataW.TrodVars enc P W' sp s.vars (s.fn H (ds ++ gs)).vars pv)
 (hps : before = pa ++ pv) (hb : Below W.heap.size W W')
 (hok : ∀ (j : Nat) (t : TypeId) (r : Value), f.resultTypes[j]? = some t → (v.resultList f.resultTypes.size)[j]? = some r → Value.okWide P W' .any 0 t r) :
 s.post enc P f apart fresh handsOn again W args v W' := by
 have hlt : ∀ p ∈ before, p.block < W.heap.size := fun p hp => hW.lt p hp
 have hold : ∀ p ∈ before, (fun b => decide (b < W.heap.size)) p.block = true := fun p hp => by simpa using hlt p hp
 refine ⟨ds, gs, before, [], pa, pv, hW, hres _ _ _, hargs _ hold, hvars _ hold, World.keptBut_mono (fun p hp => ⟨hp, ?_⟩) (hb.frame (· ∈ before)), fun _ => ?_⟩
 ·rw [hps, List.mem_append] at hp
  exact Or.inr hp
 ·obtain ⟨_, _, _, _, _, hz, hn⟩ := hW
  refine ⟨hok, _, _, ([] ++ pa) ++ pv, ⟨[] ++ pa, pv, trodAll_append (hargs _ (fun _ _ => rfl)) (hres _ _ _), hvars _ (fun _ _ => rfl), rfl, ?_, ?_⟩, ?_⟩
  ·intro b off hp
   have hin : MemPlace.cell b off ∈ before := by rw [hps]; simpa using hp
   rw [hb.frozen (hlt _ hin)]
   exact hz b off hin
  ·intro ha
   have := hn ha
   rw [hps] at this
   simpa using this
  ·intro p hp _
   rw [hps]
   simpa using hp
end
end Go.Proofs.Xx
namespace Go.Proofs.Xx
set_option linter.unusedSectionVars false
open Go
set_option linter.unusedSimpArgs false
set_option linter.unusedVariables false
section
variable {P : Program} {h : AH}
theorem AR.int1 {n : Nat} {t : TypeId} {r : List Value} {k : IntKind} (a : AR P h n t r) (hu : P.underlying t = some (.int k)) : ∃ x : Int, r = [.int k x] ∧ (Lit.int k x).wf = true := by
 cases n with
 | zero => exact a.elim
 | succ n =>
  unfold AR at a
  rw [hu] at a
  split at a
  all_goals (first | exact a.elim | (rename_i q _; cases q; done) | (rename_i q; cases q; done) | skip)
  rename_i k0 k' x q
  cases q
  obtain ⟨rfl, h2⟩ := a
  exact ⟨x, rfl, h2⟩
theorem AR.struct1 {n : Nat} {t : TypeId} {r : List Value} {fs : Array Field} {m : List (Nat × TypeId)} {z : Nat} (a : AR P h n t r) (hu : P.underlying t = some (.struct fs)) (hm : fs.toList.map (fun f => (f.offset, f.type)) = m) (hz : P.cellsOf t = z) :
 ∃ n', r.length = z ∧ ∀ p ∈ m, AR P h n' p.2 ((r.drop p.1).take (P.cellsOf p.2)) := by
 cases n with
 | zero => exact a.elim
 | succ n =>
  unfold AR at a
  rw [hu] at a
  replace a : r.length = P.cellsOf t ∧ ∀ fd ∈ fs.toList, AR P h n fd.type ((r.drop fd.offset).take (P.cellsOf fd.type)) := a
  refine ⟨n, by rw [a.1, hz], fun p hp => ?_⟩
  rw [← hm, List.mem_map] at hp
  obtain ⟨fd, hf, rfl⟩ := hp
  exact a.2 fd hf
theorem AR.array1 {n : Nat} {t e : TypeId} {k z : Nat} {r : List Value} (a : AR P h n t r) (hu : P.underlying t = some (.array k e)) (hz : P.cellsOf t = z) : ∃ n', r.length = z ∧ ∀ i, i < k → AR P h n' e ((r.drop (i * P.cellsOf e)).take (P.cellsOf e)) := by
 cases n with
 | zero => exact a.elim
 | succ n =>
  unfold AR at a
  rw [hu] at a
  replace a : r.length = P.cellsOf t ∧ ∀ i, i < k → AR P h n e ((r.drop (i * P.cellsOf e)).take (P.cellsOf e)) := a
  exact ⟨n, by rw [a.1, hz], a.2⟩
theorem pieces {α : Type} {z : Nat} {enc : α → List Value} {good : α → Prop} : ∀ (n : Nat) (c : List Value), c.length = n * z → (∀ i, i < n → ∃ y, (c.drop (i * z)).take z = enc y ∧ good y) → ∃ l : List α, l.length = n ∧ c = l.flatMap enc ∧ ∀ y ∈ l, good y
 | 0, c, hc, _ => ⟨[], rfl, by rw [Nat.zero_mul] at hc; rw [List.length_eq_zero_iff.1 hc]; rfl, fun y q => by cases q⟩
 | n + 1, c, hc, hk => by
  rw [Nat.add_mul, Nat.one_mul] at hc
  obtain ⟨y, h1, h2⟩ := hk 0 (by omega)
  obtain ⟨l, l1, l2, l3⟩ := pieces (z := z) (enc := enc) (good := good) n (c.drop z) (by rw [List.length_drop, hc]; omega) (fun i hi => by
   obtain ⟨y, q1, q2⟩ := hk (i + 1) (by omega)
   refine ⟨y, ?_, q2⟩
   rw [List.drop_drop, ← q1, Nat.add_mul, Nat.one_mul, Nat.add_comm z])
  rw [Nat.zero_mul, List.drop_zero] at h1
  refine ⟨y :: l, by simp [l1], ?_, fun x q => ?_⟩
  ·rw [List.flatMap_cons, ← h1, ← l2, List.take_append_drop]
  ·rcases List.mem_cons.1 q with rfl | q
   ·exact h2
   ·exact l3 x q
theorem AR.slice1w {α : Type} [Inhabited α] {n : Nat} {t e : TypeId} {r : List Value} {z : Nat} (enc : α → List Value) (good : α → Prop) (a : AR P h n t r) (hu : P.underlying t = some (.slice e)) (hz : P.cellsOf e = z) (hk : ∀ n cs, AR P h n e cs → ∃ y, cs = enc y ∧ good y) :
 ∃ v l, r = [v] ∧ RdL h v z enc l ∧ (l.length ≤ maxLen ∧ l.length * P.bytesOf e ≤ reachBytes) ∧ CapOk v ∧ ∀ i, i < l.length → good (l.getD i default) := by
 cases n with
 | zero => exact a.elim
 | succ n =>
  unfold AR at a
  rw [hu] at a
  split at a
  all_goals (first | exact a.elim | (rename_i q _; cases q; done) | (rename_i q; cases q; done) | skip)
  rename_i e' v q
  cases q
  obtain ⟨k, c, h1, h2, hc, h3⟩ := a
  rw [hz] at h1 h3
  obtain ⟨l, l1, l2, l3⟩ := pieces (enc := enc) (good := good) k c h1.length (fun i hi => hk n _ (h3 i hi))
  subst l1 l2
  refine ⟨v, l, rfl, h1, h2, hc, fun i hi => ?_⟩
  rw [List.getD_eq_getElem?_getD, List.getElem?_eq_getElem hi]
  exact l3 _ (List.getElem_mem hi)
theorem AR.slice1 {α : Type} [Inhabited α] {n : Nat} {t e : TypeId} {r : List Value} {z : Nat} (enc : α → List Value) (good : α → Prop) (a : AR P h n t r) (hu : P.underlying t = some (.slice e)) (hz : P.cellsOf e = z) (hk : ∀ n cs, AR P h n e cs → ∃ y, cs = enc y ∧ good y) :
 ∃ v l, r = [v] ∧ RdL h v z enc l ∧ l.length ≤ maxLen ∧ CapOk v ∧ ∀ i, i < l.length → good (l.getD i default) := by
 obtain ⟨v, l, h1, h2, h3, h4, h5⟩ := AR.slice1w enc good a hu hz hk
 exact ⟨v, l, h1, h2, h3.1, h4, h5⟩
theorem AR.ints1 {n : Nat} {t e : TypeId} {r : List Value} (a : AR P h n t r) (hu : P.underlying t = some (.slice e)) (he : P.underlying e = some (.int .i64)) (hc : P.cellsOf e = 1) :
 ∃ v l, r = [v] ∧ RdL h v 1 eI l ∧ l.length ≤ maxLen ∧ CapOk v := by
 obtain ⟨v, l, h1, h2, h3, h4, -⟩ := AR.slice1 eI (fun _ => True) a hu hc (fun n cs q => by
  obtain ⟨x, hx, -⟩ := q.int1 he
  exact ⟨x, hx, trivial⟩)
 exact ⟨v, l, h1, h2, h3, h4⟩
theorem AR.bytes1 {n : Nat} {t e : TypeId} {r : List Value} (a : AR P h n t r) (hu : P.underlying t = some (.slice e)) (he : P.underlying e = some (.int .u8)) (hc : P.cellsOf e = 1) :
 ∃ v l, r = [v] ∧ RdL h v 1 eU l ∧ l.length ≤ maxLen ∧ CapOk v ∧ ∀ i, i < l.length → l.getD i default < 256 :=
 AR.slice1 eU (fun x => x < 256) a hu hc (fun n cs q => by
  obtain ⟨x, hx, hw⟩ := q.int1 he
  have : 0 ≤ x ∧ x < 256 := by
   simp [Lit.wf, IntKind.min, IntKind.max, IntKind.signed, IntKind.bits] at hw
   omega
  refine ⟨x.toNat, ?_, by omega⟩
  rw [hx]; unfold eU; rw [Int.toNat_of_nonneg this.1])
end
end Go.Proofs.Xx
namespace Go.Proofs.Xx
open Go Go.RowKit Go.Proofs
set_option linter.unusedSimpArgs false
set_option linter.unusedVariables false
set_option linter.unusedSectionVars false
set_option maxRecDepth 100000
theorem AR.e16s {h : AH} {n : Nat} {r : List Value} (a : AR Tryz.prog h n 23 r) : ∃ v l, r = [v] ∧ RdL h v 1 e16 l ∧ l.length ≤ maxLen ∧ CapOk v ∧ ∀ i, i < l.length → l.getD i default < 65536 :=
 AR.slice1 (e := 45) (z := 1) e16 (fun x => x < 65536) a (by kernel_rfl) (by kernel_rfl) (fun n cs q => by
  obtain ⟨x, hx, hw⟩ := q.int1 (k := .u16) (by kernel_rfl)
  have : 0 ≤ x ∧ x < 65536 := by
   simp [Lit.wf, IntKind.min, IntKind.max, IntKind.signed, IntKind.bits] at hw
   omega
  refine ⟨x.toNat, ?_, by omega⟩
  rw [hx]; unfold e16; rw [Int.toNat_of_nonneg this.1])
theorem AR.e32s {h : AH} {n : Nat} {r : List Value} (a : AR Tryz.prog h n 24 r) : ∃ v l, r = [v] ∧ RdL h v 1 e32 l ∧ l.length ≤ maxLen ∧ CapOk v ∧ ∀ i, i < l.length → l.getD i default < 4294967296 :=
 AR.slice1 (e := 111) (z := 1) e32 (fun x => x < 4294967296) a (by kernel_rfl) (by kernel_rfl) (fun n cs q => by
  obtain ⟨x, hx, hw⟩ := q.int1 (k := .u32) (by kernel_rfl)
  have : 0 ≤ x ∧ x < 4294967296 := by
   simp [Lit.wf, IntKind.min, IntKind.max, IntKind.signed, IntKind.bits] at hw
   omega
  refine ⟨x.toNat, ?_, by omega⟩
  rw [hx]; unfold e32; rw [Int.toNat_of_nonneg this.1])
theorem AR.e8s {h : AH} {n : Nat} {r : List Value} (a : AR Tryz.prog h n 22 r) : ∃ v l, r = [v] ∧ RdL h v 1 eU l ∧ l.length ≤ maxLen ∧ CapOk v ∧ ∀ i, i < l.length → l.getD i default < 256 :=
 AR.bytes1 (e := 5) a (by kernel_rfl) (by kernel_rfl) (by kernel_rfl)
theorem AR.u8n {h : AH} {n : Nat} {r : List Value} (a : AR Tryz.prog h n 5 r) : ∃ x : Nat, r = [.int .u8 x] ∧ x < 256 := by
 obtain ⟨x, hx, hw⟩ := a.int1 (k := .u8) (by kernel_rfl)
 have : 0 ≤ x ∧ x < 256 := by
  simp [Lit.wf, IntKind.min, IntKind.max, IntKind.signed, IntKind.bits] at hw
  omega
 exact ⟨x.toNat, by rw [hx, Int.toNat_of_nonneg this.1], by omega⟩
theorem AR.nums1 {h : AH} {n : Nat} {r : List Value} (a : AR Tryz.prog h n 26 r) : ∃ (v : NuV) (na nb nc nd : List Nat), r = v.cs ∧ NuR h v na nb nc nd := by
 obtain ⟨n', hl, hk⟩ := a.struct1 (m := [(0, 22), (1, 23), (2, 22), (3, 24)]) (z := 4) rfl (by kernel_rfl) (by kernel_rfl)
 match r, hl with
 | [x0, x1, x2, x3], _ =>
  obtain ⟨v0, l0, e0, r0, m0, c0, b0⟩ := AR.e8s (show AR Tryz.prog h n' 22 [x0] from hk (0, 22) (by simp))
  obtain ⟨v1, l1, e1, r1, m1, c1, b1⟩ := AR.e16s (show AR Tryz.prog h n' 23 [x1] from hk (1, 23) (by simp))
  obtain ⟨v2, l2, e2, r2, m2, c2, b2⟩ := AR.e8s (show AR Tryz.prog h n' 22 [x2] from hk (2, 22) (by simp))
  obtain ⟨v3, l3, e3, r3, m3, c3, b3⟩ := AR.e32s (show AR Tryz.prog h n' 24 [x3] from hk (3, 24) (by simp))
  obtain ⟨s0, rfl⟩ := r0.isSl
  obtain ⟨s1, rfl⟩ := r1.isSl
  obtain ⟨s2, rfl⟩ := r2.isSl
  obtain ⟨s3, rfl⟩ := r3.isSl
  cases e0; cases e1; cases e2; cases e3
  unfold maxLen at m0 m1 m2 m3
  exact ⟨⟨s0, s1, s2, s3⟩, l0, l1, l2, l3, rfl, ⟨r0, r1, c1, r2, r3, by omega, by omega, by omega, by omega, b0, b1, b2, b3⟩⟩
end Go.Proofs.Xx
namespace Go.Proofs.Xx
open Go Go.RowKit Go.Proofs
set_option linter.unusedSimpArgs false
set_option linter.unusedVariables false
set_option linter.unusedSectionVars false
set_option maxRecDepth 100000
theorem AR.pairs1 {h : AH} {n : Nat} {r : List Value} (a : AR Tryz.prog h n 44 r) : ∃ v l, r = [v] ∧ RdL h v 2 e82 l ∧ l.length ≤ maxLen ∧ CapOk v ∧ ∀ i, i < l.length → (l.getD i default).1 < 256 ∧ (l.getD i default).2 < 256 :=
 AR.slice1 (e := 86) (z := 2) e82 (fun x => x.1 < 256 ∧ x.2 < 256) a (by kernel_rfl) (by kernel_rfl) (fun n cs q => by
  obtain ⟨n', hl, hk⟩ := q.array1 (k := 2) (e := 5) (z := 2) (by kernel_rfl) (by kernel_rfl)
  match cs, hl with
  | [x0, x1], _ =>
   obtain ⟨a0, e0, b0⟩ := AR.u8n (show AR Tryz.prog h n' 5 [x0] from hk 0 (by omega))
   obtain ⟨a1, e1, b1⟩ := AR.u8n (show AR Tryz.prog h n' 5 [x1] from hk 1 (by omega))
   cases e0; cases e1
   exact ⟨(a0, a1), rfl, b0, b1⟩)
theorem AR.intsN {h : AH} {n : Nat} {r : List Value} (a : AR Tryz.prog h n 30 r) : ∃ v l, r = [v] ∧ RdL h v 1 eI l ∧ l.length ≤ maxLen ∧ CapOk v :=
 by
  obtain ⟨v, l, h1, h2, h3, h4⟩ := a.ints1 (e := 3) (by kernel_rfl) (by kernel_rfl) (by kernel_rfl)
  exact ⟨v, l, h1, h2, h3, h4⟩
end Go.Proofs.Xx
namespace Go.Proofs.Xx
open Go Go.RowKit Go.Proofs
set_option linter.unusedSimpArgs false
set_option linter.unusedVariables false
set_option linter.unusedSectionVars false
set_option maxRecDepth 100000
end Go.Proofs.Xx
namespace Go.Proofs.Xx
open Go Go.RowKit Go.Proofs
set_option linter.unusedSimpArgs false
set_option linter.unusedVariables false
set_option linter.unusedSectionVars false
set_option maxRecDepth 100000
theorem AR.trip1 {h : AH} {n : Nat} {r : List Value} (a : AR Tryz.prog h n 56 r) : ∃ x : Tr_, r = eTr x ∧ RdL h x.tv.val 1 eI x.ta ∧ x.ta.length ≤ maxLen := by
 obtain ⟨n', hl, hk⟩ := a.struct1 (m := [(0, 30), (1, 3), (2, 3)]) (z := 3) rfl (by kernel_rfl) (by kernel_rfl)
 match r, hl with
 | [x0, x1, x2], _ =>
  obtain ⟨v0, l0, e0, r0, m0, c0⟩ := AR.intsN (show AR Tryz.prog h n' 30 [x0] from hk (0, 30) (by simp))
  obtain ⟨y1, e1, -⟩ := AR.int1 (k := .i64) (show AR Tryz.prog h n' 3 [x1] from hk (1, 3) (by simp)) (by kernel_rfl)
  obtain ⟨y2, e2, -⟩ := AR.int1 (k := .i64) (show AR Tryz.prog h n' 3 [x2] from hk (2, 3) (by simp)) (by kernel_rfl)
  obtain ⟨s0, rfl⟩ := r0.isSl
  cases e0; cases e1; cases e2
  exact ⟨⟨s0, l0, y1, y2⟩, rfl, r0, m0⟩
theorem serviceForged_core (h : AH) (us : List Value) (w : WfH h) (a : ArgsR Tryz.prog h Tryz.f6.params.toList us) : Fn Tryz.prog Xh 6 us h (fun x _ => x = .bool true) := by
 rw [show Tryz.f6.params.toList = [26, 23, 30, 44, 5, 5, 5, 56] by kernel_rfl] at a
 obtain ⟨n0, r0, us, rfl, a0, a⟩ := a.cons_inv
 obtain ⟨n1, r1, us, rfl, a1, a⟩ := a.cons_inv
 obtain ⟨n2, r2, us, rfl, a2, a⟩ := a.cons_inv
 obtain ⟨n3, r3, us, rfl, a3, a⟩ := a.cons_inv
 obtain ⟨n4, r4, us, rfl, a4, a⟩ := a.cons_inv
 obtain ⟨n5, r5, us, rfl, a5, a⟩ := a.cons_inv
 obtain ⟨n6, r6, us, rfl, a6, a⟩ := a.cons_inv
 obtain ⟨n7, r7, us, rfl, a7, a⟩ := a.cons_inv
 obtain rfl := a.nil_inv
 obtain ⟨v, na, nb, nc, nd, rfl, H⟩ := a0.nums1
 obtain ⟨va, la, rfl, ra, la1, ca, la2⟩ := a1.e16s
 obtain ⟨vb, lb, rfl, rb, lb1, cb⟩ := a2.intsN
 obtain ⟨vc, lc, rfl, rc, lc1, cc, lc2⟩ := a3.pairs1
 obtain ⟨x, rfl, hx⟩ := a4.u8n
 obtain ⟨y, rfl, hy⟩ := a5.u8n
 obtain ⟨z, rfl, hz⟩ := a6.u8n
 obtain ⟨t, rfl, rt, ht⟩ := a7.trip1
 unfold maxLen at la1 lb1 lc1 ht
 exact serviceForged_true w v na nb nc nd H va la ra ca (by omega) la2 vb lb rb (by omega) vc lc rc cc (by omega) lc2 x y z hx hy hz t rt (by omega)
end Go.Proofs.Xx
namespace Go.Proofs.Xx
set_option linter.unusedSectionVars false
set_option linter.unusedVariables false
set_option linter.unusedSimpArgs false
open Go Go.RowKit Go.Proofs
def KN : List Nat := [12, 218, 164, 244, 227, 191, 176]
theorem Xh_none (f : FuncId) (hk : KN.all (fun n => !Nat.beq f n) = true) (us : List Value) (h : AH) : Xh f us h = none := by
 have e : ∀ n, n ∈ KN → Nat.beq f n = false := fun n q => by have := List.all_eq_true.1 hk n q; simpa using this
 unfold Xh withKnown Xa withGrow withDigits Xd withIns X0 withOvl withCmp externNoEscape
 simp only [e 12 (by decide), e 218 (by decide), e 164 (by decide), e 244 (by decide), e 227 (by decide), e 191 (by decide), e 176 (by decide)]
theorem max_there {W : World} (h : W.ShapedOpen Tryz.prog) : 1 < W.heap.size ∧ ∃ m el fr, W.heap[0]? = some (.cells #[.int .i64 m] el fr) := by
 have h0 : ((begin Tryz.prog (fun _ _ => 0) default).world.heap[0]?).bind Obj.row? = some (#[.int .i64 0], 3) := by kernel_rfl
 obtain ⟨m, hm⟩ := cell_of_shapedOpen_int h (g := 0) (t := 3) (of_decide_eq_true (by kernel_rfl)) h0 rfl (by kernel_rfl) (by kernel_rfl) Tryz.underlying3
 obtain ⟨cs, hh, hs, -⟩ := h.1 0 _ 3 (of_decide_eq_true (by kernel_rfl)) h0
 refine ⟨?_, m, 3, (0, 0), ?_⟩
 ·have h1 : (((begin Tryz.prog (fun _ _ => 0) default).world.heap[1]?).bind Obj.row?).isSome = true := by kernel_rfl
  obtain ⟨⟨z, t⟩, h1⟩ := Option.isSome_iff_exists.1 h1
  obtain ⟨cs, hh, -⟩ := h.1 1 z t (of_decide_eq_true (by kernel_rfl)) h1
  exact (Array.getElem?_eq_some_iff.1 hh).1
 ·rw [hh]
  have : cs = #[.int .i64 m] := by
   simp only [World.cell?, hh] at hm
   obtain ⟨l⟩ := cs
   match l, hs, hm with
   | [x], _, hm => simp at hm; rw [hm]
   | [], hs, _ => cases hs
   | _ :: _ :: _, hs, _ => simp at hs
  rw [this]
theorem cells_there {W : World} (h : W.ShapedOpen Tryz.prog) : ∃ (k : Nat) (cc : Array Value) (el : TypeId) (fr : Nat × Nat), W.heap[k]? = some (.cells cc el fr) := by
 obtain ⟨-, m, el, fr, q⟩ := max_there h
 exact ⟨0, _, el, fr, q⟩
end Go.Proofs.Xx
namespace Go.Proofs.Xx
set_option linter.unusedSectionVars false
set_option linter.unusedVariables false
set_option linter.unusedSimpArgs false
open Go Go.RowKit Go.Proofs
theorem gPowType : (Tryz.prog.globals[1]?).map (·.type) = some 254 := by kernel_rfl
theorem glob_pow [Flag] {W : World} {x y : String × DataW Unit} {rest : List (String × DataW Unit)} (h : laidMet Tryz.prog (x :: y :: ("internal/strconv.uint64pow10", YticddjokabmfmaaGreatDoor.Rows.laid_internal_strconv_uint64pow10) :: rest) W) (hS : W.ShapedOpen Tryz.prog) :
 Glob.ok W.heap.size W.heap := by
 refine ⟨(max_there hS).1, (max_there hS).2, fun _ => ?_⟩
 have t : Lib.TabIs Tryz.prog W "internal/strconv.uint64pow10" .u64 Lib.pow10Tab :=
  Lib.tabIs_of_head gPow gPowType (n := 20) (e := 147) (by kernel_rfl) (by kernel_rfl) (by kernel_rfl) (by kernel_rfl) (laidMet.tail (laidMet.tail h))
 unfold Lib.TabIs World.var? at t
 rw [gPow] at t
 simp only [Option.bind_some] at t
 split at t
 ·rename_i cs el fr hc
  cases t
  exact ⟨el, fr, hc⟩
 ·cases t
end Go.Proofs.Xx
