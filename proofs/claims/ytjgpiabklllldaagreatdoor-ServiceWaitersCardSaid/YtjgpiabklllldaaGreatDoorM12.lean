/-
  The reference's plates, tables that are served, loads.
-/
import Derived.Test.YtjgpiabklllldaaGreatDoorM10
import Derived.Test.YtjgpiabklllldaaGreatDoorM11
import Derived.Test.YtjgpiabklllldaaGreatDoorM9
namespace Go.Proofs.Xx
open Go Go.Proofs
set_option linter.unusedSimpArgs false
set_option linter.unusedVariables false
set_option linter.unusedSectionVars false
set_option maxRecDepth 100000
set_option maxHeartbeats 4000000
theorem sitN_cnt {l : List Tab} {q : List Int} {t : Nat} : ∀ i, i ≤ q.length → ((sitN l q t i).length : Int) = (((q.take i).map (tOf l)).count (t : Int) : Nat)
 | 0, _ => by simp [sitN]
 | i + 1, h => by
  have ih := sitN_cnt (l := l) (q := q) (t := t) i (by omega)
  rw [sitN, take_getD (show i < q.length by omega), List.map_append, List.count_append]
  split
  ·rename_i z
   rw [List.map_cons, List.map_nil, z.2, List.length_append]
   simp only [List.count_singleton_self, List.length_singleton]
   omega
  ·rename_i z
   have : List.count (t : Int) ([q.getD i default].map (tOf l)) = 0 := List.count_eq_zero_of_not_mem (by
    simp only [List.map_cons, List.map_nil, List.mem_singleton]
    intro e
    by_cases hp : 0 ≤ q.getD i default
    ·exact z ⟨hp, e.symm⟩
    ·have := tOf_neg (l := l) (s := q.getD i default) (by omega)
     omega)
   rw [this]; omega
theorem sit_plt {p : Pb} {q : List Int} {t : Nat} (ht : t < p.tabs.length) : ((sitN p.tabs q t q.length).length : Int) = (pltV p q).getD t default := by
 unfold pltV
 rw [cntL_get ht, sitN_cnt q.length (Nat.le_refl _), List.take_length]
variable [Flag]
theorem rPlates_ok {h0 : AH} (w : WfH h0) (pv : PbV) (p : Pb) (H : PbOk h0 pv p) (hv : ValidL p.tabs) (vq : Value) (q : List Int) (rq : RdL h0 vq 1 eI q) (hq : q.length ≤ 1000000) (hqb : ∀ x ∈ q, -1 ≤ x ∧ x ≤ 1000000) :
 Fn Tryz.prog Xh 44 [pv.val, vq] h0 (fun u h' => Hs h0 h' [.sl u 3 1 eI (pltV p q)]) := by
 have S := Hs.start w
 have hr := H.tab.rd
 have hl := H.tab.len
 have hpl := pltV_len (p := p) (q := q)
 unfold PbV.val
 refine Fn_K (by first | rfl) Tryz.func44 rfl rfl ?_
 all_goals (repeat' (first | refine K_seq ?_ | (refine K_region (id := 0) ?_; (refine bx S ?_; clear S; intro b h S); refine mv ?_; refine KO_nil ?_)))
 obtain ⟨b2, hnm⟩ : ∃ x, x = b := ⟨_, rfl⟩; subst hnm
 all_goals (repeat' (first | refine K_seq ?_ | refine k_block ?_ | (refine K_region (id := 1) ?_; refine mv ?_; refine KO_nil ?_) | (refine K_region (id := 2) ?_; refine mv ?_; refine KO_nil ?_)))
 replace S : Hs h0 _ [.sl (.slice none 0 0) 3 1 eI [], .blk b2 pv.cs 28] := S.nilS
 refine k_loop (σ := Nat × Value) (fun (i, v5) h' => Hs h0 h' [.sl v5 3 1 eI ((pltV p q).take i), .blk b2 pv.cs 28] ∧ i ≤ p.tabs.length) (fun (i, v5) => p.tabs.length - i) (fun (i, v5) => [(1, vq), (2, .pointer (some ⟨b2, 0, none⟩)), (5, v5), (6, .int .i64 i)]) (0, .slice none 0 0) (by repeat (first | exact Ks.le_nil _ | refine Ks.le_cons rfl ?_)) ?_ ?_
 ·exact ⟨S, Nat.zero_le _⟩
 clear S
 rintro ⟨i, v5⟩ h ⟨S, g1⟩
 have htl : ((pltV p q).take i).length ≤ 1000 := by simp; omega
 all_goals (repeat' (first | refine K_seq ?_ | refine k_cond rfl ?_ | refine K_skip ?_ | refine K_exit ?_ | refine k_block ?_ | (refine K_region (id := 3) ?_; refine mv ?_; refine vl ?_; refine lB S rfl rfl ?_; refine lnB S ?_; (first | (refine cS ?_ ?_ <;> intro hc)) <;> (refine KO_nil ?_))))
 ·have hi : i < p.tabs.length := by omega
  have hsl := sitN_len (l := p.tabs) (q := q) (t := i) q.length
  have e1 := sit_plt (p := p) (q := q) hi
  have e2 : (pltV p q).take (i + 1) = (pltV p q).take i ++ [(pltV p q).getD i default] := take_getD (by omega)
  all_goals (repeat' (first | (refine K_region (id := 5) ?_; refine mv ?_; refine lB S rfl rfl ?_; refine mv ?_; refine mv ?_)))
  (refine KO_fn rfl rfl rfl rfl rfl ((rSits_ok S.wf pv p (H.ext w S.ext) hv vq q (rq.ext w S.ext) hq hqb (i : Int)).mono ?_); rintro u h x) <;> (replace S := S.join1 x; clear x; refine lnS S rfl rfl ?_; (refine one 1 S ?_; clear S; intro u h S))
  refine app (y0 := ((sitN p.tabs q i q.length).length : Int)) S rfl rfl ?_; clear S; intro v h S; refine mv ?_; refine KO_nil ?_
  rw [e1, ← e2] at S
  all_goals (repeat' (first | (refine K_region (id := 4) ?_; refine mv ?_; refine ad ?_; refine mv ?_; refine KO_nil ?_)))
  refine ⟨(i + 1, v), ?_, ?_, (by repeat (first | exact Ks.le_nil _ | refine Ks.le_cons rfl ?_))⟩
  ·show p.tabs.length - (i + 1) < p.tabs.length - i; omega
  ·exact ⟨S.pick, by (try dsimp only); omega⟩
 ·obtain rfl : i = p.tabs.length := by omega
  rw [List.take_of_length_le (by omega)] at S
  all_goals (repeat' (first | (refine K_region (id := 6) ?_; refine mv ?_; refine mv ?_; refine KO_nil ?_)))
  refine K_ret ⟨_, rfl, ?_⟩
  exact S.only .here
theorem rServed_ok {h0 : AH} (w : WfH h0) (pv : PbV) (p : Pb) (H : PbOk h0 pv p) (hv : ValidL p.tabs) (vq : Value) (q : List Int) (rq : RdL h0 vq 1 eI q) (hq : q.length ≤ 1000000) (hqb : ∀ x ∈ q, -1 ≤ x ∧ x ≤ 1000000) :
 Fn Tryz.prog Xh 38 [pv.val, vq] h0 (fun u h' => Hs h0 h' [.sl u 3 1 eI (srv (pltV p q))]) := by
 have S := Hs.start w
 have hr := H.tab.rd
 have hl := H.tab.len
 have hpl := pltV_len (p := p) (q := q)
 unfold PbV.val
 refine Fn_K (by first | rfl) Tryz.func38 rfl rfl ?_
 all_goals (repeat' (first | refine K_seq ?_ | (refine K_region (id := 0) ?_; (refine bx S ?_; clear S; intro b h S); refine mv ?_; refine KO_nil ?_)))
 obtain ⟨b2, hnm⟩ : ∃ x, x = b := ⟨_, rfl⟩; subst hnm
 all_goals (repeat' (first | refine K_seq ?_ | refine k_block ?_ | (refine K_region (id := 1) ?_; refine mv ?_; refine KO_nil ?_) | (refine K_region (id := 2) ?_; refine mv ?_; refine KO_nil ?_)))
 replace S : Hs h0 _ [.sl (.slice none 0 0) 3 1 eI [], .blk b2 pv.cs 28] := S.nilS
 refine k_loop (σ := Nat × Value) (fun (i, v5) h' => Hs h0 h' [.sl v5 3 1 eI (srvN (pltV p q) i), .blk b2 pv.cs 28] ∧ i ≤ p.tabs.length) (fun (i, v5) => p.tabs.length - i) (fun (i, v5) => [(1, vq), (2, .pointer (some ⟨b2, 0, none⟩)), (5, v5), (6, .int .i64 i)]) (0, .slice none 0 0) (by repeat (first | exact Ks.le_nil _ | refine Ks.le_cons rfl ?_)) ?_ ?_
 ·exact ⟨S, Nat.zero_le _⟩
 clear S
 rintro ⟨i, v5⟩ h ⟨S, g1⟩
 have htl := (srvN_inc (pl := pltV p q) (n := i)).2
 all_goals (repeat' (first | refine K_seq ?_ | refine k_cond rfl ?_ | refine K_skip ?_ | refine K_exit ?_ | refine k_block ?_ | (refine K_region (id := 3) ?_; refine mv ?_; refine vl ?_; refine lB S rfl rfl ?_; refine lnB S ?_; (first | (refine cS ?_ ?_ <;> intro hc)) <;> (refine KO_nil ?_))))
 ·have hi : i < p.tabs.length := by omega
  have hsl := sitN_len (l := p.tabs) (q := q) (t := i) q.length
  have e1 := sit_plt (p := p) (q := q) hi
  all_goals (repeat' (first | (refine K_region (id := 5) ?_; refine lB S rfl rfl ?_; refine mv ?_; refine mv ?_)))
  (refine KO_fn rfl rfl rfl rfl rfl ((rSits_ok S.wf pv p (H.ext w S.ext) hv vq q (rq.ext w S.ext) hq hqb (i : Int)).mono ?_); rintro u h x) <;> (replace S := S.join1 x; clear x; refine lnS S rfl rfl ?_; (first | (refine cS ?_ ?_ <;> intro hc)) <;> (refine KO_nil ?_))
  all_goals (repeat' (first | refine k_cond rfl ?_ | refine K_skip ?_ | (refine K_region (id := 6) ?_; refine mv ?_; refine mv ?_; (refine one 1 S ?_; clear S; intro u h S))))
  ·refine app (y0 := (i : Int)) S rfl rfl ?_; clear S; intro v h S; refine mv ?_; refine KO_nil ?_
   all_goals (repeat' (first | (refine K_region (id := 4) ?_; refine mv ?_; refine ad ?_; refine mv ?_; refine KO_nil ?_)))
   refine ⟨(i + 1, v), ?_, ?_, (by repeat (first | exact Ks.le_nil _ | refine Ks.le_cons rfl ?_))⟩
   ·show p.tabs.length - (i + 1) < p.tabs.length - i; omega
   ·refine ⟨?_, by (try dsimp only); omega⟩
    rw [srvN, if_pos (by omega)]
    exact S.pick
  ·all_goals (repeat' (first | (refine K_region (id := 4) ?_; refine mv ?_; refine ad ?_; refine mv ?_; refine KO_nil ?_)))
   refine ⟨(i + 1, v5), ?_, ?_, (by repeat (first | exact Ks.le_nil _ | refine Ks.le_cons rfl ?_))⟩
   ·show p.tabs.length - (i + 1) < p.tabs.length - i; omega
   ·refine ⟨?_, by (try dsimp only); omega⟩
    rw [srvN, if_neg (by omega)]
    exact S.pick
 ·obtain rfl : i = p.tabs.length := by omega
  all_goals (repeat' (first | (refine K_region (id := 7) ?_; refine mv ?_; refine mv ?_; refine KO_nil ?_)))
  refine K_ret ⟨_, rfl, ?_⟩
  unfold srv
  rw [hpl]
  exact S.only .here
theorem rLoads_ok {h0 : AH} (w : WfH h0) (vp : Value) (pl : List Int) (rp : RdL h0 vp 1 eI pl) (vs : Value) (stops : List Int) (rs : RdL h0 vs 1 eI stops) (vc : Value) (c : List Int) (rc : RdL h0 vc 1 eI c) (n : Nat) (hn : 1 ≤ n ∧ n ≤ 9) (hs9 : stops.length ≤ 9) (hcl : c.length = stops.length) (hpl : pl.length ≤ 1000)
 (hcb : ∀ x ∈ c, 0 ≤ x ∧ x < (n : Int)) (hst : ∀ t ∈ stops, 0 ≤ t ∧ t < pl.length) (hld : ∀ t, 0 ≤ ldP pl t ∧ ldP pl t ≤ 1000) :
 Fn Tryz.prog Xh 56 [vp, vs, vc, .int .i64 n] h0 (fun u h' => ∃ vo, u = .tuple #[vo, .int .i64 (Lw n (stops.map (ldP pl)) c)] ∧ Hs h0 h' []) := by
 have S := Hs.start w
 have hq0 : ∀ x ∈ stops.map (ldP pl), 0 ≤ x ∧ x ≤ 1000 := fun x hx => by
  obtain ⟨t, -, rfl⟩ := List.mem_map.1 hx
  exact hld t
 have hq1 : ∀ x ∈ stops.map (ldP pl), 0 ≤ x := fun x hx => (hq0 x hx).1
 have hql : (stops.map (ldP pl)).length = stops.length := by simp
 have hlb : ∀ c v, 0 ≤ lds (stops.map (ldP pl)) c v ∧ lds (stops.map (ldP pl)) c v ≤ 9000 := fun c v => by
  have h1 := lds_nn (c := c) hq1 v
  have h2 := lds_b (M := 1000) (by omega) hq0 (c := c) v
  rw [hql] at h2
  omega
 refine Fn_K (by first | rfl) Tryz.func56 rfl rfl ?_
 all_goals (repeat' (first | refine K_seq ?_ | (refine K_region (id := 0) ?_; refine mv ?_; refine mv ?_; refine KO_nil ?_) | (refine K_region (id := 1) ?_; refine mv ?_)))
 refine m_make (z := 1) (by_ := 8) (enc := eI) (y0 := 0) S rfl rfl rfl rfl rfl rfl rfl rfl rfl (by intro _; rfl) (by first | omega) rfl rfl ?_; clear S; intro v h S; obtain ⟨sO, rfl⟩ := S.sV v; refine mv ?_; refine KO_nil ?_
 simp only [Int.toNat_natCast] at S
 all_goals (repeat' (first | refine K_seq ?_ | refine k_block ?_ | (refine K_region (id := 2) ?_; refine mv ?_; refine KO_nil ?_) | (refine K_region (id := 3) ?_; refine mv ?_; refine KO_nil ?_)))
 refine k_loop (σ := Nat × List Int) (fun (i, lo) h' => Hs h0 h' [.sl sO.val 3 1 eI lo] ∧ i ≤ stops.length ∧ lo.length = n ∧ (∀ v, v < n → lo.getD v default = lds (stops.map (ldP pl)) (c.take i) v)) (fun (i, lo) => stops.length - i) (fun (i, lo) => [(0, vp), (1, vs), (2, vc), (3, .int .i64 n), (10, sO.val), (11, .int .i64 0), (12, .int .i64 i)]) (0, List.replicate n 0) (by repeat (first | exact Ks.le_nil _ | refine Ks.le_cons rfl ?_)) ?_ ?_
 ·refine ⟨S, Nat.zero_le _, by simp, fun v hv => ?_⟩
  rw [List.take_zero, lds_nil, List.getD_eq_getElem?_getD, List.getElem?_replicate, if_pos hv]; rfl
 clear S
 rintro ⟨i, lo⟩ h ⟨S, g1, g2, g3⟩
 all_goals (repeat' (first | refine K_seq ?_ | refine k_cond rfl ?_ | refine K_skip ?_ | refine K_exit ?_ | refine k_block ?_ | (refine K_region (id := 4) ?_; refine mv ?_; refine mv ?_; refine lnB S ?_; (first | (refine cS ?_ ?_ <;> intro hc)) <;> (refine KO_nil ?_))))
 ·have hi : i < stops.length := by omega
  have hwb := hcb _ (mem_getD (show i < c.length by omega))
  obtain ⟨w0, hw0⟩ := Int.eq_ofNat_of_zero_le hwb.1
  have hwn : w0 < n := by omega
  have htb := hst _ (mem_getD hi)
  have hw1 : c.getD (i : Int).toNat default = (w0 : Int) := hw0
  have b1 := hlb (c.take i) w0
  rw [← g3 w0 hwn] at b1
  have b1' : 0 ≤ lo.getD (w0 : Int).toNat default ∧ lo.getD (w0 : Int).toNat default ≤ 9000 := b1
  have b2 : 0 ≤ pl.getD (stops.getD (i : Int).toNat default).toNat default ∧ pl.getD (stops.getD (i : Int).toNat default).toNat default ≤ 1000 := hld (stops.getD i default)
  have b3 : 0 ≤ stops.getD (i : Int).toNat default ∧ stops.getD (i : Int).toNat default < pl.length := htb
  have b4 : 0 ≤ c.getD (i : Int).toNat default ∧ c.getD (i : Int).toNat default < n := hwb
  have b5 : 0 ≤ lo.getD (c.getD (i : Int).toNat default).toNat default ∧ lo.getD (c.getD (i : Int).toNat default).toNat default ≤ 9000 := by rw [hw1]; exact b1'
  all_goals (repeat' (first | (refine K_region (id := 5) ?_; refine mv ?_; refine ad ?_; refine mv ?_; refine KO_nil ?_) | (refine K_draw (id := 6) ?_; refine mv ?_; refine mv ?_; refine mv ?_; refine ixB S ?_; refine lEB S ?_; refine mv ?_; refine mv ?_; refine mv ?_; refine ixB S ?_; refine lEB S ?_; refine ixS2 S rfl rfl ?_; refine lES2 S rfl rfl ?_; refine mv ?_; refine mv ?_; refine mv ?_; refine ixB S ?_; refine lEB S ?_; refine ixB S ?_; refine lEB S ?_; refine ad ?_; refine ixS2 S rfl rfl ?_; (first | (refine sE2 S rfl rfl ?_; clear S; intro h S)); refine KO_nil ?_)))
  rw [hw1] at S
  refine ⟨(i + 1, lo.set w0 (lo.getD w0 default + ldP pl (stops.getD i default))), ?_, ?_, (by repeat (first | exact Ks.le_nil _ | refine Ks.le_cons rfl ?_))⟩
  ·show stops.length - (i + 1) < stops.length - i; omega
  ·have hqt : (stops.map (ldP pl)).getD i default = ldP pl (stops.getD i default) := by
    rw [List.getD_eq_getElem?_getD, List.getElem?_map, List.getElem?_eq_getElem hi, List.getD_eq_getElem?_getD, List.getElem?_eq_getElem hi]; rfl
   have htl : (c.take i).length = i := by rw [List.length_take]; omega
   refine ⟨S, by omega, by rw [List.length_set]; exact g2, fun v hv => ?_⟩
   rw [take_getD (by omega), hw0, lds_app (by rw [htl, hql]; omega), htl, hqt, getD_setI (by omega)]
   dsimp only
   by_cases e : w0 = v
   ·subst e; rw [if_pos rfl, if_pos rfl, g3 w0 hv]
   ·rw [if_neg e, if_neg (fun q => e q.symm), g3 v hv]
 obtain rfl : i = stops.length := by omega
 rw [List.take_of_length_le (by omega)] at g3
 all_goals (repeat' (first | refine k_block ?_ | (refine K_region (id := 7) ?_; refine mv ?_; refine KO_nil ?_)))
 refine k_loop (σ := Nat) (fun j h' => Hs h0 h' [.sl sO.val 3 1 eI lo] ∧ j ≤ n) (fun j => n - j) (fun j => [(3, .int .i64 n), (10, sO.val), (11, .int .i64 (mxF (lds (stops.map (ldP pl)) c) j)), (13, .int .i64 j)]) 0 (by repeat (first | exact Ks.le_nil _ | refine Ks.le_cons rfl ?_)) ?_ ?_
 ·exact ⟨S, Nat.zero_le _⟩
 clear S
 rintro j h ⟨S, k1⟩
 all_goals (repeat' (first | refine K_seq ?_ | refine k_cond rfl ?_ | refine K_skip ?_ | refine K_exit ?_ | refine k_block ?_ | (refine K_region (id := 8) ?_; refine mv ?_; refine mv ?_; (first | (refine cS ?_ ?_ <;> intro hc)) <;> (refine KO_nil ?_))))
 ·have hj : j < n := by omega
  have e1 := g3 j hj
  all_goals (repeat' (first | (refine K_region (id := 10) ?_; refine mv ?_; refine mv ?_; refine mv ?_; refine ixS2 S rfl rfl ?_; refine lES2 S rfl rfl ?_; refine mx ?_; refine mv ?_; refine KO_nil ?_)))
  simp only [Int.toNat_natCast, e1]
  all_goals (repeat' (first | (refine K_region (id := 9) ?_; refine mv ?_; refine ad ?_; refine mv ?_; refine KO_nil ?_)))
  refine ⟨j + 1, ?_, ?_, (by repeat (first | exact Ks.le_nil _ | refine Ks.le_cons rfl ?_))⟩
  ·show n - (j + 1) < n - j; omega
  ·exact ⟨S, by omega⟩
 ·obtain rfl : j = n := by omega
  all_goals (repeat' (first | (refine K_region (id := 11) ?_; refine mv ?_; refine mv ?_; refine mv ?_; refine mv ?_; refine KO_nil ?_)))
  refine K_ret ⟨_, rfl, ?_⟩
  exact ⟨_, rfl, S.drop⟩
end Go.Proofs.Xx
namespace Go.Proofs.Xx
open Go Go.Proofs
set_option linter.unusedSimpArgs false
set_option linter.unusedVariables false
set_option linter.unusedSectionVars false
set_option maxRecDepth 100000
set_option maxHeartbeats 4000000
theorem bestD_ok {p : Pb} {q : List Int} {n : Nat} (hn : 1 ≤ n) : (bestD p q n).1.length = (srv (pltV p q)).length ∧ (∀ x ∈ (bestD p q n).1, 0 ≤ x ∧ x < (n : Int)) ∧ (bestD p q n).2 = Lw n ((srv (pltV p q)).map (ldP (pltV p q))) (bestD p q n).1 ∧ ∀ g : List Nat, g.length = (srv (pltV p q)).length → (∀ w ∈ g, w < n) → (bestD p q n).2 ≤ mxF (finW (fun _ => 0) ((srv (pltV p q)).map (ldP (pltV p q))) g) n := by
 have := can_best (n := n) hn (qs := (srv (pltV p q)).map (ldP (pltV p q))) (fun x hx => by
  obtain ⟨t, -, rfl⟩ := List.mem_map.1 hx
  exact (ldP_b (p := p) (q := q) t).1)
 rw [List.length_map] at this
 exact this
theorem ownRow_rd {h0 h : AH} {rs : List Rs} {ts : List Row_} (S : Hs h0 h rs) (a : At rs (ownR slRow ts)) {i : Nat} (hi : i < ts.length) : RdL h (ts.getD i default).sv.val 1 eI (ts.getD i default).r := by
 obtain ⟨fp, k⟩ := S.anyP a
 obtain ⟨f2, k2⟩ := Star.get_ (r := slRow (ts.getD i default)) k (List.mem_map.2 ⟨_, mem_getD hi, rfl⟩)
 exact sl_rdL_ k2
end Go.Proofs.Xx
namespace Go.Proofs.Xx
set_option linter.unusedSectionVars false
set_option linter.unusedSimpArgs false
set_option linter.unusedVariables false
def AllL (n : Nat) : Nat → List Int → List (List Int)
 | 0, done => [done]
 | k + 1, done => (List.range n).flatMap fun w : Nat => AllL n k (done ++ [(w : Int)])
abbrev nI (g : List Nat) : List Int := g.map fun w : Nat => (w : Int)
theorem AllL_mem {n : Nat} : ∀ {k : Nat} {done c : List Int}, c ∈ AllL n k done ↔ ∃ g : List Nat, g.length = k ∧ (∀ w ∈ g, w < n) ∧ c = done ++ nI g
 | 0, done, c => by
  rw [AllL, List.mem_singleton]
  constructor
  ·rintro rfl; exact ⟨[], rfl, fun w hw => (nomatch hw), by simp⟩
  ·rintro ⟨g, hg, -, rfl⟩
   rw [List.length_eq_zero_iff.1 hg]; simp
 | k + 1, done, c => by
  rw [AllL, List.mem_flatMap]
  constructor
  ·rintro ⟨w, hw, h⟩
   obtain ⟨g, h1, h2, rfl⟩ := AllL_mem.1 h
   refine ⟨w :: g, by simp [h1], fun x hx => ?_, by simp⟩
   rcases List.mem_cons.1 hx with rfl | q
   ·exact List.mem_range.1 hw
   ·exact h2 x q
  ·rintro ⟨g, h1, h2, rfl⟩
   cases g with
   | nil => cases h1
   | cons w g =>
    exact ⟨w, List.mem_range.2 (h2 w (by simp)), AllL_mem.2 ⟨g, by simpa using h1, fun x hx => h2 x (List.mem_cons_of_mem _ hx), by simp⟩⟩
def exW (u w x : Nat) : Nat := if x = u then w else if x = w then u else x
theorem exW_inv {u w x : Nat} : exW u w (exW u w x) = x := by unfold exW; grind
theorem exW_inj {u w x y : Nat} : exW u w x = exW u w y ↔ x = y := ⟨fun h => by rw [← exW_inv (u := u) (w := w) (x := x), h, exW_inv], fun h => by rw [h]⟩
theorem fin_ex {u w : Nat} : ∀ (q : List Int) (g : List Nat) (c : Nat → Int) (v : Nat), finW c q (g.map (exW u w)) v = finW (fun x => c (exW u w x)) q g (exW u w v)
 | [], g, c, v => by
  have h1 : ∀ g : List Nat, ∀ c : Nat → Int, finW c [] g = c := fun g c => by cases g <;> rfl
  rw [h1, h1]; simp only [exW_inv]
 | x :: q, [], c, v => by
  show finW c (x :: q) [] v = _
  rw [fin_nil, fin_nil]; simp only [exW_inv]
 | x :: q, y :: g, c, v => by
  rw [List.map_cons, finW, finW, fin_ex q g]
  congr 1
  funext z
  simp only [exW_inj]
theorem Lw_ex {n u w : Nat} (hu : u < n) (hw : w < n) {qs : List Int} {g : List Nat} : Lw n qs (nI (g.map (exW u w))) ≤ Lw n qs (nI g) := by
 have e : ∀ g : List Nat, (nI g).map Int.toNat = g := fun g => by
  rw [nI, List.map_map]
  have : (Int.toNat ∘ fun w : Nat => (w : Int)) = id := by funext w; simp
  rw [this, List.map_id]
 unfold Lw
 refine mxF_le mxF_nn fun v hv => ?_
 unfold lds
 rw [e, e, fin_ex]
 refine mxF_ge (f := finW (fun _ => 0) qs g) (v := exW u w v) ?_
 unfold exW; grind
theorem fold_le {L : List Int → Int} (hL : ∀ c, 0 ≤ L c) : ∀ (l : List (List Int)) (s : BestW),
 (0 ≤ s.2 → 0 ≤ (l.foldl (updW L) s).2 ∧ (l.foldl (updW L) s).2 ≤ s.2) ∧ ∀ c ∈ l, 0 ≤ (l.foldl (updW L) s).2 ∧ (l.foldl (updW L) s).2 ≤ L c
 | [], s => ⟨fun h => ⟨h, Int.le_refl _⟩, fun c h => (nomatch h)⟩
 | c :: l, s => by
  rw [List.foldl_cons]
  have hc := hL c
  obtain ⟨h1, h2⟩ := fold_le hL l (updW L s c)
  have hu : 0 ≤ (updW L s c).2 ∧ (updW L s c).2 ≤ L c ∧ (0 ≤ s.2 → (updW L s c).2 ≤ s.2) := by
   unfold updW; split
   ·exact ⟨hc, Int.le_refl _, fun h => by rename_i q; simp only; omega⟩
   ·exact ⟨by omega, by omega, fun _ => Int.le_refl _⟩
  have h3 := h1 hu.1
  refine ⟨fun h => ⟨h3.1, Int.le_trans h3.2 (hu.2.2 h)⟩, fun d hd => ?_⟩
  rcases List.mem_cons.1 hd with rfl | q
  ·exact ⟨h3.1, Int.le_trans h3.2 hu.2.1⟩
  ·exact h2 d q
theorem foldl_same {α β γ : Type} (F : β → γ → β) (f g : α → List γ) : ∀ (l : List α) (s : β), (∀ x ∈ l, ∀ s, (f x).foldl F s = (g x).foldl F s) → (l.flatMap f).foldl F s = (l.flatMap g).foldl F s
 | [], s, _ => rfl
 | x :: l, s, h => by
  rw [List.flatMap_cons, List.flatMap_cons, List.foldl_append, List.foldl_append, h x (by simp)]
  exact foldl_same F f g l _ fun y hy => h y (List.mem_cons_of_mem _ hy)
theorem all_can {n : Nat} {qs : List Int} : ∀ (k u : Nat) (done : List Nat) (s : BestW), (∀ x ∈ done, x < u) → u ≤ n → (AllL n k (nI done)).foldl (updW (Lw n qs)) s = (CanL n k u (nI done)).foldl (updW (Lw n qs)) s
 | 0, u, done, s, hd, hu => rfl
 | k + 1, u, done, s, hd, hu => by
  have hdn : ∀ w : Nat, nI done ++ [(w : Int)] = nI (done ++ [w]) := fun w => by simp
  have child : ∀ w, w < n → ∀ s, (AllL n k (nI done ++ [(w : Int)])).foldl (updW (Lw n qs)) s = (CanL n k (max u (w + 1)) (nI done ++ [(w : Int)])).foldl (updW (Lw n qs)) s := fun w hw s => by
   rw [hdn]
   refine all_can k _ _ s (fun x hx => ?_) (by omega)
   rcases List.mem_append.1 hx with q | q
   ·have := hd x q; omega
   ·have := List.mem_singleton.1 q; omega
  rw [AllL, CanL]
  rcases Nat.lt_or_ge (u + 1) n with r | r
  ·rw [Nat.min_eq_left (by omega)]
   obtain ⟨m, rfl⟩ : ∃ m, n = u + 1 + m := ⟨n - (u + 1), by omega⟩
   rw [List.range_add, List.flatMap_append, List.foldl_append]
   rw [foldl_same _ _ (fun w : Nat => CanL (u + 1 + m) k (max u (w + 1)) (nI done ++ [(w : Int)])) (List.range (u + 1)) s fun w hw => child w (by have := List.mem_range.1 hw; omega)]
   obtain ⟨t, ht⟩ : ∃ t, ((List.range (u + 1)).flatMap fun w : Nat => AllL (u + 1 + m) k (nI done ++ [(w : Int)])).foldl (updW (Lw (u + 1 + m) qs)) s = t := ⟨_, rfl⟩
   have hs := foldl_same (updW (Lw (u + 1 + m) qs)) (fun w : Nat => AllL (u + 1 + m) k (nI done ++ [(w : Int)])) (fun w : Nat => CanL (u + 1 + m) k (max u (w + 1)) (nI done ++ [(w : Int)])) (List.range (u + 1)) s fun w hw => child w (by have := List.mem_range.1 hw; omega)
   rw [← hs, ht]
   have low : ∀ g : List Nat, g.length = k → (∀ w ∈ g, w < u + 1 + m) → 0 ≤ t.2 ∧ t.2 ≤ Lw (u + 1 + m) qs (nI (done ++ u :: g)) := fun g hg hw => by
    have := (fold_le (L := Lw (u + 1 + m) qs) (fun c => Lw_nn) ((List.range (u + 1)).flatMap fun w : Nat => AllL (u + 1 + m) k (nI done ++ [(w : Int)])) s).2 (nI (done ++ u :: g)) (List.mem_flatMap.2 ⟨u, List.mem_range.2 (by omega), AllL_mem.2 ⟨g, hg, hw, by simp⟩⟩)
    rwa [ht] at this
   have ht0 : 0 ≤ t.2 := (low (List.replicate k 0) (by simp) fun w hw => by rw [List.eq_of_mem_replicate hw]; omega).1
   refine updW_keep _ _ ht0 fun c hc => ?_
   obtain ⟨w, hw, hc⟩ := List.mem_flatMap.1 hc
   obtain ⟨j, hj, rfl⟩ := List.mem_map.1 hw
   rw [List.mem_range] at hj
   obtain ⟨g, h1, h2, rfl⟩ := AllL_mem.1 hc
   refine Int.le_trans (low (g.map (exW u (u + 1 + j))) (by simpa using h1) fun x hx => ?_).2 ?_
   ·obtain ⟨y, hy, rfl⟩ := List.mem_map.1 hx
    have := h2 y hy
    unfold exW; grind
   ·have e : done ++ u :: g.map (exW u (u + 1 + j)) = (done ++ (u + 1 + j) :: g).map (exW u (u + 1 + j)) := by
     rw [List.map_append, List.map_cons]
     have e1 : done.map (exW u (u + 1 + j)) = done := by
      conv => rhs; rw [← List.map_id done]
      refine List.map_congr_left fun x hx => ?_
      have := hd x hx
      unfold exW; rw [if_neg (by omega), if_neg (by omega)]; rfl
     have e2 : exW u (u + 1 + j) (u + 1 + j) = u := by unfold exW; grind
     rw [e1, e2]
    have e3 : nI done ++ [((u + 1 + j : Nat) : Int)] ++ nI g = nI (done ++ (u + 1 + j) :: g) := by simp
    rw [e, e3]
    exact Lw_ex (by omega) (by omega)
  ·rw [Nat.min_eq_right (by omega)]
   exact foldl_same _ _ _ _ s fun w hw => child w (List.mem_range.1 hw)
def digs (n : Nat) : Nat → Nat → List Nat
 | 0, _ => []
 | j + 1, k => digs n j (k / n) ++ [k % n]
theorem digs_len {n : Nat} : ∀ {j k : Nat}, (digs n j k).length = j
 | 0, _ => rfl
 | j + 1, k => by rw [digs, List.length_append, digs_len]; rfl
theorem digs_top {n : Nat} (hn : 0 < n) : ∀ {j w k : Nat}, w < n → k < n ^ j → digs n (j + 1) (w * n ^ j + k) = w :: digs n j k
 | 0, w, k, hw, hk => by
  obtain rfl : k = 0 := by simpa using hk
  simp [digs, Nat.mod_eq_of_lt hw]
 | j + 1, w, k, hw, hk => by
  have e : w * n ^ (j + 1) + k = n * (w * n ^ j) + k := by rw [Nat.pow_succ]; grind
  have hk2 : k / n < n ^ j := by rw [Nat.div_lt_iff_lt_mul hn, ← Nat.pow_succ]; exact hk
  rw [digs, e, Nat.mul_add_div hn, Nat.mul_add_mod, digs_top hn hw hk2]
  conv => rhs; rw [digs]
  rfl
theorem flatMap_same {α β : Type} {f g : α → List β} : ∀ {l : List α}, (∀ x ∈ l, f x = g x) → l.flatMap f = l.flatMap g
 | [], _ => rfl
 | x :: l, h => by rw [List.flatMap_cons, List.flatMap_cons, h x (by simp), flatMap_same fun y hy => h y (List.mem_cons_of_mem _ hy)]
theorem range_mul {m : Nat} : ∀ n : Nat, List.range (n * m) = (List.range n).flatMap fun w => (List.range m).map fun k => w * m + k
 | 0 => by simp
 | n + 1 => by rw [Nat.succ_mul, List.range_add, range_mul n, List.range_succ, List.flatMap_append]; simp
theorem all_digs {n : Nat} (hn : 0 < n) : ∀ (j : Nat) (done : List Int), (List.range (n ^ j)).map (fun k => done ++ nI (digs n j k)) = AllL n j done
 | 0, done => by simp [digs, AllL]
 | j + 1, done => by
  rw [AllL, Nat.pow_succ, Nat.mul_comm, range_mul, List.map_flatMap]
  refine flatMap_same fun w hw => ?_
  rw [← all_digs hn j, List.map_map]
  refine List.map_congr_left fun k hk => ?_
  rw [Function.comp_apply, digs_top hn (List.mem_range.1 hw) (List.mem_range.1 hk)]
  simp
theorem digs_can {n : Nat} (hn : 0 < n) {qs : List Int} (k : Nat) (s : BestW) : ((List.range (n ^ k)).map fun i => nI (digs n k i)).foldl (updW (Lw n qs)) s = (CanL n k 0 []).foldl (updW (Lw n qs)) s := by
 have h := all_digs hn k []
 simp only [List.nil_append] at h
 rw [h]
 exact all_can k 0 [] s (fun x hx => nomatch hx) (by omega)
end Go.Proofs.Xx
namespace Go.Proofs.Xx
set_option linter.unusedSectionVars false
set_option linter.unusedSimpArgs false
set_option linter.unusedVariables false
theorem ceil_le {a n m : Int} (hn : 1 ≤ n) : a / n + min 1 (a % n) ≤ m ↔ a ≤ m * n := by
 have e := Int.mul_ediv_add_emod a n
 have r0 := Int.emod_nonneg a (show n ≠ 0 by omega)
 have r1 := Int.emod_lt_of_pos a (show 0 < n by omega)
 rw [Int.mul_comm m n]
 have hmul : ∀ {x y : Int}, x ≤ y → n * x ≤ n * y := fun h => Int.mul_le_mul_of_nonneg_left h (by omega)
 constructor
 ·intro h
  by_cases q : a % n = 0
  ·have := hmul (show a / n ≤ m by omega)
   omega
  ·have := hmul (show a / n + 1 ≤ m by omega)
   rw [Int.mul_add] at this; omega
 ·intro h
  by_cases p : a / n + min 1 (a % n) ≤ m
  ·exact p
  ·exfalso
   by_cases q : a % n = 0
   ·have := hmul (show m + 1 ≤ a / n by omega)
    rw [Int.mul_add] at this; omega
   ·have := hmul (show m ≤ a / n by omega)
    omega
theorem ldN_end {pl : List Int} {n m : Int} (hn : 1 ≤ n) (h1 : mxF (fun i => pl.getD i default) pl.length ≤ m) (h2 : m ≤ ldN pl n) (h3 : ¬ m * n < pl.sum) : m = ldN pl n := by
 have := (ceil_le (a := pl.sum) (n := n) (m := m) hn).2 (by omega)
 unfold ldN at *
 omega
theorem ldN_up {pl : List Int} {n m : Int} (hn : 1 ≤ n) (h2 : m ≤ ldN pl n) (h1 : mxF (fun i => pl.getD i default) pl.length ≤ m) (h3 : m * n < pl.sum) : m + 1 ≤ ldN pl n := by
 have : ¬ pl.sum / n + min 1 (pl.sum % n) ≤ m := fun q => by have := (ceil_le hn).1 q; omega
 unfold ldN at *
 omega
theorem mx_sum : ∀ {pl : List Int}, (∀ x ∈ pl, 0 ≤ x) → 0 ≤ pl.sum ∧ (0 < pl.sum → ∃ x ∈ pl, 1 ≤ x)
 | [], _ => by simp
 | x :: pl, h => by
  have ih := mx_sum (pl := pl) fun y hy => h y (List.mem_cons_of_mem _ hy)
  have hx := h x (by simp)
  rw [List.sum_cons]
  refine ⟨by omega, fun q => ?_⟩
  by_cases e : 1 ≤ x
  ·exact ⟨x, by simp, e⟩
  ·obtain ⟨y, h1, h2⟩ := ih.2 (by omega)
   exact ⟨y, List.mem_cons_of_mem _ h1, h2⟩
theorem ldN_many {pl : List Int} {n : Int} (hp : ∀ x ∈ pl, 0 ≤ x) (hs : pl.sum < n) : ldN pl n = mxF (fun i => pl.getD i default) pl.length := by
 have h := mx_sum hp
 have e1 : pl.sum / n = 0 := Int.ediv_eq_zero_of_lt h.1 hs
 have e2 : pl.sum % n = pl.sum := Int.emod_eq_of_lt h.1 hs
 have hm : 0 < pl.sum → 1 ≤ mxF (fun i => pl.getD i default) pl.length := fun q => by
  obtain ⟨x, h1, h2⟩ := h.2 q
  obtain ⟨j, hj, rfl⟩ := mem_iff_getD.1 h1
  exact Int.le_trans h2 (mxF_ge (f := fun i => pl.getD i default) hj)
 have h0 := mxF_nn (f := fun i => pl.getD i default) (n := pl.length)
 unfold ldN
 rw [e1, e2]
 omega
end Go.Proofs.Xx
namespace Go.Proofs.Xx
open Go Go.Proofs
set_option linter.unusedSimpArgs false
set_option linter.unusedVariables false
set_option linter.unusedSectionVars false
set_option maxRecDepth 100000
variable [Flag]
theorem Srt.out {a i : Nat} {m n : List (List UInt8)} (h : Srt sLt a i m) (e : ∀ k, a ≤ k → k < i → n.getD k default = m.getD k default) : Srt sLt a i n := fun p q h1 h2 h3 => by
 rw [e p h1 (by omega), e q (by omega) h3]; exact h p q h1 h2 h3
end Go.Proofs.Xx
namespace Go.Proofs.Xx
open Go Go.Proofs
set_option linter.unusedSimpArgs false
set_option linter.unusedVariables false
set_option linter.unusedSectionVars false
set_option maxRecDepth 100000
variable [Flag]
end Go.Proofs.Xx
namespace Go.Proofs.Xx
open Go Go.Proofs
set_option linter.unusedSimpArgs false
set_option linter.unusedVariables false
set_option linter.unusedSectionVars false
set_option maxRecDepth 100000
set_option maxHeartbeats 4000000
def MpRd {α : Type} (h : AH) (b : Nat) (enc : α → Value) (l : List (List UInt8 × α)) : Prop := ∃ es clock, h.get b = some (.map es clock) ∧ es.map (fun e => (e.1, e.2.1)) = l.map (fun p => (Value.string ⟨p.1.toArray⟩, enc p.2))
theorem MpRd.ext {α : Type} {h h' : AH} {b : Nat} {enc : α → Value} {l : List (List UInt8 × α)} (r : MpRd h b enc l) (w : WfH h) (x : Ext h h') : MpRd h' b enc l := by
 obtain ⟨es, clock, h1, h2⟩ := r
 exact ⟨es, clock, x.get w h1, h2⟩
section
variable {P : Program} {X : Extern} {sz : Nat} {L : Ks} {h h0 : AH} {rs : List Rs} {ops : Array Oper} {os : List Oper} {o : Oper} {R : Ks → AH → Prop}
end
structure BkAt (h : AH) (p : Nat) (r : Rl) (s : BkS) : Prop where
 bk : h.get p = some (.cells [s.vg.val, s.vt.val, .map (some s.m)] 278 none false)
 rg : RdL h s.vg.val 9 eG s.gs
 rt : RdL h s.vt.val 3 eTi r.ts
 mp : MpRd h s.m (.int .i64) s.mp
 tg : ∀ i, i < s.gs.length → RdL h (s.gs.getD i default).tv.val 1 eS (s.gs.getD i default).tg
 us : s.gs.map (·.toGu) = r.us
 at_ : AtOk s.mp r.us
def BkRd (h : AH) (p : Nat) (r : Rl) : Prop := ∃ s, BkAt h p r s
theorem BkRd.ext {h h' : AH} {p : Nat} {r : Rl} (b : BkRd h p r) (w : WfH h) (x : Ext h h') : BkRd h' p r := by
 obtain ⟨s, b⟩ := b
 exact ⟨s, x.get w b.bk, b.rg.ext w x, b.rt.ext w x, b.mp.ext w x, fun i hi => (b.tg i hi).ext w x, b.us, b.at_⟩
theorem BkAt.len {h : AH} {p : Nat} {r : Rl} {s : BkS} (b : BkAt h p r s) : s.gs.length = r.us.length := by rw [← b.us]; simp
theorem BkAt.g {h : AH} {p : Nat} {r : Rl} {s : BkS} (b : BkAt h p r s) {i : Nat} (hi : i < s.gs.length) : (s.gs.getD i default).toGu = r.us.getD i default := by rw [← b.us, map_getD hi]
def SS (l : List (List UInt8)) : Prop := ∀ i j, i < j → j < l.length → sLt (l.getD i default) (l.getD j default)
theorem nodup_ne {l : List (List UInt8)} (h : l.Nodup) {i j : Nat} (hij : i < j) (hj : j < l.length) : l.getD i default ≠ l.getD j default := by
 rw [List.getD_eq_getElem?_getD, List.getD_eq_getElem?_getD, List.getElem?_eq_getElem hj, List.getElem?_eq_getElem (show i < l.length by omega)]
 exact List.pairwise_iff_getElem.1 h i j (by omega) hj hij
theorem SS.of {l l' : List (List UInt8)} (s : Sw 0 l.length l l') (h : Srt sLt 0 l.length l') (hn : l.Nodup) : SS l' := fun i j hij hj => by
 have hl := s.len
 have hn' : l'.Nodup := s.perm.nodup_iff.2 hn
 have h1 := h i j (Nat.zero_le _) hij (by omega)
 rcases sLe_of h1 with q | q
 ·exact absurd q (nodup_ne hn' hij hj)
 ·exact q
theorem SS.nodup {l : List (List UInt8)} (h : SS l) : l.Nodup := by
 rw [List.nodup_iff_pairwise_ne, List.pairwise_iff_getElem]
 intro i j hi hj hij
 have := h i j hij hj
 rw [List.getD_eq_getElem?_getD, List.getD_eq_getElem?_getD, List.getElem?_eq_getElem hj, List.getElem?_eq_getElem hi] at this
 exact sLt_ne this
def adj (r : Rl) (k : Int) (n x : List UInt8) : Prop := ∃ t ∈ r.ts, t.k = k ∧ ((t.a = n ∧ t.b = x) ∨ (t.b = n ∧ t.a = x))
theorem adj.symm {r : Rl} {k : Int} {n x : List UInt8} (h : adj r k n x) : adj r k x n := by
 obtain ⟨t, h1, h2, h3⟩ := h
 exact ⟨t, h1, h2, h3.elim (fun q => .inr ⟨q.2, q.1⟩) (fun q => .inl ⟨q.2, q.1⟩)⟩
def witT (k : Int) (n : List UInt8) (t : Ti) : List (List UInt8) := if t.k ≠ k then [] else if t.a = n then [t.b] else if t.b = n then [t.a] else []
variable [Flag]
end Go.Proofs.Xx
namespace Go.Proofs.Xx
open Go Go.Proofs
set_option linter.unusedSimpArgs false
set_option linter.unusedVariables false
set_option linter.unusedSectionVars false
set_option maxRecDepth 100000
set_option maxHeartbeats 4000000
section
variable {P : Program} {X : Extern} {sz : Nat} {L : Ks} {h h0 : AH} {rs : List Rs} {ops : Array Oper} {os : List Oper} {o : Oper} {R : Ks → AH → Prop}
theorem bE {L1 L2 : Ks} {x y : Operand} {ty ty2 : TypeId} {a b : Bool} (w1 : a = b → KO P X sz ops os L1 h R) (w2 : ¬ a = b → KO P X sz ops os L2 h R) (ho : o.op = .binOp .eql ty x y ty2 := by exact rfl) (hg : guardA ops L.tree o.guard = some true := by exact rfl) (hx : kA L x = some (.bool a) := by exact rfl) (hy : kA L y = some (.bool b) := by exact rfl) (hu : P.underlying ty = some .bool := by exact rfl)
 (hp1 : putK sz L o.dst (.bool true) = some L1 := by exact rfl) (hp2 : putK sz L o.dst (.bool false) = some L2 := by exact rfl) : KO P X sz ops (o :: os) L h R := by
 by_cases p : a = b
 ·subst p; exact KO_bin ho hg hx hy (v := .bool true) (by cases a <;> simp [aBin, hu]) hp1 (w1 rfl)
 ·exact KO_bin ho hg hx hy (v := .bool false) (by cases a <;> cases b <;> first | exact absurd rfl p | simp [aBin, hu]) hp2 (w2 p)
end
theorem eq_getD {α : Type} [Inhabited α] {l m : List α} (hl : l.length = m.length) (h : ∀ i, i < l.length → l.getD i default = m.getD i default) : l = m := by
 apply List.ext_getElem hl
 intro i h1 h2
 have := h i h1
 rwa [List.getD_eq_getElem?_getD, List.getD_eq_getElem?_getD, List.getElem?_eq_getElem h1, List.getElem?_eq_getElem h2] at this
theorem tiEq (a b : Ti) : (eqBytes ⟨a.a.toArray⟩ ⟨b.a.toArray⟩ && (eqBytes ⟨a.b.toArray⟩ ⟨b.b.toArray⟩ && (a.k == b.k && true))) = true ↔ a = b := by
 rw [eqBytes_str, eqBytes_str]
 cases a; cases b
 simp
theorem Star.snoc {h : AH} {r : Rs} {fp : Fp} (hr : r.ok h fp) : ∀ {l : List Rs} {U : Fp}, Star h l U → (∀ b, fp b → ¬ U b) → Star h (l ++ [r]) (fun b => U b ∨ fp b)
 | [], U, _, _ => ⟨fp, hr, fun b hb => .inr hb, trivial⟩
 | x :: l, U, ⟨fx, h1, h2, h3⟩, hd => ⟨fx, h1, fun b hb => .inl (h2 b hb), (Star.snoc hr h3 fun b hb q => hd b hb q.1).mono fun b hb => by
  rcases hb with hb | hb
  ·exact ⟨.inl hb.1, hb.2⟩
  ·exact ⟨.inr hb, fun q => hd b hb (h2 b q)⟩⟩
abbrev slOf (g : Gst) : Rs := .sl g.tv.val 9 1 eS g.tg
abbrev tgO (gs : List Gst) : Rs := .any (fun h fp => Star h (gs.map slOf) fp)
theorem Hs.tgOapp {h0 h : AH} {rs : List Rs} {gs : List Gst} {g : Gst} (S : Hs h0 h (.sl g.tv.val 9 1 eS g.tg :: tgO gs :: rs)) : Hs h0 h (tgO (gs ++ [g]) :: rs) := by
 obtain ⟨f1, k1, k2, f2, k3, k4, k5⟩ := S.sep
 refine ⟨S.ext, fun b => f2 b ∨ f1 b, fun h' q => ?_, fun b hb => ?_, k5.mono fun b hb => ⟨trivial, fun q => ?_⟩⟩
 ·rw [List.map_append]
  exact Star.snoc (k1.local fun b hb => q b (.inr hb)) (k3 h' fun b hb => q b (.inl hb)) fun b hb q => (k4 b q).2.2.2 hb
 ·rcases hb with hb | hb
  ·exact ⟨(k4 b hb).1, (k4 b hb).2.1, trivial⟩
  ·exact k2 b hb
 ·rcases q with q | q
  ·exact hb.2 q
  ·exact hb.1.2 q
theorem Star.get {h : AH} {r : Rs} : ∀ {l : List Rs} {U : Fp}, Star h l U → r ∈ l → ∃ fp, r.ok h fp
 | x :: l, U, ⟨fx, h1, h2, h3⟩, hr => by
  rcases List.mem_cons.1 hr with rfl | hr
  ·exact ⟨fx, h1⟩
  ·exact Star.get h3 hr
abbrev rolL (v : RlV) (ts : List Ti) : List Rs := [.sl v.vg.val 98 9 eG v.gs, .sl v.vt.val 137 3 eTi ts, tgO v.gs]
variable [Flag]
theorem sameWords_ok {h0 : AH} (w : WfH h0) (v u : Value) (l m : List (List UInt8)) (rv : RdL h0 v 1 eS l) (ru : RdL h0 u 1 eS m) (hl : l.length ≤ 9223372036854775807) (hm : m.length ≤ 9223372036854775807) : Fn Tryz.prog Xh 186 [v, u] h0 (fun x h' => BoolIs x (l = m) ∧ Hs h0 h' []) := by
 have S := Hs.start w
 refine Fn_K (by first | rfl) Tryz.func186 rfl rfl ?_
 all_goals (repeat' (first | refine K_seq ?_ | refine k_cond rfl ?_ | refine K_skip ?_ | refine k_block ?_ | (refine K_region (id := 0) ?_; refine mv ?_; refine KO_nil ?_) | (refine K_region (id := 1) ?_; refine mv ?_; refine lnB S ?_; refine mv ?_; refine lnB S ?_; (first | (refine cS ?_ ?_ <;> intro hc)) <;> (refine KO_nil ?_)) | (refine K_region (id := 2) ?_; refine mv ?_; refine KO_nil ?_) | (refine K_region (id := 3) ?_; refine mv ?_; refine KO_nil ?_)))
 ·refine K_ret ⟨_, rfl, ?_⟩
  exact ⟨.inr ⟨rfl, fun q => by subst q; exact hc rfl⟩, S⟩
 ·refine k_loop (σ := Nat) (fun i h' => Hs h0 h' [] ∧ i ≤ l.length ∧ ∀ j, j < i → l.getD j default = m.getD j default) (fun i => l.length - i) (fun i => [(0, v), (1, u), (5, .int .i64 i)]) 0 (by repeat (first | exact Ks.le_nil _ | refine Ks.le_cons rfl ?_)) ?_ ?_
  ·exact ⟨S, Nat.zero_le _, fun j hj => absurd hj (Nat.not_lt_zero _)⟩
  clear S
  rintro i h ⟨S, g1, g2⟩
  all_goals (repeat' (first | refine K_seq ?_ | refine k_cond rfl ?_ | refine K_skip ?_ | refine K_exit ?_ | refine k_block ?_ | (refine K_region (id := 4) ?_; refine mv ?_; refine mv ?_; refine lnB S ?_; (first | (refine cS ?_ ?_ <;> intro hc)) <;> (refine KO_nil ?_)) | (refine K_region (id := 5) ?_; refine mv ?_; refine ad ?_; refine mv ?_; refine KO_nil ?_) | (refine K_draw (id := 6) ?_; refine mv ?_; refine mv ?_; refine ixB S ?_; refine lEB S ?_; refine mv ?_; refine mv ?_; refine ixB S ?_; refine lEB S ?_; (refine tS ?_ ?_ <;> intro hc) <;> (refine KO_nil ?_)) | (refine K_region (id := 7) ?_; refine mv ?_; refine KO_nil ?_) | (refine K_region (id := 8) ?_; refine mv ?_; refine KO_nil ?_)))
  all_goals (try simp only [Int.toNat_natCast] at *)
  ·refine ⟨i + 1, ?_, ?_, (by repeat (first | exact Ks.le_nil _ | refine Ks.le_cons rfl ?_))⟩
   ·show l.length - (i + 1) < l.length - i; omega
   ·exact ⟨S, by omega, nxtD g2 hc⟩
  ·refine K_ret ⟨_, rfl, ?_⟩
   exact ⟨.inr ⟨rfl, fun q => by subst q; exact hc rfl⟩, S⟩
  ·refine K_ret ⟨_, rfl, ?_⟩
   exact ⟨.inl ⟨rfl, eq_getD (by omega) fun j hj => g2 j (by omega)⟩, S⟩
theorem sameTies_ok {h0 : AH} (w : WfH h0) (v u : Value) (l m : List Ti) (rv : RdL h0 v 3 eTi l) (ru : RdL h0 u 3 eTi m) (hl : l.length ≤ 9223372036854775807) (hm : m.length ≤ 9223372036854775807) : Fn Tryz.prog Xh 100 [v, u] h0 (fun x h' => BoolIs x (l = m) ∧ Hs h0 h' []) := by
 have S := Hs.start w
 refine Fn_K (by first | rfl) Tryz.func100 rfl rfl ?_
 all_goals (repeat' (first | refine K_seq ?_ | refine k_cond rfl ?_ | refine K_skip ?_ | refine k_block ?_ | (refine K_region (id := 0) ?_; refine mv ?_; refine KO_nil ?_) | (refine K_region (id := 1) ?_; refine mv ?_; refine lnB S ?_; refine mv ?_; refine lnB S ?_; (first | (refine cS ?_ ?_ <;> intro hc)) <;> (refine KO_nil ?_)) | (refine K_region (id := 2) ?_; refine mv ?_; refine KO_nil ?_) | (refine K_region (id := 3) ?_; refine mv ?_; refine KO_nil ?_)))
 ·refine K_ret ⟨_, rfl, ?_⟩
  exact ⟨.inr ⟨rfl, fun q => by subst q; exact hc rfl⟩, S⟩
 ·refine k_loop (σ := Nat) (fun i h' => Hs h0 h' [] ∧ i ≤ l.length ∧ ∀ j, j < i → l.getD j default = m.getD j default) (fun i => l.length - i) (fun i => [(0, v), (1, u), (5, .int .i64 i)]) 0 (by repeat (first | exact Ks.le_nil _ | refine Ks.le_cons rfl ?_)) ?_ ?_
  ·exact ⟨S, Nat.zero_le _, fun j hj => absurd hj (Nat.not_lt_zero _)⟩
  clear S
  rintro i h ⟨S, g1, g2⟩
  all_goals (repeat' (first | refine K_seq ?_ | refine k_cond rfl ?_ | refine K_skip ?_ | refine K_exit ?_ | refine k_block ?_ | (refine K_region (id := 4) ?_; refine mv ?_; refine mv ?_; refine lnB S ?_; (first | (refine cS ?_ ?_ <;> intro hc)) <;> (refine KO_nil ?_)) | (refine K_region (id := 5) ?_; refine mv ?_; refine ad ?_; refine mv ?_; refine KO_nil ?_) | (refine K_draw (id := 6) ?_; refine mv ?_; refine mv ?_; refine ixB S ?_; refine lEB S ?_; refine mv ?_; refine mv ?_; refine ixB S ?_; refine lEB S ?_; (refine gE ?_ ?_ <;> intro hc) <;> (refine KO_nil ?_)) | (refine K_region (id := 7) ?_; refine mv ?_; refine KO_nil ?_) | (refine K_region (id := 8) ?_; refine mv ?_; refine KO_nil ?_)))
  all_goals (try simp only [Int.toNat_natCast] at *)
  ·refine ⟨i + 1, ?_, ?_, (by repeat (first | exact Ks.le_nil _ | refine Ks.le_cons rfl ?_))⟩
   ·show l.length - (i + 1) < l.length - i; omega
   ·exact ⟨S, by omega, nxtD g2 ((tiEq _ _).1 hc)⟩
  ·refine K_ret ⟨_, rfl, ?_⟩
   exact ⟨.inr ⟨rfl, fun q => by subst q; rw [(tiEq _ _).2 rfl] at hc; cases hc⟩, S⟩
  ·refine K_ret ⟨_, rfl, ?_⟩
   exact ⟨.inl ⟨rfl, eq_getD (by omega) fun j hj => g2 j (by omega)⟩, S⟩
theorem sameGuest_ok {h0 : AH} (w : WfH h0) (g k : Gst) (rg : RdL h0 g.tv.val 1 eS g.tg) (rk : RdL h0 k.tv.val 1 eS k.tg) (hg : g.tg.length ≤ 9223372036854775807) (hk : k.tg.length ≤ 9223372036854775807) : Fn Tryz.prog Xh 135 [gV g, gV k] h0 (fun x h' => BoolIs x (g.toGu = k.toGu) ∧ Hs h0 h' []) := by
 have S := Hs.start w
 obtain ⟨⟨n1, n2, n3, n4, n5, n6, n7, n8, n9⟩, n10⟩ := g
 obtain ⟨⟨m1, m2, m3, m4, m5, m6, m7, m8, m9⟩, m10⟩ := k
 unfold gV
 dsimp only at *
 refine Fn_K (by first | rfl) Tryz.func135 rfl rfl ?_
 skip
 all_goals (repeat' (first | refine K_seq ?_ | (refine K_region (id := 0) ?_; (refine bx S ?_; clear S; intro b h S); (refine bx S ?_; clear S; intro b h S); refine mv ?_; refine KO_nil ?_) | (refine K_region (id := 1) ?_; refine vl ?_; refine lB S rfl rfl ?_; refine vl ?_; refine lB S rfl rfl ?_; (refine tS ?_ ?_ <;> intro hc) <;> (refine mv ?_; (first | refine off ?_ | (refine vl ?_)); (first | refine off ?_ | (refine lB S rfl rfl ?_)); (first | refine off ?_ | (refine vl ?_)); (first | refine off ?_ | (refine lB S rfl rfl ?_)); (first | refine off ?_ | (refine tS ?_ ?_ <;> intro hc)) <;> (refine vl ?_; refine mv ?_; (first | refine off ?_ | (refine vl ?_)); (first | refine off ?_ | (refine lB S rfl rfl ?_)); (first | refine off ?_ | (refine vl ?_)); (first | refine off ?_ | (refine lB S rfl rfl ?_)); (first | refine off ?_ | (refine tS ?_ ?_ <;> intro hc)) <;> (refine vl ?_; refine mv ?_; (first | refine off ?_ | (refine vl ?_)); (first | refine off ?_ | (refine lB S rfl rfl ?_)); (first | refine off ?_ | (refine vl ?_)); (first | refine off ?_ | (refine lB S rfl rfl ?_)); (first | refine off ?_ | (first | (refine cS ?_ ?_ <;> intro hc))) <;> (refine vl ?_; refine mv ?_; (first | refine off ?_ | (refine vl ?_)); (first | refine off ?_ | (refine lB S rfl rfl ?_)); (first | refine off ?_ | (refine vl ?_)); (first | refine off ?_ | (refine lB S rfl rfl ?_)); (first | refine off ?_ | (first | (refine cS ?_ ?_ <;> intro hc))) <;> (refine vl ?_; refine mv ?_; (first | refine off ?_ | (refine vl ?_)); (first | refine off ?_ | (refine lB S rfl rfl ?_)); (first | refine off ?_ | (refine vl ?_)); (first | refine off ?_ | (refine lB S rfl rfl ?_)); (first | refine off ?_ | (refine tS ?_ ?_ <;> intro hc)) <;> (refine vl ?_; refine mv ?_; (first | refine off ?_ | (refine vl ?_)); (first | refine off ?_ | (refine lB S rfl rfl ?_)); (first | refine off ?_ | (refine vl ?_)); (first | refine off ?_ | (refine lB S rfl rfl ?_)); (first | refine off ?_ | (refine bE ?_ ?_ <;> intro hc)) <;> (refine vl ?_; refine mv ?_; (first | refine off ?_ | (refine vl ?_)); (first | refine off ?_ | (refine lB S rfl rfl ?_)); (first | refine off ?_ | (refine vl ?_)); (first | refine off ?_ | (refine lB S rfl rfl ?_)); (first | refine off ?_ | (refine bE ?_ ?_ <;> intro hc)) <;> (refine vl ?_; refine mv ?_; (first | refine off ?_ | (refine vl ?_)); (first | refine off ?_ | (refine lB S rfl rfl ?_)); (first | refine off ?_ | (refine vl ?_)); (first | refine off ?_ | (refine lB S rfl rfl ?_)); (first | (refine off ?_; refine vl ?_; refine mv ?_; refine KO_nil ?_) | skip))))))))))))
 ·(refine KO_fn rfl rfl rfl rfl rfl ((sameWords_ok S.wf n10.val m10.val n9 m9 (rg.ext w S.ext) (rk.ext w S.ext) hg hk).mono ?_); rintro _ h ⟨⟨rfl, z⟩ | ⟨rfl, z⟩, x⟩) <;> (replace S := S.join0 x; clear x; refine vl ?_; refine mv ?_; refine KO_nil ?_)
  ·all_goals (repeat' (fail))
   refine K_ret ⟨_, rfl, ?_⟩
   refine ⟨.inl ⟨rfl, ?_⟩, S.drop⟩
   simp only [Gu.mk.injEq]
   exact ⟨by assumption, by assumption, by assumption, by assumption, by assumption, by assumption, by assumption, by assumption, z⟩
  ·all_goals (repeat' (fail))
   refine K_ret ⟨_, rfl, ?_⟩
   refine ⟨.inr ⟨rfl, fun q => ?_⟩, S.drop⟩
   simp only [Gu.mk.injEq] at q
   exact z q.2.2.2.2.2.2.2.2
 all_goals
  refine K_ret ⟨_, rfl, ?_⟩
  refine ⟨.inr ⟨rfl, fun q => ?_⟩, S.drop⟩
  simp only [Gu.mk.injEq] at q
  exact absurd (by first | exact q.1 | exact q.2.1 | exact q.2.2.1 | exact q.2.2.2.1 | exact q.2.2.2.2.1 | exact q.2.2.2.2.2.1 | exact q.2.2.2.2.2.2.1 | exact q.2.2.2.2.2.2.2.1) hc
theorem sameGuests_ok {h0 : AH} (w : WfH h0) (v u : Value) (gs ks : List Gst) (rv : RdL h0 v 9 eG gs) (ru : RdL h0 u 9 eG ks) (tv : ∀ i, i < gs.length → RdL h0 (gs.getD i default).tv.val 1 eS (gs.getD i default).tg ∧ (gs.getD i default).tg.length ≤ 9223372036854775807) (tu : ∀ i, i < ks.length → RdL h0 (ks.getD i default).tv.val 1 eS (ks.getD i default).tg ∧ (ks.getD i default).tg.length ≤ 9223372036854775807) (hl : gs.length ≤ 9223372036854775807) (hm : ks.length ≤ 9223372036854775807) :
 Fn Tryz.prog Xh 99 [v, u] h0 (fun x h' => BoolIs x (gs.map (·.toGu) = ks.map (·.toGu)) ∧ Hs h0 h' []) := by
 have S := Hs.start w
 refine Fn_K (by first | rfl) Tryz.func99 rfl rfl ?_
 all_goals (repeat' (first | refine K_seq ?_ | refine k_cond rfl ?_ | refine K_skip ?_ | refine k_block ?_ | (refine K_region (id := 0) ?_; refine mv ?_; refine KO_nil ?_) | (refine K_region (id := 1) ?_; refine mv ?_; refine lnB S ?_; refine mv ?_; refine lnB S ?_; (first | (refine cS ?_ ?_ <;> intro hc)) <;> (refine KO_nil ?_)) | (refine K_region (id := 2) ?_; refine mv ?_; refine KO_nil ?_) | (refine K_region (id := 3) ?_; refine mv ?_; refine KO_nil ?_)))
 ·refine K_ret ⟨_, rfl, ?_⟩
  exact ⟨.inr ⟨rfl, fun q => by have := congrArg List.length q; simp at this; omega⟩, S⟩
 ·refine k_loop (σ := Nat) (fun i h' => Hs h0 h' [] ∧ i ≤ gs.length ∧ ∀ j, j < i → (gs.getD j default).toGu = (ks.getD j default).toGu) (fun i => gs.length - i) (fun i => [(0, v), (1, u), (5, .int .i64 i)]) 0 (by repeat (first | exact Ks.le_nil _ | refine Ks.le_cons rfl ?_)) ?_ ?_
  ·exact ⟨S, Nat.zero_le _, fun j hj => absurd hj (Nat.not_lt_zero _)⟩
  clear S
  rintro i h ⟨S, g1, g2⟩
  all_goals (repeat' (first | refine K_seq ?_ | refine k_cond rfl ?_ | refine K_skip ?_ | refine K_exit ?_ | refine k_block ?_ | (refine K_region (id := 4) ?_; refine mv ?_; refine mv ?_; refine lnB S ?_; (first | (refine cS ?_ ?_ <;> intro hc)) <;> (refine KO_nil ?_)) | (refine K_region (id := 8) ?_; refine mv ?_; refine KO_nil ?_)))
  ·have e1 := tv i (by omega)
   have e2 := tu i (by omega)
   all_goals (repeat' (first | (refine K_draw (id := 6) ?_; refine mv ?_; refine mv ?_; refine ixB S ?_; refine lEB S ?_; refine mv ?_; refine mv ?_; refine ixB S ?_; refine lEB S ?_)))
   simp only [Int.toNat_natCast]
   (refine KO_fn rfl rfl rfl rfl rfl ((sameGuest_ok S.wf (gs.getD i default) (ks.getD i default) (e1.1.ext w S.ext) (e2.1.ext w S.ext) e1.2 e2.2).mono ?_); rintro _ h ⟨⟨rfl, z⟩ | ⟨rfl, z⟩, x⟩) <;> (replace S := S.join0 x; clear x; refine vl ?_; refine KO_nil ?_)
   ·all_goals (repeat' (first | refine k_cond rfl ?_ | refine K_skip ?_ | (refine K_region (id := 5) ?_; refine mv ?_; refine ad ?_; refine mv ?_; refine KO_nil ?_)))
    refine ⟨i + 1, ?_, ?_, (by repeat (first | exact Ks.le_nil _ | refine Ks.le_cons rfl ?_))⟩
    ·show gs.length - (i + 1) < gs.length - i; omega
    ·exact ⟨S, by omega, nxtD g2 z⟩
   ·all_goals (repeat' (first | refine K_seq ?_ | refine k_cond rfl ?_ | (refine K_region (id := 7) ?_; refine mv ?_; refine KO_nil ?_)))
    refine K_ret ⟨_, rfl, ?_⟩
    refine ⟨.inr ⟨rfl, fun q => z ?_⟩, S⟩
    rw [← map_getD (f := fun g : Gst => g.toGu) (show i < gs.length by omega), ← map_getD (f := fun g : Gst => g.toGu) (show i < ks.length by omega), q]
  ·refine K_ret ⟨_, rfl, ?_⟩
   refine ⟨.inl ⟨rfl, eq_getD (by simp; omega) fun j hj => ?_⟩, S⟩
   simp at hj
   rw [map_getD (by omega), map_getD (by omega)]; exact g2 j (by omega)
end Go.Proofs.Xx
namespace Go.Proofs.Xx
open Go Go.Proofs
set_option linter.unusedSimpArgs false
set_option linter.unusedVariables false
set_option linter.unusedSectionVars false
structure TabC where
 name : List UInt8
 shape : Int
 A : Int
 B : Int
 opn : List Int
 X : Int
 Y : Int
instance : Inhabited TabC := ⟨⟨[], 0, 0, 0, [], 0, 0⟩⟩
abbrev Tab.toC (t : Tab) : TabC := ⟨t.name, t.shape, t.A, t.B, t.opn, t.X, t.Y⟩
theorem tb_c {l m : List Tab} (h : l.map (·.toC) = m.map (·.toC)) (i : Nat) : (tb l i).toC = (tb m i).toC := by
 have hl : l.length = m.length := by have := congrArg List.length h; simpa using this
 unfold tb
 rcases Nat.lt_or_ge i l.length with r | r
 ·have e := congrArg (fun x => x[i]?) h
  simp only [List.getElem?_map] at e
  rw [List.getElem?_eq_getElem r, List.getElem?_eq_getElem (by omega)] at e
  rw [List.getD_eq_getElem?_getD, List.getD_eq_getElem?_getD, List.getElem?_eq_getElem r, List.getElem?_eq_getElem (by omega)]
  exact Option.some.inj e
 ·rw [List.getD_eq_getElem?_getD, List.getD_eq_getElem?_getD, List.getElem?_eq_none r, List.getElem?_eq_none (by omega)]
section
variable {l m : List Tab} (h : l.map (·.toC) = m.map (·.toC))
include h
theorem len_c : l.length = m.length := by have := congrArg List.length h; simpa using this
theorem name_c (i : Nat) : (tb l i).name = (tb m i).name := congrArg TabC.name (tb_c h i)
theorem X_c (i : Nat) : (tb l i).X = (tb m i).X := congrArg TabC.X (tb_c h i)
theorem Y_c (i : Nat) : (tb l i).Y = (tb m i).Y := congrArg TabC.Y (tb_c h i)
theorem tsize_c (i : Nat) : tsize (tb l i) = tsize (tb m i) := by
 unfold tsize
 rw [show (tb l i).shape = (tb m i).shape from congrArg TabC.shape (tb_c h i), show (tb l i).A = (tb m i).A from congrArg TabC.A (tb_c h i), show (tb l i).B = (tb m i).B from congrArg TabC.B (tb_c h i)]
theorem chk_c (i : Nat) : chk (tb l i) = chk (tb m i) := by
 unfold chk XYok
 rw [name_c h, tsize_c h, X_c h, Y_c h, show (tb l i).opn = (tb m i).opn from congrArg TabC.opn (tb_c h i)]
theorem sumT_c : sumT l = sumT m := by
 funext k
 induction k with
 | zero => rfl
 | succ k ih => rw [sumT, sumT, ih, tsize_c h]
theorem dup_c : dupAt l = dupAt m := by funext k; unfold dupAt; simp only [name_c h]
theorem good_c : goodAt l = goodAt m := by funext k; unfold goodAt; rw [chk_c h, dup_c h]
theorem validL_c : ValidL l ↔ ValidL m := by unfold ValidL; rw [good_c h, len_c h]
theorem chkAll_c {i e : Int} : ChkAll l i e ↔ ChkAll m i e := by unfold ChkAll; rw [good_c h, len_c h]; simp only [chk_c h, dup_c h]
theorem hasT_c : hasT l = hasT m := by funext n; unfold hasT; simp only [name_c h, len_c h]
theorem tix_c : tix l = tix m := by
 funext n
 have e : ∀ l : List Tab, tix l n = (l.map (·.toC)).findIdx fun t => decide (t.name = n) := fun l => by unfold tix; rw [List.findIdx_map]; rfl
 rw [e, e, h]
theorem whereI_c : WhereI l = WhereI m := by
 funext s i k
 unfold WhereI
 simp only [sumT_c h, tsize_c h, len_c h, validL_c h]
theorem tOf_c : tOf l = tOf m := by
 funext s
 unfold tOf
 rw [whereI_c h]
theorem ruE_c {us : List Gu} {ts : List Ti} {cl : List Int} {ru : List Ru} {r : Ru} : ruE ⟨l, us, ts, cl, ru⟩ r = ruE ⟨m, us, ts, cl, ru⟩ r := by
 have e : ∀ k : Kd, k.err ⟨l, us, ts, cl, ru⟩ r = k.err ⟨m, us, ts, cl, ru⟩ r := fun k => by
  have e1 : k.ut l r = k.ut m r := by unfold Kd.ut; rw [hasT_c h]
  have e2 : k.most l r = k.most m r := by unfold Kd.most; rw [tix_c h, tsize_c h]
  classical
  unfold Kd.err
  show (if _ then _ else if _ then _ else if _ then _ else if _ then _ else if _ then _ else if k.ut l r then _ else if _ ∧ (_ ∨ k.most l r < _) then _ else _) = _
  rw [e1, e2]
 unfold ruE
 rw [e]
theorem PO_c {us : List Gu} {ts : List Ti} {cl : List Int} {ru : List Ru} : PO ⟨l, us, ts, cl, ru⟩ ↔ PO ⟨m, us, ts, cl, ru⟩ := by
 constructor
 ·rintro ⟨h1, h2, h3, h4, h5, h6⟩
  exact ⟨(validL_c h).1 h1, h2, h3, by have := h4; simp only [sumT_c h, len_c h] at this; exact this, fun r hr => by rw [← ruE_c h]; exact h5 r hr, h6⟩
 ·rintro ⟨h1, h2, h3, h4, h5, h6⟩
  exact ⟨(validL_c h).2 h1, h2, h3, by simp only [sumT_c h, len_c h]; exact h4, fun r hr => by rw [ruE_c h]; exact h5 r hr, h6⟩
theorem part_c {us : List Gu} {ts : List Ti} {cl : List Int} {ru : List Ru} {q : List Int} : PartOk ⟨l, us, ts, cl, ru⟩ q ↔ PartOk ⟨m, us, ts, cl, ru⟩ q := by
 constructor
 ·rintro ⟨h1, h2, h3⟩
  exact ⟨h1, by have := h2; simp only [sumT_c h, len_c h] at this; exact this, h3⟩
 ·rintro ⟨h1, h2, h3⟩
  exact ⟨h1, by simp only [sumT_c h, len_c h]; exact h2, h3⟩
theorem pltV_c {us : List Gu} {ts : List Ti} {cl : List Int} {ru : List Ru} {q : List Int} : pltV ⟨l, us, ts, cl, ru⟩ q = pltV ⟨m, us, ts, cl, ru⟩ q := by
 unfold pltV
 simp only [tOf_c h, len_c h]
theorem basP_c {us : List Gu} {ts : List Ti} {cl : List Int} {ru : List Ru} {i e : Int} : BasP ⟨l, us, ts, cl, ru⟩ i e ↔ BasP ⟨m, us, ts, cl, ru⟩ i e := by
 unfold BasP
 simp only [sumT_c h, len_c h, validL_c h, chkAll_c h]
end
end Go.Proofs.Xx
namespace Go.Proofs.Xx
open Go Go.Proofs
set_option linter.unusedSimpArgs false
set_option linter.unusedVariables false
set_option linter.unusedSectionVars false
set_option maxRecDepth 100000
set_option maxHeartbeats 4000000
variable [Flag]
theorem cpW_ok {h0 : AH} (w : WfH h0) (v : Value) (l : List (List UInt8)) (hr : RdL h0 v 1 eS l) (hl : l.length ≤ 8796093021952) : Fn Tryz.prog Xh 131 [v] h0 (fun u h' => Hs h0 h' [.sl u 9 1 eS l]) := by
 have S := Hs.start w
 refine Fn_K (by first | rfl) Tryz.func131 rfl rfl ?_
 all_goals (repeat' (first | refine K_seq ?_ | refine k_block ?_ | (refine K_region (id := 0) ?_; refine mv ?_; refine KO_nil ?_) | (refine K_region (id := 1) ?_; refine mv ?_; refine KO_nil ?_) | (refine K_region (id := 2) ?_; refine mv ?_; refine KO_nil ?_)))
 have S := S.nilS (e := 9) (z := 1) (enc := eS)
 refine k_loop (σ := Nat × Value) (fun (i, v3) h' => Hs h0 h' [.sl v3 9 1 eS (l.take i)] ∧ i ≤ l.length) (fun (i, v3) => l.length - i) (fun (i, v3) => [(0, v), (3, v3), (4, .int .i64 i)]) (0, .slice none 0 0) (by repeat (first | exact Ks.le_nil _ | refine Ks.le_cons rfl ?_)) ?_ ?_
 ·exact ⟨S, Nat.zero_le _⟩
 clear S
 rintro ⟨i, v3⟩ h ⟨S, g1⟩
 have htl : (l.take i).length ≤ 8796093021952 := by simp; omega
 all_goals (repeat' (first | refine K_seq ?_ | refine k_cond rfl ?_ | refine K_skip ?_ | refine K_exit ?_ | refine k_block ?_ | (refine K_region (id := 3) ?_; refine mv ?_; refine mv ?_; refine lnB S ?_; (first | (refine cS ?_ ?_ <;> intro hc)) <;> (refine KO_nil ?_))))
 ·have hil : i < l.length := by omega
  all_goals (repeat' (first | (refine K_region (id := 5) ?_; refine mv ?_; refine mv ?_; refine mv ?_; refine ixB S ?_; refine lEB S ?_; (refine one 1 S ?_; clear S; intro u h S))))
  simp only [Int.toNat_natCast] at *
  refine app (y0 := l.getD i default) S rfl rfl ?_; clear S; intro v3 h S; (refine mv ?_; refine KO_nil ?_)
  all_goals (repeat' (first | (refine K_region (id := 4) ?_; refine mv ?_; refine ad ?_; refine mv ?_; refine KO_nil ?_)))
  refine ⟨(i + 1, v3), ?_, ?_, (by repeat (first | exact Ks.le_nil _ | refine Ks.le_cons rfl ?_))⟩
  ·show l.length - (i + 1) < l.length - i; omega
  ·refine ⟨?_, by (try dsimp only); omega⟩
   dsimp only
   rw [take_succ_getD hil]; exact S
 ·obtain rfl : i = l.length := by omega
  rw [List.take_length] at S
  skip
  all_goals (repeat' (first | (refine K_region (id := 6) ?_; refine mv ?_; refine mv ?_; refine KO_nil ?_)))
  refine K_ret ⟨_, rfl, ?_⟩
  exact S
theorem cpT_ok {h0 : AH} (w : WfH h0) (v : Value) (l : List Ti) (hr : RdL h0 v 3 eTi l) (hl : l.length * 40 ≤ 140737488351232) : Fn Tryz.prog Xh 52 [v] h0 (fun u h' => Hs h0 h' [.sl u 137 3 eTi l]) := by
 have S := Hs.start w
 refine Fn_K (by first | rfl) Tryz.func52 rfl rfl ?_
 all_goals (repeat' (first | refine K_seq ?_ | refine k_block ?_ | (refine K_region (id := 0) ?_; refine mv ?_; refine KO_nil ?_) | (refine K_region (id := 1) ?_; refine mv ?_; refine KO_nil ?_) | (refine K_region (id := 2) ?_; refine mv ?_; refine KO_nil ?_)))
 have S := S.nilS (e := 137) (z := 3) (enc := eTi)
 refine k_loop (σ := Nat × Value) (fun (i, v3) h' => Hs h0 h' [.sl v3 137 3 eTi (l.take i)] ∧ i ≤ l.length) (fun (i, v3) => l.length - i) (fun (i, v3) => [(0, v), (3, v3), (4, .int .i64 i)]) (0, .slice none 0 0) (by repeat (first | exact Ks.le_nil _ | refine Ks.le_cons rfl ?_)) ?_ ?_
 ·exact ⟨S, Nat.zero_le _⟩
 clear S
 rintro ⟨i, v3⟩ h ⟨S, g1⟩
 have htl : (l.take i).length = i := by simp; omega
 all_goals (repeat' (first | refine K_seq ?_ | refine k_cond rfl ?_ | refine K_skip ?_ | refine K_exit ?_ | refine k_block ?_ | (refine K_region (id := 3) ?_; refine mv ?_; refine mv ?_; refine lnB S ?_; (first | (refine cS ?_ ?_ <;> intro hc)) <;> (refine KO_nil ?_))))
 ·have hil : i < l.length := by omega
  all_goals (repeat' (first | (refine K_region (id := 5) ?_; refine mv ?_; refine mv ?_; refine mv ?_; refine ixB S ?_; refine lEB S ?_; (refine one 3 S ?_; clear S; intro u h S))))
  simp only [Int.toNat_natCast] at *
  refine app (y0 := l.getD i default) S rfl rfl ?_; clear S; intro v3 h S; (refine mv ?_; refine KO_nil ?_)
  all_goals (repeat' (first | (refine K_region (id := 4) ?_; refine mv ?_; refine ad ?_; refine mv ?_; refine KO_nil ?_)))
  refine ⟨(i + 1, v3), ?_, ?_, (by repeat (first | exact Ks.le_nil _ | refine Ks.le_cons rfl ?_))⟩
  ·show l.length - (i + 1) < l.length - i; omega
  ·refine ⟨?_, by (try dsimp only); omega⟩
   dsimp only
   rw [take_succ_getD hil]; exact S
 ·obtain rfl : i = l.length := by omega
  rw [List.take_length] at S
  skip
  all_goals (repeat' (first | (refine K_region (id := 6) ?_; refine mv ?_; refine mv ?_; refine KO_nil ?_)))
  refine K_ret ⟨_, rfl, ?_⟩
  exact S
theorem cpG_ok {h0 : AH} (w : WfH h0) (g : Gst) (rd : RdL h0 g.tv.val 1 eS g.tg) (hl : g.tg.length ≤ 8796093021952) : Fn Tryz.prog Xh 95 [gV g] h0 (fun u h' => ∃ tv : SlV, u = gV { g with tv := tv } ∧ Hs h0 h' [.sl tv.val 9 1 eS g.tg]) := by
 have S := Hs.start w
 obtain ⟨⟨n1, n2, n3, n4, n5, n6, n7, n8, n9⟩, n10⟩ := g
 unfold gV
 dsimp only at *
 refine Fn_K (by first | rfl) Tryz.func95 rfl rfl ?_
 all_goals (repeat' (first | refine K_seq ?_ | (refine K_region (id := 0) ?_; (refine bx S ?_; clear S; intro b h S); (refine al S ?_; clear S; intro b h S); refine KO_nil ?_)))
 obtain ⟨b1, hnm⟩ : ∃ x, x = b := ⟨_, rfl⟩; subst hnm
 all_goals (repeat' (first | (refine K_region (id := 1) ?_; refine vl ?_; refine lB S rfl rfl ?_)))
 (refine KO_fn rfl rfl rfl rfl rfl ((cpW_ok S.wf n10.val n9 (rd.ext w S.ext) hl).mono ?_); rintro v h x) <;> (replace S := S.join1 x; clear x; obtain ⟨tv, rfl⟩ := S.sV v; refine vl ?_; (first | (refine sB S rfl rfl ?_; clear S; intro h S)); refine KO_nil ?_)
 all_goals (repeat' (first | refine K_seq ?_ | (refine K_region (id := 2) ?_; refine lB S rfl rfl ?_; (first | (refine sB S rfl rfl ?_; clear S; intro h S)); refine KO_nil ?_)))
 refine K_ret ⟨_, ret_cell S rfl (by first | exact .there .here) (by exact rfl) (by exact rfl), ?_⟩
 exact ⟨tv, rfl, S.only .here⟩
theorem cpGs_ok {h0 : AH} (w : WfH h0) (v : Value) (l : List Gst) (hr : RdL h0 v 9 eG l) (ht : ∀ i, i < l.length → RdL h0 (l.getD i default).tv.val 1 eS (l.getD i default).tg ∧ (l.getD i default).tg.length ≤ 8796093021952) (hl : l.length * 112 ≤ 140737488351232) : Fn Tryz.prog Xh 51 [v] h0 (fun u h' => ∃ (vg : SlV) (gs : List Gst), u = vg.val ∧ gs.map (·.toGu) = l.map (·.toGu) ∧ Hs h0 h' [tgO gs, .sl vg.val 98 9 eG gs]) := by
 have S := Hs.start w
 refine Fn_K (by first | rfl) Tryz.func51 rfl rfl ?_
 all_goals (repeat' (first | refine K_seq ?_ | refine k_block ?_ | (refine K_region (id := 0) ?_; refine mv ?_; refine KO_nil ?_) | (refine K_region (id := 1) ?_; refine mv ?_; refine KO_nil ?_) | (refine K_region (id := 2) ?_; refine mv ?_; refine KO_nil ?_)))
 have S := ((S.nilS (e := 98) (z := 9) (enc := eG))).anyS (p := fun h fp => Star h (([] : List Gst).map slOf) fp) fun h' => trivial
 replace S : Hs h0 h0 [tgO [], .sl (SlV.val ⟨none, 0, 0⟩) 98 9 eG []] := S
 refine k_loop (σ := Nat × SlV × List Gst) (fun (i, vg, gs) h' => Hs h0 h' [tgO gs, .sl vg.val 98 9 eG gs] ∧ i ≤ l.length ∧ gs.map (·.toGu) = (l.take i).map (·.toGu)) (fun (i, vg, gs) => l.length - i) (fun (i, vg, gs) => [(0, v), (3, vg.val), (4, .int .i64 i)]) (0, ⟨none, 0, 0⟩, []) (by repeat (first | exact Ks.le_nil _ | refine Ks.le_cons rfl ?_)) ?_ ?_
 ·exact ⟨S, Nat.zero_le _, rfl⟩
 clear S
 rintro ⟨i, vg, gs⟩ h ⟨S, g1, g2⟩
 have hgs : gs.length = i := by have := congrArg List.length g2; simp at this; omega
 all_goals (repeat' (first | refine K_seq ?_ | refine k_cond rfl ?_ | refine K_skip ?_ | refine K_exit ?_ | refine k_block ?_ | (refine K_region (id := 3) ?_; refine mv ?_; refine mv ?_; refine lnB S ?_; (first | (refine cS ?_ ?_ <;> intro hc)) <;> (refine KO_nil ?_))))
 ·have hil : i < l.length := by omega
  all_goals (repeat' (first | (refine K_region (id := 5) ?_; refine mv ?_; refine mv ?_; refine mv ?_; refine ixB S ?_; refine lEB S ?_)))
  simp only [Int.toNat_natCast]
  (refine KO_fn rfl rfl rfl rfl rfl ((cpG_ok S.wf (l.getD i default) ((ht i hil).1.ext w S.ext) (ht i hil).2).mono ?_); rintro _ h ⟨tv, rfl, x⟩) <;> (replace S := S.join1 x; clear x; (refine one 9 S ?_; clear S; intro u h S))
  refine app (y0 := { l.getD i default with tv := tv }) S rfl rfl ?_; clear S; intro v3 h S; obtain ⟨vg', rfl⟩ := S.sV v3; (refine mv ?_; refine KO_nil ?_)
  all_goals (repeat' (first | (refine K_region (id := 4) ?_; refine mv ?_; refine ad ?_; refine mv ?_; refine KO_nil ?_)))
  refine ⟨(i + 1, vg', gs ++ [{ l.getD i default with tv := tv }]), ?_, ?_, (by repeat (first | exact Ks.le_nil _ | refine Ks.le_cons rfl ?_))⟩
  ·show l.length - (i + 1) < l.length - i; omega
  ·replace S : Hs h0 h (.sl vg'.val 98 9 eG (gs ++ [{ l.getD i default with tv := tv }]) :: .sl tv.val 9 1 eS (l.getD i default).tg :: tgO gs :: []) := S
   have S := (show Hs h0 h (.sl tv.val 9 1 eS (l.getD i default).tg :: tgO gs :: .sl vg'.val 98 9 eG (gs ++ [{ l.getD i default with tv := tv }]) :: []) from S.pick)
   refine ⟨Hs.tgOapp (g := { l.getD i default with tv := tv }) S, by (try dsimp only); omega, ?_⟩
   dsimp only
   rw [take_succ_getD (by omega), List.map_append, List.map_append, g2]; rfl
 ·obtain rfl : i = l.length := by omega
  rw [List.take_length] at g2
  skip
  all_goals (repeat' (first | (refine K_region (id := 6) ?_; refine mv ?_; refine mv ?_; refine KO_nil ?_)))
  refine K_ret ⟨_, rfl, ?_⟩
  exact ⟨vg, gs, rfl, g2, S⟩
theorem cpI_ok {h0 : AH} (w : WfH h0) (v : Value) (l : List Int) (hr : RdL h0 v 1 eI l) (hl : l.length * 8 ≤ 140737488351232) : Fn Tryz.prog Xh 53 [v] h0 (fun u h' => Hs h0 h' [.sl u 3 1 eI l]) := by
 have S := Hs.start w
 refine Fn_K (by first | rfl) Tryz.func53 rfl rfl ?_
 all_goals (repeat' (first | refine K_seq ?_ | refine k_block ?_ | (refine K_region (id := 0) ?_; refine mv ?_; refine KO_nil ?_) | (refine K_region (id := 1) ?_; refine mv ?_; refine KO_nil ?_) | (refine K_region (id := 2) ?_; refine mv ?_; refine KO_nil ?_)))
 have S := S.nilS (e := 3) (z := 1) (enc := eI)
 refine k_loop (σ := Nat × Value) (fun (i, v3) h' => Hs h0 h' [.sl v3 3 1 eI (l.take i)] ∧ i ≤ l.length) (fun (i, v3) => l.length - i) (fun (i, v3) => [(0, v), (3, v3), (4, .int .i64 i)]) (0, .slice none 0 0) (by repeat (first | exact Ks.le_nil _ | refine Ks.le_cons rfl ?_)) ?_ ?_
 ·exact ⟨S, Nat.zero_le _⟩
 clear S
 rintro ⟨i, v3⟩ h ⟨S, g1⟩
 have htl : (l.take i).length = i := by simp; omega
 all_goals (repeat' (first | refine K_seq ?_ | refine k_cond rfl ?_ | refine K_skip ?_ | refine K_exit ?_ | refine k_block ?_ | (refine K_region (id := 3) ?_; refine mv ?_; refine mv ?_; refine lnB S ?_; (first | (refine cS ?_ ?_ <;> intro hc)) <;> (refine KO_nil ?_))))
 ·have hil : i < l.length := by omega
  all_goals (repeat' (first | (refine K_region (id := 5) ?_; refine mv ?_; refine mv ?_; refine mv ?_; refine ixB S ?_; refine lEB S ?_; (refine one 1 S ?_; clear S; intro u h S))))
  simp only [Int.toNat_natCast] at *
  refine app (y0 := l.getD i default) S rfl rfl ?_; clear S; intro v3 h S; (refine mv ?_; refine KO_nil ?_)
  all_goals (repeat' (first | (refine K_region (id := 4) ?_; refine mv ?_; refine ad ?_; refine mv ?_; refine KO_nil ?_)))
  refine ⟨(i + 1, v3), ?_, ?_, (by repeat (first | exact Ks.le_nil _ | refine Ks.le_cons rfl ?_))⟩
  ·show l.length - (i + 1) < l.length - i; omega
  ·refine ⟨?_, by (try dsimp only); omega⟩
   dsimp only
   rw [take_succ_getD hil]; exact S
 ·obtain rfl : i = l.length := by omega
  rw [List.take_length] at S
  skip
  all_goals (repeat' (first | (refine K_region (id := 6) ?_; refine mv ?_; refine mv ?_; refine KO_nil ?_)))
  refine K_ret ⟨_, rfl, ?_⟩
  exact S
theorem cpRu_ok {h0 : AH} (w : WfH h0) (v : Value) (l : List Ru) (hr : RdL h0 v 6 eRu l) (hl : l.length * 72 ≤ 140737488351232) : Fn Tryz.prog Xh 54 [v] h0 (fun u h' => Hs h0 h' [.sl u 125 6 eRu l]) := by
 have S := Hs.start w
 refine Fn_K (by first | rfl) Tryz.func54 rfl rfl ?_
 all_goals (repeat' (first | refine K_seq ?_ | refine k_block ?_ | (refine K_region (id := 0) ?_; refine mv ?_; refine KO_nil ?_) | (refine K_region (id := 1) ?_; refine mv ?_; refine KO_nil ?_) | (refine K_region (id := 2) ?_; refine mv ?_; refine KO_nil ?_)))
 have S := S.nilS (e := 125) (z := 6) (enc := eRu)
 refine k_loop (σ := Nat × Value) (fun (i, v3) h' => Hs h0 h' [.sl v3 125 6 eRu (l.take i)] ∧ i ≤ l.length) (fun (i, v3) => l.length - i) (fun (i, v3) => [(0, v), (3, v3), (4, .int .i64 i)]) (0, .slice none 0 0) (by repeat (first | exact Ks.le_nil _ | refine Ks.le_cons rfl ?_)) ?_ ?_
 ·exact ⟨S, Nat.zero_le _⟩
 clear S
 rintro ⟨i, v3⟩ h ⟨S, g1⟩
 have htl : (l.take i).length = i := by simp; omega
 all_goals (repeat' (first | refine K_seq ?_ | refine k_cond rfl ?_ | refine K_skip ?_ | refine K_exit ?_ | refine k_block ?_ | (refine K_region (id := 3) ?_; refine mv ?_; refine mv ?_; refine lnB S ?_; (first | (refine cS ?_ ?_ <;> intro hc)) <;> (refine KO_nil ?_))))
 ·have hil : i < l.length := by omega
  all_goals (repeat' (first | (refine K_region (id := 5) ?_; refine mv ?_; refine mv ?_; refine mv ?_; refine ixB S ?_; refine lEB S ?_; (refine one 6 S ?_; clear S; intro u h S))))
  simp only [Int.toNat_natCast] at *
  refine app (y0 := l.getD i default) S rfl rfl ?_; clear S; intro v3 h S; (refine mv ?_; refine KO_nil ?_)
  all_goals (repeat' (first | (refine K_region (id := 4) ?_; refine mv ?_; refine ad ?_; refine mv ?_; refine KO_nil ?_)))
  refine ⟨(i + 1, v3), ?_, ?_, (by repeat (first | exact Ks.le_nil _ | refine Ks.le_cons rfl ?_))⟩
  ·show l.length - (i + 1) < l.length - i; omega
  ·refine ⟨?_, by (try dsimp only); omega⟩
   dsimp only
   rw [take_succ_getD hil]; exact S
 ·obtain rfl : i = l.length := by omega
  rw [List.take_length] at S
  skip
  all_goals (repeat' (first | (refine K_region (id := 6) ?_; refine mv ?_; refine mv ?_; refine KO_nil ?_)))
  refine K_ret ⟨_, rfl, ?_⟩
  exact S
abbrev slOp (t : Tab) : Rs := .sl t.os.val 3 1 eI t.opn
theorem cpTb_ok {h0 : AH} (w : WfH h0) (t : Tab) (rd : RdL h0 t.os.val 1 eI t.opn) (hl : t.opn.length * 8 ≤ 140737488351232) : Fn Tryz.prog Xh 94 [tabV t] h0 (fun u h' => ∃ os : SlV, u = tabV { t with os := os } ∧ Hs h0 h' [.sl os.val 3 1 eI t.opn]) := by
 have S := Hs.start w
 obtain ⟨n1, n2, n3, n4, n5, n6, n7, n8⟩ := t
 dsimp only at *
 refine Fn_K (by first | rfl) Tryz.func94 rfl rfl ?_
 all_goals (repeat' (first | refine K_seq ?_ | (refine K_region (id := 0) ?_; (refine bx S ?_; clear S; intro b h S); (refine al S ?_; clear S; intro b h S); refine KO_nil ?_)))
 obtain ⟨b1, hnm⟩ : ∃ x, x = b := ⟨_, rfl⟩; subst hnm
 all_goals (repeat' (first | (refine K_region (id := 1) ?_; refine vl ?_; refine lB S rfl rfl ?_)))
 (refine KO_fn rfl rfl rfl rfl rfl ((cpI_ok S.wf n5.val n6 (rd.ext w S.ext) hl).mono ?_); rintro v h x) <;> (replace S := S.join1 x; clear x; obtain ⟨os, rfl⟩ := S.sV v; refine vl ?_; (first | (refine sB S rfl rfl ?_; clear S; intro h S)); refine KO_nil ?_)
 all_goals (repeat' (first | refine K_seq ?_ | (refine K_region (id := 2) ?_; refine lB S rfl rfl ?_; (first | (refine sB S rfl rfl ?_; clear S; intro h S)); refine KO_nil ?_)))
 refine K_ret ⟨_, ret_cell S rfl (by first | exact .there .here) (by exact rfl) (by exact rfl), ?_⟩
 exact ⟨os, rfl, S.only .here⟩
theorem cpTbs_ok {h0 : AH} (w : WfH h0) (v : Value) (l : List Tab) (hr : RdL h0 v 7 eT l) (ht : ∀ i, i < l.length → RdL h0 (l.getD i default).os.val 1 eI (l.getD i default).opn ∧ (l.getD i default).opn.length * 8 ≤ 140737488351232) (hl : l.length * 80 ≤ 140737488351232) :
 Fn Tryz.prog Xh 50 [v] h0 (fun u h' => ∃ (vt : SlV) (ts : List Tab), u = vt.val ∧ ts.map (·.toC) = l.map (·.toC) ∧ Hs h0 h' [ownR slOp ts, .sl vt.val 95 7 eT ts]) := by
 have S := Hs.start w
 refine Fn_K (by first | rfl) Tryz.func50 rfl rfl ?_
 all_goals (repeat' (first | refine K_seq ?_ | refine k_block ?_ | (refine K_region (id := 0) ?_; refine mv ?_; refine KO_nil ?_) | (refine K_region (id := 1) ?_; refine mv ?_; refine KO_nil ?_) | (refine K_region (id := 2) ?_; refine mv ?_; refine KO_nil ?_)))
 have S := ((S.nilS (e := 95) (z := 7) (enc := eT))).owNil (f := slOp)
 replace S : Hs h0 h0 [ownR slOp [], .sl (SlV.val ⟨none, 0, 0⟩) 95 7 eT []] := S
 refine k_loop (σ := Nat × SlV × List Tab) (fun (i, vt, ts) h' => Hs h0 h' [ownR slOp ts, .sl vt.val 95 7 eT ts] ∧ i ≤ l.length ∧ ts.map (·.toC) = (l.take i).map (·.toC)) (fun (i, vt, ts) => l.length - i) (fun (i, vt, ts) => [(0, v), (3, vt.val), (4, .int .i64 i)]) (0, ⟨none, 0, 0⟩, []) (by repeat (first | exact Ks.le_nil _ | refine Ks.le_cons rfl ?_)) ?_ ?_
 ·exact ⟨S, Nat.zero_le _, rfl⟩
 clear S
 rintro ⟨i, vt, ts⟩ h ⟨S, g1, g2⟩
 have hgs : ts.length = i := by have := congrArg List.length g2; simp at this; omega
 all_goals (repeat' (first | refine K_seq ?_ | refine k_cond rfl ?_ | refine K_skip ?_ | refine K_exit ?_ | refine k_block ?_ | (refine K_region (id := 3) ?_; refine mv ?_; refine mv ?_; refine lnB S ?_; (first | (refine cS ?_ ?_ <;> intro hc)) <;> (refine KO_nil ?_))))
 ·have hil : i < l.length := by omega
  all_goals (repeat' (first | (refine K_region (id := 5) ?_; refine mv ?_; refine mv ?_; refine mv ?_; refine ixB S ?_; refine lEB S ?_)))
  simp only [Int.toNat_natCast]
  (refine KO_fn rfl rfl rfl rfl rfl ((cpTb_ok S.wf (l.getD i default) ((ht i hil).1.ext w S.ext) (ht i hil).2).mono ?_); rintro _ h ⟨os, rfl, x⟩) <;> (replace S := S.join1 x; clear x; (refine one 7 S ?_; clear S; intro u h S))
  refine app (y0 := { l.getD i default with os := os }) S rfl rfl ?_; clear S; intro v3 h S; obtain ⟨vt', rfl⟩ := S.sV v3; (refine mv ?_; refine KO_nil ?_)
  all_goals (repeat' (first | (refine K_region (id := 4) ?_; refine mv ?_; refine ad ?_; refine mv ?_; refine KO_nil ?_)))
  refine ⟨(i + 1, vt', ts ++ [{ l.getD i default with os := os }]), ?_, ?_, (by repeat (first | exact Ks.le_nil _ | refine Ks.le_cons rfl ?_))⟩
  ·show l.length - (i + 1) < l.length - i; omega
  ·replace S : Hs h0 h (.sl vt'.val 95 7 eT (ts ++ [{ l.getD i default with os := os }]) :: .sl os.val 3 1 eI (l.getD i default).opn :: ownR slOp ts :: []) := S
   have S := (show Hs h0 h (.sl os.val 3 1 eI (l.getD i default).opn :: ownR slOp ts :: .sl vt'.val 95 7 eT (ts ++ [{ l.getD i default with os := os }]) :: []) from S.pick)
   refine ⟨Hs.owApp (f := slOp) (g := { l.getD i default with os := os }) S, by (try dsimp only); omega, ?_⟩
   dsimp only
   rw [take_succ_getD (by omega), List.map_append, List.map_append, g2]; rfl
 ·obtain rfl : i = l.length := by omega
  rw [List.take_length] at g2
  skip
  all_goals (repeat' (first | (refine K_region (id := 6) ?_; refine mv ?_; refine mv ?_; refine KO_nil ?_)))
  refine K_ret ⟨_, rfl, ?_⟩
  exact ⟨vt, ts, rfl, g2, S⟩
end Go.Proofs.Xx
namespace Go.Proofs.Xx
open Go Go.Proofs
set_option linter.unusedSimpArgs false
set_option linter.unusedVariables false
set_option linter.unusedSectionVars false
set_option maxRecDepth 100000
set_option maxHeartbeats 4000000
variable [Flag]
theorem sameInts_ok {h0 : AH} (w : WfH h0) (v u : Value) (l m : List Int) (rv : RdL h0 v 1 eI l) (ru : RdL h0 u 1 eI m) (hl : l.length ≤ 9223372036854775807) (hm : m.length ≤ 9223372036854775807) : Fn Tryz.prog Xh 62 [v, u] h0 (fun x h' => BoolIs x (l = m) ∧ Hs h0 h' []) := by
 have S := Hs.start w
 refine Fn_K (by first | rfl) Tryz.func62 rfl rfl ?_
 all_goals (repeat' (first | refine K_seq ?_ | refine k_cond rfl ?_ | refine K_skip ?_ | refine k_block ?_ | (refine K_region (id := 0) ?_; refine mv ?_; refine KO_nil ?_) | (refine K_region (id := 1) ?_; refine mv ?_; refine lnB S ?_; refine mv ?_; refine lnB S ?_; (first | (refine cS ?_ ?_ <;> intro hc)) <;> (refine KO_nil ?_)) | (refine K_region (id := 2) ?_; refine mv ?_; refine KO_nil ?_) | (refine K_region (id := 3) ?_; refine mv ?_; refine KO_nil ?_)))
 ·refine K_ret ⟨_, rfl, ?_⟩
  exact ⟨.inr ⟨rfl, fun q => by subst q; omega⟩, S⟩
 ·refine k_loop (σ := Nat) (fun i h' => Hs h0 h' [] ∧ i ≤ l.length ∧ ∀ j, j < i → l.getD j default = m.getD j default) (fun i => l.length - i) (fun i => [(0, v), (1, u), (5, .int .i64 i)]) 0 (by repeat (first | exact Ks.le_nil _ | refine Ks.le_cons rfl ?_)) ?_ ?_
  ·exact ⟨S, Nat.zero_le _, fun j hj => absurd hj (Nat.not_lt_zero _)⟩
  clear S
  rintro i h ⟨S, g1, g2⟩
  all_goals (repeat' (first | refine K_seq ?_ | refine k_cond rfl ?_ | refine K_skip ?_ | refine K_exit ?_ | refine k_block ?_ | (refine K_region (id := 4) ?_; refine mv ?_; refine mv ?_; refine lnB S ?_; (first | (refine cS ?_ ?_ <;> intro hc)) <;> (refine KO_nil ?_)) | (refine K_region (id := 5) ?_; refine mv ?_; refine ad ?_; refine mv ?_; refine KO_nil ?_) | (refine K_draw (id := 6) ?_; refine mv ?_; refine mv ?_; refine ixB S ?_; refine lEB S ?_; refine mv ?_; refine mv ?_; refine ixB S ?_; refine lEB S ?_; (first | (refine cS ?_ ?_ <;> intro hc)) <;> (refine KO_nil ?_)) | (refine K_region (id := 7) ?_; refine mv ?_; refine KO_nil ?_) | (refine K_region (id := 8) ?_; refine mv ?_; refine KO_nil ?_)))
  all_goals (try simp only [Int.toNat_natCast] at *)
  ·refine K_ret ⟨_, rfl, ?_⟩
   exact ⟨.inr ⟨rfl, fun q => by subst q; exact hc rfl⟩, S⟩
  ·refine ⟨i + 1, ?_, ?_, (by repeat (first | exact Ks.le_nil _ | refine Ks.le_cons rfl ?_))⟩
   ·show l.length - (i + 1) < l.length - i; omega
   ·exact ⟨S, by omega, nxtD g2 (by omega)⟩
  ·refine K_ret ⟨_, rfl, ?_⟩
   exact ⟨.inl ⟨rfl, eq_getD (by omega) fun j hj => g2 j (by omega)⟩, S⟩
theorem ruEq (a b : Ru) : (a.k == b.k && (a.w == b.w && (eqBytes ⟨a.a.toArray⟩ ⟨b.a.toArray⟩ && (eqBytes ⟨a.b.toArray⟩ ⟨b.b.toArray⟩ && (eqBytes ⟨a.t.toArray⟩ ⟨b.t.toArray⟩ && (a.n == b.n && true)))))) = true ↔ a = b := by
 rw [eqBytes_str, eqBytes_str, eqBytes_str]
 cases a; cases b
 simp
theorem sameRules_ok {h0 : AH} (w : WfH h0) (v u : Value) (l m : List Ru) (rv : RdL h0 v 6 eRu l) (ru : RdL h0 u 6 eRu m) (hl : l.length ≤ 9223372036854775807) (hm : m.length ≤ 9223372036854775807) : Fn Tryz.prog Xh 101 [v, u] h0 (fun x h' => BoolIs x (l = m) ∧ Hs h0 h' []) := by
 have S := Hs.start w
 refine Fn_K (by first | rfl) Tryz.func101 rfl rfl ?_
 all_goals (repeat' (first | refine K_seq ?_ | refine k_cond rfl ?_ | refine K_skip ?_ | refine k_block ?_ | (refine K_region (id := 0) ?_; refine mv ?_; refine KO_nil ?_) | (refine K_region (id := 1) ?_; refine mv ?_; refine lnB S ?_; refine mv ?_; refine lnB S ?_; (first | (refine cS ?_ ?_ <;> intro hc)) <;> (refine KO_nil ?_)) | (refine K_region (id := 2) ?_; refine mv ?_; refine KO_nil ?_) | (refine K_region (id := 3) ?_; refine mv ?_; refine KO_nil ?_)))
 ·refine K_ret ⟨_, rfl, ?_⟩
  exact ⟨.inr ⟨rfl, fun q => by subst q; exact hc rfl⟩, S⟩
 ·refine k_loop (σ := Nat) (fun i h' => Hs h0 h' [] ∧ i ≤ l.length ∧ ∀ j, j < i → l.getD j default = m.getD j default) (fun i => l.length - i) (fun i => [(0, v), (1, u), (5, .int .i64 i)]) 0 (by repeat (first | exact Ks.le_nil _ | refine Ks.le_cons rfl ?_)) ?_ ?_
  ·exact ⟨S, Nat.zero_le _, fun j hj => absurd hj (Nat.not_lt_zero _)⟩
  clear S
  rintro i h ⟨S, g1, g2⟩
  all_goals (repeat' (first | refine K_seq ?_ | refine k_cond rfl ?_ | refine K_skip ?_ | refine K_exit ?_ | refine k_block ?_ | (refine K_region (id := 4) ?_; refine mv ?_; refine mv ?_; refine lnB S ?_; (first | (refine cS ?_ ?_ <;> intro hc)) <;> (refine KO_nil ?_)) | (refine K_region (id := 5) ?_; refine mv ?_; refine ad ?_; refine mv ?_; refine KO_nil ?_) | (refine K_draw (id := 6) ?_; refine mv ?_; refine mv ?_; refine ixB S ?_; refine lEB S ?_; refine mv ?_; refine mv ?_; refine ixB S ?_; refine lEB S ?_; (refine gE ?_ ?_ <;> intro hc) <;> (refine KO_nil ?_)) | (refine K_region (id := 7) ?_; refine mv ?_; refine KO_nil ?_) | (refine K_region (id := 8) ?_; refine mv ?_; refine KO_nil ?_)))
  all_goals (try simp only [Int.toNat_natCast] at *)
  ·refine ⟨i + 1, ?_, ?_, (by repeat (first | exact Ks.le_nil _ | refine Ks.le_cons rfl ?_))⟩
   ·show l.length - (i + 1) < l.length - i; omega
   ·exact ⟨S, by omega, nxtD g2 ((ruEq _ _).1 hc)⟩
  ·refine K_ret ⟨_, rfl, ?_⟩
   exact ⟨.inr ⟨rfl, fun q => by subst q; rw [(ruEq _ _).2 rfl] at hc; cases hc⟩, S⟩
  ·refine K_ret ⟨_, rfl, ?_⟩
   exact ⟨.inl ⟨rfl, eq_getD (by omega) fun j hj => g2 j (by omega)⟩, S⟩
theorem sameTb_ok {h0 : AH} (w : WfH h0) (g k : Tab) (rg : RdL h0 g.os.val 1 eI g.opn) (rk : RdL h0 k.os.val 1 eI k.opn) (hg : g.opn.length ≤ 9223372036854775807) (hk : k.opn.length ≤ 9223372036854775807) : Fn Tryz.prog Xh 134 [tabV g, tabV k] h0 (fun x h' => BoolIs x (g.toC = k.toC) ∧ Hs h0 h' []) := by
 have S := Hs.start w
 obtain ⟨n1, n2, n3, n4, n5, n6, n7, n8⟩ := g
 obtain ⟨m1, m2, m3, m4, m5, m6, m7, m8⟩ := k
 dsimp only at *
 refine Fn_K (by first | rfl) Tryz.func134 rfl rfl ?_
 skip
 all_goals (repeat' (first | refine K_seq ?_ | (refine K_region (id := 0) ?_; (refine bx S ?_; clear S; intro b h S); (refine bx S ?_; clear S; intro b h S); refine mv ?_; refine KO_nil ?_) | (refine K_region (id := 1) ?_; refine vl ?_; refine lB S rfl rfl ?_; refine vl ?_; refine lB S rfl rfl ?_; (refine tS ?_ ?_ <;> intro hc) <;> (refine mv ?_; (first | refine off ?_ | (refine vl ?_)); (first | refine off ?_ | (refine lB S rfl rfl ?_)); (first | refine off ?_ | (refine vl ?_)); (first | refine off ?_ | (refine lB S rfl rfl ?_)); (first | refine off ?_ | (first | (refine cS ?_ ?_ <;> intro hc))) <;> (refine vl ?_; refine mv ?_; (first | refine off ?_ | (refine vl ?_)); (first | refine off ?_ | (refine lB S rfl rfl ?_)); (first | refine off ?_ | (refine vl ?_)); (first | refine off ?_ | (refine lB S rfl rfl ?_)); (first | refine off ?_ | (first | (refine cS ?_ ?_ <;> intro hc))) <;> (refine vl ?_; refine mv ?_; (first | refine off ?_ | (refine vl ?_)); (first | refine off ?_ | (refine lB S rfl rfl ?_)); (first | refine off ?_ | (refine vl ?_)); (first | refine off ?_ | (refine lB S rfl rfl ?_)); (first | refine off ?_ | (first | (refine cS ?_ ?_ <;> intro hc))) <;> (refine vl ?_; refine mv ?_; (first | refine off ?_ | (refine vl ?_)); (first | refine off ?_ | (refine lB S rfl rfl ?_)); (first | refine off ?_ | (refine vl ?_)); (first | refine off ?_ | (refine lB S rfl rfl ?_)); (first | refine off ?_ | (first | (refine cS ?_ ?_ <;> intro hc))) <;> (refine vl ?_; refine mv ?_; (first | refine off ?_ | (refine vl ?_)); (first | refine off ?_ | (refine lB S rfl rfl ?_)); (first | refine off ?_ | (refine vl ?_)); (first | refine off ?_ | (refine lB S rfl rfl ?_)); (first | refine off ?_ | (first | (refine cS ?_ ?_ <;> intro hc))) <;> (refine vl ?_; refine mv ?_; (first | refine off ?_ | (refine vl ?_)); (first | refine off ?_ | (refine lB S rfl rfl ?_)); (first | refine off ?_ | (refine vl ?_)); (first | refine off ?_ | (refine lB S rfl rfl ?_)); (first | (refine off ?_; refine vl ?_; refine mv ?_; refine KO_nil ?_) | skip))))))))))
 ·(refine KO_fn rfl rfl rfl rfl rfl ((sameInts_ok S.wf n5.val m5.val n6 m6 (rg.ext w S.ext) (rk.ext w S.ext) hg hk).mono ?_); rintro _ h ⟨⟨rfl, z⟩ | ⟨rfl, z⟩, x⟩) <;> (replace S := S.join0 x; clear x; refine vl ?_; refine mv ?_; refine KO_nil ?_)
  ·all_goals (repeat' (fail))
   refine K_ret ⟨_, rfl, ?_⟩
   refine ⟨.inl ⟨rfl, ?_⟩, S.drop⟩
   simp only [TabC.mk.injEq]
   exact ⟨by assumption, by assumption, by assumption, by assumption, z, by assumption, by assumption⟩
  ·all_goals (repeat' (fail))
   refine K_ret ⟨_, rfl, ?_⟩
   refine ⟨.inr ⟨rfl, fun q => ?_⟩, S.drop⟩
   simp only [TabC.mk.injEq] at q
   exact z q.2.2.2.2.1
 all_goals
  refine K_ret ⟨_, rfl, ?_⟩
  refine ⟨.inr ⟨rfl, fun q => ?_⟩, S.drop⟩
  simp only [TabC.mk.injEq] at q
  exact absurd (by first | exact q.1 | exact q.2.1 | exact q.2.2.1 | exact q.2.2.2.1 | exact q.2.2.2.2.2.1 | exact q.2.2.2.2.2.2) hc
theorem sameTbs_ok {h0 : AH} (w : WfH h0) (v u : Value) (gs ks : List Tab) (rv : RdL h0 v 7 eT gs) (ru : RdL h0 u 7 eT ks) (tv : ∀ i, i < gs.length → RdL h0 (gs.getD i default).os.val 1 eI (gs.getD i default).opn ∧ (gs.getD i default).opn.length ≤ 9223372036854775807) (tu : ∀ i, i < ks.length → RdL h0 (ks.getD i default).os.val 1 eI (ks.getD i default).opn ∧ (ks.getD i default).opn.length ≤ 9223372036854775807) (hl : gs.length ≤ 9223372036854775807) (hm : ks.length ≤ 9223372036854775807) :
 Fn Tryz.prog Xh 98 [v, u] h0 (fun x h' => BoolIs x (gs.map (·.toC) = ks.map (·.toC)) ∧ Hs h0 h' []) := by
 have S := Hs.start w
 refine Fn_K (by first | rfl) Tryz.func98 rfl rfl ?_
 all_goals (repeat' (first | refine K_seq ?_ | refine k_cond rfl ?_ | refine K_skip ?_ | refine k_block ?_ | (refine K_region (id := 0) ?_; refine mv ?_; refine KO_nil ?_) | (refine K_region (id := 1) ?_; refine mv ?_; refine lnB S ?_; refine mv ?_; refine lnB S ?_; (first | (refine cS ?_ ?_ <;> intro hc)) <;> (refine KO_nil ?_)) | (refine K_region (id := 2) ?_; refine mv ?_; refine KO_nil ?_) | (refine K_region (id := 3) ?_; refine mv ?_; refine KO_nil ?_)))
 ·refine K_ret ⟨_, rfl, ?_⟩
  exact ⟨.inr ⟨rfl, fun q => by have := congrArg List.length q; simp at this; omega⟩, S⟩
 ·refine k_loop (σ := Nat) (fun i h' => Hs h0 h' [] ∧ i ≤ gs.length ∧ ∀ j, j < i → (gs.getD j default).toC = (ks.getD j default).toC) (fun i => gs.length - i) (fun i => [(0, v), (1, u), (5, .int .i64 i)]) 0 (by repeat (first | exact Ks.le_nil _ | refine Ks.le_cons rfl ?_)) ?_ ?_
  ·exact ⟨S, Nat.zero_le _, fun j hj => absurd hj (Nat.not_lt_zero _)⟩
  clear S
  rintro i h ⟨S, g1, g2⟩
  all_goals (repeat' (first | refine K_seq ?_ | refine k_cond rfl ?_ | refine K_skip ?_ | refine K_exit ?_ | refine k_block ?_ | (refine K_region (id := 4) ?_; refine mv ?_; refine mv ?_; refine lnB S ?_; (first | (refine cS ?_ ?_ <;> intro hc)) <;> (refine KO_nil ?_)) | (refine K_region (id := 8) ?_; refine mv ?_; refine KO_nil ?_)))
  ·have e1 := tv i (by omega)
   have e2 := tu i (by omega)
   all_goals (repeat' (first | (refine K_draw (id := 6) ?_; refine mv ?_; refine mv ?_; refine ixB S ?_; refine lEB S ?_; refine mv ?_; refine mv ?_; refine ixB S ?_; refine lEB S ?_)))
   simp only [Int.toNat_natCast]
   (refine KO_fn rfl rfl rfl rfl rfl ((sameTb_ok S.wf (gs.getD i default) (ks.getD i default) (e1.1.ext w S.ext) (e2.1.ext w S.ext) e1.2 e2.2).mono ?_); rintro _ h ⟨⟨rfl, z⟩ | ⟨rfl, z⟩, x⟩) <;> (replace S := S.join0 x; clear x; refine vl ?_; refine KO_nil ?_)
   ·all_goals (repeat' (first | refine k_cond rfl ?_ | refine K_skip ?_ | (refine K_region (id := 5) ?_; refine mv ?_; refine ad ?_; refine mv ?_; refine KO_nil ?_)))
    refine ⟨i + 1, ?_, ?_, (by repeat (first | exact Ks.le_nil _ | refine Ks.le_cons rfl ?_))⟩
    ·show gs.length - (i + 1) < gs.length - i; omega
    ·exact ⟨S, by omega, nxtD g2 z⟩
   ·all_goals (repeat' (first | refine K_seq ?_ | refine k_cond rfl ?_ | (refine K_region (id := 7) ?_; refine mv ?_; refine KO_nil ?_)))
    refine K_ret ⟨_, rfl, ?_⟩
    refine ⟨.inr ⟨rfl, fun q => z ?_⟩, S⟩
    rw [← map_getD (f := fun g : Tab => g.toC) (show i < gs.length by omega), ← map_getD (f := fun g : Tab => g.toC) (show i < ks.length by omega), q]
  ·refine K_ret ⟨_, rfl, ?_⟩
   refine ⟨.inl ⟨rfl, eq_getD (by simp; omega) fun j hj => ?_⟩, S⟩
   simp at hj
   rw [map_getD (by omega), map_getD (by omega)]; exact g2 j (by omega)
end Go.Proofs.Xx
