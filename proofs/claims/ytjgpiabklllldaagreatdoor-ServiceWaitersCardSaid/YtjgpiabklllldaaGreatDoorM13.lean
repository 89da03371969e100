/-
  The reference's waiters and loads.
-/
import Derived.Test.YtjgpiabklllldaaGreatDoorM12
import Derived.Test.YtjgpiabklllldaaGreatDoorM9
import Derived.Test.YtjgpiabklllldaaGreatDoorM10
namespace Go.Proofs.Xx
open Go Go.Proofs
set_option linter.unusedSimpArgs false
set_option linter.unusedVariables false
set_option linter.unusedSectionVars false
set_option maxRecDepth 100000
set_option maxHeartbeats 4000000
theorem digs_get {n : Nat} : ∀ {j k i : Nat}, i < j → (digs n j k).getD i default = k / n ^ (j - 1 - i) % n
 | j + 1, k, i, h => by
  rw [digs, List.getD_eq_getElem?_getD]
  rcases Nat.lt_or_ge i j with e | e
  ·rw [List.getElem?_append_left (by rw [digs_len]; exact e), ← List.getD_eq_getElem?_getD, digs_get e, Nat.div_div_eq_div_mul, show j + 1 - 1 - i = (j - 1 - i) + 1 by omega, Nat.pow_succ, Nat.mul_comm]
  ·obtain rfl : i = j := by omega
   rw [List.getElem?_append_right (by rw [digs_len]; omega), digs_len, Nat.sub_self, show i + 1 - 1 - i = 0 by omega]
   simp
theorem ind_sum (x : Int) : ∀ n : Nat, ((List.range n).map fun t : Nat => if x = (t : Int) then (1 : Int) else 0).sum ≤ 1 ∧ (x < 0 ∨ (n : Int) ≤ x → ((List.range n).map fun t : Nat => if x = (t : Int) then (1 : Int) else 0).sum = 0)
 | 0 => by simp
 | n + 1 => by
  have ih := ind_sum x n
  rw [List.range_succ, List.map_append, List.sum_append]
  simp only [List.map_cons, List.map_nil, List.sum_cons, List.sum_nil]
  by_cases e : x = (n : Int)
  ·rw [if_pos e]
   have := ih.2 (by omega)
   exact ⟨by omega, fun q => by omega⟩
  ·rw [if_neg e]
   exact ⟨by omega, fun q => by have := ih.2 (by omega); omega⟩
theorem cntL_sum {n : Nat} : ∀ ts : List Int, (cntL ts n).sum ≤ ts.length
 | [] => by
  have : cntL [] n = List.replicate n 0 := cntL_nil
  rw [this]
  have h : ∀ n : Nat, (List.replicate n (0 : Int)).sum = 0 := fun n => by
   induction n with
   | zero => rfl
   | succ n ih => rw [List.replicate_succ, List.sum_cons, ih]; rfl
  rw [h]; simp
 | x :: ts => by
  have ih := cntL_sum (n := n) ts
  have h1 := (ind_sum x n).1
  have e : ∀ l : List Nat, (l.map fun t : Nat => (((x :: ts).count (t : Int) : Nat) : Int)).sum = (l.map fun t : Nat => ((ts.count (t : Int) : Nat) : Int)).sum + (l.map fun t : Nat => if x = (t : Int) then (1 : Int) else 0).sum := fun l => by
   induction l with
   | nil => rfl
   | cons t l ih =>
    simp only [List.map_cons, List.sum_cons, ih]
    rw [List.count_cons]
    by_cases e : x = (t : Int)
    ·simp [e]; omega
    ·rw [if_neg (by simpa using e), if_neg e]; omega
  unfold cntL at ih ⊢
  rw [e, List.length_cons]
  omega
theorem plt_sum {p : Pb} {q : List Int} : (pltV p q).sum ≤ q.length := by
 have := cntL_sum (n := p.tabs.length) (q.map (tOf p.tabs))
 rw [List.length_map] at this
 exact this
theorem PartOk.qb {p : Pb} {q : List Int} (hl : p.tabs.length ≤ 1000) (h : PartOk p q) : ∀ x ∈ q, -1 ≤ x ∧ x ≤ 1000000 := fun x hx => by
 have h1 := h.rng x hx
 have h2 := sumT_le p.tabs p.tabs.length
 omega
def bstW (L : List Int → Int) (n m k : Nat) : BestW := ((List.range k).map fun i => nI (digs n m i)).foldl (updW L) ([], -1)
theorem bstW_s {L : List Int → Int} {n m k : Nat} : bstW L n m (k + 1) = updW L (bstW L n m k) (nI (digs n m k)) := by
 unfold bstW
 rw [List.range_succ, List.map_append, List.foldl_append]
 rfl
theorem bstW_b {L : List Int → Int} {M : Int} (hL : ∀ c, 0 ≤ L c) (hM : ∀ c, L c ≤ M) (h0 : 0 ≤ M) {n m k : Nat} : -1 ≤ (bstW L n m k).2 ∧ (bstW L n m k).2 ≤ M :=
 foldW_b hL _ _ (fun c _ => hM c) (by show (-1 : Int) ≤ M; omega) (Int.le_refl _)
variable [Flag]
theorem rWaiters_ok {h0 : AH} (w : WfH h0) (pv : PbV) (p : Pb) (H : PbOk h0 pv p) (hP : PO p) (vq : Value) (q : List Int) (rq : RdL h0 vq 1 eI q) (hQ : PartOk p q) (hs5 : (srv (pltV p q)).length ≤ 5) (n : Nat) (hn : 1 ≤ n ∧ n ≤ 4) :
 Fn Tryz.prog Xh 18 [pv.val, vq, .int .i64 n] h0 (fun u h' => ∃ vo rows, u = .tuple #[vo, .int .i64 (bestD p q n).2] ∧ Hs h0 h' [.sl vo 25 1 eRow rows, ownR slRow rows] ∧ rows.length = n ∧ ∀ v, v < n → (rows.getD v default).r = divL (srv (pltV p q)) (bestD p q n).1 (srv (pltV p q)).length v) := by
 have S := Hs.start w
 have hr := H.tab.rd
 have hl := H.tab.len
 have hql := hQ.ql hP
 have hqb := hQ.qb hl
 have hpl := pltV_len (p := p) (q := q)
 have hsr := srv_in (p := p) (q := q)
 have hld := ldP_b (p := p) (q := q)
 unfold PbV.val
 refine Fn_K (by first | rfl) Tryz.func18 rfl rfl ?_
 all_goals (repeat' (first | refine K_seq ?_ | (refine K_region (id := 0) ?_; (refine bx S ?_; clear S; intro b h S); refine mv ?_; refine mv ?_; refine KO_nil ?_)))
 obtain ⟨b3, hnm⟩ : ∃ x, x = b := ⟨_, rfl⟩; subst hnm
 (repeat (refine K_seq ?_)); refine K_drawX (id := 1) [(3, (0, 1))] [some (b3)] ?_; refine KX_cons ?_; (first | (refine lB S rfl rfl ?_ <;> refine KO_nil ⟨⟨by (first | exact True.intro), rfl⟩, ?_⟩)); refine KX_cons ?_; (first | (refine mv ?_ <;> refine KO_nil ⟨⟨by (first | exact True.intro), rfl⟩, ?_⟩))
 ((refine KX_cons ?_; first | refine KO_fn rfl rfl rfl rfl rfl ((rServed_ok S.wf pv p (H.ext w S.ext) hP.tabs vq q (rq.ext w S.ext) (by omega) hqb).mono ?_)); rintro vst h x) <;> ((refine KO_nil ⟨⟨True.intro, ?_⟩, ?_⟩; (focus ((show keepsX _ _ _ _ _; simp only [keepsX]; (repeat' (first | exact True.intro | refine And.intro ?_ ?_)); all_goals (intro hw; first | exact x.ext.old _ S.bB))))); replace S := S.join1 x; clear x; obtain ⟨ss, rfl⟩ := S.sV vst; refine KX_cons ?_; (first | (refine lB S rfl rfl ?_ <;> refine KO_nil ⟨⟨by (first | exact Or.inr rfl), rfl⟩, ?_⟩)); refine KX_cons ?_; (first | (refine mv ?_ <;> refine KO_nil ⟨⟨by (first | exact True.intro), rfl⟩, ?_⟩)))
 ((refine KX_cons ?_; first | refine KO_fn rfl rfl rfl rfl rfl ((rPlates_ok S.wf pv p (H.ext w S.ext) hP.tabs vq q (rq.ext w S.ext) (by omega) hqb).mono ?_)); rintro vp h x) <;> ((refine KO_nil ⟨⟨True.intro, ?_⟩, ?_⟩; (focus ((show keepsX _ _ _ _ _; simp only [keepsX]; (repeat' (first | exact True.intro | refine And.intro ?_ ?_)); all_goals (intro hw; first | exact absurd hw (by decide +kernel)))))); replace S := S.join1 x; clear x; obtain ⟨sp, rfl⟩ := S.sV vp; refine KX_cons ?_; (first | (refine mv ?_ <;> refine KO_nil ⟨⟨by (first | exact True.intro), rfl⟩, ?_⟩)); refine KX_cons ?_; (first | (refine mv ?_ <;> refine KO_nil ⟨⟨by (first | exact True.intro), rfl⟩, ?_⟩)); refine KX_nil ?_)
 obtain ⟨stops, hst⟩ : ∃ stops, srv (pltV p q) = stops := ⟨_, rfl⟩
 obtain ⟨pl, hpe⟩ : ∃ pl, pltV p q = pl := ⟨_, rfl⟩
 have hbd : bestD p q n = bstW (Lw n (stops.map (ldP pl))) n stops.length (n ^ stops.length) := by
  unfold bestD bstW; rw [hst, hpe, digs_can (by omega)]
 rw [hst, hpe] at S
 rw [hst] at hs5 hsr ⊢
 rw [hpe] at hpl hld
 have hld2 : ∀ t, 0 ≤ ldP pl t ∧ ldP pl t ≤ 1000 := fun t => by have := hld t; omega
 have hsr2 : ∀ t ∈ stops, 0 ≤ t ∧ t < pl.length := fun t ht => by rw [hpl]; exact hsr t ht
 have hLw : ∀ c, Lw n (stops.map (ldP pl)) c ≤ 9000 := fun c => mxF_le (by omega) fun v _ => by
  have h2 := lds_b (M := 1000) (qs := stops.map (ldP pl)) (by omega) (fun x hx => by
   obtain ⟨t, -, rfl⟩ := List.mem_map.1 hx
   exact hld2 t) (c := c) v
  rw [List.length_map] at h2
  omega
 have hpw : ∀ i, i ≤ stops.length → 1 ≤ n ^ i ∧ n ^ i ≤ 1024 := fun i hi => by
  refine ⟨Nat.pow_pos (by omega), Nat.le_trans (Nat.pow_le_pow_left hn.2 i) (Nat.le_trans (Nat.pow_le_pow_right (by omega) (show i ≤ 5 by omega)) (by decide))⟩
 replace S : Hs h0 h [.sl sp.val 3 1 eI pl, .sl ss.val 3 1 eI stops, .blk b3 pv.cs 28] := S
 replace S : Hs h0 h [.sl sp.val 3 1 eI pl, .sl ss.val 3 1 eI stops] := S.pick
 all_goals (repeat' (first | refine K_seq ?_ | refine k_block ?_ | (refine K_region (id := 2) ?_; refine mv ?_; refine KO_nil ?_) | (refine K_region (id := 3) ?_; refine mv ?_; refine KO_nil ?_)))
 refine k_loop (σ := Nat) (fun i h' => Hs h0 h' [.sl sp.val 3 1 eI pl, .sl ss.val 3 1 eI stops] ∧ i ≤ stops.length) (fun i => stops.length - i) (fun i => [(2, .int .i64 n), (8, ss.val), (9, sp.val), (10, .int .i64 ((n ^ i : Nat) : Int)), (11, .int .i64 i)]) 0 (by repeat (first | exact Ks.le_nil _ | refine Ks.le_cons rfl ?_)) ?_ ?_
 ·exact ⟨S, Nat.zero_le _⟩
 clear S
 rintro i h ⟨S, g1⟩
 all_goals (repeat' (first | refine K_seq ?_ | refine k_cond rfl ?_ | refine K_skip ?_ | refine K_exit ?_ | refine k_block ?_ | (refine K_region (id := 4) ?_; refine mv ?_; refine mv ?_; refine lnS S rfl rfl ?_; (first | (refine cS ?_ ?_ <;> intro hc)) <;> (refine KO_nil ?_))))
 ·have hi : i < stops.length := by omega
  have e1 : ((n ^ i : Nat) : Int) * (n : Int) = ((n ^ (i + 1) : Nat) : Int) := by rw [Nat.pow_succ]; push_cast; rfl
  have b1 := hpw (i + 1) (by omega)
  have b2 : 0 ≤ ((n ^ i : Nat) : Int) * (n : Int) ∧ ((n ^ i : Nat) : Int) * (n : Int) ≤ 1024 := by rw [e1]; omega
  all_goals (repeat' (first | (refine K_region (id := 6) ?_; refine mv ?_; refine mv ?_; refine ml ?_; refine mv ?_; refine KO_nil ?_)))
  rw [e1]
  all_goals (repeat' (first | (refine K_region (id := 5) ?_; refine mv ?_; refine ad ?_; refine mv ?_; refine KO_nil ?_)))
  refine ⟨i + 1, ?_, ?_, (by repeat (first | exact Ks.le_nil _ | refine Ks.le_cons rfl ?_))⟩
  ·show stops.length - (i + 1) < stops.length - i; omega
  ·exact ⟨S, by omega⟩
 obtain rfl : i = stops.length := by omega
 have hA := hpw stops.length (Nat.le_refl _)
 generalize hAe : n ^ stops.length = A at *
 all_goals (repeat' (first | refine K_seq ?_ | refine k_block ?_ | (refine K_region (id := 7) ?_; refine mv ?_; refine KO_nil ?_) | (refine K_region (id := 8) ?_; refine mv ?_; refine KO_nil ?_) | (refine K_region (id := 9) ?_; refine mv ?_; refine KO_nil ?_)))
 replace S : Hs h0 h [.sl (.slice none 0 0) 3 1 eI [], .sl sp.val 3 1 eI pl, .sl ss.val 3 1 eI stops] := S.nilS
 refine k_loop (σ := Nat × Value) (fun (k, vb) h' => Hs h0 h' [.sl vb 3 1 eI (bstW (Lw n (stops.map (ldP pl))) n stops.length k).1, .sl sp.val 3 1 eI pl, .sl ss.val 3 1 eI stops] ∧ k ≤ A) (fun (k, vb) => A - k) (fun (k, vb) => [(2, .int .i64 n), (8, ss.val), (9, sp.val), (10, .int .i64 A), (12, vb), (13, .int .i64 (bstW (Lw n (stops.map (ldP pl))) n stops.length k).2), (14, .int .i64 k)]) (0, .slice none 0 0) (by repeat (first | exact Ks.le_nil _ | refine Ks.le_cons rfl ?_)) ?_ ?_
 ·exact ⟨S, Nat.zero_le _⟩
 clear S
 rintro ⟨k, vb⟩ h ⟨S, g1⟩
 have hbb := bstW_b (L := Lw n (stops.map (ldP pl))) (fun c => Lw_nn) hLw (by omega) (n := n) (m := stops.length) (k := k)
 all_goals (repeat' (first | refine K_seq ?_ | refine k_cond rfl ?_ | refine K_skip ?_ | refine K_exit ?_ | refine k_block ?_ | (refine K_region (id := 10) ?_; refine mv ?_; refine mv ?_; (first | (refine cS ?_ ?_ <;> intro hc)) <;> (refine KO_nil ?_))))
 ·have hk : k < A := by omega
  all_goals (repeat' (first | (refine K_region (id := 12) ?_; refine mv ?_; refine lnS S rfl rfl ?_)))
  refine m_make (z := 1) (by_ := 8) (enc := eI) (y0 := 0) S rfl rfl rfl rfl rfl rfl rfl rfl rfl (by intro _; rfl) (by first | omega) rfl rfl ?_; clear S; intro v h S; obtain ⟨sw, rfl⟩ := S.sV v; refine mv ?_; refine KO_nil ?_
  simp only [Int.toNat_natCast] at S
  all_goals (repeat' (first | refine K_seq ?_ | refine k_block ?_ | (refine K_region (id := 13) ?_; refine mv ?_; refine mv ?_; refine KO_nil ?_) | (refine K_region (id := 14) ?_; refine mv ?_; refine lnS S rfl rfl ?_; refine sb ?_; refine mv ?_; refine KO_nil ?_)))
  refine k_loop (σ := Nat × List Int) (fun (d, wl) h' => Hs h0 h' [.sl sw.val 3 1 eI wl, .sl vb 3 1 eI (bstW (Lw n (stops.map (ldP pl))) n stops.length k).1, .sl sp.val 3 1 eI pl, .sl ss.val 3 1 eI stops] ∧ d ≤ stops.length ∧ wl.length = stops.length ∧ (∀ i, stops.length - d ≤ i → i < stops.length → wl.getD i default = (((digs n stops.length k).getD i default : Nat) : Int))) (fun (d, wl) => stops.length - d) (fun (d, wl) => [(2, .int .i64 n), (8, ss.val), (9, sp.val), (10, .int .i64 A), (12, vb), (13, .int .i64 (bstW (Lw n (stops.map (ldP pl))) n stops.length k).2), (14, .int .i64 k), (15, sw.val), (16, .int .i64 ((k / n ^ d : Nat) : Int)), (17, .int .i64 ((stops.length : Int) - 1 - d))]) (0, List.replicate stops.length 0) (by repeat (first | exact Ks.le_nil _ | refine Ks.le_cons rfl ?_ | refine Ks.le_int ?_)) ?_ ?_
  ·refine ⟨S, Nat.zero_le _, by simp, fun i h1 h2 => by omega⟩
  clear S
  rintro ⟨d, wl⟩ h ⟨S, f1, f2, f3⟩
  all_goals (repeat' (first | refine K_seq ?_ | refine k_cond rfl ?_ | refine K_skip ?_ | refine K_exit ?_ | refine k_block ?_ | (refine K_region (id := 15) ?_; refine mv ?_; (first | (refine cS ?_ ?_ <;> intro hc)) <;> (refine KO_nil ?_))))
  ·have hd : d < stops.length := by omega
   have hX : ((k / n ^ d : Nat) : Int) ≤ 1024 := by have := Nat.div_le_self k (n ^ d); omega
   have m1 := Int.emod_nonneg ((k / n ^ d : Nat) : Int) (show (n : Int) ≠ 0 by omega)
   have m2 := Int.emod_lt_of_pos ((k / n ^ d : Nat) : Int) (show (0 : Int) < (n : Int) by omega)
   have m3 := Int.ediv_nonneg (Int.natCast_nonneg (k / n ^ d)) (show (0 : Int) ≤ (n : Int) by omega)
   have m4 := Int.ediv_le_self (n : Int) (Int.natCast_nonneg (k / n ^ d))
   have e1 : ((k / n ^ d : Nat) : Int) % (n : Int) = ((k / n ^ d % n : Nat) : Int) := by push_cast; rfl
   have e2 : ((k / n ^ d : Nat) : Int) / (n : Int) = ((k / n ^ (d + 1) : Nat) : Int) := by rw [Nat.pow_succ, ← Nat.div_div_eq_div_mul]; push_cast; rfl
   have e3 : ((stops.length : Int) - 1 - d).toNat = stops.length - 1 - d := by omega
   have e4 := digs_get (n := n) (k := k) (show stops.length - 1 - d < stops.length by omega)
   rw [show stops.length - 1 - (stops.length - 1 - d) = d by omega] at e4
   all_goals (repeat' (first | (refine K_region (id := 16) ?_; refine mv ?_; refine sb ?_; refine mv ?_; refine KO_nil ?_) | (refine K_region (id := 17) ?_; refine mv ?_; refine mv ?_; refine mv ?_; refine mv ?_; refine rm ?_; refine ixS2 S rfl rfl ?_; (first | (refine sE2 S rfl rfl ?_; clear S; intro h S)); refine KO_nil ?_) | (refine K_region (id := 18) ?_; refine mv ?_; refine mv ?_; refine qu ?_; refine mv ?_; refine KO_nil ?_)))
   rw [e2]
   refine ⟨(d + 1, wl.set (stops.length - 1 - d) (((digs n stops.length k).getD (stops.length - 1 - d) default : Nat) : Int)), ?_, ?_, (by repeat (first | exact Ks.le_nil _ | refine Ks.le_cons rfl ?_ | refine Ks.le_int ?_))⟩
   ·show stops.length - (d + 1) < stops.length - d; omega
   ·refine ⟨by rw [e3, e1, ← e4] at S; exact S, by omega, by rw [List.length_set]; exact f2, fun i h1 h2 => ?_⟩
    rw [getD_setI (by omega)]
    by_cases e : stops.length - 1 - d = i
    ·rw [if_pos e, e]
    ·rw [if_neg e]
     exact f3 i (by omega) h2
  have hwl : wl = nI (digs n stops.length k) := by
   apply eq_getD (by simp [digs_len, f2])
   intro i hi
   rw [f3 i (by omega) (by omega), map_getD (f := fun w : Nat => (w : Int)) (by rw [digs_len]; omega)]
  rw [hwl] at S
  clear f3 hwl
  have hdl : (nI (digs n stops.length k)).length = stops.length := by simp [digs_len]
  have hdb : ∀ x ∈ nI (digs n stops.length k), 0 ≤ x ∧ x < (n : Int) := fun x hx => by
   obtain ⟨j, hj, rfl⟩ := mem_iff_getD.1 hx
   rw [hdl] at hj
   rw [map_getD (f := fun w : Nat => (w : Int)) (by rw [digs_len]; omega), digs_get hj]
   have := Nat.mod_lt (k / n ^ (stops.length - 1 - j)) (show 0 < n by omega)
   omega
  have hL0 : 0 ≤ Lw n (stops.map (ldP pl)) (nI (digs n stops.length k)) := Lw_nn
  have hL1 := hLw (nI (digs n stops.length k))
  have hbs := bstW_s (L := Lw n (stops.map (ldP pl))) (n := n) (m := stops.length) (k := k)
  unfold updW at hbs
  all_goals (repeat' (first | (refine K_region (id := 19) ?_; refine mv ?_; refine mv ?_; refine mv ?_; refine mv ?_; skip)))
  (refine KO_fn rfl rfl rfl rfl rfl ((rLoads_ok S.wf sp.val pl (Rd.of_sl S (.there (.there .here))) ss.val stops (Rd.of_sl S (.there (.there (.there .here)))) sw.val (nI (digs n stops.length k)) (Rd.of_sl S .here) n ⟨hn.1, by omega⟩ (by omega) hdl (by omega) hdb hsr2 hld2).mono ?_); rintro _ h ⟨vo, rfl, x⟩) <;> (replace S := S.join0 x; clear x; refine mv ?_; refine vl ?_; refine vl ?_; refine mv ?_; refine mv ?_; refine KO_nil ?_)
  all_goals (repeat' (first | refine K_seq ?_ | refine k_cond rfl ?_ | refine K_skip ?_ | (refine K_region (id := 20) ?_; refine mv ?_; (first | (refine cS ?_ ?_ <;> intro hc)) <;> (refine mv ?_; (first | refine off ?_ | refine mv ?_); (first | refine off ?_ | refine mv ?_); (first | refine off ?_ | (first | (refine cS ?_ ?_ <;> intro hc))) <;> (refine vl ?_; refine KO_nil ?_)))))
  ·rw [if_pos (.inl (by assumption))] at hbs
   all_goals (repeat' (first | (refine K_region (id := 11) ?_; refine mv ?_; refine ad ?_; refine mv ?_; refine KO_nil ?_) | (refine K_region (id := 21) ?_; refine mv ?_; refine mv ?_; refine mv ?_; refine mv ?_; refine KO_nil ?_)))
   refine ⟨(k + 1, sw.val), ?_, ?_, (by repeat (first | exact Ks.le_nil _ | refine Ks.le_cons rfl ?_ | refine Ks.le_int ?_))⟩
   ·show A - (k + 1) < A - k; omega
   ·refine ⟨?_, by (try dsimp only); omega⟩
    rw [hbs]; exact S.pick
  ·rw [if_pos (.inr (by assumption))] at hbs
   all_goals (repeat' (first | (refine K_region (id := 11) ?_; refine mv ?_; refine ad ?_; refine mv ?_; refine KO_nil ?_) | (refine K_region (id := 21) ?_; refine mv ?_; refine mv ?_; refine mv ?_; refine mv ?_; refine KO_nil ?_)))
   refine ⟨(k + 1, sw.val), ?_, ?_, (by repeat (first | exact Ks.le_nil _ | refine Ks.le_cons rfl ?_ | refine Ks.le_int ?_))⟩
   ·show A - (k + 1) < A - k; omega
   ·refine ⟨?_, by (try dsimp only); omega⟩
    rw [hbs]; exact S.pick
  ·rw [if_neg (by omega)] at hbs
   all_goals (repeat' (first | (refine K_region (id := 11) ?_; refine mv ?_; refine ad ?_; refine mv ?_; refine KO_nil ?_)))
   refine ⟨(k + 1, vb), ?_, ?_, (by repeat (first | exact Ks.le_nil _ | refine Ks.le_cons rfl ?_ | refine Ks.le_int ?_))⟩
   ·show A - (k + 1) < A - k; omega
   ·refine ⟨?_, by (try dsimp only); omega⟩
    rw [hbs]; exact S.pick
 obtain rfl : k = A := by omega
 obtain ⟨c1, c2, c3, -⟩ := bestD_ok (p := p) (q := q) (n := n) hn.1
 rw [hst] at c1 c3
 rw [hpe] at c3
 rw [← hbd] at S
 have hBb : 0 ≤ (bestD p q n).2 := by rw [c3]; exact Lw_nn
 dsimp only
 rw [← hbd]
 clear hbd hbb
 generalize hB : bestD p q n = B at S c1 c2 c3 hBb ⊢
 obtain ⟨sb_, rfl⟩ := S.sV vb
 all_goals (repeat' (first | (refine K_region (id := 22) ?_; refine mv ?_)))
 refine m_make (z := 1) (by_ := 24) (enc := eRow) (y0 := ⟨⟨none, 0, 0⟩, []⟩) S rfl rfl rfl rfl rfl rfl rfl rfl rfl (by intro _; rfl) (by first | omega) rfl rfl ?_; clear S; intro v h S; obtain ⟨so, rfl⟩ := S.sV v; (refine mv ?_; refine KO_nil ?_)
 simp only [Int.toNat_natCast] at S
 have S := S.owRows n
 replace S : Hs h0 h [ownR slRow (List.replicate n ⟨⟨none, 0, 0⟩, []⟩), .sl so.val 25 1 eRow (List.replicate n ⟨⟨none, 0, 0⟩, []⟩), .sl sb_.val 3 1 eI B.1, .sl sp.val 3 1 eI pl, .sl ss.val 3 1 eI stops] := S
 have S := (show Hs h0 h [.sl so.val 25 1 eRow (List.replicate n ⟨⟨none, 0, 0⟩, []⟩), ownR slRow (List.replicate n ⟨⟨none, 0, 0⟩, []⟩), .sl sb_.val 3 1 eI B.1, .sl ss.val 3 1 eI stops] from S.pick)
 all_goals (repeat' (first | refine K_seq ?_ | refine k_block ?_ | (refine K_region (id := 23) ?_; refine mv ?_; refine KO_nil ?_)))
 refine k_loop (σ := Nat × List Row_) (fun (i, rows) h' => Hs h0 h' [.sl so.val 25 1 eRow rows, ownR slRow rows, .sl sb_.val 3 1 eI B.1, .sl ss.val 3 1 eI stops] ∧ i ≤ stops.length ∧ rows.length = n ∧ (∀ v, v < n → (rows.getD v default).r = divL stops B.1 i v)) (fun (i, rows) => stops.length - i) (fun (i, rows) => [(8, ss.val), (12, sb_.val), (13, .int .i64 B.2), (20, so.val), (21, .int .i64 i)]) (0, List.replicate n ⟨⟨none, 0, 0⟩, []⟩) (by repeat (first | exact Ks.le_nil _ | refine Ks.le_cons rfl ?_)) ?_ ?_
 ·refine ⟨S, Nat.zero_le _, by simp, fun v hv => ?_⟩
  rw [List.getD_eq_getElem?_getD, List.getElem?_replicate, if_pos hv]
  simp [divL]
 clear S
 rintro ⟨i, rows⟩ h ⟨S, g1, g2, g3⟩
 all_goals (repeat' (first | refine K_seq ?_ | refine k_cond rfl ?_ | refine K_skip ?_ | refine K_exit ?_ | refine k_block ?_ | (refine K_region (id := 24) ?_; refine mv ?_; refine mv ?_; refine lnS S rfl rfl ?_; (first | (refine cS ?_ ?_ <;> intro hc)) <;> (refine KO_nil ?_))))
 ·have hi : i < stops.length := by omega
  have hiB : i < B.1.length := by omega
  have hwb := c2 _ (mem_getD hiB)
  obtain ⟨w0, hw0⟩ := Int.eq_ofNat_of_zero_le hwb.1
  have hw1 : B.1.getD (i : Int).toNat default = (w0 : Int) := hw0
  have hwn : w0 < n := by omega
  have hwb2 : 0 ≤ B.1.getD (i : Int).toNat default ∧ B.1.getD (i : Int).toNat default < n := hwb
  obtain ⟨x0, hx0⟩ : ∃ x, rows.getD w0 default = x := ⟨_, rfl⟩
  have hx1 : rows.getD (B.1.getD (i : Int).toNat default).toNat default = x0 := by rw [hw1]; exact hx0
  have hr0 := g3 w0 hwn
  rw [hx0] at hr0
  have hrl : x0.r.length ≤ 9 := by
   rw [hr0]; unfold divL
   rw [List.length_map]
   refine Nat.le_trans (List.length_filter_le _ _) ?_
   rw [List.length_take]; omega
  have hrd := ownRow_rd S (.there .here) (i := w0) (by omega)
  rw [hx0] at hrd
  have wC := S.wf
  have rso := Rd.of_sl S .here
  have rsb := Rd.of_sl S (.there (.there .here))
  have rss := Rd.of_sl S (.there (.there (.there .here)))
  have hbl : blkS sb_.val < h.next := rsb.bS wC (by omega)
  obtain ⟨hC, hnm⟩ : ∃ x, x = h := ⟨_, rfl⟩; subst hnm
  have Sm := S
  clear S
  have S := (Hs.start wC).nilS (e := 3) (z := 1) (enc := eI)
  all_goals (repeat' (first | refine K_seq ?_ | (refine K_region (id := 26) ?_; refine mv ?_; refine KO_nil ?_) | (refine K_region (id := 27) ?_; refine mv ?_; refine mv ?_; refine mv ?_; refine mv ?_; refine ixB S ?_; refine lEB S ?_; refine ixB S ?_; refine lEB S ?_)))
  rw [hx1]
  refine apd S rfl rfl hrd ?_; clear S; intro v1 h S; (refine mv ?_; refine KO_nil ?_)
  rw [List.nil_append] at S
  obtain ⟨s1, rfl⟩ := S.sV v1
  replace S : Hs hC h [.sl s1.val 3 1 eI x0.r] := S
  (repeat (refine K_seq ?_)); refine K_drawX (id := 28) [(4, (0, 2))] [some (blkS sb_.val)] ?_; refine KX_cons ?_; (first | (refine mv ?_ <;> refine KO_nil ⟨⟨by (first | exact True.intro), rfl⟩, ?_⟩)); refine KX_cons ?_; (first | (refine mv ?_ <;> refine KO_nil ⟨⟨by (first | exact True.intro), rfl⟩, ?_⟩)); refine KX_cons ?_; (first | (refine mv ?_ <;> refine KO_nil ⟨⟨by (first | exact True.intro), rfl⟩, ?_⟩)); refine KX_cons ?_; (first | (refine ixB S ?_ <;> refine KO_nil ⟨⟨by (first | exact True.intro), rfl⟩, ?_⟩)); refine KX_cons ?_; (first | (refine lEB S ?_ <;> refine KO_nil ⟨⟨by (first | exact Or.inr (congrArg some (blkOf_elA _ _ _ _))), rfl⟩, ?_⟩)); refine KX_cons ?_; (first | (refine mv ?_ <;> refine KO_nil ⟨⟨by (first | exact True.intro), rfl⟩, ?_⟩)); refine KX_cons ?_; (first | (refine mv ?_ <;> refine KO_nil ⟨⟨by (first | exact True.intro), rfl⟩, ?_⟩)); refine KX_cons ?_; (first | (refine mv ?_ <;> refine KO_nil ⟨⟨by (first | exact True.intro), rfl⟩, ?_⟩)); refine KX_cons ?_; (first | (refine ixB S ?_ <;> refine KO_nil ⟨⟨by (first | exact True.intro), rfl⟩, ?_⟩)); refine KX_cons ?_; (first | (refine lEB S ?_ <;> refine KO_nil ⟨⟨by (first | exact True.intro), rfl⟩, ?_⟩))
  rw [hw1]
  obtain ⟨t, ht⟩ : ∃ t, stops.getD (i : Int).toNat default = t := ⟨_, rfl⟩
  rw [ht]
  refine KX_cons ?_; refine one 1 (Hs.start S.wf) ?_; intro u h2 x; refine KO_nil ⟨⟨True.intro, ?_⟩, ?_⟩; (focus ((show keepsX _ _ _ _ _; simp only [keepsX]; (repeat' (first | exact True.intro | refine And.intro ?_ ?_)); all_goals (intro hw; first | exact x.ext.old _ (S.bX (by assumption) (by assumption) (by first | omega)))))); replace S := S.join1 x; clear x
  replace S : Hs hC h2 [.sl u 3 1 eRaw [[.int .i64 t]], .sl s1.val 3 1 eI x0.r] := S
  refine KX_cons ?_; refine app (y0 := t) S rfl rfl ?_; have S0 := S; clear S; intro v2 h S; refine KO_nil ⟨⟨True.intro, ?_⟩, ?_⟩; (focus ((show keepsX _ _ _ _ _; simp only [keepsX]; (repeat' (first | exact True.intro | refine And.intro ?_ ?_)); all_goals (intro hw; first | exact (S.ext.old _ (by assumption)).trans (S0.ext.old _ (by assumption)).symm)))); clear S0
  obtain ⟨s2, rfl⟩ := S.sV v2
  replace S : Hs hC h [.sl s2.val 3 1 eI (x0.r ++ [t])] := S.pick
  replace S : Hs h0 h [.sl s2.val 3 1 eI (x0.r ++ [t]), .sl so.val 25 1 eRow rows, ownR slRow rows, .sl sb_.val 3 1 eI B.1, .sl ss.val 3 1 eI stops] := Sm.join1 S
  refine KX_cons ?_; refine ixS2 S rfl rfl ?_; refine KO_nil ⟨⟨by (first | exact True.intro), rfl⟩, ?_⟩
  refine KX_cons ?_; refine sE2 (y := (⟨s2, x0.r ++ [t]⟩ : Row_)) S rfl rfl ?_; have S0 := S; clear S; intro h S; refine KO_nil ⟨⟨True.intro, ?_⟩, ?_⟩; (focus ((show keepsX _ _ _ _ _; simp only [keepsX]; (repeat' (first | exact True.intro | refine And.intro ?_ ?_)); all_goals (intro hw; first | exact absurd hw (by decide +kernel))))); clear S0
  (refine KX_nil ?_)
  replace S : Hs h0 h [slRow ⟨s2, x0.r ++ [t]⟩, .sl so.val 25 1 eRow (rows.set w0 ⟨s2, x0.r ++ [t]⟩), ownR slRow rows, .sl sb_.val 3 1 eI B.1, .sl ss.val 3 1 eI stops] := S
  have S := (show Hs h0 h [ownR slRow rows, slRow ⟨s2, x0.r ++ [t]⟩, .sl so.val 25 1 eRow (rows.set w0 ⟨s2, x0.r ++ [t]⟩), .sl sb_.val 3 1 eI B.1, .sl ss.val 3 1 eI stops] from S.pick)
  have S := S.owOpen (f := slRow) (i := w0) (by omega)
  rw [hx0] at S
  have S := (show Hs h0 h [slRow ⟨s2, x0.r ++ [t]⟩, ownR slRow (rows.take w0 ++ rows.drop (w0 + 1)), .sl so.val 25 1 eRow (rows.set w0 ⟨s2, x0.r ++ [t]⟩), .sl sb_.val 3 1 eI B.1, .sl ss.val 3 1 eI stops] from S.pick)
  have S := S.owShut (i := w0) (by omega)
  all_goals (repeat' (first | (refine K_region (id := 25) ?_; refine mv ?_; refine ad ?_; refine mv ?_; refine KO_nil ?_)))
  refine ⟨(i + 1, rows.set w0 ⟨s2, x0.r ++ [t]⟩), ?_, ?_, (by repeat (first | exact Ks.le_nil _ | refine Ks.le_cons rfl ?_))⟩
  ·show stops.length - (i + 1) < stops.length - i; omega
  ·refine ⟨S.pick, by omega, by rw [List.length_set]; exact g2, fun v hv => ?_⟩
   rw [getD_setR (by omega), divL_s hi hiB, hw0]
   by_cases e : w0 = v
   ·subst e
    rw [if_pos rfl, if_pos rfl, ← hr0]
    have : stops.getD i default = t := ht
    rw [this]
   ·rw [if_neg e, if_neg (by omega)]
    exact g3 v hv
 ·obtain rfl : i = stops.length := by omega
  all_goals (repeat' (first | (refine K_region (id := 29) ?_; refine mv ?_; refine mv ?_; refine mv ?_; refine mv ?_; refine KO_nil ?_)))
  refine K_ret ⟨_, rfl, ?_⟩
  exact ⟨so.val, rows, rfl, S.pick, g2, fun v hv => g3 v hv⟩
end Go.Proofs.Xx
namespace Go.Proofs.Xx
open Go Go.Proofs
set_option linter.unusedSimpArgs false
set_option linter.unusedVariables false
set_option linter.unusedSectionVars false
set_option maxRecDepth 100000
set_option maxHeartbeats 4000000
variable [Flag]
theorem rtwo_ok {h0 : AH} (w : WfH h0) (k : Int) : Fn Tryz.prog Xh 116 [.int .u8 k] h0 (fun v h' => BoolIs v (1 ≤ k ∧ k ≤ 5) ∧ Hs h0 h' []) := by
 have S := Hs.start w
 refine Fn_K (by first | rfl) Tryz.func116 rfl rfl ?_
 all_goals (repeat' (first | refine K_seq ?_ | (refine K_region (id := 0) ?_; refine mv ?_; refine KO_nil ?_) | (refine K_region (id := 1) ?_; refine mv ?_; (first | (refine cS ?_ ?_ <;> intro hc)) <;> (refine mv ?_; (first | refine off ?_ | refine mv ?_); (first | refine off ?_ | (first | (refine cS ?_ ?_ <;> intro hc))) <;> (refine vl ?_; refine mv ?_; (first | refine off ?_ | refine mv ?_); (first | refine off ?_ | (first | (refine cS ?_ ?_ <;> intro hc))) <;> (refine vl ?_; refine mv ?_; (first | refine off ?_ | refine mv ?_); (first | refine off ?_ | (first | (refine cS ?_ ?_ <;> intro hc))) <;> (refine vl ?_; refine mv ?_; (first | refine off ?_ | refine mv ?_); (first | refine off ?_ | (first | (refine cS ?_ ?_ <;> intro hc))) <;> (refine vl ?_; refine mv ?_; refine KO_nil ?_))))))))
 all_goals (refine K_ret ⟨_, rfl, ?_⟩)
 all_goals (refine ⟨?_, S⟩; unfold BoolIs)
 all_goals first | exact .inl ⟨rfl, by omega⟩ | exact .inr ⟨rfl, by omega⟩
theorem rone_ok {h0 : AH} (w : WfH h0) (k : Int) : Fn Tryz.prog Xh 117 [.int .u8 k] h0 (fun v h' => BoolIs v (k = 6 ∨ k = 7 ∨ k = 10) ∧ Hs h0 h' []) := by
 have S := Hs.start w
 refine Fn_K (by first | rfl) Tryz.func117 rfl rfl ?_
 all_goals (repeat' (first | refine K_seq ?_ | (refine K_region (id := 0) ?_; refine mv ?_; refine KO_nil ?_) | (refine K_region (id := 1) ?_; refine mv ?_; (first | (refine cS ?_ ?_ <;> intro hc)) <;> (refine mv ?_; (first | refine off ?_ | refine mv ?_); (first | refine off ?_ | (first | (refine cS ?_ ?_ <;> intro hc))) <;> (refine vl ?_; refine mv ?_; (first | refine off ?_ | refine mv ?_); (first | refine off ?_ | (first | (refine cS ?_ ?_ <;> intro hc))) <;> (refine vl ?_; refine mv ?_; refine KO_nil ?_))))))
 all_goals (refine K_ret ⟨_, rfl, ?_⟩)
 all_goals (refine ⟨?_, S⟩; unfold BoolIs)
 all_goals first | exact .inl ⟨rfl, by omega⟩ | exact .inr ⟨rfl, by omega⟩
theorem rnumber_ok {h0 : AH} (w : WfH h0) (k : Int) : Fn Tryz.prog Xh 119 [.int .u8 k] h0 (fun v h' => BoolIs v (k = 1 ∨ k = 4 ∨ k = 7 ∨ k = 15 ∨ k = 16) ∧ Hs h0 h' []) := by
 have S := Hs.start w
 refine Fn_K (by first | rfl) Tryz.func119 rfl rfl ?_
 all_goals (repeat' (first | refine K_seq ?_ | (refine K_region (id := 0) ?_; refine mv ?_; refine KO_nil ?_) | (refine K_region (id := 1) ?_; refine mv ?_; (first | (refine cS ?_ ?_ <;> intro hc)) <;> (refine mv ?_; (first | refine off ?_ | refine mv ?_); (first | refine off ?_ | (first | (refine cS ?_ ?_ <;> intro hc))) <;> (refine vl ?_; refine mv ?_; (first | refine off ?_ | refine mv ?_); (first | refine off ?_ | (first | (refine cS ?_ ?_ <;> intro hc))) <;> (refine vl ?_; refine mv ?_; (first | refine off ?_ | refine mv ?_); (first | refine off ?_ | (first | (refine cS ?_ ?_ <;> intro hc))) <;> (refine vl ?_; refine mv ?_; (first | refine off ?_ | refine mv ?_); (first | refine off ?_ | (first | (refine cS ?_ ?_ <;> intro hc))) <;> (refine vl ?_; refine mv ?_; refine KO_nil ?_))))))))
 all_goals (refine K_ret ⟨_, rfl, ?_⟩)
 all_goals (refine ⟨?_, S⟩; unfold BoolIs)
 all_goals first | exact .inl ⟨rfl, by omega⟩ | exact .inr ⟨rfl, by omega⟩
theorem rtables_ok {h0 : AH} (w : WfH h0) (k : Int) : Fn Tryz.prog Xh 118 [.int .u8 k] h0 (fun v h' => ∃ n : Int, v = .int .i64 n ∧ ((((1 ≤ k ∧ k ≤ 5) ∨ k = 10) ∧ n = 0) ∨ ((k = 6 ∨ k = 7 ∨ k = 17) ∧ n = 1) ∨ (¬ (1 ≤ k ∧ k ≤ 7) ∧ k ≠ 10 ∧ k ≠ 17 ∧ n = 2)) ∧ Hs h0 h' []) := by
 have S := Hs.start w
 refine Fn_K (by first | rfl) Tryz.func118 rfl rfl ?_
 all_goals (repeat' (first | refine K_seq ?_ | (refine K_region (id := 0) ?_; refine mv ?_; refine KO_nil ?_) | (refine K_region (id := 1) ?_; refine mv ?_)))
 (refine KO_fn rfl rfl rfl rfl rfl ((rtwo_ok S.wf k).mono ?_); rintro _ h ⟨⟨rfl, z⟩ | ⟨rfl, z⟩, x⟩) <;> (replace S := S.join0 x; clear x; refine mv ?_; (first | refine off ?_ | refine mv ?_); (first | refine off ?_ | (first | (refine cS ?_ ?_ <;> intro hc))) <;> (refine vl ?_; refine KO_nil ?_))
 all_goals (repeat' (first | refine K_seq ?_ | refine k_cond rfl ?_ | refine K_skip ?_ | (refine K_region (id := 2) ?_; refine mv ?_; refine KO_nil ?_) | (refine K_region (id := 3) ?_; refine mv ?_; (first | (refine cS ?_ ?_ <;> intro hc)) <;> (refine mv ?_; (first | refine off ?_ | refine mv ?_); (first | refine off ?_ | (first | (refine cS ?_ ?_ <;> intro hc))) <;> (refine vl ?_; refine mv ?_; (first | refine off ?_ | refine mv ?_); (first | refine off ?_ | (first | (refine cS ?_ ?_ <;> intro hc))) <;> (refine vl ?_; refine KO_nil ?_)))) | (refine K_region (id := 4) ?_; refine mv ?_; refine KO_nil ?_) | (refine K_region (id := 5) ?_; refine mv ?_; refine KO_nil ?_)))
 all_goals (refine K_ret ⟨_, rfl, ?_⟩)
 all_goals refine ⟨_, rfl, ?_, S⟩
 all_goals omega
theorem rtableAt_ok {h0 : AH} (w : WfH h0) (v : Value) (l : List Tab) (hr : RdL h0 v 7 eT l) (hl : l.length ≤ 9223372036854775807) (n : List UInt8) : Fn Tryz.prog Xh 122 [v, str n] h0 (fun u h' => ((u = .int .i64 (tix l n) ∧ hasT l n) ∨ (u = .int .i64 (-1) ∧ ¬ hasT l n)) ∧ Hs h0 h' []) := by
 have S := Hs.start w
 refine Fn_K (by first | rfl) Tryz.func122 rfl rfl ?_
 all_goals (repeat' (first | refine K_seq ?_ | refine k_block ?_ | (refine K_region (id := 0) ?_; refine mv ?_; refine KO_nil ?_) | (refine K_region (id := 1) ?_; refine mv ?_; refine KO_nil ?_)))
 refine k_loop (σ := Nat) (fun i h' => Hs h0 h' [] ∧ i ≤ l.length ∧ ∀ j, j < i → ¬ (tb l j).name = n) (fun i => l.length - i) (fun i => [(0, v), (1, str n), (5, .int .i64 i)]) 0 (by repeat (first | exact Ks.le_nil _ | refine Ks.le_cons rfl ?_)) ?_ ?_
 ·exact ⟨S, Nat.zero_le _, fun j hj => absurd hj (Nat.not_lt_zero _)⟩
 clear S
 rintro i h ⟨S, g1, g2⟩
 all_goals (repeat' (first | refine K_seq ?_ | refine k_cond rfl ?_ | refine K_skip ?_ | refine K_exit ?_ | refine k_block ?_ | (refine K_region (id := 2) ?_; refine mv ?_; refine mv ?_; refine lnB S ?_; (first | (refine cS ?_ ?_ <;> intro hc)) <;> (refine KO_nil ?_)) | (refine K_region (id := 3) ?_; refine mv ?_; refine ad ?_; refine mv ?_; refine KO_nil ?_) | (refine K_region (id := 4) ?_; refine mv ?_; refine mv ?_; refine ixB S ?_; refine fB S ?_; refine lEB S ?_; refine mv ?_; (refine tS ?_ ?_ <;> intro hc) <;> (refine KO_nil ?_)) | (refine K_region (id := 5) ?_; refine mv ?_; refine mv ?_; refine KO_nil ?_) | (refine K_region (id := 6) ?_; refine mv ?_; refine KO_nil ?_)))
 all_goals (try simp only [Int.toNat_natCast] at *)
 ·refine K_ret ⟨_, rfl, ?_⟩
  have hi : i < l.length := by omega
  exact ⟨.inl ⟨by rw [tix_eq hi hc g2]; rfl, i, hi, hc⟩, S⟩
 ·refine ⟨i + 1, ?_, ?_, (by repeat (first | exact Ks.le_nil _ | refine Ks.le_cons rfl ?_))⟩
  ·show l.length - (i + 1) < l.length - i; omega
  ·refine ⟨S, by omega, fun j hj => ?_⟩
   rcases Nat.lt_or_ge j i with q | q
   ·exact g2 j q
   ·obtain rfl : j = i := by omega
    exact hc
 ·refine K_ret ⟨_, rfl, ?_⟩
  exact ⟨.inr ⟨rfl, fun ⟨j, hj, he⟩ => g2 j (by omega) he⟩, S⟩
end Go.Proofs.Xx
namespace Go.Proofs.Xx
open Go Go.Proofs
set_option linter.unusedSimpArgs false
set_option linter.unusedVariables false
set_option linter.unusedSectionVars false
set_option maxRecDepth 100000
set_option maxHeartbeats 4000000
variable [Flag]
theorem hrefName_ok {h0 : AH} (w : WfH h0) (s : List UInt8) (hs : s.length ≤ 9223372036854775807) : Fn Tryz.prog Xh 199 [str s] h0 (fun v h' => BoolIs v (nameP s) ∧ Hs h0 h' []) := by
 have S := Hs.start w
 refine Fn_K (by first | rfl) Tryz.func199 rfl rfl ?_
 all_goals (repeat' (first | refine K_seq ?_ | refine k_cond rfl ?_ | refine K_skip ?_ | refine k_block ?_ | (refine K_region (id := 0) ?_; refine mv ?_; refine KO_nil ?_) | (refine K_region (id := 1) ?_; refine mv ?_; refine tl ?_; (first | (refine cS ?_ ?_ <;> intro hc)) <;> (refine mv ?_; (first | refine off ?_ | refine mv ?_); (first | refine off ?_ | refine tl ?_); (first | refine off ?_ | (first | (refine cS ?_ ?_ <;> intro hc))) <;> (refine vl ?_; refine KO_nil ?_))) | (refine K_region (id := 2) ?_; refine mv ?_; refine KO_nil ?_) | (refine K_region (id := 3) ?_; refine mv ?_; refine KO_nil ?_)))
 ·refine K_ret ⟨_, rfl, ?_⟩
  exact ⟨.inr ⟨rfl, fun q => by have := q.1; omega⟩, S.drop⟩
 ·refine K_ret ⟨_, rfl, ?_⟩
  exact ⟨.inr ⟨rfl, fun q => by have := q.2.1; omega⟩, S.drop⟩
 rename_i hc1
 refine k_loop (σ := Nat) (fun i h' => Hs h0 h' [] ∧ i ≤ s.length ∧ ∀ j, j < i → lowB (s.getD j default)) (fun i => s.length - i) (fun i => [(0, str s), (3, .int .i64 i)]) 0 (by repeat (first | exact Ks.le_nil _ | refine Ks.le_cons rfl ?_)) ?_ ?_
 ·exact ⟨S, Nat.zero_le _, fun j hj => absurd hj (Nat.not_lt_zero _)⟩
 clear S
 rintro i h ⟨S, h1, h2⟩
 all_goals (repeat' (first | refine K_seq ?_ | refine k_cond rfl ?_ | refine K_skip ?_ | refine K_exit ?_ | refine k_block ?_ | (refine K_region (id := 4) ?_; refine mv ?_; refine mv ?_; refine tl ?_; (first | (refine cS ?_ ?_ <;> intro hc)) <;> (refine KO_nil ?_)) | (refine K_region (id := 5) ?_; refine mv ?_; refine ad ?_; refine mv ?_; refine KO_nil ?_) | (refine K_region (id := 6) ?_; refine mv ?_; refine mv ?_; refine ti ?_; (first | (refine cS ?_ ?_ <;> intro hc)) <;> (refine mv ?_; (first | refine off ?_ | refine mv ?_); (first | refine off ?_ | refine mv ?_); (first | refine off ?_ | (refine ti ?_)); (first | refine off ?_ | (first | (refine cS ?_ ?_ <;> intro hc))) <;> (refine vl ?_; refine KO_nil ?_))) | (refine K_region (id := 7) ?_; refine mv ?_; refine KO_nil ?_) | (refine K_region (id := 8) ?_; refine mv ?_; refine KO_nil ?_)))
 all_goals (try simp only [Int.toNat_natCast] at *)
 ·refine K_ret ⟨_, rfl, ?_⟩
  exact ⟨.inr ⟨rfl, fun q => by have := q.2.2 i (by omega); unfold lowB at this; simp only [show (default : UInt8) = 0 from rfl] at this; omega⟩, S.drop⟩
 ·refine K_ret ⟨_, rfl, ?_⟩
  exact ⟨.inr ⟨rfl, fun q => by have := q.2.2 i (by omega); unfold lowB at this; simp only [show (default : UInt8) = 0 from rfl] at this; omega⟩, S.drop⟩
 ·refine ⟨i + 1, ?_, ?_, (by repeat (first | exact Ks.le_nil _ | refine Ks.le_cons rfl ?_))⟩
  ·show s.length - (i + 1) < s.length - i; omega
  ·refine ⟨S, by omega, fun j hj => ?_⟩
   rcases Nat.lt_or_ge j i with q | q
   ·exact h2 j q
   ·have e : j = i := by omega
    subst e
    unfold lowB
    simp only [show (default : UInt8) = 0 from rfl]
    omega
 all_goals (refine K_ret ⟨_, rfl, ?_⟩)
 exact ⟨.inl ⟨rfl, by omega, by omega, fun j hj => h2 j (by omega)⟩, S.drop⟩
theorem hrefCheck_ok {h0 : AH} (w : WfH h0) (t : Tab) (r : TabR h0 t) : Fn Tryz.prog Xh 147 [tabV t] h0 (fun v h' => v = .int .i64 (chk t) ∧ Hs h0 h' []) := by
 have S := Hs.start w
 have hts := tsize_le t
 obtain ⟨hr, hnm, hol⟩ := r
 refine Fn_K (by first | rfl) Tryz.func147 rfl rfl ?_
 all_goals (repeat' (first | refine K_seq ?_ | (refine K_region (id := 0) ?_; (refine bx S ?_; clear S; intro b h S); refine mv ?_; refine KO_nil ?_) | (refine K_region (id := 1) ?_; refine lB S rfl rfl ?_)))
 (refine KO_fn rfl rfl rfl rfl rfl ((refSize_ok S.wf t).mono ?_); rintro _ h ⟨rfl, x⟩) <;> (replace S := S.join0 x; clear x; refine mv ?_; refine KO_nil ?_)
 all_goals (repeat' (first | refine K_seq ?_ | (refine K_region (id := 2) ?_; refine vl ?_; refine lB S rfl rfl ?_)))
 (refine KO_fn rfl rfl rfl rfl rfl ((hrefName_ok S.wf t.name hnm).mono ?_); rintro _ h ⟨⟨rfl, hq⟩ | ⟨rfl, hq⟩, x⟩) <;> (replace S := S.join0 x; clear x; refine vl ?_; refine KO_nil ?_)
 all_goals (repeat' (first | refine K_seq ?_ | refine k_cond rfl ?_ | refine K_skip ?_ | refine k_block ?_ | (refine K_region (id := 3) ?_; refine mv ?_; refine KO_nil ?_) | (refine K_region (id := 4) ?_; refine mv ?_; (first | (refine cS ?_ ?_ <;> intro hc)) <;> (refine KO_nil ?_)) | (refine K_region (id := 5) ?_; refine mv ?_; refine KO_nil ?_) | (refine K_region (id := 6) ?_; refine mv ?_; refine KO_nil ?_)))
 ·refine K_ret ⟨_, rfl, ?_⟩
  exact ⟨by unfold chk; rw [if_neg (by simpa using hq), if_pos hc]; rfl, S.drop⟩
 ·refine k_loop (σ := Nat) (fun i h' => Hs h0 h' [.blk b (tabV t).cells.toList 95] ∧ i ≤ t.opn.length ∧ (∀ j, j < i → (0 ≤ t.opn.getD j default ∧ t.opn.getD j default < tsize t) ∧ (0 < j → t.opn.getD (j - 1) default < t.opn.getD j default))) (fun i => t.opn.length - i) (fun i => [(1, .pointer (some ⟨b, 0, none⟩)), (3, .int .i64 (tsize t)), (4, .int .i64 i)]) 0 (by repeat (first | exact Ks.le_nil _ | refine Ks.le_cons rfl ?_)) ?_ ?_
  ·exact ⟨S, Nat.zero_le _, fun j hj => absurd hj (Nat.not_lt_zero _)⟩
  clear S
  rintro i h ⟨S, h1, h2⟩
  all_goals (repeat' (first | refine K_seq ?_ | refine k_cond rfl ?_ | refine K_skip ?_ | refine K_exit ?_ | refine k_block ?_ | (refine K_region (id := 7) ?_; refine mv ?_; refine vl ?_; refine lB S rfl rfl ?_; refine lnB S ?_; (first | (refine cS ?_ ?_ <;> intro hc)) <;> (refine KO_nil ?_)) | (refine K_draw (id := 9) ?_; refine vl ?_; refine lB S rfl rfl ?_; refine mv ?_; refine ixB S ?_; refine lEB S ?_; refine mv ?_; refine sb ?_) | (refine K_region (id := 11) ?_; refine vl ?_; refine lB S rfl rfl ?_)))
  ·(refine KO_fn rfl rfl rfl rfl rfl ((within_ok _ _ _).mono ?_); rintro _ _ ⟨⟨rfl, hq3⟩ | ⟨rfl, hq3⟩, rfl⟩) <;> (refine vl ?_; refine mv ?_; (first | refine off ?_ | refine mv ?_); (first | refine off ?_ | (first | (refine cS ?_ ?_ <;> intro hc))) <;> ((first | refine off ?_ | refine mv ?_); (first | refine off ?_ | (refine vl ?_)); (first | refine off ?_ | (refine lB S rfl rfl ?_)); (first | refine off ?_ | refine mv ?_); (first | refine off ?_ | (refine ixB S ?_)); (first | refine off ?_ | (refine lEB S ?_)); (first | refine off ?_ | (refine vl ?_)); (first | refine off ?_ | (refine lB S rfl rfl ?_)); (first | refine off ?_ | refine mv ?_); (first | refine off ?_ | (refine sb ?_)); (first | refine off ?_ | (refine ixB S ?_)); (first | refine off ?_ | (refine lEB S ?_)); (first | refine off ?_ | (first | (refine cS ?_ ?_ <;> intro hc))) <;> ((first | refine off ?_ | refine vl ?_); refine vl ?_; refine KO_nil ?_)))
   all_goals (repeat' (first | refine K_seq ?_ | refine k_cond rfl ?_ | refine K_skip ?_ | (refine K_region (id := 8) ?_; refine mv ?_; refine ad ?_; refine mv ?_; refine KO_nil ?_) | (refine K_region (id := 10) ?_; refine mv ?_; refine KO_nil ?_)))
   all_goals (try simp only [Int.toNat_natCast] at *)
   ·refine K_ret ⟨_, rfl, ?_⟩
    refine ⟨?_, S.drop⟩
    rw [show ((i : Int) - 1).toNat = i - 1 by omega] at hc
    have : ¬ OpnOk (tsize t) t.opn := fun q => by have q1 := (q i (by omega)).2 (by omega); omega
    unfold chk; rw [if_neg (by simpa using hq), if_neg (by assumption), if_pos this]; rfl
   ·refine ⟨i + 1, ?_, ?_, (by repeat (first | exact Ks.le_nil _ | refine Ks.le_cons rfl ?_))⟩
    ·show t.opn.length - (i + 1) < t.opn.length - i; omega
    ·rw [show ((i : Int) - 1).toNat = i - 1 by omega] at hc
     refine ⟨S, by omega, fun j hj => ?_⟩
     rcases Nat.lt_or_ge j i with q | q
     ·exact h2 j q
     ·have e : j = i := by omega
      subst e
      exact ⟨by omega, fun q => by omega⟩
   ·refine ⟨i + 1, ?_, ?_, (by repeat (first | exact Ks.le_nil _ | refine Ks.le_cons rfl ?_))⟩
    ·show t.opn.length - (i + 1) < t.opn.length - i; omega
    ·refine ⟨S, by omega, fun j hj => ?_⟩
     have e : j = i := by omega
     subst e
     exact ⟨by omega, fun q => by omega⟩
   ·refine K_ret ⟨_, rfl, ?_⟩
    refine ⟨?_, S.drop⟩
    have : ¬ OpnOk (tsize t) t.opn := fun q => by have q1 := (q i (by omega)).1; omega
    unfold chk; rw [if_neg (by simpa using hq), if_neg (by assumption), if_pos this]; rfl
  have hok : OpnOk (tsize t) t.opn := fun j hj => h2 j (by omega)
  (refine KO_fn rfl rfl rfl rfl rfl ((within_ok _ _ _).mono ?_); rintro _ _ ⟨⟨rfl, hq3⟩ | ⟨rfl, hq3⟩, rfl⟩) <;> (refine vl ?_; refine mv ?_; (first | refine off ?_ | (refine vl ?_)); (first | refine off ?_ | (refine lB S rfl rfl ?_)); (first | (refine off ?_; refine off ?_; refine vl ?_; refine KO_nil ?_) | skip))
  any_goals ((refine KO_fn rfl rfl rfl rfl rfl ((within_ok _ _ _).mono ?_); rintro _ _ ⟨⟨rfl, hq4⟩ | ⟨rfl, hq4⟩, rfl⟩) <;> ((refine vl ?_); refine vl ?_; refine KO_nil ?_))
  all_goals (repeat' (first | refine K_seq ?_ | refine k_cond rfl ?_ | refine K_skip ?_ | (refine K_region (id := 12) ?_; refine mv ?_; refine KO_nil ?_) | (refine K_region (id := 13) ?_; refine mv ?_; refine KO_nil ?_)))
  all_goals
   refine K_ret ⟨_, rfl, ?_⟩
   refine ⟨?_, S.drop⟩
   unfold chk; rw [if_neg (by simpa using hq), if_neg (by assumption), if_neg (by simpa using hok)]
   first
    | (rw [if_pos (by unfold XYok; omega)]; rfl)
    | (rw [if_neg (by unfold XYok; omega)]; rfl)
 ·refine K_ret ⟨_, rfl, ?_⟩
  exact ⟨by unfold chk; rw [if_pos (by simpa using hq)]; rfl, S.drop⟩
theorem refCheckAll_ok {h0 : AH} (w : WfH h0) (v : Value) (l : List Tab) (H : HallR h0 v l) : Fn Tryz.prog Xh 113 [v] h0 (fun r h' => ∃ i e, r = .tuple #[.int .i64 i, .int .i64 e] ∧ ChkAll l i e ∧ Hs h0 h' []) := by
 have S := Hs.start w
 have hl := H.len
 have hr := H.rd
 refine Fn_K (by first | rfl) Tryz.func113 rfl rfl ?_
 all_goals (repeat' (first | refine K_seq ?_ | refine k_cond rfl ?_ | refine K_skip ?_ | refine k_block ?_ | (refine K_region (id := 0) ?_; refine mv ?_; refine mv ?_; refine KO_nil ?_) | (refine K_region (id := 1) ?_; refine mv ?_; refine lnB S ?_; (first | (refine cS ?_ ?_ <;> intro hc)) <;> (refine KO_nil ?_)) | (refine K_region (id := 2) ?_; refine mv ?_; refine mv ?_; refine KO_nil ?_) | (refine K_region (id := 3) ?_; refine mv ?_; refine KO_nil ?_)))
 ·refine K_ret ⟨_, rfl, ?_⟩
  exact ⟨0, 7, rfl, .inl ⟨by omega, rfl, rfl⟩, S⟩
 ·refine k_loop (σ := Nat) (fun i h' => Hs h0 h' [] ∧ i ≤ l.length ∧ ∀ j, j < i → goodAt l j) (fun i => l.length - i) (fun i => [(0, v), (4, .int .i64 i)]) 0 (by repeat (first | exact Ks.le_nil _ | refine Ks.le_cons rfl ?_)) ?_ ?_
  ·exact ⟨S, Nat.zero_le _, fun j hj => absurd hj (Nat.not_lt_zero _)⟩
  clear S
  rintro i h ⟨S, h1, h2⟩
  all_goals (repeat' (first | refine K_seq ?_ | refine k_cond rfl ?_ | refine K_skip ?_ | refine K_exit ?_ | refine k_block ?_ | (refine K_region (id := 4) ?_; refine mv ?_; refine mv ?_; refine lnB S ?_; (first | (refine cS ?_ ?_ <;> intro hc)) <;> (refine KO_nil ?_)) | (refine K_region (id := 6) ?_; refine mv ?_; refine mv ?_; refine ixB S ?_; refine lEB S ?_) | (refine K_region (id := 14) ?_; refine mv ?_; refine mv ?_; refine KO_nil ?_)))
  ·(try simp only [Int.toNat_natCast] at *)
   have hi : i < l.length := by omega
   (refine KO_fn rfl rfl rfl rfl rfl ((hrefCheck_ok S.wf (tb l i) ((H.tab i hi).ext w S.ext)).mono ?_); rintro _ h ⟨rfl, x⟩) <;> (replace S := S.join0 x; clear x; refine mv ?_; refine KO_nil ?_)
   all_goals (repeat' (first | refine K_seq ?_ | refine k_cond rfl ?_ | refine K_skip ?_ | refine k_block ?_ | (refine K_region (id := 7) ?_; refine mv ?_; (first | (refine cS ?_ ?_ <;> intro hc)) <;> (refine KO_nil ?_)) | (refine K_region (id := 8) ?_; refine mv ?_; refine mv ?_; refine mv ?_; refine mv ?_; refine KO_nil ?_) | (refine K_region (id := 9) ?_; refine mv ?_; refine KO_nil ?_)))
   ·refine K_ret ⟨_, rfl, ?_⟩
    exact ⟨i, _, rfl, .inr ⟨by omega, .inl ⟨i, hi, rfl, h2, .inl ⟨by simpa using hc, rfl⟩⟩⟩, S.drop⟩
   ·have hc0 : chk (tb l i) = 0 := by simpa using hc
    refine k_loop (σ := Nat) (fun k h' => Hs h0 h' [] ∧ k ≤ i ∧ ∀ j, j < k → ¬ (tb l j).name = (tb l i).name) (fun k => i - k) (fun k => [(0, v), (4, .int .i64 i), (6, .int .i64 k)]) 0 (by repeat (first | exact Ks.le_nil _ | refine Ks.le_cons rfl ?_)) ?_ ?_
    ·exact ⟨S, Nat.zero_le _, fun j hj => absurd hj (Nat.not_lt_zero _)⟩
    clear S
    rintro k h ⟨S, k1, k2⟩
    all_goals (repeat' (first | refine K_seq ?_ | refine k_cond rfl ?_ | refine K_skip ?_ | refine K_exit ?_ | refine k_block ?_ | (refine K_region (id := 5) ?_; refine mv ?_; refine ad ?_; refine mv ?_; refine KO_nil ?_) | (refine K_region (id := 10) ?_; refine mv ?_; refine mv ?_; (first | (refine cS ?_ ?_ <;> intro hc)) <;> (refine KO_nil ?_)) | (refine K_region (id := 11) ?_; refine mv ?_; refine ad ?_; refine mv ?_; refine KO_nil ?_) | (refine K_draw (id := 12) ?_; refine mv ?_; refine mv ?_; refine ixB S ?_; refine fB S ?_; refine lEB S ?_; refine mv ?_; refine mv ?_; refine ixB S ?_; refine fB S ?_; refine lEB S ?_; (refine tS ?_ ?_ <;> intro hc) <;> (refine KO_nil ?_)) | (refine K_region (id := 13) ?_; refine mv ?_; refine mv ?_; refine mv ?_; refine KO_nil ?_)))
    ·(try simp only [Int.toNat_natCast] at *)
     refine K_ret ⟨_, rfl, ?_⟩
     exact ⟨i, 5, rfl, .inr ⟨by omega, .inl ⟨i, hi, rfl, h2, .inr ⟨hc0, ⟨k, by omega, by assumption⟩, rfl⟩⟩⟩, S⟩
    ·(try simp only [Int.toNat_natCast] at *)
     refine ⟨k + 1, ?_, ?_, (by repeat (first | exact Ks.le_nil _ | refine Ks.le_cons rfl ?_))⟩
     ·show i - (k + 1) < i - k; omega
     ·refine ⟨S, by omega, fun j hj => ?_⟩
      rcases Nat.lt_or_ge j k with q | q
      ·exact k2 j q
      ·obtain rfl : j = k := by omega
       assumption
    ·refine ⟨i + 1, ?_, ?_, (by repeat (first | exact Ks.le_nil _ | refine Ks.le_cons rfl ?_))⟩
     ·show l.length - (i + 1) < l.length - i; omega
     ·refine ⟨S, by omega, fun j hj => ?_⟩
      rcases Nat.lt_or_ge j i with q | q
      ·exact h2 j q
      ·obtain rfl : j = i := by omega
       exact ⟨hc0, fun ⟨m, hm, he⟩ => k2 m (by omega) he⟩
  ·refine K_ret ⟨_, rfl, ?_⟩
   exact ⟨0, 0, rfl, .inr ⟨by omega, .inr ⟨fun j hj => h2 j (by omega), rfl, rfl⟩⟩, S⟩
theorem refAt_ok {h0 : AH} (w : WfH h0) (v : Value) (gs : List Gst) (hr : RdL h0 v 9 eG gs) (hl : gs.length ≤ 9223372036854775807) (n : List UInt8) : Fn Tryz.prog Xh 120 [v, str n] h0 (fun u h' => ((∃ i : Nat, gat (gs.map (·.toGu)) n = some i ∧ i < gs.length ∧ u = .int .i64 i) ∨ (gat (gs.map (·.toGu)) n = none ∧ u = .int .i64 (-1))) ∧ Hs h0 h' []) := by
 have S := Hs.start w
 refine Fn_K (by first | rfl) Tryz.func120 rfl rfl ?_
 all_goals (repeat' (first | refine K_seq ?_ | refine k_block ?_ | (refine K_region (id := 0) ?_; refine mv ?_; refine KO_nil ?_) | (refine K_region (id := 1) ?_; refine mv ?_; refine KO_nil ?_)))
 refine k_loop (σ := Nat) (fun i h' => Hs h0 h' [] ∧ i ≤ gs.length ∧ ∀ j, j < i → (gs.getD j default).name ≠ n) (fun i => gs.length - i) (fun i => [(0, v), (1, str n), (5, .int .i64 i)]) 0 (by repeat (first | exact Ks.le_nil _ | refine Ks.le_cons rfl ?_)) ?_ ?_
 ·exact ⟨S, Nat.zero_le _, fun j hj => absurd hj (Nat.not_lt_zero _)⟩
 clear S
 rintro i h ⟨S, g1, g2⟩
 have e : ∀ j, j < gs.length → ((gs.map (fun g : Gst => g.toGu)).getD j default).name = (gs.getD j default).name := fun j hj => by rw [map_getD (f := fun g : Gst => g.toGu) hj]
 all_goals (repeat' (first | refine K_seq ?_ | refine k_cond rfl ?_ | refine K_skip ?_ | refine K_exit ?_ | refine k_block ?_ | (refine K_region (id := 2) ?_; refine mv ?_; refine mv ?_; refine lnB S ?_; (first | (refine cS ?_ ?_ <;> intro hc)) <;> (refine KO_nil ?_))))
 ·have hil : i < gs.length := by omega
  all_goals (repeat' (first | refine K_seq ?_ | refine k_cond rfl ?_ | refine K_skip ?_ | (refine K_region (id := 4) ?_; refine mv ?_; refine mv ?_; refine ixB S ?_; refine fB S ?_; refine lEB S ?_; refine mv ?_; (refine tS ?_ ?_ <;> intro hc) <;> (refine KO_nil ?_)) | (refine K_region (id := 5) ?_; refine mv ?_; refine mv ?_; refine KO_nil ?_)))
  all_goals (try simp only [Int.toNat_natCast] at *)
  ·refine K_ret ⟨_, rfl, ?_⟩
   refine ⟨.inl ⟨i, ?_, hil, rfl⟩, S⟩
   cases hq : gat (gs.map (·.toGu)) n with
   | none => exact absurd (by rw [e i hil]; exact hc) (gat_none.1 hq _ (mem_getD (show i < (gs.map (·.toGu)).length by simp; exact hil)))
   | some k =>
    obtain ⟨h1, h2, h3⟩ := gat_some hq
    simp only [List.length_map] at h1
    rw [e k h1] at h2
    rcases Nat.lt_trichotomy i k with q | q | q
    ·exact absurd (by rw [e i hil]; exact hc) (h3 i q)
    ·rw [q]
    ·exact absurd h2 (g2 k q)
  ·all_goals (repeat' (first | (refine K_region (id := 3) ?_; refine mv ?_; refine ad ?_; refine mv ?_; refine KO_nil ?_)))
   refine ⟨i + 1, ?_, ?_, (by repeat (first | exact Ks.le_nil _ | refine Ks.le_cons rfl ?_))⟩
   ·show gs.length - (i + 1) < gs.length - i; omega
   ·exact ⟨S, by omega, nxtD g2 hc⟩
 ·skip
  all_goals (repeat' (first | (refine K_region (id := 6) ?_; refine mv ?_; refine KO_nil ?_)))
  refine K_ret ⟨_, rfl, ?_⟩
  refine ⟨.inr ⟨gat_none.2 fun g hg => ?_, rfl⟩, S⟩
  obtain ⟨j, hj, rfl⟩ := mem_iff_getD.1 hg
  simp only [List.length_map] at hj
  rw [e j hj]; exact g2 j (by omega)
theorem tE0_23 {r : Rl} {i : Nat} (h : ¬ ((r.ts.getD i default).k = 1 ∨ (r.ts.getD i default).k = 2) ∨ ¬ sLt (r.ts.getD i default).a (r.ts.getD i default).b ∨ (0 < i ∧ bef (r.ts.getD i default) (r.ts.getD (i - 1) default))) : tE0 r i = 23 := by
 unfold tE0
 split
 ·rename_i q
  rcases h with h | h | h
  ·unfold tieF
   rw [if_pos (.inl (by omega))]
  ·exact absurd q.1 h
  ·rcases q.2 with z | z
   ·omega
   ·exact absurd h.2 z
 ·rfl
structure TGd (r : Rl) (i : Nat) : Prop where
 k : (r.ts.getD i default).k = 1 ∨ (r.ts.getD i default).k = 2
 lt : sLt (r.ts.getD i default).a (r.ts.getD i default).b
 pl : i = 0 ∨ ¬ bef (r.ts.getD i default) (r.ts.getD (i - 1) default)
theorem TGd.eq {r : Rl} {i : Nat} (g : TGd r i) : tE0 r i = (tieF ⟨r.us, r.ts.take i⟩ (r.ts.getD i default).a (r.ts.getD i default).b (r.ts.getD i default).k).2 := by
 unfold tE0; rw [if_pos ⟨g.lt, g.pl⟩]
theorem TGd.nk {r : Rl} {i : Nat} (g : TGd r i) : ¬ (((r.ts.getD i default).k ≠ 1 ∧ (r.ts.getD i default).k ≠ 2) ∨ (r.ts.getD i default).a = (r.ts.getD i default).b) := by
 rintro (q | q)
 ·have := g.k; omega
 ·exact sLt_ne g.lt q
theorem TGd.e6 {r : Rl} {i : Nat} (g : TGd r i) (h : gat r.us (r.ts.getD i default).a = none ∨ gat r.us (r.ts.getD i default).b = none) : tE0 r i = 6 := by
 rw [g.eq, tieF_6 (r := ⟨r.us, r.ts.take i⟩) g.nk h]
theorem TGd.tied {r : Rl} {i : Nat} (g : TGd r i) (hi : i < r.ts.length) (hp : TS (r.ts.take i)) : tied (r.ts.take i) (r.ts.getD i default).a (r.ts.getD i default).b ↔ (0 < i ∧ ¬ bef (r.ts.getD (i - 1) default) (r.ts.getD i default)) := by
 unfold Xx.tied
 rw [sMin_lt g.lt, sMax_lt g.lt]
 have hl : (r.ts.take i).length = i := by simp; omega
 constructor
 ·rintro ⟨t, h1, h2, h3⟩
  obtain ⟨j, j1, j2⟩ := mem_iff_getD.1 h1
  rw [hl] at j1
  rw [getD_take j1] at j2
  refine ⟨by omega, fun q => ?_⟩
  have hb : bef t (r.ts.getD i default) := by
   rcases Nat.eq_or_lt_of_le (show j ≤ i - 1 by omega) with e | e
   ·rw [← j2, e]; exact q
   ·have := hp.lt e (by rw [hl]; omega)
    rw [getD_take j1, getD_take (by omega), j2] at this
    exact bef_trans this q
  rcases hb with q | q
  ·rw [h2] at q; exact sLt_irr _ q
  ·rw [h3] at q; exact sLt_irr _ q.2
 ·rintro ⟨h0, h1⟩
  rcases bef_tri (r.ts.getD (i - 1) default) (r.ts.getD i default) with q | q | q
  ·exact absurd q h1
  ·refine ⟨r.ts.getD (i - 1) default, ?_, q⟩
   have := mem_getD (l := r.ts.take i) (i := i - 1) (by rw [hl]; omega)
   rwa [getD_take (by omega)] at this
  ·exact absurd q (g.pl.resolve_left (by omega))
theorem TGd.e5 {r : Rl} {i : Nat} (g : TGd r i) (hi : i < r.ts.length) (hp : TS (r.ts.take i)) (h : ¬ (gat r.us (r.ts.getD i default).a = none ∨ gat r.us (r.ts.getD i default).b = none)) (hb : 0 < i ∧ ¬ bef (r.ts.getD (i - 1) default) (r.ts.getD i default)) : tE0 r i = 5 := by
 rw [g.eq, tieF_5 (r := ⟨r.us, r.ts.take i⟩) g.nk h ((g.tied hi hp).2 hb)]
theorem TGd.e7 {r : Rl} {i : Nat} (g : TGd r i) (hi : i < r.ts.length) (hp : TS (r.ts.take i)) (h : ¬ (gat r.us (r.ts.getD i default).a = none ∨ gat r.us (r.ts.getD i default).b = none)) (hb : ¬ (0 < i ∧ ¬ bef (r.ts.getD (i - 1) default) (r.ts.getD i default))) (h7 : 256 ≤ i) : tE0 r i = 7 := by
 rw [g.eq, tieF_7 (r := ⟨r.us, r.ts.take i⟩) g.nk h (fun q => hb ((g.tied hi hp).1 q)) (by simp; omega)]
theorem TGd.e0 {r : Rl} {i : Nat} (g : TGd r i) (hi : i < r.ts.length) (hp : TS (r.ts.take i)) (h : ¬ (gat r.us (r.ts.getD i default).a = none ∨ gat r.us (r.ts.getD i default).b = none)) (hb : ¬ (0 < i ∧ ¬ bef (r.ts.getD (i - 1) default) (r.ts.getD i default))) (h7 : ¬ 256 ≤ i) : tE0 r i = 0 := by
 rw [g.eq, tieF_0 (r := ⟨r.us, r.ts.take i⟩) g.nk h (fun q => hb ((g.tied hi hp).1 q)) (by simp; omega)]
theorem before_ok {h0 : AH} (w : WfH h0) (x y : Ti) : Fn Tryz.prog Xh 149 [tiV x, tiV y] h0 (fun u h' => BoolIs u (bef x y) ∧ Hs h0 h' []) := by
 have S := Hs.start w
 unfold tiV
 refine Fn_K (by first | rfl) Tryz.func149 rfl rfl ?_
 all_goals (repeat' (first | refine K_seq ?_ | (refine K_region (id := 0) ?_; (refine bx S ?_; clear S; intro b h S); (refine bx S ?_; clear S; intro b h S); refine mv ?_; refine KO_nil ?_) | (refine K_region (id := 1) ?_; refine vl ?_; refine lB S rfl rfl ?_; refine vl ?_; refine lB S rfl rfl ?_; (refine tO ?_ ?_ <;> intro hc) <;> (refine mv ?_; (first | refine off ?_ | (refine vl ?_)); (first | refine off ?_ | (refine lB S rfl rfl ?_)); (first | refine off ?_ | (refine vl ?_)); (first | refine off ?_ | (refine lB S rfl rfl ?_)); (first | refine off ?_ | (refine tS ?_ ?_ <;> intro hc)) <;> ((first | refine off ?_ | refine mv ?_); (first | refine off ?_ | (refine vl ?_)); (first | refine off ?_ | (refine lB S rfl rfl ?_)); (first | refine off ?_ | (refine vl ?_)); (first | refine off ?_ | (refine lB S rfl rfl ?_)); (first | refine off ?_ | (refine tO ?_ ?_ <;> intro hc)) <;> ((first | refine off ?_ | refine vl ?_); refine vl ?_; refine mv ?_; refine KO_nil ?_))))))
 all_goals (refine K_ret ⟨_, rfl, ?_⟩)
 all_goals first
  | exact ⟨.inl ⟨rfl, by unfold bef; grind⟩, S.drop⟩
  | exact ⟨.inr ⟨rfl, by unfold bef; grind⟩, S.drop⟩
theorem rcheck_ok {h0 : AH} (w : WfH h0) (v : RlV) (r : Rl) (HR : RlOk h0 v r) (hcap : CapOk v.vg.val) (hb : r.us.length ≤ 200 ∧ r.ts.length ≤ 600) : Fn Tryz.prog Xh 114 [v.val] h0 (fun u h' => ((u = .tuple #[.int .i64 0, .int .i64 0] ∧ VRl r) ∨ ∃ i e, u = .tuple #[.int .i64 i, .int .i64 e] ∧ Bad r i e) ∧ Hs h0 h' []) := by
 have S := Hs.start w
 have hrg := HR.rg
 have hrt := HR.rt
 have hgl := HR.len
 unfold RlV.val
 refine Fn_K (by first | rfl) Tryz.func114 rfl rfl ?_
 all_goals (repeat' (first | refine K_seq ?_ | (refine K_region (id := 0) ?_; (refine bx S ?_; clear S; intro b h S); refine mv ?_; refine mv ?_; refine KO_nil ?_)))
 obtain ⟨b1, hnm⟩ : ∃ x, x = b := ⟨_, rfl⟩; subst hnm
 replace S : Hs h0 h (.blk b1 [v.vg.val, v.vt.val] 158 :: []) := S
 all_goals (repeat' (first | refine k_block ?_ | (refine K_region (id := 1) ?_; refine mv ?_; refine KO_nil ?_)))
 refine k_loop (σ := Nat) (fun i h' => Hs h0 h' [.blk b1 [v.vg.val, v.vt.val] 158] ∧ i ≤ r.us.length ∧ (∀ k, k < i → gE0 r.us k = 0)) (fun i => r.us.length - i) (fun i => [(1, .pointer (some ⟨b1, 0, none⟩)), (4, .int .i64 i)]) 0 (by repeat (first | exact Ks.le_nil _ | refine Ks.le_cons rfl ?_)) ?_ ?_
 ·exact ⟨S, Nat.zero_le _, fun j hj => absurd hj (Nat.not_lt_zero _)⟩
 clear S
 rintro i h ⟨S, g1, g2⟩
 all_goals (repeat' (first | refine K_seq ?_ | refine k_cond rfl ?_ | refine K_skip ?_ | refine K_exit ?_ | refine k_block ?_ | (refine K_region (id := 2) ?_; refine mv ?_; refine vl ?_; refine lB S rfl rfl ?_; refine lnB S ?_; (first | (refine cS ?_ ?_ <;> intro hc)) <;> (refine KO_nil ?_))))
 ·have hil : i < v.gs.length := by omega
  have hg : (v.gs.getD i default).toGu = r.us.getD i default := HR.at_ hil
  have hge : gE0 r.us i = (addF ⟨r.us.take i, []⟩ (r.us.getD i default)).2 := rfl
  have hbad : ∀ e, gE0 r.us i = e → e ≠ 0 → Bad r i e := fun e h1 h2 => ⟨h2, .inl ⟨i, by omega, g2, h1, rfl⟩⟩
  all_goals (repeat' (first | (refine K_region (id := 4) ?_; refine vl ?_; refine lB S rfl rfl ?_; refine mv ?_; refine ixB S ?_; refine lEB S ?_)))
  simp only [Int.toNat_natCast]
  (refine KO_fn rfl rfl rfl rfl rfl ((refCheck_ok S.wf (v.gs.getD i default) ⟨(HR.tg i hil).1.ext w S.ext, (HR.tg i hil).2⟩).mono ?_); rintro _ h ⟨rfl, x⟩) <;> (replace S := S.join0 x; clear x; refine mv ?_; refine KO_nil ?_)
  rw [hg]
  all_goals (repeat' (first | refine K_seq ?_ | refine k_cond rfl ?_ | refine K_skip ?_ | (refine K_region (id := 5) ?_; refine mv ?_; (first | (refine cS ?_ ?_ <;> intro hc)) <;> (refine KO_nil ?_))))
  ·have hne : chkG (r.us.getD i default) ≠ 0 := by assumption
   all_goals (repeat' (first | (refine K_region (id := 6) ?_; refine mv ?_; refine mv ?_; refine mv ?_; refine mv ?_; refine KO_nil ?_)))
   refine K_ret ⟨_, rfl, ?_⟩
   exact ⟨.inr ⟨_, _, rfl, hbad _ (by rw [hge, addF_e hne]) hne⟩, S.drop⟩
  ·have hz : chkG (r.us.getD i default) = 0 := by omega
   have hnm : (v.gs.getD i default).name = (r.us.getD i default).name := by rw [← hg]
   skip
   all_goals (repeat' (first | (refine K_draw (id := 7) ?_; refine vl ?_; refine lB S rfl rfl ?_; refine mv ?_)))
   refine su 0 i (hrg.ext w S.ext) hcap (fun va' ra' ca' => ?_)
   ((refine vl ?_); refine lB S rfl rfl ?_; refine mv ?_; refine ixB S ?_; refine fB S ?_; refine lEB S ?_)
   simp only [Int.toNat_natCast, hnm]
   have hmp : ((v.gs.drop 0).take (i - 0)).map (·.toGu) = r.us.take i := by rw [List.drop_zero, Nat.sub_zero, List.map_take, HR.us]
   have hll : ((v.gs.drop 0).take (i - 0)).length ≤ 9223372036854775807 := by simp; omega
   (refine KO_fn rfl rfl rfl rfl rfl ((refAt_ok S.wf va' ((v.gs.drop 0).take (i - 0)) ra' hll (r.us.getD i default).name).mono ?_); rintro _ h ⟨⟨j, j1, j2, rfl⟩ | ⟨j1, rfl⟩, x⟩) <;> (replace S := S.join0 x; clear x; (first | refine cT ?_ | refine cF ?_) <;> (refine KO_nil ?_))
   all_goals rw [hmp] at j1
   ·all_goals (repeat' (first | refine K_seq ?_ | refine k_cond rfl ?_ | (refine K_region (id := 8) ?_; refine mv ?_; refine mv ?_; refine mv ?_; refine KO_nil ?_)))
    refine K_ret ⟨_, rfl, ?_⟩
    exact ⟨.inr ⟨_, _, rfl, hbad _ (by rw [hge, addF_5 hz (by show gat (r.us.take i) _ ≠ none; rw [j1]; simp)]) (by decide)⟩, S.drop⟩
   ·skip
    all_goals (repeat' (first | refine K_seq ?_ | refine k_cond rfl ?_ | refine K_skip ?_ | (refine K_region (id := 9) ?_; refine mv ?_; (first | (refine cS ?_ ?_ <;> intro hc)) <;> (refine KO_nil ?_))))
    ·all_goals (repeat' (first | (refine K_region (id := 10) ?_; refine mv ?_; refine mv ?_; refine mv ?_; refine KO_nil ?_)))
     refine K_ret ⟨_, rfl, ?_⟩
     exact ⟨.inr ⟨_, _, rfl, hbad _ (by rw [hge, addF_7 hz j1 (by show 64 ≤ (r.us.take i).length; simp; omega)]) (by decide)⟩, S.drop⟩
    ·skip
     all_goals (repeat' (first | (refine K_region (id := 3) ?_; refine mv ?_; refine ad ?_; refine mv ?_; refine KO_nil ?_)))
     refine ⟨i + 1, ?_, ?_, (by repeat (first | exact Ks.le_nil _ | refine Ks.le_cons rfl ?_))⟩
     ·show r.us.length - (i + 1) < r.us.length - i; omega
     ·exact ⟨S, by omega, nxtD g2 (by rw [hge, addF_0 hz j1 (by show ¬ 64 ≤ (r.us.take i).length; simp; omega)])⟩
 ·have hi : i = r.us.length := by omega
  rw [hi] at g2
  clear hi
  skip
  all_goals (repeat' (first | refine k_block ?_ | (refine K_region (id := 11) ?_; refine mv ?_; refine KO_nil ?_)))
  refine k_loop (σ := Nat) (fun i h' => Hs h0 h' [.blk b1 [v.vg.val, v.vt.val] 158] ∧ i ≤ r.ts.length ∧ (∀ k, k < i → tE0 r k = 0)) (fun i => r.ts.length - i) (fun i => [(1, .pointer (some ⟨b1, 0, none⟩)), (6, .int .i64 i)]) 0 (by repeat (first | exact Ks.le_nil _ | refine Ks.le_cons rfl ?_)) ?_ ?_
  ·exact ⟨S, Nat.zero_le _, fun j hj => absurd hj (Nat.not_lt_zero _)⟩
  clear S
  rintro i h ⟨S, k1, k2⟩
  all_goals (repeat' (first | refine K_seq ?_ | refine k_cond rfl ?_ | refine K_skip ?_ | refine K_exit ?_ | refine k_block ?_ | (refine K_region (id := 12) ?_; refine mv ?_; refine vl ?_; refine lB S rfl rfl ?_; refine lnB S ?_; (first | (refine cS ?_ ?_ <;> intro hc)) <;> (refine KO_nil ?_))))
  ·have hil : i < r.ts.length := by omega
   have hts := (tE0_ts k1 k2).1
   have hbad : ∀ e, tE0 r i = e → e ≠ 0 → Bad r ((v.gs.length : Int) + i) e := fun e h1 h2 => ⟨h2, .inr ⟨g2, i, hil, k2, h1, by rw [hgl]⟩⟩
   all_goals (repeat' (first | refine K_seq ?_ | (refine K_region (id := 14) ?_; refine vl ?_; refine lB S rfl rfl ?_; refine mv ?_; refine ixB S ?_; refine lEB S ?_; (refine al S ?_; clear S; intro b h S); (first | (refine sB S rfl rfl ?_; clear S; intro h S)); refine KO_nil ?_)))
   obtain ⟨b7, hnm⟩ : ∃ x, x = b := ⟨_, rfl⟩; subst hnm
   simp only [Int.toNat_natCast] at S
   obtain ⟨t, ht⟩ : ∃ t, r.ts.getD i default = t := ⟨_, rfl⟩
   rw [ht] at S
   replace S : Hs h0 h [.blk b7 [str t.a, str t.b, .int .u8 t.k] 137, .blk b1 [v.vg.val, v.vt.val] 158] := S
   all_goals (repeat' (first | refine K_seq ?_ | (refine K_region (id := 15) ?_; refine vl ?_; refine lB S rfl rfl ?_; refine lnB S ?_; refine mv ?_; refine ad ?_; refine mv ?_; refine KO_nil ?_)))
   (repeat (refine K_seq ?_)); first | refine K_join (σ := Unit) (fun _ h' => Hs h0 h' [.blk b7 [str t.a, str t.b, .int .u8 t.k] 137, .blk b1 [v.vg.val, v.vt.val] 158] ∧ TGd r i) (fun _ => [(1, .pointer (some ⟨b1, 0, none⟩)), (6, .int .i64 i), (7, .pointer (some ⟨b7, 0, none⟩)), (8, .int .i64 ((v.gs.length : Int) + i))]) ?_ ?_
   ·have hpr : ((i : Int) - 1).toNat = i - 1 := by omega
    all_goals (repeat' (first | refine K_seq ?_ | refine k_cond rfl ?_ | refine K_skip ?_ | (refine K_draw (id := 16) ?_; refine vl ?_; refine lB S rfl rfl ?_; (first | (refine cS ?_ ?_ <;> intro hc)) <;> (refine mv ?_; (first | refine off ?_ | (refine vl ?_)); (first | refine off ?_ | (refine lB S rfl rfl ?_)); (first | refine off ?_ | (first | (refine cS ?_ ?_ <;> intro hc))) <;> (refine vl ?_; refine mv ?_; (first | refine off ?_ | (refine vl ?_)); (first | refine off ?_ | (refine lB S rfl rfl ?_)); (first | refine off ?_ | (refine vl ?_)); (first | refine off ?_ | (refine lB S rfl rfl ?_)); (first | refine off ?_ | (refine tO ?_ ?_ <;> intro hc)) <;> (refine vl ?_; refine mv ?_; (first | refine off ?_ | refine mv ?_); (first | refine off ?_ | (first | (refine cS ?_ ?_ <;> intro hc))) <;> ((first | refine off ?_ | refine mv ?_); (first | refine off ?_ | (refine lB S rfl rfl ?_)); (first | refine off ?_ | (refine vl ?_)); (first | refine off ?_ | (refine lB S rfl rfl ?_)); (first | refine off ?_ | refine mv ?_); (first | refine off ?_ | (refine sb ?_)); (first | refine off ?_ | (refine ixB S ?_)); (first | refine off ?_ | (refine lEB S ?_)); (first | (refine off ?_; (first | refine off ?_ | refine vl ?_); refine vl ?_; refine KO_nil ?_) | skip))))))))
    all_goals first
     | exact ⟨(), ⟨S, ⟨by rw [ht]; omega, by rw [ht]; exact Classical.not_not.1 (by assumption), .inl (by omega)⟩⟩, ((by repeat (first | exact Ks.le_nil _ | refine Ks.le_cons rfl ?_)))⟩
     | skip
    all_goals (try simp only [hpr])
    all_goals (try ((refine KO_fn rfl rfl rfl rfl rfl ((before_ok S.wf t (r.ts.getD (i - 1) default)).mono ?_); rintro _ h ⟨⟨rfl, z⟩ | ⟨rfl, z⟩, x⟩) <;> (replace S := S.join0 x; clear x; refine vl ?_; refine vl ?_; refine KO_nil ?_)))
    all_goals (all_goals (repeat' (first | refine K_seq ?_ | refine k_cond rfl ?_ | refine K_skip ?_ | (refine K_region (id := 17) ?_; refine mv ?_; refine mv ?_; refine mv ?_; refine KO_nil ?_))))
    all_goals first
     | exact ⟨(), ⟨S, ⟨by rw [ht]; omega, by rw [ht]; exact Classical.not_not.1 (by assumption), .inr (by rw [ht]; exact z)⟩⟩, ((by repeat (first | exact Ks.le_nil _ | refine Ks.le_cons rfl ?_)))⟩
     | (refine K_ret ⟨_, rfl, ?_⟩; exact ⟨.inr ⟨_, _, rfl, hbad _ (tE0_23 (by rw [ht]; first | exact .inl (by omega) | exact .inr (.inl (by assumption)) | exact .inr (.inr ⟨by omega, z⟩))) (by decide)⟩, S.drop⟩)
   clear S
   rintro - h ⟨S, G⟩
   skip
   all_goals (repeat' (first | refine K_seq ?_ | (refine K_region (id := 18) ?_; refine vl ?_; refine lB S rfl rfl ?_; refine vl ?_; refine lB S rfl rfl ?_)))
   (refine KO_fn rfl rfl rfl rfl rfl ((refAt_ok S.wf v.vg.val v.gs (hrg.ext w S.ext) (by omega) t.a).mono ?_); rintro _ h ⟨⟨j, j1, j2, rfl⟩ | ⟨j1, rfl⟩, x⟩) <;> (replace S := S.join0 x; clear x; (first | refine cT ?_ | refine cF ?_) <;> (refine mv ?_; (first | refine off ?_ | (refine vl ?_)); (first | refine off ?_ | (refine lB S rfl rfl ?_)); (first | refine off ?_ | (refine vl ?_)); (first | refine off ?_ | (refine lB S rfl rfl ?_)); (first | (refine off ?_; (refine off ?_) <;> (refine vl ?_; refine KO_nil ?_)) | skip)))
   all_goals rw [HR.us] at j1
   rotate_left
   ·skip
    all_goals (repeat' (first | refine K_seq ?_ | refine k_cond rfl ?_ | (refine K_region (id := 19) ?_; refine mv ?_; refine mv ?_; refine mv ?_; refine KO_nil ?_)))
    refine K_ret ⟨_, rfl, ?_⟩
    exact ⟨.inr ⟨_, _, rfl, hbad _ (G.e6 (.inl (by rw [ht]; exact j1))) (by decide)⟩, S.drop⟩
   skip
   all_goals (repeat' (fail))
   (refine KO_fn rfl rfl rfl rfl rfl ((refAt_ok S.wf v.vg.val v.gs (hrg.ext w S.ext) (by omega) t.b).mono ?_); rintro _ h ⟨⟨j', m1, m2, rfl⟩ | ⟨m1, rfl⟩, x⟩) <;> (replace S := S.join0 x; clear x; (first | (first | refine cT ?_ | refine cF ?_)) <;> (refine vl ?_; refine KO_nil ?_))
   all_goals rw [HR.us] at m1
   rotate_left
   ·skip
    all_goals (repeat' (first | refine K_seq ?_ | refine k_cond rfl ?_ | (refine K_region (id := 19) ?_; refine mv ?_; refine mv ?_; refine mv ?_; refine KO_nil ?_)))
    refine K_ret ⟨_, rfl, ?_⟩
    exact ⟨.inr ⟨_, _, rfl, hbad _ (G.e6 (.inr (by rw [ht]; exact m1))) (by decide)⟩, S.drop⟩
   have hkn : ¬ (gat r.us (r.ts.getD i default).a = none ∨ gat r.us (r.ts.getD i default).b = none) := by
    rw [ht, j1, m1]; simp
   have hpr : ((i : Int) - 1).toNat = i - 1 := by omega
   skip
   all_goals (repeat' (first | refine K_seq ?_ | refine k_cond rfl ?_ | refine K_skip ?_))
   (repeat (refine K_seq ?_)); first | refine K_join (σ := Unit) (fun _ h' => Hs h0 h' [.blk b7 [str t.a, str t.b, .int .u8 t.k] 137, .blk b1 [v.vg.val, v.vt.val] 158] ∧ ¬ (0 < i ∧ ¬ bef (r.ts.getD (i - 1) default) (r.ts.getD i default))) (fun _ => [(1, .pointer (some ⟨b1, 0, none⟩)), (6, .int .i64 i), (7, .pointer (some ⟨b7, 0, none⟩)), (8, .int .i64 ((v.gs.length : Int) + i))]) ?_ ?_
   ·all_goals (repeat' (first | refine k_cond rfl ?_ | refine K_skip ?_ | (refine K_draw (id := 20) ?_; refine mv ?_; (first | (refine cS ?_ ?_ <;> intro hc)) <;> (refine mv ?_; (first | refine off ?_ | (refine vl ?_)); (first | refine off ?_ | (refine lB S rfl rfl ?_)); (first | refine off ?_ | refine mv ?_); (first | refine off ?_ | (refine sb ?_)); (first | refine off ?_ | (refine ixB S ?_)); (first | refine off ?_ | (refine lEB S ?_)); (first | refine off ?_ | (refine lB S rfl rfl ?_)); (first | (refine off ?_; refine off ?_; refine vl ?_; refine KO_nil ?_) | skip)))))
    ·simp only [hpr]
     (refine KO_fn rfl rfl rfl rfl rfl ((before_ok S.wf (r.ts.getD (i - 1) default) t).mono ?_); rintro _ h ⟨⟨rfl, z⟩ | ⟨rfl, z⟩, x⟩) <;> (replace S := S.join0 x; clear x; refine vl ?_; refine vl ?_; refine KO_nil ?_)
     ·all_goals (repeat' (first | refine k_cond rfl ?_ | refine K_skip ?_))
      exact ⟨(), ⟨S, fun q => q.2 (by rw [ht]; exact z)⟩, ((by repeat (first | exact Ks.le_nil _ | refine Ks.le_cons rfl ?_)))⟩
     ·skip
      all_goals (repeat' (first | refine K_seq ?_ | refine k_cond rfl ?_ | (refine K_region (id := 21) ?_; refine mv ?_; refine mv ?_; refine mv ?_; refine KO_nil ?_)))
      refine K_ret ⟨_, rfl, ?_⟩
      exact ⟨.inr ⟨_, _, rfl, hbad _ (G.e5 hil hts hkn ⟨by omega, by rw [ht]; exact z⟩) (by decide)⟩, S.drop⟩
    ·exact ⟨(), ⟨S, fun q => by omega⟩, ((by repeat (first | exact Ks.le_nil _ | refine Ks.le_cons rfl ?_)))⟩
   clear S
   rintro - h ⟨S, hb5⟩
   skip
   all_goals (repeat' (first | refine K_seq ?_ | refine k_cond rfl ?_ | refine K_skip ?_ | (refine K_region (id := 22) ?_; refine mv ?_; (first | (refine cS ?_ ?_ <;> intro hc)) <;> (refine KO_nil ?_))))
   ·all_goals (repeat' (first | (refine K_region (id := 23) ?_; refine mv ?_; refine mv ?_; refine mv ?_; refine KO_nil ?_)))
    refine K_ret ⟨_, rfl, ?_⟩
    exact ⟨.inr ⟨_, _, rfl, hbad _ (G.e7 hil hts hkn hb5 (by omega)) (by decide)⟩, S.drop⟩
   ·skip
    all_goals (repeat' (first | (refine K_region (id := 13) ?_; refine mv ?_; refine ad ?_; refine mv ?_; refine KO_nil ?_)))
    refine ⟨i + 1, ?_, ?_, (by repeat (first | exact Ks.le_nil _ | refine Ks.le_cons rfl ?_))⟩
    ·show r.ts.length - (i + 1) < r.ts.length - i; omega
    ·exact ⟨S.tail, by omega, nxtD k2 (G.e0 hil hts hkn hb5 (by omega))⟩
  ·have hi : i = r.ts.length := by omega
   rw [hi] at k2
   skip
   all_goals (repeat' (first | (refine K_region (id := 24) ?_; refine mv ?_; refine mv ?_; refine KO_nil ?_)))
   refine K_ret ⟨_, rfl, ?_⟩
   exact ⟨.inl ⟨rfl, g2, k2⟩, S.drop⟩
end Go.Proofs.Xx
namespace Go.Proofs.Xx
open Go Go.Proofs
set_option linter.unusedSimpArgs false
set_option linter.unusedVariables false
set_option linter.unusedSectionVars false
set_option maxRecDepth 100000
set_option maxHeartbeats 4000000
theorem kd18 {k : Int} (h : 1 ≤ k ∧ k ≤ 18) : k = 1 ∨ k = 2 ∨ k = 3 ∨ k = 4 ∨ k = 5 ∨ k = 6 ∨ k = 7 ∨ k = 8 ∨ k = 9 ∨ k = 10 ∨ k = 11 ∨ k = 12 ∨ k = 13 ∨ k = 14 ∨ k = 15 ∨ k = 16 ∨ k = 17 ∨ k = 18 := by omega
theorem kd_fl {k : Int} (h : 1 ≤ k ∧ k ≤ 18) : ((kdOf k).b = true ↔ 1 ≤ k ∧ k ≤ 5) ∧ ((kdOf k).a = 103 ↔ 1 ≤ k ∧ k ≤ 7) ∧ ((kdOf k).a = 101 ↔ k = 10) ∧ ((kdOf k).a = 100 ↔ k = 17) ∧ ((kdOf k).a ≠ 0 ↔ (1 ≤ k ∧ k ≤ 7) ∨ k = 10 ∨ k = 17) ∧
 ((kdOf k).t = 116 ↔ k = 6 ∨ k = 7 ∨ k = 17) ∧ ((kdOf k).t = 101 ↔ ¬ (1 ≤ k ∧ k ≤ 7) ∧ k ≠ 10 ∧ k ≠ 17) ∧ ((kdOf k).t ≠ 0 ↔ ¬ (1 ≤ k ∧ k ≤ 5) ∧ k ≠ 10) ∧ ((kdOf k).n = true ↔ k = 1 ∨ k = 4 ∨ k = 7 ∨ k = 15 ∨ k = 16) ∧ ((kdOf k).lo = if k = 4 then 1 else 0) ∧ ((kdOf k).seat = true ↔ k = 7) := by
 rcases kd18 h with rfl | rfl | rfl | rfl | rfl | rfl | rfl | rfl | rfl | rfl | rfl | rfl | rfl | rfl | rfl | rfl | rfl | rfl <;> decide
theorem plain_iff {r : Ru} (h : 1 ≤ r.k ∧ r.k ≤ 18) : (kdOf r.k).plain r ↔ (((1 ≤ r.k ∧ r.k ≤ 7) ∨ r.k = 10 ∨ r.k = 17) ∨ r.a = []) ∧ ((1 ≤ r.k ∧ r.k ≤ 5) ∨ r.b = []) ∧ ((¬ (1 ≤ r.k ∧ r.k ≤ 5) ∧ r.k ≠ 10) ∨ r.t = []) ∧ ((r.k = 1 ∨ r.k = 4 ∨ r.k = 7 ∨ r.k = 15 ∨ r.k = 16) ∨ r.n = 0) := by
 obtain ⟨e1, e2, e3, e4, e5, e6, e7, e8, e9, e10, e11⟩ := kd_fl h
 unfold Kd.plain
 rw [e1, e5, e8, e9]
theorem unk_iff {us : List Gu} {r : Ru} (h : 1 ≤ r.k ∧ r.k ≤ 18) : (kdOf r.k).unk us r ↔ ((1 ≤ r.k ∧ r.k ≤ 7) ∧ gI us r.a < 0) ∨ (r.k = 10 ∧ r.a ≠ [] ∧ gI us r.a < 0) ∨ ((1 ≤ r.k ∧ r.k ≤ 5) ∧ gI us r.b < 0) := by
 obtain ⟨e1, e2, e3, e4, e5, e6, e7, e8, e9, e10, e11⟩ := kd_fl h
 unfold Kd.unk
 rw [e1, e2, e3, gI_none, gI_none]
theorem ut_iff {l : List Tab} {r : Ru} (h : 1 ≤ r.k ∧ r.k ≤ 18) : (kdOf r.k).ut l r ↔ ((r.k = 6 ∨ r.k = 7 ∨ r.k = 17) ∧ ¬ hasT l r.t) ∨ ((¬ (1 ≤ r.k ∧ r.k ≤ 7) ∧ r.k ≠ 10 ∧ r.k ≠ 17) ∧ r.t ≠ [] ∧ ¬ hasT l r.t) := by
 obtain ⟨e1, e2, e3, e4, e5, e6, e7, e8, e9, e10, e11⟩ := kd_fl h
 unfold Kd.ut
 rw [e6, e7]
theorem tix_lt {l : List Tab} {n : List UInt8} (h : hasT l n) : tix l n < l.length := by
 obtain ⟨j, hj, e⟩ := h
 refine List.findIdx_lt_length_of_exists ⟨tb l j, mem_getD hj, ?_⟩
 simpa using e
def wdL : List (List UInt8) := [] :: kwL
theorem wd_ne : ∀ i, i < 19 → (wdL.getD i default = [] ↔ i = 0) := by decide
variable [Flag]
theorem rword_ok {h0 : AH} (w : WfH h0) (k : Int) (hk : 0 ≤ k ∧ k ≤ 255) : Fn Tryz.prog Xh 115 [.int .u8 k] h0 (fun u h' => ∃ s, u = str s ∧ (s = [] ↔ ¬ (1 ≤ k ∧ k ≤ 18)) ∧ Hs h0 h' []) := by
 have l19 : wdL.length = 19 := rfl
 have S := Hs.start w
 refine Fn_K (by first | rfl) Tryz.func115 rfl rfl ?_
 all_goals (repeat' (first | refine K_seq ?_ | (refine K_region (id := 0) ?_; refine mv ?_; refine KO_nil ?_) | (refine K_region (id := 1) ?_; skip)))
 refine bsn (α := List UInt8) (z := 1) eS wdL S ?_; clear S; intro u5 h S; (refine mv ?_; refine KO_nil ?_)
 all_goals (repeat' (first | refine K_seq ?_ | refine k_cond rfl ?_ | refine K_skip ?_ | (refine K_region (id := 2) ?_; refine mv ?_; refine cI ?_; refine mv ?_; refine lnS S rfl rfl ?_; (first | (refine cS ?_ ?_ <;> intro hc)) <;> (refine KO_nil ?_)) | (refine K_region (id := 3) ?_; refine mv ?_; refine KO_nil ?_) | (refine K_region (id := 4) ?_; refine mv ?_; refine mv ?_; refine ixS2 S rfl rfl ?_; refine lES2 S rfl rfl ?_; refine mv ?_; refine KO_nil ?_)))
 ·refine K_ret ⟨_, rfl, ?_⟩
  exact ⟨[], rfl, ⟨fun _ => by omega, fun _ => rfl⟩, S.drop⟩
 ·refine K_ret ⟨_, rfl, ?_⟩
  have := wd_ne k.toNat (by omega)
  exact ⟨wdL.getD k.toNat default, rfl, by rw [this]; omega, S.drop⟩
theorem rAt_ok {h0 : AH} (w : WfH h0) (v : PbV) (p : Pb) (H : PbOk h0 v p) (n : List UInt8) : Fn Tryz.prog Xh 120 [v.vg.val, str n] h0 (fun u h' => u = .int .i64 (gI p.us n) ∧ Hs h0 h' []) := by
 have hu : v.gs.map (·.toGu) = p.us := H.rol.us
 have hl := H.rol.len
 have hlg : v.gs.length ≤ 9223372036854775807 := by rw [hl]; exact H.rol.lg
 refine (refAt_ok w v.vg.val v.gs H.rol.rg hlg n).mono ?_
 rintro u h ⟨⟨i, h1, -, rfl⟩ | ⟨h1, rfl⟩, x⟩
 all_goals (refine ⟨?_, x⟩; rw [hu] at h1; unfold gI; rw [h1])
theorem rcheckR_ok {h0 : AH} (w : WfH h0) (v : PbV) (p : Pb) (H : PbOk h0 v p) (r : Ru) (hk : 0 ≤ r.k ∧ r.k ≤ 255) :
 Fn Tryz.prog Xh 84 [v.val, ruV r] h0 (fun u h' => u = .int .i64 (ruE p r) ∧ Hs h0 h' []) := by
 have S := Hs.start w
 have hr := H.tab.rd
 have hl := H.tab.len
 unfold ruV eRu PbV.val
 refine Fn_K (by first | rfl) Tryz.func84 rfl rfl ?_
 all_goals (repeat' (first | refine K_seq ?_ | (refine K_region (id := 0) ?_; (refine bx S ?_; clear S; intro b h S); (refine bx S ?_; clear S; intro b h S); refine mv ?_; refine KO_nil ?_)))
 rename_i b2 h2
 replace S : Hs h0 h [.blk b (eRu r) 125, .blk b2 v.cs 28] := S
 all_goals (repeat' (first | refine K_seq ?_ | (refine K_region (id := 1) ?_; refine vl ?_; refine lB S rfl rfl ?_; refine mv ?_; refine KO_nil ?_) | (refine K_region (id := 2) ?_; refine mv ?_)))
 (refine KO_fn rfl rfl rfl rfl rfl ((rword_ok S.wf r.k hk).mono ?_); rintro _ h ⟨wd, rfl, hwd, x⟩) <;> (replace S := S.join0 x; clear x; (refine tS ?_ ?_ <;> intro hc) <;> (refine KO_nil ?_))
 all_goals (repeat' (first | refine K_seq ?_ | refine k_cond rfl ?_ | refine K_skip ?_ | (refine K_region (id := 3) ?_; refine mv ?_; refine KO_nil ?_)))
 ·refine K_ret ⟨_, rfl, ?_⟩
  refine ⟨?_, S.drop⟩
  unfold ruE
  rw [if_neg (hwd.1 hc)]; rfl
 have h18 : 1 ≤ r.k ∧ r.k ≤ 18 := Classical.not_not.1 fun q => hc (hwd.2 q)
 have heq : ruE p r = (kdOf r.k).err p r := by unfold ruE; rw [if_pos h18]
 rw [heq]
 clear hwd hc
 skip
 all_goals (repeat' (first | refine K_seq ?_ | refine k_cond rfl ?_ | refine K_skip ?_ | (refine K_region (id := 4) ?_; refine vl ?_; refine lB S rfl rfl ?_; (first | (refine cS ?_ ?_ <;> intro hc)) <;> (refine mv ?_; (first | refine off ?_ | (refine vl ?_)); (first | refine off ?_ | (refine lB S rfl rfl ?_)); (first | refine off ?_ | (first | (refine cS ?_ ?_ <;> intro hc))) <;> (refine vl ?_; refine KO_nil ?_))) | (refine K_region (id := 5) ?_; refine mv ?_; refine KO_nil ?_)))
 ·refine K_ret ⟨_, rfl, ?_⟩
  exact ⟨by rw [Kd.err41 (.inl hc)]; rfl, S.drop⟩
 ·refine K_ret ⟨_, rfl, ?_⟩
  exact ⟨by rw [Kd.err41 (.inr (by omega))]; rfl, S.drop⟩
 have hw : ¬ (r.w < 0 ∨ 1000 < r.w) := by omega
 clear hc
 skip
 (repeat (refine K_seq ?_)); first | refine K_join (σ := Unit) (fun _ h' => Hs h0 h' [.blk b (eRu r) 125, .blk b2 v.cs 28] ∧ (kdOf r.k).plain r) (fun _ => [(2, .pointer (some ⟨b2, 0, none⟩)), (3, .pointer (some ⟨b, 0, none⟩)), (4, .int .i64 0), (5, .int .u8 r.k)]) ?_ ?_
 ·all_goals (repeat' (first | refine k_cond rfl ?_ | refine K_skip ?_ | (refine K_region (id := 6) ?_; refine vl ?_; refine lB S rfl rfl ?_; (refine tS ?_ ?_ <;> intro hc) <;> (refine mv ?_; (first | refine off ?_ | refine mv ?_); (first | (refine off ?_; refine off ?_; refine vl ?_; refine mv ?_; refine off ?_; (first | (refine off ?_; refine off ?_; refine vl ?_; refine mv ?_; refine off ?_; (refine off ?_) <;> (refine vl ?_; refine mv ?_; (first | (refine vl ?_)); (first | (refine lB S rfl rfl ?_)); (first | (refine tS ?_ ?_ <;> intro hc)) <;> ((refine mv ?_); (first | refine off ?_ | refine mv ?_); (first | (refine off ?_; refine off ?_; refine vl ?_; refine vl ?_; refine mv ?_; (first | (refine vl ?_)); (first | (refine lB S rfl rfl ?_)); (first | (refine tS ?_ ?_ <;> intro hc)) <;> ((refine mv ?_); (first | refine off ?_ | refine mv ?_); (first | (refine off ?_; (refine off ?_) <;> ((refine vl ?_); refine vl ?_; refine mv ?_; (first | (refine vl ?_)); (first | (refine lB S rfl rfl ?_)); (first | (first | (refine cS ?_ ?_ <;> intro hc))) <;> ((refine mv ?_); (first | refine off ?_ | refine mv ?_); (first | (refine off ?_; refine off ?_; refine vl ?_; refine vl ?_; refine KO_nil ?_) | skip)))) | skip))) | skip)))))) | skip)))))
  all_goals (try ((refine KO_fn rfl rfl rfl rfl rfl ((rtwo_ok S.wf r.k).mono ?_); rintro _ h ⟨⟨rfl, z1⟩ | ⟨rfl, z1⟩, x⟩) <;> (replace S := S.join0 x; clear x; refine vl ?_; refine vl ?_; refine mv ?_; (first | refine off ?_ | refine mv ?_); (first | (refine off ?_; refine off ?_; refine vl ?_; refine mv ?_; refine off ?_; (refine off ?_) <;> (refine vl ?_; refine mv ?_; (first | (refine vl ?_)); (first | (refine lB S rfl rfl ?_)); (first | (refine tS ?_ ?_ <;> intro hc)) <;> ((refine mv ?_); (first | refine off ?_ | refine mv ?_); (first | (refine off ?_; refine off ?_; refine vl ?_; refine vl ?_; refine mv ?_; (first | (refine vl ?_)); (first | (refine lB S rfl rfl ?_)); (first | (refine tS ?_ ?_ <;> intro hc)) <;> ((refine mv ?_); (first | refine off ?_ | refine mv ?_); (first | (refine off ?_; (refine off ?_) <;> ((refine vl ?_); refine vl ?_; refine mv ?_; (first | (refine vl ?_)); (first | (refine lB S rfl rfl ?_)); (first | (first | (refine cS ?_ ?_ <;> intro hc))) <;> ((refine mv ?_); (first | refine off ?_ | refine mv ?_); (first | (refine off ?_; refine off ?_; refine vl ?_; refine vl ?_; refine KO_nil ?_) | skip)))) | skip))) | skip)))) | skip))))
  all_goals (try ((refine KO_fn rfl rfl rfl rfl rfl ((rone_ok S.wf r.k).mono ?_); rintro _ h ⟨⟨rfl, z2⟩ | ⟨rfl, z2⟩, x⟩) <;> (replace S := S.join0 x; clear x; refine vl ?_; refine vl ?_; refine mv ?_; (first | refine off ?_ | refine mv ?_); (first | refine off ?_ | (first | (refine cS ?_ ?_ <;> intro hc))) <;> (refine vl ?_; refine mv ?_; (first | refine off ?_ | (refine vl ?_)); (first | refine off ?_ | (refine lB S rfl rfl ?_)); (first | refine off ?_ | (refine tS ?_ ?_ <;> intro hc)) <;> ((first | refine off ?_ | refine mv ?_); (first | refine off ?_ | refine mv ?_); (first | (refine off ?_; refine off ?_; (first | refine off ?_ | refine vl ?_); refine vl ?_; refine mv ?_; (first | refine off ?_ | (refine vl ?_)); (first | refine off ?_ | (refine lB S rfl rfl ?_)); (first | refine off ?_ | (refine tS ?_ ?_ <;> intro hc)) <;> ((first | refine off ?_ | refine mv ?_); (first | refine off ?_ | refine mv ?_); (first | (refine off ?_; (refine off ?_) <;> ((first | refine off ?_ | refine vl ?_); refine vl ?_; refine mv ?_; (first | refine off ?_ | (refine vl ?_)); (first | refine off ?_ | (refine lB S rfl rfl ?_)); (first | refine off ?_ | (first | (refine cS ?_ ?_ <;> intro hc))) <;> ((first | refine off ?_ | refine mv ?_); (first | refine off ?_ | refine mv ?_); (first | (refine off ?_; refine off ?_; (first | refine off ?_ | refine vl ?_); refine vl ?_; refine KO_nil ?_) | skip)))) | skip))) | skip))))))
  all_goals (try ((refine KO_fn rfl rfl rfl rfl rfl ((rtwo_ok S.wf r.k).mono ?_); rintro _ h ⟨⟨rfl, z3⟩ | ⟨rfl, z3⟩, x⟩) <;> (replace S := S.join0 x; clear x; refine vl ?_; refine vl ?_; refine vl ?_; refine mv ?_; (first | refine off ?_ | (refine vl ?_)); (first | refine off ?_ | (refine lB S rfl rfl ?_)); (first | refine off ?_ | (refine tS ?_ ?_ <;> intro hc)) <;> ((first | refine off ?_ | refine mv ?_); (first | refine off ?_ | refine mv ?_); (first | (refine off ?_; (refine off ?_) <;> ((first | refine off ?_ | refine vl ?_); refine vl ?_; refine mv ?_; (first | refine off ?_ | (refine vl ?_)); (first | refine off ?_ | (refine lB S rfl rfl ?_)); (first | refine off ?_ | (first | refine cT ?_ | (refine cS ?_ ?_ <;> intro hc))) <;> ((first | refine off ?_ | refine mv ?_); (first | refine off ?_ | refine mv ?_); (first | (refine off ?_; refine off ?_; (first | refine off ?_ | refine vl ?_); refine vl ?_; refine KO_nil ?_) | skip)))) | skip)))))
  all_goals (try ((refine KO_fn rfl rfl rfl rfl rfl ((rtables_ok S.wf r.k).mono ?_); rintro _ h ⟨n4, rfl, z4, x⟩) <;> (replace S := S.join0 x; clear x; (first | (first | refine cT ?_ | refine cF ?_ | (refine cS ?_ ?_ <;> intro hc))) <;> ((refine vl ?_); refine vl ?_; refine mv ?_; (first | refine off ?_ | (refine vl ?_)); (first | refine off ?_ | (refine lB S rfl rfl ?_)); (first | refine off ?_ | (first | (refine cS ?_ ?_ <;> intro hc))) <;> ((first | refine off ?_ | refine mv ?_); (first | refine off ?_ | refine mv ?_); (first | (refine off ?_; refine off ?_; (first | refine off ?_ | refine vl ?_); refine vl ?_; refine KO_nil ?_) | skip))))))
  all_goals (try ((refine KO_fn rfl rfl rfl rfl rfl ((rnumber_ok S.wf r.k).mono ?_); rintro _ h ⟨⟨rfl, z5⟩ | ⟨rfl, z5⟩, x⟩) <;> (replace S := S.join0 x; clear x; refine vl ?_; refine vl ?_; refine vl ?_; refine KO_nil ?_)))
  all_goals (all_goals (repeat' (first | refine K_seq ?_ | refine k_cond rfl ?_ | refine K_skip ?_ | (refine K_region (id := 7) ?_; refine mv ?_; refine KO_nil ?_))))
  all_goals first
   | exact ⟨(), ⟨S, by rw [plain_iff h18]; grind⟩, ((by repeat (first | exact Ks.le_nil _ | refine Ks.le_cons rfl ?_)))⟩
   | (refine K_ret ⟨_, rfl, ?_⟩; exact ⟨by rw [Kd.err43 hw (by rw [plain_iff h18]; grind)]; rfl, S.drop⟩)
 clear S
 rintro _ h ⟨S, hpl⟩
 skip
 (repeat (refine K_seq ?_)); first | refine K_join (σ := Unit) (fun _ h' => Hs h0 h' [.blk b (eRu r) 125, .blk b2 v.cs 28] ∧ ¬ (((1 ≤ r.k ∧ r.k ≤ 7) ∧ gI p.us r.a < 0) ∨ (r.k = 10 ∧ r.a ≠ [] ∧ gI p.us r.a < 0))) (fun _ => [(2, .pointer (some ⟨b2, 0, none⟩)), (3, .pointer (some ⟨b, 0, none⟩)), (4, .int .i64 0), (5, .int .u8 r.k)]) ?_ ?_
 ·all_goals (repeat' (first | (refine K_region (id := 8) ?_; refine mv ?_)))
  (refine KO_fn rfl rfl rfl rfl rfl ((rtwo_ok S.wf r.k).mono ?_); rintro _ h ⟨⟨rfl, z1⟩ | ⟨rfl, z1⟩, x⟩) <;> (replace S := S.join0 x; clear x; refine mv ?_; (first | refine off ?_ | refine mv ?_); (first | (refine off ?_; refine vl ?_; refine mv ?_; refine mv ?_; (first | (refine cF ?_)) <;> ((refine mv ?_); refine off ?_; refine off ?_; (refine off ?_) <;> ((refine vl ?_); refine vl ?_; refine vl ?_; refine mv ?_; (first | (refine vl ?_)); (first | (refine lB S rfl rfl ?_)); (first | (refine vl ?_)); (first | (refine lB S rfl rfl ?_)); (skip)))) | skip))
  all_goals (try ((refine KO_fn rfl rfl rfl rfl rfl ((rone_ok S.wf r.k).mono ?_); rintro _ h ⟨⟨rfl, z2⟩ | ⟨rfl, z2⟩, x⟩) <;> (replace S := S.join0 x; clear x; refine vl ?_; refine mv ?_; (first | refine off ?_ | refine mv ?_); (first | refine off ?_ | (first | (refine cS ?_ ?_ <;> intro hc))) <;> ((first | refine off ?_ | refine mv ?_); (first | refine off ?_ | (refine vl ?_)); (first | refine off ?_ | (refine lB S rfl rfl ?_)); (first | refine off ?_ | (refine tS ?_ ?_ <;> intro hc)) <;> ((first | refine off ?_ | refine vl ?_); (first | refine off ?_ | refine vl ?_); refine vl ?_; refine mv ?_; (first | refine off ?_ | (refine vl ?_)); (first | refine off ?_ | (refine lB S rfl rfl ?_)); (first | refine off ?_ | (refine vl ?_)); (first | refine off ?_ | (refine lB S rfl rfl ?_)); (first | (refine off ?_; (refine off ?_) <;> (refine vl ?_; refine KO_nil ?_)) | skip))))))
  all_goals (try ((refine KO_fn rfl rfl rfl rfl rfl ((rAt_ok S.wf v p (H.ext w S.ext) r.a).mono ?_); rintro _ h ⟨rfl, x⟩) <;> (replace S := S.join0 x; clear x; (first | (first | (refine cS ?_ ?_ <;> intro hc))) <;> (refine vl ?_; refine KO_nil ?_))))
  all_goals (all_goals (repeat' (first | refine K_seq ?_ | refine k_cond rfl ?_ | refine K_skip ?_ | (refine K_region (id := 9) ?_; refine mv ?_; refine KO_nil ?_))))
  all_goals first
   | exact ⟨(), ⟨S, by grind⟩, ((by repeat (first | exact Ks.le_nil _ | refine Ks.le_cons rfl ?_)))⟩
   | (refine K_ret ⟨_, rfl, ?_⟩; exact ⟨by rw [Kd.err6 hw hpl (by rw [unk_iff h18]; grind)]; rfl, S.drop⟩)
 clear S
 rintro _ h ⟨S, hua⟩
 skip
 (repeat (refine K_seq ?_)); first | refine K_join (σ := Unit) (fun _ h' => Hs h0 h' [.blk b (eRu r) 125, .blk b2 v.cs 28] ∧ ¬ (kdOf r.k).unk p.us r) (fun _ => [(2, .pointer (some ⟨b2, 0, none⟩)), (3, .pointer (some ⟨b, 0, none⟩)), (4, .int .i64 0), (5, .int .u8 r.k)]) ?_ ?_
 ·all_goals (repeat' (first | (refine K_region (id := 10) ?_; refine mv ?_)))
  all_goals (try ((refine KO_fn rfl rfl rfl rfl rfl ((rtwo_ok S.wf r.k).mono ?_); rintro _ h ⟨⟨rfl, z3⟩ | ⟨rfl, z3⟩, x⟩) <;> (replace S := S.join0 x; clear x; refine mv ?_; (first | refine off ?_ | (refine vl ?_)); (first | refine off ?_ | (refine lB S rfl rfl ?_)); (first | refine off ?_ | (refine vl ?_)); (first | refine off ?_ | (refine lB S rfl rfl ?_)); (first | (refine off ?_; (refine off ?_) <;> (refine vl ?_; refine KO_nil ?_)) | skip))))
  all_goals (try ((refine KO_fn rfl rfl rfl rfl rfl ((rAt_ok S.wf v p (H.ext w S.ext) r.b).mono ?_); rintro _ h ⟨rfl, x⟩) <;> (replace S := S.join0 x; clear x; (first | (first | (refine cS ?_ ?_ <;> intro hc))) <;> (refine vl ?_; refine KO_nil ?_))))
  all_goals (all_goals (repeat' (first | refine K_seq ?_ | refine k_cond rfl ?_ | refine K_skip ?_ | (refine K_region (id := 11) ?_; refine mv ?_; refine KO_nil ?_))))
  all_goals first
   | exact ⟨(), ⟨S, by rw [unk_iff h18]; grind⟩, ((by repeat (first | exact Ks.le_nil _ | refine Ks.le_cons rfl ?_)))⟩
   | (refine K_ret ⟨_, rfl, ?_⟩; exact ⟨by rw [Kd.err6 hw hpl (by rw [unk_iff h18]; grind)]; rfl, S.drop⟩)
 clear S
 rintro _ h ⟨S, hun⟩
 obtain ⟨e1, e2, e3, e4, e5, e6, e7, e8, e9, e10, e11⟩ := kd_fl h18
 skip
 (repeat (refine K_seq ?_)); first | refine K_join (σ := Unit) (fun _ h' => Hs h0 h' [.blk b (eRu r) 125, .blk b2 v.cs 28] ∧ (kdOf r.k).one p r) (fun _ => [(2, .pointer (some ⟨b2, 0, none⟩)), (3, .pointer (some ⟨b, 0, none⟩)), (4, .int .i64 0), (5, .int .u8 r.k)]) ?_ ?_
 ·all_goals (repeat' (first | refine k_cond rfl ?_ | refine K_skip ?_ | (refine K_region (id := 12) ?_; refine mv ?_; (first | (refine cS ?_ ?_ <;> intro hc)) <;> (refine mv ?_; (first | refine off ?_ | (refine vl ?_)); (first | refine off ?_ | (refine lB S rfl rfl ?_)); (first | (refine off ?_; refine off ?_; refine vl ?_; refine KO_nil ?_) | skip)))))
  all_goals (try ((refine KO_fn rfl rfl rfl rfl rfl ((refName_ok r.a).mono ?_); rintro _ _ ⟨⟨rfl, hn⟩ | ⟨rfl, hn⟩, rfl⟩) <;> ((refine vl ?_); refine vl ?_; refine KO_nil ?_)))
  all_goals (all_goals (repeat' (first | refine K_seq ?_ | refine k_cond rfl ?_ | refine K_skip ?_ | (refine K_region (id := 13) ?_; refine mv ?_; refine KO_nil ?_))))
  all_goals first
   | exact ⟨(), ⟨S, ⟨hw, hpl, hun, by rw [e4]; grind⟩⟩, ((by repeat (first | exact Ks.le_nil _ | refine Ks.le_cons rfl ?_)))⟩
   | (refine K_ret ⟨_, rfl, ?_⟩; exact ⟨by rw [Kd.err4 hw hpl hun (by rw [e4]; grind)]; rfl, S.drop⟩)
 clear S
 rintro _ h ⟨S, hone⟩
 skip
 (repeat (refine K_seq ?_)); first | refine K_join (σ := Unit) (fun _ h' => Hs h0 h' [.blk b (eRu r) 125, .blk b2 v.cs 28] ∧ ¬ ((kdOf r.k).b = true ∧ r.a = r.b)) (fun _ => [(2, .pointer (some ⟨b2, 0, none⟩)), (3, .pointer (some ⟨b, 0, none⟩)), (4, .int .i64 0), (5, .int .u8 r.k)]) ?_ ?_
 ·all_goals (repeat' (first | (refine K_region (id := 14) ?_; refine mv ?_)))
  all_goals (try ((refine KO_fn rfl rfl rfl rfl rfl ((rtwo_ok S.wf r.k).mono ?_); rintro _ h ⟨⟨rfl, z3⟩ | ⟨rfl, z3⟩, x⟩) <;> (replace S := S.join0 x; clear x; refine mv ?_; (first | refine off ?_ | (refine vl ?_)); (first | refine off ?_ | (refine lB S rfl rfl ?_)); (first | refine off ?_ | (refine vl ?_)); (first | refine off ?_ | (refine lB S rfl rfl ?_)); (first | refine off ?_ | (refine tS ?_ ?_ <;> intro hc)) <;> (refine vl ?_; refine KO_nil ?_))))
  all_goals (all_goals (repeat' (first | refine K_seq ?_ | refine k_cond rfl ?_ | refine K_skip ?_ | (refine K_region (id := 15) ?_; refine mv ?_; refine KO_nil ?_))))
  all_goals first
   | exact ⟨(), ⟨S, by rw [e1]; grind⟩, ((by repeat (first | exact Ks.le_nil _ | refine Ks.le_cons rfl ?_)))⟩
   | (refine K_ret ⟨_, rfl, ?_⟩; exact ⟨by rw [Kd.err5 hone (by rw [e1]; grind)]; rfl, S.drop⟩)
 clear S
 rintro _ h ⟨S, h5⟩
 rw [Kd.errR hone h5]
 skip
 (repeat (refine K_seq ?_)); first | refine K_join1 (σ := Int) (fun i h' => Hs h0 h' [.blk b (eRu r) 125, .blk b2 v.cs 28] ∧ ((hasT p.tabs r.t ∧ i = tix p.tabs r.t) ∨ (¬ hasT p.tabs r.t ∧ i = -1))) (fun i => [(2, .pointer (some ⟨b2, 0, none⟩)), (3, .pointer (some ⟨b, 0, none⟩)), (4, .int .i64 0), (5, .int .u8 r.k), (6, .int .i64 i)]) ?_ ?_
 ·all_goals (repeat' (first | (refine K_region (id := 16) ?_; refine vl ?_; refine lB S rfl rfl ?_; refine vl ?_; refine lB S rfl rfl ?_)))
  (refine KO_fn rfl rfl rfl rfl rfl ((rtableAt_ok S.wf v.vt.val p.tabs (hr.ext w S.ext) (by omega) r.t).mono ?_); rintro _ h ⟨⟨rfl, z⟩ | ⟨rfl, z⟩, x⟩) <;> (replace S := S.join0 x; clear x; refine mv ?_; refine KO_nil ?_)
  all_goals (all_goals (repeat' (fail)))
  ·exact ⟨_, ⟨S, .inl ⟨z, rfl⟩⟩, ((by repeat (first | exact Ks.le_nil _ | refine Ks.le_cons rfl ?_)))⟩
  ·exact ⟨_, ⟨S, .inr ⟨z, rfl⟩⟩, ((by repeat (first | exact Ks.le_nil _ | refine Ks.le_cons rfl ?_)))⟩
 clear S
 rintro i h ⟨S, hi⟩
 have hib : (0 ≤ i ↔ hasT p.tabs r.t) ∧ i ≤ 1000 ∧ -1 ≤ i := by
  rcases hi with ⟨z, rfl⟩ | ⟨z, rfl⟩
  ·have := tix_lt z
   exact ⟨⟨fun _ => z, fun _ => by omega⟩, by omega, by omega⟩
  ·exact ⟨⟨fun q => by omega, fun q => absurd q z⟩, by omega, by omega⟩
 skip
 (repeat (refine K_seq ?_)); first | refine K_join (σ := Unit) (fun _ h' => Hs h0 h' [.blk b (eRu r) 125, .blk b2 v.cs 28] ∧ ¬ (kdOf r.k).ut p.tabs r) (fun _ => [(2, .pointer (some ⟨b2, 0, none⟩)), (3, .pointer (some ⟨b, 0, none⟩)), (4, .int .i64 0), (5, .int .u8 r.k), (6, .int .i64 i)]) ?_ ?_
 ·all_goals (repeat' (first | (refine K_region (id := 17) ?_; refine mv ?_)))
  (refine KO_fn rfl rfl rfl rfl rfl ((rtables_ok S.wf r.k).mono ?_); rintro _ h ⟨n4, rfl, z4, x⟩) <;> (replace S := S.join0 x; clear x; (first | (refine cS ?_ ?_ <;> intro hc)) <;> (refine mv ?_; (first | refine off ?_ | refine mv ?_); (first | refine off ?_ | (first | (refine cS ?_ ?_ <;> intro hc))) <;> (refine vl ?_; refine mv ?_; (first | refine off ?_ | refine mv ?_); (first | (refine off ?_; (refine off ?_) <;> ((refine off ?_); refine off ?_; refine off ?_; (refine off ?_) <;> ((refine off ?_); refine off ?_; refine off ?_; (refine off ?_) <;> ((refine off ?_); refine vl ?_; refine KO_nil ?_)))) | skip))))
  all_goals (try ((refine KO_fn rfl rfl rfl rfl rfl ((rtables_ok S.wf r.k).mono ?_); rintro _ h ⟨n5, rfl, z5, x⟩) <;> (replace S := S.join0 x; clear x; (first | (first | refine cF ?_ | (refine cS ?_ ?_ <;> intro hc))) <;> ((refine mv ?_); (first | refine off ?_ | (refine vl ?_)); (first | refine off ?_ | (refine lB S rfl rfl ?_)); (first | refine off ?_ | (refine tS ?_ ?_ <;> intro hc)) <;> ((refine vl ?_); refine mv ?_; (first | refine off ?_ | refine mv ?_); (first | refine off ?_ | (first | (refine cS ?_ ?_ <;> intro hc))) <;> ((refine vl ?_); refine vl ?_; refine KO_nil ?_))))))
  all_goals (all_goals (repeat' (first | refine K_seq ?_ | refine k_cond rfl ?_ | refine K_skip ?_ | (refine K_region (id := 18) ?_; refine mv ?_; refine KO_nil ?_))))
  all_goals first
   | exact ⟨(), ⟨S, by rw [ut_iff h18]; grind⟩, ((by repeat (first | exact Ks.le_nil _ | refine Ks.le_cons rfl ?_)))⟩
   | (refine K_ret ⟨_, rfl, ?_⟩; exact ⟨by rw [if_pos (by rw [ut_iff h18]; grind)]; rfl, S.drop⟩)
 clear S
 rintro _ h ⟨S, hut⟩
 rw [if_neg hut]
 skip
 all_goals (repeat' (first | refine K_seq ?_ | (refine K_region (id := 19) ?_; refine mv ?_; refine KO_nil ?_) | (refine K_region (id := 20) ?_; refine mv ?_; refine KO_nil ?_)))
 skip
 (repeat (refine K_seq ?_)); first | refine K_join (σ := Int) (fun lo h' => Hs h0 h' [.blk b (eRu r) 125, .blk b2 v.cs 28] ∧ lo = (kdOf r.k).lo) (fun lo => [(2, .pointer (some ⟨b2, 0, none⟩)), (3, .pointer (some ⟨b, 0, none⟩)), (4, .int .i64 0), (5, .int .u8 r.k), (6, .int .i64 i), (7, .int .i64 lo), (8, .int .i64 24)]) ?_ ?_
 ·all_goals (repeat' (first | refine k_cond rfl ?_ | refine K_skip ?_ | (refine K_region (id := 21) ?_; refine mv ?_; (first | (refine cS ?_ ?_ <;> intro hc)) <;> (refine KO_nil ?_)) | (refine K_region (id := 22) ?_; refine mv ?_; refine KO_nil ?_)))
  ·exact ⟨1, ⟨S, by rw [e10, if_pos (by assumption)]⟩, ((by repeat (first | exact Ks.le_nil _ | refine Ks.le_cons rfl ?_)))⟩
  ·exact ⟨0, ⟨S, by rw [e10, if_neg (by assumption)]⟩, ((by repeat (first | exact Ks.le_nil _ | refine Ks.le_cons rfl ?_)))⟩
 clear S
 rintro lo h ⟨S, rfl⟩
 skip
 (repeat (refine K_seq ?_)); first | refine K_join (σ := Unit) (fun _ h' => Hs h0 h' [.blk b (eRu r) 125, .blk b2 v.cs 28]) (fun _ => [(2, .pointer (some ⟨b2, 0, none⟩)), (3, .pointer (some ⟨b, 0, none⟩)), (4, .int .i64 0), (5, .int .u8 r.k), (7, .int .i64 (kdOf r.k).lo), (8, .int .i64 ((kdOf r.k).most p.tabs r))]) ?_ ?_
 ·all_goals (repeat' (first | refine k_cond rfl ?_ | refine K_skip ?_ | (refine K_region (id := 23) ?_; refine mv ?_; (first | (refine cS ?_ ?_ <;> intro hc)) <;> (refine KO_nil ?_))))
  ·have h7 : r.k = 7 := by assumption
   have hT : hasT p.tabs r.t := Classical.not_not.1 fun q => hut ((ut_iff h18).2 (.inl ⟨by omega, q⟩))
   have hlt := tix_lt hT
   have hit : i = tix p.tabs r.t := by
    rcases hi with ⟨z, e⟩ | ⟨z, e⟩
    ·exact e
    ·exact absurd hT z
   subst hit
   have b1 := tsize_le (tb p.tabs (tix p.tabs r.t))
   all_goals (repeat' (first | (refine K_region (id := 24) ?_; refine vl ?_; refine lB S rfl rfl ?_; refine mv ?_; refine ixB S ?_; refine lEB S ?_)))
   simp only [Int.toNat_natCast]
   (refine KO_fn rfl rfl rfl rfl rfl ((refSize_ok S.wf (tb p.tabs (tix p.tabs r.t))).mono ?_); rintro _ h ⟨rfl, x⟩) <;> (replace S := S.join0 x; clear x; refine sb ?_; refine mv ?_; refine KO_nil ?_)
   all_goals (repeat' (fail))
   exact ⟨(), S, by unfold Kd.most; rw [if_pos (e11.2 h7)]; exact ((by repeat (first | exact Ks.le_nil _ | refine Ks.le_cons rfl ?_)))⟩
  ·exact ⟨(), S, by unfold Kd.most; rw [if_neg (fun q => (by assumption : ¬ r.k = 7) (e11.1 q))]; exact ((by repeat (first | exact Ks.le_nil _ | refine Ks.le_cons rfl ?_)))⟩
 clear S
 rintro _ h S
 skip
 all_goals (repeat' (first | refine K_seq ?_ | (refine K_region (id := 25) ?_; refine mv ?_)))
 (refine KO_fn rfl rfl rfl rfl rfl ((rnumber_ok S.wf r.k).mono ?_); rintro _ h ⟨⟨rfl, z5⟩ | ⟨rfl, z5⟩, x⟩) <;> (replace S := S.join0 x; clear x; refine mv ?_; (first | refine off ?_ | (refine vl ?_)); (first | refine off ?_ | (refine lB S rfl rfl ?_)); (first | refine off ?_ | refine mv ?_); (first | refine off ?_ | (first | (refine cS ?_ ?_ <;> intro hc))) <;> ((first | refine off ?_ | refine mv ?_); (first | refine off ?_ | (refine vl ?_)); (first | refine off ?_ | (refine lB S rfl rfl ?_)); (first | refine off ?_ | refine mv ?_); (first | refine off ?_ | (first | (refine cS ?_ ?_ <;> intro hc))) <;> ((first | refine off ?_ | refine vl ?_); refine vl ?_; refine KO_nil ?_)))
 all_goals (all_goals (repeat' (first | refine K_seq ?_ | refine k_cond rfl ?_ | refine K_skip ?_ | (refine K_region (id := 26) ?_; refine mv ?_; refine KO_nil ?_) | (refine K_region (id := 27) ?_; refine mv ?_; refine KO_nil ?_))))
 all_goals (refine K_ret ⟨_, rfl, ?_⟩)
 all_goals first
  | exact ⟨by rw [if_pos ⟨e9.2 z5, .inl (by omega)⟩]; rfl, S.drop⟩
  | exact ⟨by rw [if_pos ⟨e9.2 z5, .inr (by omega)⟩]; rfl, S.drop⟩
  | exact ⟨by rw [if_neg (fun q => by have := q.2; omega)]; rfl, S.drop⟩
  | exact ⟨by rw [if_neg (fun q => z5 (e9.1 q.1))]; rfl, S.drop⟩
end Go.Proofs.Xx
