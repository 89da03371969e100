/-
  HallOrbit: orbit and stabilizer of a seat.
-/
import Derived.Test.YtnopenpheaihmaaGreatDoorM13
import Derived.Test.YtnopenpheaihmaaGreatDoorM10
import Derived.Test.YtnopenpheaihmaaGreatDoorM11
import Derived.Test.YtnopenpheaihmaaGreatDoorM7
import Derived.Test.YtnopenpheaihmaaGreatDoorRows
import Derived.Lib.LaidTab
import Derived.Stop.LaidErr

namespace Go.Proofs.Xx
open Go Go.Proofs
set_option linter.unusedSimpArgs false
set_option linter.unusedVariables false
set_option maxRecDepth 100000

section
variable {P : Program} {X : Extern} {ops : Array Oper} {os : List Oper} {o : Oper} {sz : Nat} {h h0 : AH} {rs : List Rs} {R : Ks → AH → Prop}
/-- Steps that stand ahead of a float. -/
inductive HSteps (P : Program) (ops : Array Oper) (sz : Nat) (h : AH) : Ks → List Nat → Ks → Prop where
  | nil {L : Ks} : HSteps P ops sz h L [] L
  | cons {L L1 L' : Ks} {k : Nat} {ks : List Nat} {ok : Oper} {v : Value} {h' : AH} (hok : ops[k]? = some ok) (hg : guardA ops L.tree ok.guard = some true) (ha : aOp P L.tree h ok.op = some (.val v h')) (hd : putK sz L ok.dst v = some L1) (r : HSteps P ops sz h L1 ks L') : HSteps P ops sz h L (k :: ks) L'
theorem HSteps.mv {L L1 L' : Ks} {k : Nat} {ks : List Nat} {ok : Oper} {v : Value} {x : Operand} (hok : ops[k]? = some ok) (hm : ok.op = .move x) (hx : kA L x = some v) (hg : guardA ops L.tree ok.guard = some true) (hd : putK sz L ok.dst v = some L1) (r : HSteps P ops sz h L1 ks L') : HSteps P ops sz h L (k :: ks) L' :=
  .cons (h' := h) hok hg (by rw [hm]; simp only [aOp, tree_le hx, nextOf]) hd r
theorem HSteps.run {L L' : Ks} {ks : List Nat} (s : HSteps P ops sz h L ks L') : ∀ {t : Tr Value}, Kn t L → Kn (ks.foldl (stepH P ops sz h) t) L' := by
  induction s with
  | nil => intro t hk; exact hk
  | @cons _ _ _ k _ _ _ _ hok hg ha hd r ih =>
    intro t hk
    obtain ⟨t1, e1, k1⟩ := putK_ok hk hd
    rw [List.foldl_cons]
    have : stepH P ops sz h t k = t1 := by
      unfold stepH
      simp only [hok, guardA_le hk.tle hg, aOp_le hk.tle ha, e1]
    rw [this]
    exact ih k1
theorem HintOk.many {L L' : Ks} {j : Nat} {ks : List Nat} {o : Oper} {x : Option Nat} {c : List Value} {e : TypeId} (hp : predsOf ops (masks ops.toList []) j = ks) (ho : ops[j]? = some o) (s : HSteps P ops sz h L ks L') (hf : aFloat P L'.tree o.op = some (x, c, e)) : HintOk P ops sz L h j c e := fun t hk => by
  unfold hintObj
  rw [ho, hp]
  simp only [aFloat_le (s.run hk).tle hf]
end
theorem StayL.out {t : Tab} {st : List Int} {L : List PL} {z : Int} (h : StayL t st (L.map (·.2))) (hz : z ∈ st) (hq : ¬ z < tsize t) : L = [] := by
  rcases h with ⟨-, q, -⟩ | ⟨-, q⟩
  · exact absurd (q z hz).2 hq
  · simpa using q
set_option maxHeartbeats 8000000 in
theorem hallOrbit_true {h0 : AH} (w : WfH h0) (c : Cod) (A : CodA h0 c) (pa pb : Nat) (ha : pa < 256) (hb : pb < 256) : Fn Tryz.prog Xh 12 [codV c, .int .u8 pa, .int .u8 pb] h0 (fun x _ => x = .bool true) := by
  have S := Hs.start w
  refine Fn_K rfl Tryz.func12 rfl rfl ?_
  all_goals (repeat' (first | refine K_seq ?_ | (refine K_region (id := 0) ?_; (refine bx S ?_; clear S; intro b h S); refine mv ?_; refine KO_nil ?_) | (refine K_region (id := 1) ?_; refine lB S rfl rfl ?_)))
  (refine KO_fn rfl rfl rfl rfl rfl ((one_ok S.wf c (A.ext w S.ext)).mono ?_); rintro _ g ⟨vh, l, n, rfl, hm, hl1, hn, hn0, hn1, x⟩) <;> (replace S := S.join2 x; clear x; refine mv ?_; refine vl ?_; refine vl ?_; refine vl ?_; refine mv ?_; refine mv ?_; refine mv ?_; refine KO_nil ?_)
  have H := hm.hallR S .here (.there .here)
  have hchk : chk (tb l 0) = 0 := (hm.valid.2 0 (by omega)).1
  have hs := tabS_chk hchk
  have r := H.tab 0 (by omega)
  have hr := H.rd
  have w1 := S.wf
  clear H
  replace S := Hs.start w1
  obtain ⟨X, hX⟩ : ∃ X : Nat, (pa : Int) % n = X := ⟨pa % n, by omega⟩
  obtain ⟨Y, hY⟩ : ∃ Y : Nat, (pb : Int) % n = Y := ⟨pb % n, by omega⟩
  have hXn : X < n := by have := Int.emod_lt_of_pos (pa : Int) (show (0 : Int) < n by omega); omega
  have hYn : Y < n := by have := Int.emod_lt_of_pos (pb : Int) (show (0 : Int) < n by omega); omega
  all_goals (repeat' (first | refine K_seq ?_ | refine k_cond rfl ?_ | refine K_skip ?_ | (refine K_region (id := 2) ?_; refine mv ?_; refine vl ?_; refine KO_nil ?_) | (refine K_draw (id := 4) ?_; refine mv ?_; refine cI ?_; refine mv ?_; refine rm ?_; refine mv ?_; refine cI ?_; refine mv ?_; refine rm ?_; refine mv ?_; refine mv ?_; refine KO_nil ?_)))
  simp only [hX, hY]
  (repeat (refine K_seq ?_)); refine K_drawF3 (id := 5) (j1 := 8) (j2 := 14) (j3 := 22) (rd := [(6, (0, 1)), (8, (0, 1)), (12, (0, 2)), (14, (0, 2)), (18, (0, 3)), (22, (0, 3))]) (fun b1 b2 b3 => [some (blkS vh), some b1, some (blkS vh), some b2, some (blkS vh), some b3]) S (by exact HintOk.many (ks := [7]) (by decide +kernel) rfl (.mv rfl rfl rfl rfl rfl .nil) rfl) (by exact HintOk.many (ks := [13]) (by decide +kernel) rfl (.mv rfl rfl rfl rfl rfl .nil) rfl) (by exact HintOk.many (ks := [19, 20, 21]) (by decide +kernel) rfl (.mv rfl rfl rfl rfl rfl (.mv rfl rfl rfl rfl rfl (.mv rfl rfl rfl rfl rfl .nil))) rfl) ?_; clear S; intro b1 b2 b3 h S; refine KX_cons ?_; (first | (refine mv ?_ <;> refine KO_nil ⟨⟨by (first | exact True.intro), rfl⟩, ?_⟩)); refine KX_cons ?_; (first | (refine ixB S ?_ <;> refine KO_nil ⟨⟨by (first | exact True.intro), rfl⟩, ?_⟩)); refine KX_cons ?_; (first | (refine lEB S ?_ <;> refine KO_nil ⟨⟨by (first | exact True.intro), rfl⟩, ?_⟩))
  ((refine KX_cons ?_; first | refine KO_fn rfl rfl rfl rfl rfl ((turns_ok S.wf (tb l 0) (r.ext w1 S.ext)).mono ?_)); rintro vT h ⟨LT, hT, x⟩) <;> ((refine KO_nil ⟨⟨True.intro, ?_⟩, ?_⟩; (focus ((show keepsX _ _ _ _ _; simp only [keepsX]; (repeat' (first | exact True.intro | refine And.intro ?_ ?_)); all_goals (intro hw; first | exact x.ext.old _ S.bB | exact x.ext.old _ (S.bX (by assumption) (by assumption) (by first | omega))))))); replace S := S.join2 x; clear x; refine KX_cons ?_; (first | (refine mv ?_ <;> refine KO_nil ⟨⟨by (first | exact True.intro), rfl⟩, ?_⟩)); refine KX_cons ?_; (first | (refine ixB S ?_ <;> refine KO_nil ⟨⟨by (first | exact True.intro), rfl⟩, ?_⟩)); refine KX_cons ?_; (first | (refine lEB S ?_ <;> refine KO_nil ⟨⟨by (first | exact Or.inr (congrArg some (blkOf_elA _ _ _ _))), rfl⟩, ?_⟩)); refine KX_cons ?_; (first | (refine mv ?_ <;> refine KO_nil ⟨⟨by (first | exact True.intro), rfl⟩, ?_⟩)); refine fl S rfl rfl S.gB ?_)
  ((refine KX_cons ?_; first | refine KO_fn rfl rfl rfl rfl rfl ((stay_ok S.wf (tb l 0) (r.ext w1 S.ext) (.slice (some ⟨b1, 0, none⟩) 1 1) [(X : Int)] (rd_blk eI [(X : Int)] S.gB) (by simp)).mono ?_)); rintro v1 h ⟨L1, h1, x⟩) <;> ((refine KO_nil ⟨⟨True.intro, ?_⟩, ?_⟩; (focus ((show keepsX _ _ _ _ _; simp only [keepsX]; (repeat' (first | exact True.intro | refine And.intro ?_ ?_)); all_goals (intro hw; first | exact x.ext.old _ S.bB | exact x.ext.old _ (S.bX (by assumption) (by assumption) (by first | omega))))))); replace S := S.join2 x; clear x; refine KX_cons ?_; (first | (refine mv ?_ <;> refine KO_nil ⟨⟨by (first | exact True.intro), rfl⟩, ?_⟩)); refine KX_cons ?_; (first | (refine ixB S ?_ <;> refine KO_nil ⟨⟨by (first | exact True.intro), rfl⟩, ?_⟩)); refine KX_cons ?_; (first | (refine lEB S ?_ <;> refine KO_nil ⟨⟨by (first | exact Or.inr (congrArg some (blkOf_elA _ _ _ _))), rfl⟩, ?_⟩)); refine KX_cons ?_; (first | (refine mv ?_ <;> refine KO_nil ⟨⟨by (first | exact True.intro), rfl⟩, ?_⟩)); refine fl S rfl rfl S.gB ?_)
  ((refine KX_cons ?_; first | refine KO_fn rfl rfl rfl rfl rfl ((stay_ok S.wf (tb l 0) (r.ext w1 S.ext) (.slice (some ⟨b2, 0, none⟩) 1 1) [(Y : Int)] (rd_blk eI [(Y : Int)] S.gB) (by simp)).mono ?_)); rintro v2 h ⟨L2, h2, x⟩) <;> ((refine KO_nil ⟨⟨True.intro, ?_⟩, ?_⟩; (focus ((show keepsX _ _ _ _ _; simp only [keepsX]; (repeat' (first | exact True.intro | refine And.intro ?_ ?_)); all_goals (intro hw; first | exact x.ext.old _ S.bB | exact x.ext.old _ (S.bX (by assumption) (by assumption) (by first | omega))))))); replace S := S.join2 x; clear x; refine KX_cons ?_; (first | (refine mv ?_ <;> refine KO_nil ⟨⟨by (first | exact True.intro), rfl⟩, ?_⟩)); refine KX_cons ?_; (first | (refine ixB S ?_ <;> refine KO_nil ⟨⟨by (first | exact True.intro), rfl⟩, ?_⟩)); refine KX_cons ?_; (first | (refine lEB S ?_ <;> refine KO_nil ⟨⟨by (first | exact Or.inr (congrArg some (blkOf_elA _ _ _ _))), rfl⟩, ?_⟩)); refine KX_cons ?_; (first | (refine mv ?_ <;> refine KO_nil ⟨⟨by (first | exact True.intro), rfl⟩, ?_⟩)); refine KX_cons ?_; (first | (refine mv ?_ <;> refine KO_nil ⟨⟨by (first | exact True.intro), rfl⟩, ?_⟩)); refine KX_cons ?_; (first | (refine mv ?_ <;> refine KO_nil ⟨⟨by (first | exact True.intro), rfl⟩, ?_⟩)); refine fl S rfl rfl S.gB ?_)
  ((refine KX_cons ?_; first | refine KO_fn rfl rfl rfl rfl rfl ((stay_ok S.wf (tb l 0) (r.ext w1 S.ext) (.slice (some ⟨b3, 0, none⟩) 3 3) [(X : Int), (Y : Int), (X : Int)] (rd_blk eI [(X : Int), (Y : Int), (X : Int)] S.gB) (by simp)).mono ?_)); rintro v3 h ⟨L3, h3, x⟩) <;> ((refine KO_nil ⟨⟨True.intro, ?_⟩, ?_⟩; (focus ((show keepsX _ _ _ _ _; simp only [keepsX]; (repeat' (first | exact True.intro | refine And.intro ?_ ?_)); all_goals (intro hw; first | exact x.ext.old _ S.bB | exact x.ext.old _ (S.bX (by assumption) (by assumption) (by first | omega))))))); replace S := S.join2 x; clear x; refine KX_cons ?_; (first | (refine mv ?_ <;> refine KO_nil ⟨⟨by (first | exact True.intro), rfl⟩, ?_⟩)); refine KX_cons ?_; (first | (refine mv ?_ <;> refine KO_nil ⟨⟨by (first | exact True.intro), rfl⟩, ?_⟩)); refine KX_cons ?_; (first | (refine mv ?_ <;> refine KO_nil ⟨⟨by (first | exact True.intro), rfl⟩, ?_⟩)); refine KX_cons ?_; (first | (refine mv ?_ <;> refine KO_nil ⟨⟨by (first | exact True.intro), rfl⟩, ?_⟩)); refine KX_nil ?_)
  all_goals (repeat' (refine K_seq ?_))
  have wg := S.wf
  obtain ⟨fpT, kT⟩ := S.anyP (.there (.there (.there (.there (.there (.there (.there .here)))))))
  obtain ⟨fp1, k1⟩ := S.anyP (.there (.there (.there (.there (.there .here)))))
  obtain ⟨fp2, k2⟩ := S.anyP (.there (.there (.there .here)))
  obtain ⟨fp3, k3⟩ := S.anyP (.there .here)
  have rT := RLL.ofP (Rd.of_rd S (.there (.there (.there (.there (.there (.there .here))))))) kT
  have r1 := RLL.ofP (Rd.of_rd S (.there (.there (.there (.there .here))))) k1
  have r2 := RLL.ofP (Rd.of_rd S (.there (.there .here))) k2
  have r3 := RLL.ofP (Rd.of_rd S .here) k3
  clear kT k1 k2 k3
  generalize LT.map (·.2) = ls at hT rT
  generalize L1.map (·.2) = A1 at h1 r1
  generalize L2.map (·.2) = A2 at h2 r2
  generalize L3.map (·.2) = D at h3 r3
  replace r := r.ext w1 S.ext
  replace hr := hr.ext w1 S.ext
  replace S := Hs.start wg
  have hcap := hm.valid
  have oX : StOk (tb l 0) [(X : Int)] := fun z hz => by obtain rfl : z = (X : Int) := (by simpa using hz); omega
  have oY : StOk (tb l 0) [(Y : Int)] := fun z hz => by obtain rfl : z = (Y : Int) := (by simpa using hz); omega
  have oD : StOk (tb l 0) [(X : Int), (Y : Int), (X : Int)] := fun z hz => by
    have : z = (X : Int) ∨ z = (Y : Int) ∨ z = (X : Int) := by simpa using hz
    omega
  have tT := hT.turn hchk stOk_nil
  have t1 := h1.turn hchk oX
  have t2 := h2.turn hchk oY
  have t3 := h3.turn hchk oD
  have hnn : (tsize (tb l 0)).toNat = n := by omega
  have lT := hT.len
  have ll1 := h1.len
  have ll2 := h2.len
  have ll3 := h3.len
  have hne : ls.length ≠ 0 := fun q => tT.ne hs (List.length_eq_zero_iff.1 q)
  obtain ⟨vs, hvs, hvl, hk⟩ := rT
  have rT : RLL h vT ls := ⟨vs, hvs, hvl, hk⟩
  obtain ⟨g2, hnm⟩ : ∃ x, x = h := ⟨_, rfl⟩; subst hnm
  skip
  all_goals (repeat' (first | (refine K_region (id := 6) ?_; refine mv ?_)))
  refine m_make (z := 1) (by_ := 1) (enc := eB) (y0 := false) S rfl rfl rfl rfl rfl rfl rfl rfl rfl (by intro _; rfl) (by first | omega) rfl rfl ?_; clear S; intro v h S; refine mv ?_; refine KO_nil ?_
  have zs := nSeen_zero (x := X) (n := n) (ls := ls)
  have zk := nKeep_zero (st := [(X : Int), (Y : Int), (X : Int)]) (ls := ls)
  all_goals (repeat' (first | refine K_seq ?_ | refine k_block ?_ | (refine K_region (id := 7) ?_; refine mv ?_; refine mv ?_; refine KO_nil ?_) | (refine K_region (id := 8) ?_; refine mv ?_; refine lnB S ?_; refine mv ?_; refine KO_nil ?_)))
  obtain ⟨vb, hnm⟩ : ∃ x, x = v := ⟨_, rfl⟩; subst hnm
  simp only [Int.toNat_natCast] at S
  refine k_loop (σ := Nat × List Bool) (fun (i, bs) h' => Hs g2 h' [.sl vb 4 1 eB bs] ∧ i ≤ ls.length ∧ bs.length = n ∧ (∀ y, y < n → (bs.getD y default = true ↔ seenB X ls i y))) (fun (i, bs) => ls.length - i) (fun (i, bs) => [(7, vh), (8, .int .i64 n), (10, .int .i64 X), (11, .int .i64 Y), (12, vT), (13, v1), (14, v2), (15, v3), (16, vb), (17, .int .i64 (nSeen X n ls i)), (18, .int .i64 (nKeep [(X : Int), (Y : Int), (X : Int)] ls i)), (63, vT), (64, .int .i64 ls.length), (65, .int .i64 i)]) (0, List.replicate n false) (by repeat (first | exact Ks.le_nil _ | refine Ks.le_cons rfl ?_ | refine Ks.le_int ?_)) ?_ ?_
  · exact ⟨S, Nat.zero_le _, by simp, fun y hy => ⟨fun q => by simp [List.getD_eq_getElem?_getD, hy] at q, fun ⟨j, h, _⟩ => by omega⟩⟩
  clear S
  rintro ⟨i, bs⟩ h' ⟨S, hi1, hbl, hbs⟩
  have nl := nSeen_le (x := X) (n := n) (ls := ls) (i := i)
  have kl := nKeep_le (st := [(X : Int), (Y : Int), (X : Int)]) (ls := ls) (i := i)
  all_goals (repeat' (first | refine K_seq ?_ | refine k_cond rfl ?_ | refine K_skip ?_ | refine K_exit ?_ | refine k_block ?_ | (refine K_region (id := 9) ?_; (first | (refine cS ?_ ?_ <;> intro hc)) <;> (refine KO_nil ?_)) | (refine K_region (id := 10) ?_; refine ixB S ?_; refine lEB S ?_; refine mv ?_; refine KO_nil ?_)))
  · have hi : i < ls.length := by omega
    (try simp only [Int.toNat_natCast])
    have hp := hk i hi
    have hpm : ls.getD i default ∈ ls := mem_getD.2 ⟨i, hi, rfl⟩
    have hpt := (tT.trn _).1 hpm
    have hpl := hpt.len
    have hpx := hpt.bnd hs (k := X) (by omega)
    have hpy := hpt.bnd hs (k := Y) (by omega)
    have m1 := stay_mem tT t1 hpm
    have m2 := stay_mem tT t2 hpm
    have m3 := stay_mem tT t3 hpm
    have ns1 := @nSeen_yes X n i ls
    have ns2 := @nSeen_no X n i ls
    have nk := @nKeep_succ [(X : Int), (Y : Int), (X : Int)] ls i hi
    have sb := fun y => @seenB_succ X i y ls
    clear hpt hpm
    unfold lAt at ns1 ns2 nk sb
    unfold pAt at hpx hpy
    generalize ls.getD i default = p at *
    generalize vs.getD i default = pv at *
    have hpx2 : 0 ≤ p.getD (X : Int).toNat default ∧ p.getD (X : Int).toNat default < tsize (tb l 0) := hpx
    have hpy2 : 0 ≤ p.getD (Y : Int).toNat default ∧ p.getD (Y : Int).toNat default < tsize (tb l 0) := hpy
    have z1e : (∀ x, x ∈ [(X : Int)] → pAt p x.toNat = x) ↔ p.getD X default = X := by simp
    have z2e : (∀ x, x ∈ [(Y : Int)] → pAt p x.toNat = x) ↔ p.getD Y default = Y := by simp
    have z3e : (∀ x, x ∈ [(X : Int), (Y : Int), (X : Int)] → pAt p x.toNat = x) ↔ (p.getD X default = X ∧ p.getD Y default = Y) := by
      simp; intro q _; exact q
    rw [z1e] at m1
    rw [z2e] at m2
    rw [z3e] at m3
    replace nk : nKeep [(X : Int), (Y : Int), (X : Int)] ls (i + 1) = nKeep [(X : Int), (Y : Int), (X : Int)] ls i + if (p.getD X default = X ∧ p.getD Y default = Y) then 1 else 0 := by
      rw [nk]
      congr 1
      have e : okN [(X : Int), (Y : Int), (X : Int)] [(X : Int), (Y : Int), (X : Int)].length p = true ↔ (p.getD X default = X ∧ p.getD Y default = Y) := okN_all.trans z3e
      by_cases q : p.getD X default = X ∧ p.getD Y default = Y
      · rw [if_pos q, if_pos (e.2 q)]
      · rw [if_neg q, if_neg fun z => q (e.1 z)]
    clear z1e z2e z3e
    skip
    all_goals (repeat' (first | refine K_seq ?_ | refine k_cond rfl ?_ | refine K_skip ?_ | (refine K_region (id := 11) ?_; refine mv ?_; refine lnB S ?_; refine mv ?_; (refine cF ?_) <;> (refine mv ?_; refine mv ?_; refine mv ?_; (first | (refine ixB S ?_)); (first | (refine lEB S ?_)); (first | (refine cF ?_)) <;> (refine vl ?_; refine mv ?_; refine mv ?_; refine mv ?_; (first | (refine ixB S ?_)); (first | (refine lEB S ?_)); refine mv ?_; (first | (refine cF ?_)) <;> (refine vl ?_; refine KO_nil ?_))))))
    skip
    first | refine K_join (σ := List Bool) (fun bs h' => Hs g2 h' [.sl vb 4 1 eB bs] ∧ bs.length = n ∧ (∀ y, y < n → (bs.getD y default = true ↔ seenB X ls (i + 1) y))) (fun bs => [(7, vh), (8, .int .i64 n), (10, .int .i64 X), (11, .int .i64 Y), (12, vT), (13, v1), (14, v2), (15, v3), (16, vb), (17, .int .i64 (nSeen X n ls (i + 1))), (18, .int .i64 (nKeep [(X : Int), (Y : Int), (X : Int)] ls i)), (20, pv), (63, vT), (64, .int .i64 ls.length), (65, .int .i64 i)]) ?_ ?_
    · have hy := hbs (p.getD X default).toNat (by omega)
      have hyn : (p.getD X default).toNat < n := by omega
      (repeat (refine K_seq ?_)); refine K_region (id := 13) ?_; refine mv ?_; refine mv ?_; refine mv ?_; refine ixB S ?_; refine lEB S ?_; refine ixS2 S rfl rfl ?_; refine lES2 S rfl rfl ?_; refine vl ?_; refine KO_nil ?_
      simp only [Int.toNat_natCast]
      cases hb : bs.getD (p.getD X default).toNat default
      · have hn2 := ns2 hyn fun q => by have := hy.2 q; rw [hb] at this; cases this
        all_goals (repeat' (first | refine K_seq ?_ | refine k_cond rfl ?_ | (refine K_region (id := 14) ?_; refine mv ?_; refine mv ?_; refine mv ?_; refine ixB S ?_; refine lEB S ?_; refine ixS2 S rfl rfl ?_; (first | (refine sE2 S rfl rfl ?_; clear S; intro h S)); refine KO_nil ?_) | (refine K_region (id := 15) ?_; refine mv ?_; refine ad ?_; refine mv ?_; refine KO_nil ?_)))
        refine ⟨_, ⟨S, by simpa using hbl, fun y hy2 => ?_⟩, ((by repeat (first | exact Ks.le_nil _ | refine Ks.le_cons rfl ?_ | refine Ks.le_int ?_)))⟩
        rw [sb, ← hbs y hy2]
        have e : (bs.set (p.getD X default).toNat true).getD y default = if y = (p.getD X default).toNat then true else bs.getD y default := getD_set _ _ (by omega) _
        show (bs.set (p.getD X default).toNat true).getD y default = true ↔ _
        rw [e]
        by_cases q : y = (p.getD X default).toNat
        · rw [if_pos q]; exact ⟨fun _ => .inr q.symm, fun _ => rfl⟩
        · rw [if_neg q]; exact ⟨.inl, fun z => z.elim id fun z => absurd z.symm q⟩
      · have hn1 := ns1 (hy.1 hb)
        all_goals (repeat' (first | refine k_cond rfl ?_ | refine K_skip ?_))
        refine ⟨bs, ⟨S, hbl, fun y hy2 => ?_⟩, ((by repeat (first | exact Ks.le_nil _ | refine Ks.le_cons rfl ?_ | refine Ks.le_int ?_)))⟩
        rw [sb, ← hbs y hy2]
        exact ⟨.inl, fun q => q.elim id fun q => q ▸ hb⟩
    clear S ns1 ns2 sb
    rintro bs2 h4 ⟨S, hbl2, hbs2⟩
    have b1 : ∀ j, j < A1.length → (A1.getD j default).length ≤ 1000000 := fun j hj => h1.lensD hj
    have b2 : ∀ j, j < A2.length → (A2.getD j default).length ≤ 1000000 := fun j hj => h2.lensD hj
    have b3 : ∀ j, j < D.length → (D.getD j default).length ≤ 1000000 := fun j hj => h3.lensD hj
    have hpl2 : p.length = n := by omega
    skip
    by_cases z1 : p.getD (X : Int).toNat default = X <;> by_cases z2 : p.getD (Y : Int).toNat default = Y
    all_goals (split at nk <;> rename_i zz)
    any_goals (exfalso; first | exact z1 zz.1 | exact z2 zz.2 | exact zz ⟨z1, z2⟩ | fail)
    all_goals clear zz
    all_goals ((repeat (refine K_seq ?_)); refine K_drawX (id := 16) [(6, (0, 1)), (17, (1, 2)), (29, (2, 3))] [some (blkS pv), some (blkS pv), some (blkS pv)] ?_; refine KX_cons ?_; (first | (refine mv ?_ <;> refine KO_nil ⟨⟨by (first | exact True.intro), rfl⟩, ?_⟩)); refine KX_cons ?_; (first | (refine mv ?_ <;> refine KO_nil ⟨⟨by (first | exact True.intro), rfl⟩, ?_⟩)))
    all_goals (((refine KX_cons ?_; first | refine KO_fn rfl rfl rfl rfl rfl ((there_ok S.wf v1 pv A1 p (r1.ext wg S.ext) (hp.ext wg S.ext) (by omega) b1 (by omega) t1.srt).mono ?_)); rintro _ h4 ⟨⟨rfl, q⟩ | ⟨rfl, q⟩, x⟩) <;> ((refine KO_nil ⟨⟨True.intro, ?_⟩, ?_⟩; (focus ((show keepsX _ _ _ _ _; simp only [keepsX]; (repeat' (first | exact True.intro | refine And.intro ?_ ?_)); all_goals (intro hw; first | exact x.ext.old _ (S.bX (by assumption) (by assumption) (by first | omega))))))); replace S := S.join0 x; clear x; refine KX_cons ?_; (first | (refine mv ?_ <;> refine KO_nil ⟨⟨by (first | exact True.intro), rfl⟩, ?_⟩)); refine KX_cons ?_; (first | (refine mv ?_ <;> refine KO_nil ⟨⟨by (first | exact True.intro), rfl⟩, ?_⟩)); refine KX_cons ?_; (first | (refine ixB S ?_ <;> refine KO_nil ⟨⟨by (first | exact True.intro), rfl⟩, ?_⟩)); refine KX_cons ?_; (first | (refine lEB S ?_ <;> refine KO_nil ⟨⟨by (first | exact Or.inr (congrArg some (blkOf_elA _ _ _ _))), rfl⟩, ?_⟩)); refine KX_cons ?_; (first | (refine mv ?_ <;> refine KO_nil ⟨⟨by (first | exact True.intro), rfl⟩, ?_⟩)); refine KX_cons ?_; (first | (refine cT ?_ <;> refine KO_nil ⟨⟨by (first | exact True.intro), rfl⟩, ?_⟩) | (refine cF ?_ <;> refine KO_nil ⟨⟨by (first | exact True.intro), rfl⟩, ?_⟩)) <;> (refine KX_cons ?_; (first | (refine vl ?_ <;> refine KO_nil ⟨⟨by (first | exact True.intro), rfl⟩, ?_⟩)); refine KX_cons ?_; (first | (refine mv ?_ <;> refine KO_nil ⟨⟨by (first | exact True.intro), rfl⟩, ?_⟩)); refine KX_cons ?_; (first | (refine off ?_; refine KO_nil ⟨⟨by (first | exact True.intro), rfl⟩, ?_⟩) | (refine mv ?_ <;> refine KO_nil ⟨⟨by (first | exact True.intro), rfl⟩, ?_⟩)); refine KX_cons ?_; (first | (refine off ?_; refine KO_nil ⟨⟨by (first | exact True.intro), rfl⟩, ?_⟩) | (refine mv ?_ <;> refine KO_nil ⟨⟨by (first | exact True.intro), rfl⟩, ?_⟩)); (first | (refine KX_cons ?_; refine off ?_; refine KO_nil ⟨⟨True.intro, by show keepsX _ _ _ _ _; simp [keepsX]⟩, ?_⟩; refine KX_cons ?_; (first | (refine off ?_; refine KO_nil ⟨⟨by (first | exact True.intro), rfl⟩, ?_⟩)); refine KX_cons ?_; (first | (refine off ?_; refine KO_nil ⟨⟨by (first | exact True.intro), rfl⟩, ?_⟩)); refine KX_cons ?_; (first | (refine off ?_; refine KO_nil ⟨⟨by (first | exact True.intro), rfl⟩, ?_⟩)); refine KX_cons ?_; (first | (refine off ?_; refine KO_nil ⟨⟨by (first | exact Or.inl rfl), rfl⟩, ?_⟩)); refine KX_cons ?_; (first | (refine off ?_; refine KO_nil ⟨⟨by (first | exact True.intro), rfl⟩, ?_⟩)); refine KX_cons ?_; (first | (refine off ?_; refine KO_nil ⟨⟨by (first | exact True.intro), rfl⟩, ?_⟩)) <;> (refine KX_cons ?_; (first | (refine off ?_; refine KO_nil ⟨⟨by (first | exact True.intro), rfl⟩, ?_⟩)); refine KX_cons ?_; (first | (refine vl ?_ <;> refine KO_nil ⟨⟨by (first | exact True.intro), rfl⟩, ?_⟩)); refine KX_cons ?_; (first | (refine mv ?_ <;> refine KO_nil ⟨⟨by (first | exact True.intro), rfl⟩, ?_⟩)); refine KX_cons ?_; (first | (refine off ?_; refine KO_nil ⟨⟨by (first | exact True.intro), rfl⟩, ?_⟩)); refine KX_cons ?_; (first | (refine off ?_; refine KO_nil ⟨⟨by (first | exact True.intro), rfl⟩, ?_⟩)); (first | (refine KX_cons ?_; refine off ?_; refine KO_nil ⟨⟨True.intro, by show keepsX _ _ _ _ _; simp [keepsX]⟩, ?_⟩; refine KX_cons ?_; (first | (refine off ?_; refine KO_nil ⟨⟨by (first | exact True.intro), rfl⟩, ?_⟩)); refine KX_cons ?_; (first | (refine off ?_; refine KO_nil ⟨⟨by (first | exact True.intro), rfl⟩, ?_⟩)); refine KX_cons ?_; (first | (refine off ?_; refine KO_nil ⟨⟨by (first | exact True.intro), rfl⟩, ?_⟩)); refine KX_cons ?_; (first | (refine off ?_; refine KO_nil ⟨⟨by (first | exact Or.inl rfl), rfl⟩, ?_⟩)); refine KX_cons ?_; (first | (refine off ?_; refine KO_nil ⟨⟨by (first | exact True.intro), rfl⟩, ?_⟩)); refine KX_cons ?_; (first | (refine off ?_; refine KO_nil ⟨⟨by (first | exact True.intro), rfl⟩, ?_⟩)) <;> (refine KX_cons ?_; (first | (refine off ?_; refine KO_nil ⟨⟨by (first | exact True.intro), rfl⟩, ?_⟩)); refine KX_cons ?_; (first | (refine off ?_; refine KO_nil ⟨⟨by (first | exact True.intro), rfl⟩, ?_⟩)); refine KX_cons ?_; (first | (refine off ?_; refine KO_nil ⟨⟨by (first | exact True.intro), rfl⟩, ?_⟩)); refine KX_cons ?_; (first | (refine off ?_; refine KO_nil ⟨⟨by (first | exact True.intro), rfl⟩, ?_⟩)); refine KX_cons ?_; (first | (refine off ?_; refine KO_nil ⟨⟨by (first | exact True.intro), rfl⟩, ?_⟩)); refine KX_cons ?_; (first | (refine off ?_; refine KO_nil ⟨⟨by (first | exact True.intro), rfl⟩, ?_⟩)); refine KX_cons ?_; (first | (refine off ?_; refine KO_nil ⟨⟨by (first | exact True.intro), rfl⟩, ?_⟩)) <;> (refine KX_cons ?_; (first | (refine off ?_; refine KO_nil ⟨⟨by (first | exact True.intro), rfl⟩, ?_⟩)); refine KX_cons ?_; (first | (refine off ?_; refine KO_nil ⟨⟨by (first | exact True.intro), rfl⟩, ?_⟩)); refine KX_cons ?_; (first | (refine vl ?_ <;> refine KO_nil ⟨⟨by (first | exact True.intro), rfl⟩, ?_⟩)); refine KX_nil ?_)))))) | skip))))
    any_goals (exfalso; first | exact z1 (m1.1 q) | exact q (m1.2 z1) | fail)
    all_goals clear q
    all_goals (((refine KX_cons ?_; first | refine KO_fn rfl rfl rfl rfl rfl ((there_ok S.wf v2 pv A2 p (r2.ext wg S.ext) (hp.ext wg S.ext) (by omega) b2 (by omega) t2.srt).mono ?_)); rintro _ h4 ⟨⟨rfl, q⟩ | ⟨rfl, q⟩, x⟩) <;> ((refine KO_nil ⟨⟨True.intro, ?_⟩, ?_⟩; (focus ((show keepsX _ _ _ _ _; simp only [keepsX]; (repeat' (first | exact True.intro | refine And.intro ?_ ?_)); all_goals (intro hw; first | exact x.ext.old _ (S.bX (by assumption) (by assumption) (by first | omega))))))); replace S := S.join0 x; clear x; refine KX_cons ?_; (first | (refine mv ?_ <;> refine KO_nil ⟨⟨by (first | exact True.intro), rfl⟩, ?_⟩)); refine KX_cons ?_; (first | (refine mv ?_ <;> refine KO_nil ⟨⟨by (first | exact True.intro), rfl⟩, ?_⟩)); refine KX_cons ?_; (first | (refine ixB S ?_ <;> refine KO_nil ⟨⟨by (first | exact True.intro), rfl⟩, ?_⟩)); refine KX_cons ?_; (first | (refine lEB S ?_ <;> refine KO_nil ⟨⟨by (first | exact Or.inr (congrArg some (blkOf_elA _ _ _ _))), rfl⟩, ?_⟩)); refine KX_cons ?_; (first | (refine mv ?_ <;> refine KO_nil ⟨⟨by (first | exact True.intro), rfl⟩, ?_⟩)); refine KX_cons ?_; (first | (refine cT ?_ <;> refine KO_nil ⟨⟨by (first | exact True.intro), rfl⟩, ?_⟩) | (refine cF ?_ <;> refine KO_nil ⟨⟨by (first | exact True.intro), rfl⟩, ?_⟩)) <;> (refine KX_cons ?_; (first | (refine vl ?_ <;> refine KO_nil ⟨⟨by (first | exact True.intro), rfl⟩, ?_⟩)); refine KX_cons ?_; (first | (refine vl ?_ <;> refine KO_nil ⟨⟨by (first | exact True.intro), rfl⟩, ?_⟩)); refine KX_cons ?_; (first | (refine mv ?_ <;> refine KO_nil ⟨⟨by (first | exact True.intro), rfl⟩, ?_⟩)); refine KX_cons ?_; (first | (refine off ?_; refine KO_nil ⟨⟨by (first | exact True.intro), rfl⟩, ?_⟩) | (refine mv ?_ <;> refine KO_nil ⟨⟨by (first | exact True.intro), rfl⟩, ?_⟩)); refine KX_cons ?_; (first | (refine off ?_; refine KO_nil ⟨⟨by (first | exact True.intro), rfl⟩, ?_⟩) | (refine mv ?_ <;> refine KO_nil ⟨⟨by (first | exact True.intro), rfl⟩, ?_⟩)); (first | (refine KX_cons ?_; refine off ?_; refine KO_nil ⟨⟨True.intro, by show keepsX _ _ _ _ _; simp [keepsX]⟩, ?_⟩; refine KX_cons ?_; (first | (refine off ?_; refine KO_nil ⟨⟨by (first | exact True.intro), rfl⟩, ?_⟩)); refine KX_cons ?_; (first | (refine off ?_; refine KO_nil ⟨⟨by (first | exact True.intro), rfl⟩, ?_⟩)); refine KX_cons ?_; (first | (refine off ?_; refine KO_nil ⟨⟨by (first | exact True.intro), rfl⟩, ?_⟩)); refine KX_cons ?_; (first | (refine off ?_; refine KO_nil ⟨⟨by (first | exact Or.inl rfl), rfl⟩, ?_⟩)); refine KX_cons ?_; (first | (refine off ?_; refine KO_nil ⟨⟨by (first | exact True.intro), rfl⟩, ?_⟩)); refine KX_cons ?_; (first | (refine off ?_; refine KO_nil ⟨⟨by (first | exact True.intro), rfl⟩, ?_⟩)) <;> (refine KX_cons ?_; (first | (refine off ?_; refine KO_nil ⟨⟨by (first | exact True.intro), rfl⟩, ?_⟩)); refine KX_cons ?_; (first | (refine off ?_; refine KO_nil ⟨⟨by (first | exact True.intro), rfl⟩, ?_⟩)); refine KX_cons ?_; (first | (refine off ?_; refine KO_nil ⟨⟨by (first | exact True.intro), rfl⟩, ?_⟩)); refine KX_cons ?_; (first | (refine off ?_; refine KO_nil ⟨⟨by (first | exact True.intro), rfl⟩, ?_⟩)); refine KX_cons ?_; (first | (refine off ?_; refine KO_nil ⟨⟨by (first | exact True.intro), rfl⟩, ?_⟩)); refine KX_cons ?_; (first | (refine off ?_; refine KO_nil ⟨⟨by (first | exact True.intro), rfl⟩, ?_⟩)); refine KX_cons ?_; (first | (refine off ?_; refine KO_nil ⟨⟨by (first | exact True.intro), rfl⟩, ?_⟩)) <;> (refine KX_cons ?_; (first | (refine off ?_; refine KO_nil ⟨⟨by (first | exact True.intro), rfl⟩, ?_⟩)); refine KX_cons ?_; (first | (refine off ?_; refine KO_nil ⟨⟨by (first | exact True.intro), rfl⟩, ?_⟩)); refine KX_cons ?_; (first | (refine vl ?_ <;> refine KO_nil ⟨⟨by (first | exact True.intro), rfl⟩, ?_⟩)); refine KX_nil ?_))) | skip))))
    any_goals (exfalso; first | exact z2 (m2.1 q) | exact q (m2.2 z2) | fail)
    all_goals clear q
    all_goals (((refine KX_cons ?_; first | refine KO_fn rfl rfl rfl rfl rfl ((there_ok S.wf v3 pv D p (r3.ext wg S.ext) (hp.ext wg S.ext) (by omega) b3 (by omega) t3.srt).mono ?_)); rintro _ h4 ⟨⟨rfl, q⟩ | ⟨rfl, q⟩, x⟩) <;> ((refine KO_nil ⟨⟨True.intro, ?_⟩, ?_⟩; (focus ((show keepsX _ _ _ _ _; simp only [keepsX]; (repeat' (first | exact True.intro | refine And.intro ?_ ?_)); all_goals (intro hw; first | exact x.ext.old _ (S.bX (by assumption) (by assumption) (by first | omega))))))); replace S := S.join0 x; clear x; refine KX_cons ?_; (first | (refine mv ?_ <;> refine KO_nil ⟨⟨by (first | exact True.intro), rfl⟩, ?_⟩)); refine KX_cons ?_; (first | (refine mv ?_ <;> refine KO_nil ⟨⟨by (first | exact True.intro), rfl⟩, ?_⟩)); refine KX_cons ?_; (first | (refine ixB S ?_ <;> refine KO_nil ⟨⟨by (first | exact True.intro), rfl⟩, ?_⟩)); refine KX_cons ?_; (first | (refine lEB S ?_ <;> refine KO_nil ⟨⟨by (first | exact Or.inr (congrArg some (blkOf_elA _ _ _ _))), rfl⟩, ?_⟩)); refine KX_cons ?_; (first | (refine mv ?_ <;> refine KO_nil ⟨⟨by (first | exact True.intro), rfl⟩, ?_⟩)); refine KX_cons ?_; (first | (refine cT ?_ <;> refine KO_nil ⟨⟨by (first | exact True.intro), rfl⟩, ?_⟩) | (refine cF ?_ <;> refine KO_nil ⟨⟨by (first | exact True.intro), rfl⟩, ?_⟩)) <;> (refine KX_cons ?_; (first | (refine mv ?_ <;> refine KO_nil ⟨⟨by (first | exact True.intro), rfl⟩, ?_⟩)); refine KX_cons ?_; (first | (refine off ?_; refine KO_nil ⟨⟨by (first | exact True.intro), rfl⟩, ?_⟩) | (refine mv ?_ <;> refine KO_nil ⟨⟨by (first | exact True.intro), rfl⟩, ?_⟩)); refine KX_cons ?_; (first | (refine off ?_; refine KO_nil ⟨⟨by (first | exact True.intro), rfl⟩, ?_⟩) | (refine mv ?_ <;> refine KO_nil ⟨⟨by (first | exact True.intro), rfl⟩, ?_⟩)); refine KX_cons ?_; (first | (refine off ?_; refine KO_nil ⟨⟨by (first | exact True.intro), rfl⟩, ?_⟩) | (refine ixB S ?_ <;> refine KO_nil ⟨⟨by (first | exact True.intro), rfl⟩, ?_⟩)); refine KX_cons ?_; (first | (refine off ?_; refine KO_nil ⟨⟨by (first | exact True.intro), rfl⟩, ?_⟩) | (refine lEB S ?_ <;> refine KO_nil ⟨⟨by (first | exact True.intro), rfl⟩, ?_⟩)); refine KX_cons ?_; (first | (refine off ?_; refine KO_nil ⟨⟨by (first | exact True.intro), rfl⟩, ?_⟩) | (refine mv ?_ <;> refine KO_nil ⟨⟨by (first | exact True.intro), rfl⟩, ?_⟩)); refine KX_cons ?_; (first | (refine off ?_; refine KO_nil ⟨⟨by (first | exact True.intro), rfl⟩, ?_⟩) | (refine cT ?_ <;> refine KO_nil ⟨⟨by (first | exact True.intro), rfl⟩, ?_⟩) | (refine cF ?_ <;> refine KO_nil ⟨⟨by (first | exact True.intro), rfl⟩, ?_⟩)) <;> (refine KX_cons ?_; (first | (refine vl ?_ <;> refine KO_nil ⟨⟨by (first | exact True.intro), rfl⟩, ?_⟩)); refine KX_cons ?_; (first | (refine vl ?_ <;> refine KO_nil ⟨⟨by (first | exact True.intro), rfl⟩, ?_⟩)); refine KX_cons ?_; (first | (refine vl ?_ <;> refine KO_nil ⟨⟨by (first | exact True.intro), rfl⟩, ?_⟩)); refine KX_nil ?_))))
    any_goals (exfalso; first | exact z1 (m3.1 q).1 | exact z2 (m3.1 q).2 | exact q (m3.2 ⟨z1, z2⟩) | fail)
    all_goals clear q
    all_goals (all_goals (repeat' (first | refine K_seq ?_ | refine k_cond rfl ?_ | refine K_skip ?_ | (refine K_region (id := 18) ?_; refine mv ?_; refine mv ?_))))
    all_goals ((refine KO_fn rfl rfl rfl rfl rfl ((there_ok S.wf v3 pv D p (r3.ext wg S.ext) (hp.ext wg S.ext) (by omega) b3 (by omega) t3.srt).mono ?_); rintro _ h4 ⟨⟨rfl, q⟩ | ⟨rfl, q⟩, x⟩) <;> (replace S := S.join0 x; clear x; refine KO_nil ?_))
    any_goals (exfalso; first | exact z1 (m3.1 q).1 | exact z2 (m3.1 q).2 | exact q (m3.2 ⟨z1, z2⟩) | fail)
    all_goals clear q
    all_goals (all_goals (repeat' (first | refine k_cond rfl ?_ | refine K_skip ?_ | (refine K_region (id := 19) ?_; refine mv ?_; refine ad ?_; refine mv ?_; refine KO_nil ?_) | (refine K_region (id := 20) ?_; refine ad ?_; refine mv ?_; refine KO_nil ?_))))
    all_goals (refine ⟨(i + 1, bs2), ?_, ⟨S, by omega, hbl2, hbs2⟩, ?_⟩; (· show ls.length - (i + 1) < ls.length - i; omega); (exact (by repeat (first | exact Ks.le_nil _ | refine Ks.le_cons rfl ?_ | refine Ks.le_int ?_))))
  · obtain rfl : i = ls.length := by omega
    have hor := orbit_law hs tT (x := X) (by omega) t1
    rw [hnn] at hor
    have hka := nKeep_all tT t3
    obtain ⟨vs1, hvs1, hvl1, -⟩ := r1
    obtain ⟨vs3, hvs3, hvl3, -⟩ := r3
    have hor2 : (vs1.length : Int) * (nSeen X n ls ls.length : Int) = vs.length := by rw [hvl1, hvl]; exact_mod_cast hor
    have hka2 : (vs3.length : Int) = nKeep [(X : Int), (Y : Int), (X : Int)] ls ls.length := by rw [hvl3, hka]
    replace S := S.drop
    skip
    all_goals (repeat' (first | (refine K_region (id := 21) ?_; refine mv ?_; refine lnB S ?_; (refine cT ?_) <;> (refine mv ?_; refine mv ?_; (first | (refine lnB S ?_)); refine mv ?_; (first | (refine ml ?_)); refine mv ?_; (first | (refine lnB S ?_)); (first | (refine cT ?_)) <;> (refine vl ?_; refine mv ?_; refine mv ?_; (first | (refine lnB S ?_)); refine mv ?_; (first | (refine cT ?_)) <;> (refine vl ?_; refine mv ?_; refine mv ?_; (first | (refine ixB S ?_)); (first | (refine lEB S ?_)); (skip)))))))
    (refine KO_fn rfl rfl rfl rfl rfl ((stay_ok S.wf (tb l 0) (r.ext wg S.ext) (.slice none 0 0) [] (Rd.none_ _ 1) (Nat.zero_le _)).mono ?_); rintro v4 h4 ⟨L4, g4, x⟩) <;> (replace S := S.join2 x; clear x; refine mv ?_; (skip))
    have e4 : L4.map (·.2) = ls := g4.eq hT
    have gl4 := g4.len
    obtain ⟨fp4, k4⟩ := S.anyP (.there .here)
    (refine KO_fn rfl rfl rfl rfl rfl ((sameLists_ok S.wf v4 vT (L4.map (·.2)) ls (RLL.ofP (Rd.of_rd S .here) k4) (rT.ext wg S.ext) (by omega) (by omega) (fun j hj => g4.lensD hj) (fun j hj => hT.lensD hj)).mono ?_); rintro _ h4 ⟨⟨rfl, q⟩ | ⟨rfl, q⟩, x⟩) <;> (replace S := S.join0 x; clear x; refine vl ?_; refine mv ?_; (first | refine off ?_ | refine mv ?_); (first | refine off ?_ | (refine ixB S ?_)); (first | refine off ?_ | (refine lEB S ?_)); (first | refine off ?_ | refine mv ?_); (first | refine off ?_ | refine mv ?_); (first | (refine off ?_; (first | (refine off ?_; refine off ?_; (refine off ?_) <;> (refine vl ?_; refine mv ?_; (first | (refine off ?_; refine vl ?_; refine mv ?_; refine KO_nil ?_)))))) | skip))
    rotate_left
    · exact absurd e4 q
    clear q k4
    replace S := S.drop
    refine bsn' (z := 1) eI [(X : Int), (n : Int)] S ?_
    clear S
    intro u h4 S
    (skip)
    (refine KO_fn rfl rfl rfl rfl rfl ((stay_ok S.wf (tb l 0) (r.ext wg S.ext) u [(X : Int), (n : Int)] (Rd.of_sl S .here) (by simp)).mono ?_); rintro v5 h4 ⟨L5, g5, x⟩) <;> (replace S := S.join2 x; clear x; have hl5 : L5.length = 0 := (congrArg List.length (g5.out (z := (n : Int)) (by simp) (by omega))); (first | (refine lnS S rfl rfl ?_)); (first | (refine cT ?_)) <;> (refine vl ?_; refine mv ?_; (skip)))
    all_goals (repeat' (fail))
    (refine KO_fn rfl rfl rfl rfl rfl ((awake_ok).mono ?_); rintro _ h ⟨rfl, rfl⟩) <;> (refine vl ?_; refine mv ?_; refine KO_nil ?_)
    all_goals (repeat' (fail))
    refine K_ret ⟨_, rfl, ?_⟩
    rfl
theorem hallOrbit_core (h : AH) (us : List Value) (w : WfH h) (a : ArgsR Tryz.prog h Tryz.f12.params.toList us) : Fn Tryz.prog Xh 12 us h (fun x _ => x = .bool true) := by
  rw [show Tryz.f12.params.toList = [50, 5, 5] by kernel_rfl] at a
  obtain ⟨n0, r0, us, rfl, a0, a⟩ := a.cons_inv
  obtain ⟨n1, r1, us, rfl, a1, a⟩ := a.cons_inv
  obtain ⟨n2, r2, us, rfl, a2, a⟩ := a.cons_inv
  obtain rfl := a.nil_inv
  obtain ⟨c, rfl, A⟩ := AR.code1 a0
  obtain ⟨x, rfl, hx⟩ := a1.u81 (by kernel_rfl)
  obtain ⟨y, rfl, hy⟩ := a2.u81 (by kernel_rfl)
  exact hallOrbit_true w c A x y hx hy
end Go.Proofs.Xx

/-
  What is known of the listed variables (nothing is asked of them here); a block of cells that is there in every world.
-/
namespace Go.Proofs.Xx
open Go Go.RowKit Go.Proofs
theorem Xh_none (f : FuncId) (h1 : f ≠ 21) (h2 : f ≠ 200) (h3 : f ≠ 224) (h4 : f ≠ 111) (h5 : f ≠ 108) (h6 : f ≠ 121) (h7 : f ≠ 228) (us : List Value) (h : AH) : Xh f us h = none := by
  have e : ∀ n, f ≠ n → Nat.beq f n = false := fun n q => by rw [Bool.eq_false_iff]; intro q'; exact q (Nat.eq_of_beq_eq_true q')
  unfold Xh withDec withDigits withKnown withBytes externNoEscape
  simp only [e _ h1, e _ h2, e _ h3, e _ h4, e _ h5, e _ h6, e _ h7]
theorem gDe : Tryz.prog.globalNamed "math/bits.deBruijn32tab" = some 2 := by kernel_rfl
theorem gDeType : (Tryz.prog.globals[2]?).map (·.type) = some 211 := by kernel_rfl
theorem cell_block {W : World} {b o : Nat} {v : Value} (h : W.cell? ⟨b, o, none⟩ = some v) : ∃ (k : Nat) (cc : Array Value) (el : TypeId) (fr : Nat × Nat), W.heap[k]? = some (.cells cc el fr) := by
  unfold World.cell? at h
  split at h
  · rename_i c e f hc; exact ⟨b, c, e, f, hc⟩
  · cases h
theorem cells_there {W : World} {rest : List (String × DataW Unit)} (h : laidMet Tryz.prog (("math/bits.deBruijn32tab", YtnopenpheaihmaaGreatDoor.Rows.laid_math_bits_deBruijn32tab) :: rest) W) :
    ∃ (k : Nat) (cc : Array Value) (el : TypeId) (fr : Nat × Nat), W.heap[k]? = some (.cells cc el fr) := by
  have t : Lib.TabIs Tryz.prog W "math/bits.deBruijn32tab" .u8 [0, 1, 28, 2, 29, 14, 24, 3, 30, 22, 20, 15, 25, 17, 4, 8, 31, 27, 13, 23, 21, 19, 16, 7, 26, 12, 18, 6, 11, 5, 10, 9] :=
    Lib.tabIs_of_head gDe gDeType (n := 32) (e := 5) (by kernel_rfl) (by kernel_rfl) (by kernel_rfl) (by kernel_rfl) h
  exact cell_block (t.cell gDe 0 (by decide))
theorem gPowType : (Tryz.prog.globals[1]?).map (·.type) = some 206 := by kernel_rfl
theorem pow10_there {W : World} {x y : String × DataW Unit} {rest : List (String × DataW Unit)} (h : laidMet Tryz.prog (x :: y :: ("internal/strconv.uint64pow10", YtnopenpheaihmaaGreatDoor.Rows.laid_internal_strconv_uint64pow10) :: rest) W) :
    Glob.ok W.heap.size W.heap := by
  have t : Lib.TabIs Tryz.prog W "internal/strconv.uint64pow10" .u64 Lib.pow10Tab :=
    Lib.tabIs_of_head gPow gPowType (n := 20) (e := 177) (by kernel_rfl) (by kernel_rfl) (by kernel_rfl) (by kernel_rfl) (laidMet.tail (laidMet.tail h))
  unfold Lib.TabIs World.var? at t
  rw [gPow] at t
  simp only [Option.bind_some] at t
  split at t
  · rename_i cs el fr hc
    cases t
    exact ⟨(Array.getElem?_eq_some_iff.1 hc).1, el, fr, hc⟩
  · cases t
end Go.Proofs.Xx
