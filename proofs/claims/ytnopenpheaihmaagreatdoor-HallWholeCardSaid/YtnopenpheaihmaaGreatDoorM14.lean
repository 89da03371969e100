/-
  HallWhole: the turns of a round table are all permutations that keep neighbours and open seats.
-/
import Derived.Test.YtnopenpheaihmaaGreatDoorM13
import Derived.Test.YtnopenpheaihmaaGreatDoorM7
import Derived.Test.YtnopenpheaihmaaGreatDoorRows
import Derived.Lib.LaidTab
import Derived.Stop.LaidErr

namespace Go.Proofs.Xx
open Go Go.Proofs
set_option linter.unusedSimpArgs false
set_option linter.unusedVariables false
set_option maxRecDepth 100000

def eB2 (p : Nat × Nat) : List Value := [.int .u8 p.1, .int .u8 p.2]
theorem AR.pair8 {h : AH} {n : Nat} {r : List Value} (a : AR Tryz.prog h n 68 r) : ∃ p : Nat × Nat, r = eB2 p ∧ (p.1 < 256 ∧ p.2 < 256) := by
  obtain ⟨n', hl, hk⟩ := a.array1 (e := 5) (k := 2) (z := 2) (by kernel_rfl) (by kernel_rfl)
  match r, hl with
  | [x0, x1], _ =>
    obtain ⟨y0, e0, h0⟩ := AR.u81 (show AR Tryz.prog h n' 5 [x0] from hk 0 (by decide)) (by kernel_rfl)
    obtain ⟨y1, e1, h1⟩ := AR.u81 (show AR Tryz.prog h n' 5 [x1] from hk 1 (by decide)) (by kernel_rfl)
    cases e0; cases e1
    exact ⟨(y0, y1), rfl, h0, h1⟩
def WK (t : Tab) (p : List Int) (n k : Nat) : Prop := ∀ x : Nat, x < k → (openP t x ↔ openP t (pAt p x)) ∧ ∀ y : Nat, y < n → (besideP t x y ↔ besideP t (pAt p x) (pAt p y))
set_option maxHeartbeats 8000000 in
theorem hallWhole_true {h0 : AH} (w : WfH h0) (a : Nat) (ha : a < 256) (os : SlV) (op : List Nat) (hor : RdL h0 os.val 1 eU op) (hoc : CapOk os.val) (hol : op.length ≤ maxLen) (hob : ∀ i, i < op.length → op.getD i default < 256) (wh : Nat) (hwh : wh < 256) (sv : Value) (sw : List (Nat × Nat)) (hsr : RdL h0 sv 2 eB2 sw) (hsc : CapOk sv) (hsl : sw.length ≤ maxLen) (hsb : ∀ i, i < sw.length → (sw.getD i default).1 < 256 ∧ (sw.getD i default).2 < 256) :
    Fn Tryz.prog Xh 14 [.int .u8 a, os.val, .int .u8 wh, sv] h0 (fun x _ => x = .bool true) := by
  have S := Hs.start w
  refine Fn_K rfl Tryz.func14 rfl rfl ?_
  all_goals (repeat' (first | refine K_seq ?_ | (refine K_region (id := 0) ?_; refine mv ?_; refine KO_nil ?_) | (refine K_region (id := 1) ?_; refine mv ?_; refine rmU ?_; refine aU ?_; refine mv ?_; refine vl ?_)))
  obtain ⟨A', hA'⟩ : ∃ A' : Nat, (2 : Int) + (a : Int) % 22 = A' := ⟨2 + a % 22, by omega⟩
  simp only [hA']
  have CA : CodA h0 ⟨0, A', 0, os, op⟩ := ⟨hor, hoc, hol, by simp; omega, hob⟩
  (refine KO_fn rfl rfl rfl rfl rfl ((one_ok S.wf ⟨0, A', 0, os, op⟩ (CA.ext w S.ext)).mono ?_); rintro _ g ⟨vh, l, n, rfl, hm, hl1, hn, hn0, hn1, x⟩) <;> (replace S := S.join2 x; clear x; refine mv ?_; refine vl ?_; refine vl ?_; refine vl ?_; refine mv ?_; refine mv ?_; refine mv ?_; refine KO_nil ?_)
  have H := hm.hallR S .here (.there .here)
  have hv := hm.valid
  have hchk : chk (tb l 0) = 0 := (hv.2 0 (by omega)).1
  have hs := tabS_chk hchk
  have r := H.tab 0 (by omega)
  have hr := H.rd
  have w1 := S.wf
  have hsh : (tb l 0).shape = 1 ∧ (tb l 0).A = 1 + (A' : Int) % 24 := by
    obtain ⟨t, q1, q2⟩ := hm.tab 0 (by omega)
    have e1 := q1.shape
    have e2 := q1.round (by show ((0 : Nat) : Int) % 4 = 0; rfl)
    rw [q2]
    exact ⟨by show t.shape = 1; rw [e1]; rfl, e2.1⟩
  have hs1 := hs.s1 hsh.1
  have hn3 : 3 ≤ n := by omega
  replace hsr := hsr.ext w S.ext
  replace S := Hs.start w1
  all_goals (repeat' (first | refine K_seq ?_ | refine k_cond rfl ?_ | refine K_skip ?_ | (refine K_region (id := 2) ?_; refine mv ?_; refine vl ?_; refine mv ?_; refine mv ?_; (first | (refine cF ?_)) <;> (refine vl ?_; refine KO_nil ?_))))
  all_goals (repeat' (first | (refine K_region (id := 4) ?_; refine mv ?_; refine ixB S ?_; refine lEB S ?_)))
  (refine KO_fn rfl rfl rfl rfl rfl ((turns_ok S.wf (tb l 0) (r.ext w1 S.ext)).mono ?_); rintro vT h ⟨LT, hT, x⟩) <;> (replace S := S.join2 x; clear x; refine mv ?_; refine KO_nil ?_)
  have wg := S.wf
  obtain ⟨fpT, kT⟩ := S.anyP (.there .here)
  have rT := RLL.ofP (Rd.of_rd S .here) kT
  clear kT
  generalize LT.map (·.2) = ls at hT rT
  replace H := H.ext w1 S.ext
  replace hsr := hsr.ext w1 S.ext
  clear r hr
  replace S := Hs.start wg
  have tT := hT.turn hchk stOk_nil
  have hnn : (tsize (tb l 0)).toNat = n := by omega
  have lT := hT.len
  have hne : ls.length ≠ 0 := fun q => tT.ne hs (List.length_eq_zero_iff.1 q)
  have bT : ∀ j, j < ls.length → (ls.getD j default).length ≤ 1000000 := fun j hj => hT.lensD hj
  obtain ⟨vs, hvs, hvl, hk⟩ := rT
  have rT : RLL h vT ls := ⟨vs, hvs, hvl, hk⟩
  obtain ⟨K, hK⟩ : ∃ K : Nat, (wh : Int) % (vs.length : Int) = K := ⟨wh % vs.length, by omega⟩
  have hKl : K < ls.length := by
    have := Nat.mod_lt wh (show 0 < vs.length by omega)
    have e : (K : Int) = ((wh % vs.length : Nat) : Int) := by rw [← hK]; push_cast; rfl
    omega
  all_goals (repeat' (first | refine K_seq ?_ | refine k_cond rfl ?_ | refine K_skip ?_ | (refine K_region (id := 5) ?_; refine mv ?_; refine lnB S ?_; (refine cF ?_) <;> (refine KO_nil ?_)) | (refine K_region (id := 7) ?_; refine mv ?_; refine mv ?_; refine cI ?_; refine mv ?_; refine lnB S ?_; refine rm ?_; refine ixB S ?_; refine lEB S ?_)))
  simp only [hK]
  (try simp only [Int.toNat_natCast])
  have hpt := (tT.trn _).1 (mem_getD.2 ⟨K, hKl, rfl⟩)
  have hp := hk K hKl
  have hpl : (ls.getD K default).length = n := by rw [hpt.len, hnn]
  (refine KO_fn rfl rfl rfl rfl rfl ((clone_ok S.wf _ (ls.getD K default) (hp.ext wg S.ext) (by omega)).mono ?_); rintro u h4 x) <;> (replace S := S.join1 x; clear x; refine mv ?_; refine KO_nil ?_)
  all_goals (repeat' (first | refine K_seq ?_ | refine k_cond rfl ?_ | refine K_skip ?_ | (refine K_region (id := 8) ?_; refine mv ?_; refine lnS S rfl rfl ?_; refine mv ?_; (refine cF ?_) <;> (refine KO_nil ?_))))
  all_goals (repeat' (first | (refine K_region (id := 10) ?_; refine mv ?_; refine mv ?_; refine lnB S ?_; refine mn ?_)))
  obtain ⟨m, hmm⟩ : ∃ m : Nat, min (sw.length : Int) 24 = m := ⟨min sw.length 24, by omega⟩
  simp only [hmm]
  refine su0 0 m S wg hsr hsc ?_
  intro vw hvw hcw
  have hml : (((sw.drop 0).take (m - 0)).length : Int) = m := by simp; omega
  have hwb : ∀ i, i < ((sw.drop 0).take (m - 0)).length → (((sw.drop 0).take (m - 0)).getD i default).1 < 256 ∧ (((sw.drop 0).take (m - 0)).getD i default).2 < 256 := fun i hi => by
    have hi2 : i < m ∧ i < sw.length := by simp at hi; omega
    have e : ((sw.drop 0).take (m - 0)).getD i default = sw.getD i default := by
      simp only [List.drop_zero, Nat.sub_zero, List.getD_eq_getElem?_getD, List.getElem?_take, if_pos hi2.1]
    rw [e]; exact hsb i hi2.2
  generalize ((sw.drop 0).take (m - 0)) = ws at hvw hml hwb
  have hml : ws.length = m := by omega
  (refine lnB S ?_); refine mv ?_; refine KO_nil ?_
  have hpnd : (ls.getD K default).Nodup := by
    obtain ⟨j, hj, -, e⟩ := hpt
    rw [e]; exact cand_nodup hs hj
  have hpb : ∀ k, k < n → 0 ≤ pAt (ls.getD K default) k ∧ pAt (ls.getD K default) k < n := fun k hk => by
    have := hpt.bnd hs (k := k) (by omega)
    omega
  obtain ⟨g2, hnm⟩ : ∃ x, x = h := ⟨_, rfl⟩; subst hnm
  all_goals (repeat' (refine k_block ?_))
  refine k_loop (σ := Nat × List Int) (fun (i, p) h' => Hs g2 h' [.sl u 3 1 eI p] ∧ i ≤ m ∧ p.Perm (ls.getD K default)) (fun (i, p) => m - i) (fun (i, p) => [(9, vh), (10, .int .i64 n), (12, vT), (13, u), (61, vw), (62, .int .i64 m), (63, .int .i64 i)]) (0, ls.getD K default) (by repeat (first | exact Ks.le_nil _ | refine Ks.le_cons rfl ?_ | refine Ks.le_int ?_)) ?_ ?_
  · exact ⟨S, Nat.zero_le _, .refl _⟩
  clear S
  rintro ⟨i, p⟩ h ⟨S, hi1, hpm⟩
  have hpl2 : p.length = n := by rw [hpm.length_eq, hpl]
  all_goals (repeat' (first | refine K_seq ?_ | refine k_cond rfl ?_ | refine K_skip ?_ | refine K_exit ?_ | refine k_block ?_ | (refine K_region (id := 11) ?_; (first | (refine cS ?_ ?_ <;> intro hc)) <;> (refine KO_nil ?_)) | (refine K_region (id := 12) ?_; refine ixB S ?_; refine lEB S ?_; (refine al S ?_; clear S; intro b h S); (first | (refine sB S rfl rfl ?_; clear S; intro h S)); refine KO_nil ?_)))
  · have hi : i < ws.length := by omega
    (try simp only [Int.toNat_natCast])
    obtain ⟨X, hX⟩ : ∃ X : Nat, ((ws.getD i default).1 : Int) % n = X := ⟨(ws.getD i default).1 % n, by omega⟩
    obtain ⟨Y, hY⟩ : ∃ Y : Nat, ((ws.getD i default).2 : Int) % n = Y := ⟨(ws.getD i default).2 % n, by omega⟩
    have hXn : X < n := by have := Int.emod_lt_of_pos ((ws.getD i default).1 : Int) (show (0 : Int) < n by omega); omega
    have hYn : Y < n := by have := Int.emod_lt_of_pos ((ws.getD i default).2 : Int) (show (0 : Int) < n by omega); omega
    have hwi := hwb i hi
    all_goals (repeat' (first | (refine K_draw (id := 13) ?_; refine vl ?_; refine lB S rfl rfl ?_; refine cI ?_; refine mv ?_; refine rm ?_; refine vl ?_; refine lB S rfl rfl ?_; refine cI ?_; refine mv ?_; refine rm ?_; refine mv ?_; refine mv ?_; refine KO_nil ?_) | (refine K_draw (id := 14) ?_; refine mv ?_; refine mv ?_; refine mv ?_; refine mv ?_; refine mv ?_; refine mv ?_; refine ixS2 S rfl rfl ?_; refine lES2 S rfl rfl ?_; refine mv ?_; refine mv ?_; refine ixS2 S rfl rfl ?_; refine lES2 S rfl rfl ?_; refine ixS2 S rfl rfl ?_; (first | (refine sE2 S rfl rfl ?_; clear S; intro h S)); refine ixS2 S rfl rfl ?_; (first | (refine sE2 S rfl rfl ?_; clear S; intro h S)); refine KO_nil ?_) | (refine K_region (id := 15) ?_; refine ad ?_; refine mv ?_; refine KO_nil ?_)))
    simp only [hX, hY, Int.toNat_natCast] at S
    refine ⟨(i + 1, swp p X Y), ?_, ?_, (by repeat (first | exact Ks.le_nil _ | refine Ks.le_cons rfl ?_))⟩
    · show m - (i + 1) < m - i; omega
    · exact ⟨S.del .here, by omega, (swp_perm (by omega) (by omega)).trans hpm⟩
  have hpb2 : ∀ k, k < n → 0 ≤ p.getD k default ∧ p.getD k default < n := fun k hk => by
    have h1 : p.getD k default ∈ p := mem_getD.2 ⟨k, by omega, rfl⟩
    obtain ⟨j, hj, e⟩ := mem_getD.1 (hpm.mem_iff.1 h1)
    have := hpb j (by omega)
    unfold pAt at this
    omega
  have hnd2 : p.Nodup := hpm.nodup_iff.2 hpnd
  have WT := whole_trn hs hsh.1 (by omega) (p := p) (by omega) (fun k hk => by have := hpb2 k (by omega); unfold pAt InB; omega) hnd2
  rw [hpl2] at WT
  have hpr := Rd.of_sl S .here
  have w5 := S.wf
  replace H := H.ext wg S.ext
  replace rT := rT.ext wg S.ext
  replace S := Hs.start w5
  all_goals (repeat' (first | refine K_seq ?_ | refine k_block ?_ | (refine K_region (id := 16) ?_; refine mv ?_; refine KO_nil ?_) | (refine K_region (id := 17) ?_; refine mv ?_; refine lnB S ?_; refine mv ?_; refine KO_nil ?_)))
  refine k_loop (σ := Nat × Bool) (fun (k, kb) h' => Hs h h' [] ∧ k ≤ n ∧ (kb = true ↔ WK (tb l 0) p n k)) (fun (k, kb) => n - k) (fun (k, kb) => [(9, vh), (10, .int .i64 n), (12, vT), (13, u), (18, .bool kb), (92, u), (93, .int .i64 n), (94, .int .i64 k)]) (0, true) (by repeat (first | exact Ks.le_nil _ | refine Ks.le_cons rfl ?_ | refine Ks.le_int ?_)) ?_ ?_
  · exact ⟨S, Nat.zero_le _, ⟨fun _ x hx => absurd hx (Nat.not_lt_zero _), fun _ => rfl⟩⟩
  clear S
  rintro ⟨k, kb⟩ h4 ⟨S, hk1, hkb⟩
  all_goals (repeat' (first | refine K_seq ?_ | refine k_cond rfl ?_ | refine K_skip ?_ | refine K_exit ?_ | refine k_block ?_ | (refine K_region (id := 18) ?_; (first | (refine cS ?_ ?_ <;> intro hc)) <;> (refine KO_nil ?_)) | (refine K_region (id := 19) ?_; refine mv ?_; refine mv ?_; refine KO_nil ?_)))
  · have hk : k < n := by omega
    have hb1 := hpb2 k hk
    have hb2 : 0 ≤ p.getD (k : Int).toNat default ∧ p.getD (k : Int).toNat default < n := hb1
    have ho1 : OpenR l k ↔ openP (tb l 0) k := open1 hv hl1 hn ⟨by omega, by omega⟩
    have ho2 : OpenR l (p.getD k default) ↔ openP (tb l 0) (p.getD k default) := open1 hv hl1 hn ⟨by omega, by omega⟩
    all_goals (repeat' (first | refine K_seq ?_ | refine k_cond rfl ?_ | refine K_skip ?_ | (refine K_region (id := 20) ?_; refine mv ?_; refine mv ?_; refine ixB S ?_; refine lEB S ?_; (refine cF ?_) <;> (refine mv ?_; refine mv ?_; refine mv ?_; (first | (refine ixB S ?_)); (first | (refine lEB S ?_)); refine mv ?_; (first | (refine cF ?_)) <;> (refine vl ?_; refine KO_nil ?_)))))
    first | refine K_join1 (σ := Bool) (fun v h' => Hs h h' [] ∧ (v = true ↔ (kb = true ∧ (OpenR l k ↔ OpenR l (p.getD k default))))) (fun v => [(9, vh), (10, .int .i64 n), (12, vT), (13, u), (18, .bool v), (19, .int .i64 k), (92, u), (93, .int .i64 n), (94, .int .i64 k)]) ?_ ?_
    · cases kb
      · (repeat (refine K_seq ?_)); refine K_drawX (id := 22) [(9, (0, 1))] [some (blkS u)] ?_; refine KX_cons ?_; (first | (refine mv ?_ <;> refine KO_nil ⟨⟨by (first | exact True.intro), rfl⟩, ?_⟩)); refine KX_cons ?_; (first | (refine mv ?_ <;> refine KO_nil ⟨⟨by (first | exact True.intro), rfl⟩, ?_⟩)); refine KX_cons ?_; (first | (refine off ?_; refine KO_nil ⟨⟨by (first | exact True.intro), rfl⟩, ?_⟩)); refine KX_cons ?_; (first | (refine off ?_; refine KO_nil ⟨⟨by (first | exact True.intro), rfl⟩, ?_⟩)); (first | (refine KX_cons ?_; refine off ?_; refine KO_nil ⟨⟨True.intro, by show keepsX _ _ _ _ _; simp [keepsX]⟩, ?_⟩; refine KX_cons ?_; (first | (refine off ?_; refine KO_nil ⟨⟨by (first | exact True.intro), rfl⟩, ?_⟩)); refine KX_cons ?_; (first | (refine off ?_; refine KO_nil ⟨⟨by (first | exact True.intro), rfl⟩, ?_⟩)); refine KX_cons ?_; (first | (refine off ?_; refine KO_nil ⟨⟨by (first | exact True.intro), rfl⟩, ?_⟩)); refine KX_cons ?_; (first | (refine off ?_; refine KO_nil ⟨⟨by (first | exact True.intro), rfl⟩, ?_⟩)); refine KX_cons ?_; (first | (refine off ?_; refine KO_nil ⟨⟨by (first | exact Or.inl rfl), rfl⟩, ?_⟩)); (first | (refine KX_cons ?_; refine off ?_; refine KO_nil ⟨⟨True.intro, by show keepsX _ _ _ _ _; simp [keepsX]⟩, ?_⟩; refine KX_cons ?_; (first | (refine off ?_; refine KO_nil ⟨⟨by (first | exact True.intro), rfl⟩, ?_⟩)); refine KX_cons ?_; (first | (refine vl ?_ <;> refine KO_nil ⟨⟨by (first | exact True.intro), rfl⟩, ?_⟩)); refine KX_cons ?_; (first | (refine mv ?_ <;> refine KO_nil ⟨⟨by (first | exact True.intro), rfl⟩, ?_⟩)); refine KX_nil ?_))))
        exact ⟨false, ⟨S, by simp⟩, ((by repeat (first | exact Ks.le_nil _ | refine Ks.le_cons rfl ?_)))⟩
      · (repeat (refine K_seq ?_)); refine K_drawX (id := 22) [(9, (0, 1))] [some (blkS u)] ?_; refine KX_cons ?_; (first | (refine mv ?_ <;> refine KO_nil ⟨⟨by (first | exact True.intro), rfl⟩, ?_⟩)); refine KX_cons ?_; (first | (refine mv ?_ <;> refine KO_nil ⟨⟨by (first | exact True.intro), rfl⟩, ?_⟩)); refine KX_cons ?_; (first | (refine mv ?_ <;> refine KO_nil ⟨⟨by (first | exact True.intro), rfl⟩, ?_⟩)); refine KX_cons ?_; (first | (refine mv ?_ <;> refine KO_nil ⟨⟨by (first | exact True.intro), rfl⟩, ?_⟩)); (skip)
        ((refine KX_cons ?_; first | refine KO_fn rfl rfl rfl rfl rfl ((hallOpen_ok S.wf vh l (H.ext w5 S.ext) k (by omega)).mono ?_)); rintro _ h4 ⟨⟨rfl, z1⟩ | ⟨rfl, z1⟩, x⟩) <;> ((refine KO_nil ⟨⟨True.intro, ?_⟩, ?_⟩; (focus ((show keepsX _ _ _ _ _; simp only [keepsX]; (repeat' (first | exact True.intro | refine And.intro ?_ ?_)); all_goals (intro hw; first | exact x.ext.old _ (S.bX (by assumption) (by assumption) (by first | omega))))))); replace S := S.join0 x; clear x; refine KX_cons ?_; (first | (refine mv ?_ <;> refine KO_nil ⟨⟨by (first | exact True.intro), rfl⟩, ?_⟩)); refine KX_cons ?_; (first | (refine mv ?_ <;> refine KO_nil ⟨⟨by (first | exact True.intro), rfl⟩, ?_⟩)); refine KX_cons ?_; (first | (refine mv ?_ <;> refine KO_nil ⟨⟨by (first | exact True.intro), rfl⟩, ?_⟩)); refine KX_cons ?_; (first | (refine ixB S ?_ <;> refine KO_nil ⟨⟨by (first | exact True.intro), rfl⟩, ?_⟩)); refine KX_cons ?_; (first | (refine lEB S ?_ <;> refine KO_nil ⟨⟨by (first | exact Or.inr (congrArg some (blkOf_elA _ _ _ _))), rfl⟩, ?_⟩)); (skip))
        all_goals (((refine KX_cons ?_; first | refine KO_fn rfl rfl rfl rfl rfl ((hallOpen_ok S.wf vh l (H.ext w5 S.ext) (p.getD k default) (by omega)).mono ?_)); rintro _ h4 ⟨⟨rfl, z2⟩ | ⟨rfl, z2⟩, x⟩) <;> ((refine KO_nil ⟨⟨True.intro, ?_⟩, ?_⟩; (focus ((show keepsX _ _ _ _ _; simp only [keepsX]; (repeat' (first | exact True.intro | refine And.intro ?_ ?_)); all_goals (intro hw; first | exact x.ext.old _ (S.bX (by assumption) (by assumption) (by first | omega))))))); replace S := S.join0 x; clear x; refine KX_cons ?_; (first | (refine vl ?_ <;> refine KO_nil ⟨⟨by (first | exact True.intro), rfl⟩, ?_⟩)); refine KX_cons ?_; (first | (refine vl ?_ <;> refine KO_nil ⟨⟨by (first | exact True.intro), rfl⟩, ?_⟩)); refine KX_cons ?_; (first | (refine mv ?_ <;> refine KO_nil ⟨⟨by (first | exact True.intro), rfl⟩, ?_⟩)); refine KX_nil ?_))
        · exact ⟨true, ⟨S, ⟨fun _ => ⟨rfl, fun _ => z2, fun _ => z1⟩, fun _ => rfl⟩⟩, ((by repeat (first | exact Ks.le_nil _ | refine Ks.le_cons rfl ?_)))⟩
        · exact ⟨false, ⟨S, ⟨fun q => (by cases q), fun q => absurd (q.2.1 z1) z2⟩⟩, ((by repeat (first | exact Ks.le_nil _ | refine Ks.le_cons rfl ?_)))⟩
        · exact ⟨false, ⟨S, ⟨fun q => (by cases q), fun q => absurd (q.2.2 z2) z1⟩⟩, ((by repeat (first | exact Ks.le_nil _ | refine Ks.le_cons rfl ?_)))⟩
        · exact ⟨true, ⟨S, ⟨fun _ => ⟨rfl, fun q => absurd q z1, fun q => absurd q z2⟩, fun _ => rfl⟩⟩, ((by repeat (first | exact Ks.le_nil _ | refine Ks.le_cons rfl ?_)))⟩
    clear S
    rintro kc h4 ⟨S, hkc⟩
    rw [ho1, ho2, hkb] at hkc
    skip
    all_goals (repeat' (first | refine K_seq ?_ | refine k_block ?_ | (refine K_region (id := 23) ?_; refine mv ?_; refine lnB S ?_; refine mv ?_; refine KO_nil ?_)))
    refine k_loop (σ := Nat × Bool) (fun (j, kd) h' => Hs h h' [] ∧ j ≤ n ∧ (kd = true ↔ (kc = true ∧ ∀ y, y < j → (besideP (tb l 0) k y ↔ besideP (tb l 0) (p.getD k default) (p.getD y default))))) (fun (j, kd) => n - j) (fun (j, kd) => [(9, vh), (10, .int .i64 n), (12, vT), (13, u), (18, .bool kd), (19, .int .i64 k), (92, u), (93, .int .i64 n), (94, .int .i64 k), (124, .int .i64 n), (125, .int .i64 j)]) (0, kc) (by repeat (first | exact Ks.le_nil _ | refine Ks.le_cons rfl ?_ | refine Ks.le_int ?_)) ?_ ?_
    · exact ⟨S, Nat.zero_le _, ⟨fun q => ⟨q, fun y hy => absurd hy (Nat.not_lt_zero _)⟩, fun q => q.1⟩⟩
    clear S
    rintro ⟨j, kd⟩ h4 ⟨S, hj1, hkd⟩
    all_goals (repeat' (first | refine K_seq ?_ | refine k_cond rfl ?_ | refine K_skip ?_ | refine K_exit ?_ | refine k_block ?_ | (refine K_region (id := 24) ?_; (first | (refine cS ?_ ?_ <;> intro hc)) <;> (refine KO_nil ?_)) | (refine K_region (id := 25) ?_; refine mv ?_; refine mv ?_; refine KO_nil ?_)))
    · have hj : j < n := by omega
      have hb3 := hpb2 j hj
      have hb4 : 0 ≤ p.getD (j : Int).toNat default ∧ p.getD (j : Int).toNat default < n := hb3
      have hbe1 : BothP besideP l k j ↔ besideP (tb l 0) k j := both1 hv hl1 hn ⟨by omega, by omega⟩ ⟨by omega, by omega⟩
      have hbe2 : BothP besideP l (p.getD k default) (p.getD j default) ↔ besideP (tb l 0) (p.getD k default) (p.getD j default) := both1 hv hl1 hn ⟨by omega, by omega⟩ ⟨by omega, by omega⟩
      have hstep : ∀ v : Bool, (v = true ↔ (kd = true ∧ (BothP besideP l k j ↔ BothP besideP l (p.getD k default) (p.getD j default)))) → (v = true ↔ (kc = true ∧ ∀ y, y < j + 1 → (besideP (tb l 0) k y ↔ besideP (tb l 0) (p.getD k default) (p.getD y default)))) := fun v hke => by
        rw [hbe1, hbe2, hkd] at hke
        refine hke.trans ⟨fun q => ⟨q.1.1, fun y hy => ?_⟩, fun q => ⟨⟨q.1, fun y hy => q.2 y (by omega)⟩, q.2 j (by omega)⟩⟩
        rcases Nat.lt_or_ge y j with z | z
        · exact q.1.2 y z
        · obtain rfl : y = j := by omega
          exact q.2
      have hms : n - (j + 1) < n - j := by omega
      have hj2 : j + 1 ≤ n := by omega
      cases kd
      · (repeat (refine K_seq ?_)); refine K_drawX (id := 26) [(10, (0, 1)), (14, (0, 1))] [some (blkS u), some (blkS u)] ?_; refine KX_cons ?_; (first | (refine mv ?_ <;> refine KO_nil ⟨⟨by (first | exact True.intro), rfl⟩, ?_⟩)); refine KX_cons ?_; (first | (refine mv ?_ <;> refine KO_nil ⟨⟨by (first | exact True.intro), rfl⟩, ?_⟩)); refine KX_cons ?_; (first | (refine off ?_; refine KO_nil ⟨⟨by (first | exact True.intro), rfl⟩, ?_⟩)); refine KX_cons ?_; (first | (refine off ?_; refine KO_nil ⟨⟨by (first | exact True.intro), rfl⟩, ?_⟩)); refine KX_cons ?_; (first | (refine off ?_; refine KO_nil ⟨⟨by (first | exact True.intro), rfl⟩, ?_⟩)); (first | (refine KX_cons ?_; refine off ?_; refine KO_nil ⟨⟨True.intro, by show keepsX _ _ _ _ _; simp [keepsX]⟩, ?_⟩; refine KX_cons ?_; (first | (refine off ?_; refine KO_nil ⟨⟨by (first | exact True.intro), rfl⟩, ?_⟩)); refine KX_cons ?_; (first | (refine off ?_; refine KO_nil ⟨⟨by (first | exact True.intro), rfl⟩, ?_⟩)); refine KX_cons ?_; (first | (refine off ?_; refine KO_nil ⟨⟨by (first | exact True.intro), rfl⟩, ?_⟩)); refine KX_cons ?_; (first | (refine off ?_; refine KO_nil ⟨⟨by (first | exact True.intro), rfl⟩, ?_⟩)); refine KX_cons ?_; (first | (refine off ?_; refine KO_nil ⟨⟨by (first | exact Or.inl rfl), rfl⟩, ?_⟩)); refine KX_cons ?_; (first | (refine off ?_; refine KO_nil ⟨⟨by (first | exact True.intro), rfl⟩, ?_⟩)); refine KX_cons ?_; (first | (refine off ?_; refine KO_nil ⟨⟨by (first | exact True.intro), rfl⟩, ?_⟩)); refine KX_cons ?_; (first | (refine off ?_; refine KO_nil ⟨⟨by (first | exact True.intro), rfl⟩, ?_⟩)); refine KX_cons ?_; (first | (refine off ?_; refine KO_nil ⟨⟨by (first | exact Or.inl rfl), rfl⟩, ?_⟩)); (first | (refine KX_cons ?_; refine off ?_; refine KO_nil ⟨⟨True.intro, by show keepsX _ _ _ _ _; simp [keepsX]⟩, ?_⟩; refine KX_cons ?_; (first | (refine off ?_; refine KO_nil ⟨⟨by (first | exact True.intro), rfl⟩, ?_⟩)); refine KX_cons ?_; (first | (refine vl ?_ <;> refine KO_nil ⟨⟨by (first | exact True.intro), rfl⟩, ?_⟩)); refine KX_cons ?_; (first | (refine mv ?_ <;> refine KO_nil ⟨⟨by (first | exact True.intro), rfl⟩, ?_⟩)); refine KX_nil ?_))))
        all_goals (repeat' (first | (refine K_region (id := 27) ?_; refine ad ?_; refine mv ?_; refine KO_nil ?_)))
        exact ⟨(j + 1, false), hms, ⟨S, hj2, hstep false (by simp)⟩, ((by repeat (first | exact Ks.le_nil _ | refine Ks.le_cons rfl ?_)))⟩
      · (repeat (refine K_seq ?_)); refine K_drawX (id := 26) [(10, (0, 1)), (14, (0, 1))] [some (blkS u), some (blkS u)] ?_; refine KX_cons ?_; (first | (refine mv ?_ <;> refine KO_nil ⟨⟨by (first | exact True.intro), rfl⟩, ?_⟩)); refine KX_cons ?_; (first | (refine mv ?_ <;> refine KO_nil ⟨⟨by (first | exact True.intro), rfl⟩, ?_⟩)); refine KX_cons ?_; (first | (refine mv ?_ <;> refine KO_nil ⟨⟨by (first | exact True.intro), rfl⟩, ?_⟩)); refine KX_cons ?_; (first | (refine mv ?_ <;> refine KO_nil ⟨⟨by (first | exact True.intro), rfl⟩, ?_⟩)); refine KX_cons ?_; (first | (refine mv ?_ <;> refine KO_nil ⟨⟨by (first | exact True.intro), rfl⟩, ?_⟩)); (skip)
        ((refine KX_cons ?_; first | refine KO_fn rfl rfl rfl rfl rfl ((hallBeside_ok S.wf vh l (H.ext w5 S.ext) k j (by omega) (by omega)).mono ?_)); rintro _ h4 ⟨⟨rfl, z1⟩ | ⟨rfl, z1⟩, x⟩) <;> ((refine KO_nil ⟨⟨True.intro, ?_⟩, ?_⟩; (focus ((show keepsX _ _ _ _ _; simp only [keepsX]; (repeat' (first | exact True.intro | refine And.intro ?_ ?_)); all_goals (intro hw; first | exact x.ext.old _ (S.bX (by assumption) (by assumption) (by first | omega))))))); replace S := S.join0 x; clear x; refine KX_cons ?_; (first | (refine mv ?_ <;> refine KO_nil ⟨⟨by (first | exact True.intro), rfl⟩, ?_⟩)); refine KX_cons ?_; (first | (refine mv ?_ <;> refine KO_nil ⟨⟨by (first | exact True.intro), rfl⟩, ?_⟩)); refine KX_cons ?_; (first | (refine mv ?_ <;> refine KO_nil ⟨⟨by (first | exact True.intro), rfl⟩, ?_⟩)); refine KX_cons ?_; (first | (refine ixB S ?_ <;> refine KO_nil ⟨⟨by (first | exact True.intro), rfl⟩, ?_⟩)); refine KX_cons ?_; (first | (refine lEB S ?_ <;> refine KO_nil ⟨⟨by (first | exact Or.inr (congrArg some (blkOf_elA _ _ _ _))), rfl⟩, ?_⟩)); refine KX_cons ?_; (first | (refine mv ?_ <;> refine KO_nil ⟨⟨by (first | exact True.intro), rfl⟩, ?_⟩)); refine KX_cons ?_; (first | (refine mv ?_ <;> refine KO_nil ⟨⟨by (first | exact True.intro), rfl⟩, ?_⟩)); refine KX_cons ?_; (first | (refine ixB S ?_ <;> refine KO_nil ⟨⟨by (first | exact True.intro), rfl⟩, ?_⟩)); refine KX_cons ?_; (first | (refine lEB S ?_ <;> refine KO_nil ⟨⟨by (first | exact Or.inr (congrArg some (blkOf_elA _ _ _ _))), rfl⟩, ?_⟩)); (skip))
        all_goals (((refine KX_cons ?_; first | refine KO_fn rfl rfl rfl rfl rfl ((hallBeside_ok S.wf vh l (H.ext w5 S.ext) (p.getD k default) (p.getD j default) (by omega) (by omega)).mono ?_)); rintro _ h4 ⟨⟨rfl, z2⟩ | ⟨rfl, z2⟩, x⟩) <;> ((refine KO_nil ⟨⟨True.intro, ?_⟩, ?_⟩; (focus ((show keepsX _ _ _ _ _; simp only [keepsX]; (repeat' (first | exact True.intro | refine And.intro ?_ ?_)); all_goals (intro hw; first | exact x.ext.old _ (S.bX (by assumption) (by assumption) (by first | omega))))))); replace S := S.join0 x; clear x; refine KX_cons ?_; (first | (refine vl ?_ <;> refine KO_nil ⟨⟨by (first | exact True.intro), rfl⟩, ?_⟩)); refine KX_cons ?_; (first | (refine vl ?_ <;> refine KO_nil ⟨⟨by (first | exact True.intro), rfl⟩, ?_⟩)); refine KX_cons ?_; (first | (refine mv ?_ <;> refine KO_nil ⟨⟨by (first | exact True.intro), rfl⟩, ?_⟩)); refine KX_nil ?_))
        all_goals (all_goals (repeat' (first | (refine K_region (id := 27) ?_; refine ad ?_; refine mv ?_; refine KO_nil ?_))))
        · exact ⟨(j + 1, true), hms, ⟨S, hj2, hstep true ⟨fun _ => ⟨rfl, fun _ => z2, fun _ => z1⟩, fun _ => rfl⟩⟩, ((by repeat (first | exact Ks.le_nil _ | refine Ks.le_cons rfl ?_)))⟩
        · exact ⟨(j + 1, false), hms, ⟨S, hj2, hstep false ⟨fun q => (by cases q), fun q => absurd (q.2.1 z1) z2⟩⟩, ((by repeat (first | exact Ks.le_nil _ | refine Ks.le_cons rfl ?_)))⟩
        · exact ⟨(j + 1, false), hms, ⟨S, hj2, hstep false ⟨fun q => (by cases q), fun q => absurd (q.2.2 z2) z1⟩⟩, ((by repeat (first | exact Ks.le_nil _ | refine Ks.le_cons rfl ?_)))⟩
        · exact ⟨(j + 1, true), hms, ⟨S, hj2, hstep true ⟨fun _ => ⟨rfl, fun q => absurd q z1, fun q => absurd q z2⟩, fun _ => rfl⟩⟩, ((by repeat (first | exact Ks.le_nil _ | refine Ks.le_cons rfl ?_)))⟩
    · have hj : j = n := by omega
      subst hj
      all_goals (repeat' (first | (refine K_region (id := 28) ?_; refine ad ?_; refine mv ?_; refine KO_nil ?_)))
      refine ⟨(k + 1, kd), ?_, ?_, (by repeat (first | exact Ks.le_nil _ | refine Ks.le_cons rfl ?_))⟩
      · show j - (k + 1) < j - k; omega
      · refine ⟨S, by omega, hkd.trans ⟨fun q x hx => ?_, fun q => ⟨hkc.2 ⟨fun x hx => q x (by omega), (q k (by omega)).1⟩, fun y hy => (q k (by omega)).2 y hy⟩⟩⟩
        have q1 := hkc.1 q.1
        rcases Nat.lt_or_ge x k with z | z
        · exact q1.1 x z
        · obtain rfl : x = k := by omega
          exact ⟨q1.2, fun y hy => q.2 y hy⟩
  · have hk : k = n := by omega
    subst hk
    have hmem : p ∈ ls ↔ kb = true := (tT.trn p).trans (WT.trans hkb.symm)
    skip
    all_goals (repeat' (first | (refine K_region (id := 29) ?_; refine mv ?_; refine mv ?_)))
    (refine KO_fn rfl rfl rfl rfl rfl ((there_ok S.wf vT u ls p (rT.ext w5 S.ext) (hpr.ext w5 S.ext) (by omega) bT (by omega) tT.srt).mono ?_); rintro _ h4 ⟨⟨rfl, q⟩ | ⟨rfl, q⟩, x⟩) <;> (replace S := S.join0 x; clear x; refine mv ?_; refine vl ?_; refine mv ?_; (skip))
    · obtain rfl := hmem.1 q
      all_goals (repeat' (fail))
      (refine KO_fn rfl rfl rfl rfl rfl ((awake_ok).mono ?_); rintro _ h4 ⟨rfl, rfl⟩) <;> (refine vl ?_; refine mv ?_; refine KO_nil ?_)
      all_goals (repeat' (fail))
      refine K_ret ⟨_, rfl, ?_⟩
      rfl
    · obtain rfl : kb = false := by
        cases kb
        · rfl
        · exact absurd (hmem.2 rfl) q
      all_goals (repeat' (fail))
      (refine KO_fn rfl rfl rfl rfl rfl ((awake_ok).mono ?_); rintro _ h4 ⟨rfl, rfl⟩) <;> (refine vl ?_; refine mv ?_; refine KO_nil ?_)
      all_goals (repeat' (fail))
      refine K_ret ⟨_, rfl, ?_⟩
      rfl
theorem hallWhole_core (h : AH) (us : List Value) (w : WfH h) (a : ArgsR Tryz.prog h Tryz.f14.params.toList us) : Fn Tryz.prog Xh 14 us h (fun x _ => x = .bool true) := by
  rw [show Tryz.f14.params.toList = [5, 48, 5, 66] by kernel_rfl] at a
  obtain ⟨n0, r0, us, rfl, a0, a⟩ := a.cons_inv
  obtain ⟨n1, r1, us, rfl, a1, a⟩ := a.cons_inv
  obtain ⟨n2, r2, us, rfl, a2, a⟩ := a.cons_inv
  obtain ⟨n3, r3, us, rfl, a3, a⟩ := a.cons_inv
  obtain rfl := a.nil_inv
  obtain ⟨x, rfl, hx⟩ := a0.u81 (by kernel_rfl)
  obtain ⟨v, l, rfl, h1, h2, h3, h4⟩ := AR.bytes1 (e := 5) a1 (by kernel_rfl) (by kernel_rfl) (by kernel_rfl)
  obtain ⟨y, rfl, hy⟩ := a2.u81 (by kernel_rfl)
  obtain ⟨u, m, rfl, g1, g2, g3, g4⟩ := AR.slice1 (e := 68) (z := 2) eB2 (fun p => p.1 < 256 ∧ p.2 < 256) a3 (by kernel_rfl) (by kernel_rfl) (fun n cs q => AR.pair8 q)
  obtain ⟨sv, rfl⟩ := h1.isSl
  exact hallWhole_true w x hx sv l h1 h3 h2 h4 y hy u m g1 g3 g2 g4
end Go.Proofs.Xx

/-
  What is known of the listed variables (nothing is asked of them here); a block of cells that is there in every world.
-/
namespace Go.Proofs.Xx
open Go Go.RowKit Go.Proofs
theorem Xh_none (f : FuncId) (h1 : f ≠ 21) (h2 : f ≠ 200) (h3 : f ≠ 224) (h4 : f ≠ 111) (h5 : f ≠ 108) (h6 : f ≠ 121) (h7 : f ≠ 228) (us : List Value) (h : AH) : Xh f us h = none := by
  have e : ∀ n, f ≠ n → Nat.beq f n = false := fun n q => by rw [Bool.eq_false_iff]; intro q'; exact q (Nat.eq_of_beq_eq_true q')
  unfold Xh withDec withDigits withKnown withBytes externNoEscape
  simp only [e _ h1, e _ h2, e _ h3, e _ h4, e _ h5, e _ h6, e _ h7]
theorem gDe : Tryz.prog.globalNamed "math/bits.deBruijn32tab" = some 2 := by kernel_rfl
theorem gDeType : (Tryz.prog.globals[2]?).map (·.type) = some 211 := by kernel_rfl
theorem cell_block {W : World} {b o : Nat} {v : Value} (h : W.cell? ⟨b, o, none⟩ = some v) : ∃ (k : Nat) (cc : Array Value) (el : TypeId) (fr : Nat × Nat), W.heap[k]? = some (.cells cc el fr) := by
  unfold World.cell? at h
  split at h
  · rename_i c e f hc; exact ⟨b, c, e, f, hc⟩
  · cases h
theorem cells_there {W : World} {rest : List (String × DataW Unit)} (h : laidMet Tryz.prog (("math/bits.deBruijn32tab", YtnopenpheaihmaaGreatDoor.Rows.laid_math_bits_deBruijn32tab) :: rest) W) :
    ∃ (k : Nat) (cc : Array Value) (el : TypeId) (fr : Nat × Nat), W.heap[k]? = some (.cells cc el fr) := by
  have t : Lib.TabIs Tryz.prog W "math/bits.deBruijn32tab" .u8 [0, 1, 28, 2, 29, 14, 24, 3, 30, 22, 20, 15, 25, 17, 4, 8, 31, 27, 13, 23, 21, 19, 16, 7, 26, 12, 18, 6, 11, 5, 10, 9] :=
    Lib.tabIs_of_head gDe gDeType (n := 32) (e := 5) (by kernel_rfl) (by kernel_rfl) (by kernel_rfl) (by kernel_rfl) h
  exact cell_block (t.cell gDe 0 (by decide))
theorem gPowType : (Tryz.prog.globals[1]?).map (·.type) = some 206 := by kernel_rfl
theorem pow10_there {W : World} {x y : String × DataW Unit} {rest : List (String × DataW Unit)} (h : laidMet Tryz.prog (x :: y :: ("internal/strconv.uint64pow10", YtnopenpheaihmaaGreatDoor.Rows.laid_internal_strconv_uint64pow10) :: rest) W) :
    Glob.ok W.heap.size W.heap := by
  have t : Lib.TabIs Tryz.prog W "internal/strconv.uint64pow10" .u64 Lib.pow10Tab :=
    Lib.tabIs_of_head gPow gPowType (n := 20) (e := 177) (by kernel_rfl) (by kernel_rfl) (by kernel_rfl) (by kernel_rfl) (laidMet.tail (laidMet.tail h))
  unfold Lib.TabIs World.var? at t
  rw [gPow] at t
  simp only [Option.bind_some] at t
  split at t
  · rename_i cs el fr hc
    cases t
    exact ⟨(Array.getElem?_eq_some_iff.1 hc).1, el, fr, hc⟩
  · cases t
end Go.Proofs.Xx
