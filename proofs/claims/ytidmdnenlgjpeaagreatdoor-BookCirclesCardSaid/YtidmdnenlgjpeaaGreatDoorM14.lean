/-
  BookCircles.
-/
import Derived.Test.YtidmdnenlgjpeaaGreatDoorM11
import Derived.Test.YtidmdnenlgjpeaaGreatDoorM13
import Derived.Test.YtidmdnenlgjpeaaGreatDoorM9
import Derived.Test.YtidmdnenlgjpeaaGreatDoorM8
import Derived.Test.YtidmdnenlgjpeaaGreatDoorRows
import Derived.Lib.LaidTab
import Derived.Stop.LaidErr
import Derived.Shelf.Vars

namespace Go.Proofs.Xx
open Go Go.Proofs
set_option linter.unusedSimpArgs false
set_option linter.unusedVariables false
set_option linter.unusedSectionVars false
set_option maxRecDepth 100000
set_option maxHeartbeats 4000000

theorem CirOk.same {r : Rl} (H : RO r) {cs : List Wd} (C : CirOk r cs) {i j : Nat} (hi : i < cs.length) (hj : j < cs.length) {x : List UInt8} (h1 : x ∈ (cs.getD i default).ws) (h2 : x ∈ (cs.getD j default).ws) : i = j := by
  have key : ∀ i j, i < cs.length → j < cs.length → x ∈ (cs.getD i default).ws → x ∈ (cs.getD j default).ws → ¬ sLt ((cs.getD j default).ws.getD 0 default) ((cs.getD i default).ws.getD 0 default) := fun i j hi hj h1 h2 => by
    obtain ⟨a1, a2, a3⟩ := C.ss _ (mem_getD hi)
    obtain ⟨b1, b2, b3⟩ := C.ss _ (mem_getD hj)
    obtain ⟨k1, r1⟩ := (a3 x).1 h1
    obtain ⟨k2, r2⟩ := (b3 x).1 h2
    have hm : (cs.getD j default).ws.getD 0 default ∈ (cs.getD i default).ws := (a3 _).2 ⟨k1, r1.trans r2.symm⟩
    obtain ⟨z, z1, z2⟩ := mem_iff_getD.1 hm
    have := a1.le (Nat.zero_le z) z1
    rwa [z2] at this
  rcases Nat.lt_trichotomy i j with q | q | q
  · exact absurd (C.hd i j q hj) (key j i hj hi h2 h1)
  · exact q
  · exact absurd (C.hd j i q hi) (key i j hi hj h1 h2)
theorem Rch.alone {r : Rl} {k : Int} {n x : List UInt8} (h : Rch r k n x) (hno : ∀ y, ¬ adj r k n y) : x = n := by
  induction h with
  | refl => rfl
  | step h a ih => rw [ih] at a; exact absurd a (hno _)
/-- How many stand in the first circles. -/
def tot (cs : List Wd) (i : Nat) : Nat := ((cs.take i).flatMap (·.ws)).length
theorem tot_succ {cs : List Wd} {i : Nat} (hi : i < cs.length) : tot cs (i + 1) = tot cs i + (cs.getD i default).ws.length := by
  unfold tot
  rw [take_succ_getD hi, List.flatMap_append, List.length_append]; simp
theorem CirOk.nodup {r : Rl} (H : RO r) {cs : List Wd} (C : CirOk r cs) (i : Nat) : ((cs.take i).flatMap (·.ws)).Nodup := by
  rw [List.Nodup, List.pairwise_flatMap]
  refine ⟨fun w hw => (C.ss w (List.mem_of_mem_take hw)).1.nodup, ?_⟩
  rw [List.pairwise_iff_getElem]
  intro a b ha hb hab x hx y hy e
  subst e
  simp only [List.length_take] at ha hb
  have ea : (cs.take i)[a] = cs.getD a default := by rw [List.getElem_take, List.getD_eq_getElem?_getD, List.getElem?_eq_getElem (show a < cs.length by omega)]; rfl
  have eb : (cs.take i)[b] = cs.getD b default := by rw [List.getElem_take, List.getD_eq_getElem?_getD, List.getElem?_eq_getElem (show b < cs.length by omega)]; rfl
  rw [ea] at hx
  rw [eb] at hy
  have := C.same H (show a < cs.length by omega) (show b < cs.length by omega) hx hy
  omega
theorem CirOk.tot_le {r : Rl} (H : RO r) {cs : List Wd} (C : CirOk r cs) (i : Nat) : tot cs i ≤ r.us.length := by
  have := nodup_leM (C.nodup H i) (m := r.us.map (·.name)) fun x hx => by
    obtain ⟨w, w1, w2⟩ := List.mem_flatMap.1 hx
    obtain ⟨-, -, w3⟩ := C.ss w (List.mem_of_mem_take w1)
    obtain ⟨k, rc⟩ := (w3 x).1 w2
    exact gat_name (rc.known H k)
  rwa [List.length_map] at this
theorem CirOk.tot {r : Rl} (H : RO r) {cs : List Wd} (C : CirOk r cs) (hall : ∀ x, gat r.us x ≠ none → ∃ w ∈ cs, x ∈ w.ws) : Xx.tot cs cs.length = r.us.length := by
  have h1 := C.tot_le H cs.length
  have hn : (r.us.map (·.name)).Nodup := by
    rw [List.Nodup, List.pairwise_iff_getElem]
    intro i j hi hj hij
    simp only [List.length_map] at hi hj
    have := H.nd i j hij hj
    rw [List.getD_eq_getElem?_getD, List.getD_eq_getElem?_getD, List.getElem?_eq_getElem hj, List.getElem?_eq_getElem hi] at this
    simpa using this
  have h2 := nodup_leM hn (m := (cs.take cs.length).flatMap (·.ws)) fun x hx => by
    obtain ⟨g, g1, g2⟩ := List.mem_map.1 hx
    obtain ⟨w, w1, w2⟩ := hall x (gat_mem.2 ⟨g, g1, g2⟩)
    rw [List.take_length]
    exact List.mem_flatMap.2 ⟨w, w1, w2⟩
  rw [List.length_map] at h2
  unfold Xx.tot at *
  omega
variable [Flag]
theorem book_ok {h0 : AH} (w : WfH h0) (v : RlV) (r : Rl) (H : RlOk h0 v r) (hv : RO r) : Fn Tryz.prog Xh 24 [v.val] h0 (fun u h' => ∃ p, u = .tuple #[.pointer (some ⟨p, 0, none⟩), .bool true] ∧ Hs h0 h' [bookR p r]) := by
  have S := Hs.start w
  unfold RlV.val
  refine Fn_K rfl Tryz.func24 rfl rfl ?_
  all_goals (repeat' (first | refine K_seq ?_ | refine k_cond rfl ?_ | refine K_skip ?_ | refine K_exit ?_ | refine k_block ?_ | refine K_scope ?_ | refine K_label ?_ | (refine K_region (id := 0) ?_; (refine bx S ?_; clear S; intro b h S); refine mv ?_; refine mv ?_; refine KO_nil ?_) | (refine K_region (id := 1) ?_; (first | refine lB S rfl rfl ?_ | refine lES2 S rfl rfl ?_ | refine lEB S ?_ | refine lH S ?_))))
  (refine KO_fn rfl rfl rfl rfl rfl ((load_ok S.wf v r (H.ext w S.ext)).mono ?_); rintro _ h (⟨p, rfl, x1, x⟩ | ⟨i, e, rfl, hb, x⟩)) <;> (refine mv ?_; refine vl ?_; refine vl ?_; refine vl ?_; refine mv ?_; refine mv ?_; refine mv ?_; refine KO_nil ?_)
  · replace S := S.join x
    all_goals (repeat' (first | refine K_seq ?_ | refine k_cond rfl ?_ | refine K_skip ?_ | refine K_exit ?_ | refine k_block ?_ | refine K_scope ?_ | refine K_label ?_ | (refine K_region (id := 2) ?_; refine mv ?_; refine mv ?_; refine vl ?_; refine mv ?_; (first | refine off ?_ | refine mv ?_); (first | refine off ?_ | (first | refine cT ?_ | refine cF ?_ | (refine cS ?_ ?_ <;> intro hc))) <;> (refine vl ?_; refine mv ?_; (first | refine off ?_ | refine mv ?_); (first | refine off ?_ | (first | refine cT ?_ | refine cF ?_ | (refine cS ?_ ?_ <;> intro hc))) <;> (refine vl ?_; refine mv ?_; refine mv ?_; refine KO_nil ?_)))))
    refine K_ret ⟨_, rfl, ?_⟩
    exact ⟨p, rfl, S.only .here⟩
  · exact absurd (VRl_iff.2 hv) hb.not
theorem bookCircles_true {h0 : AH} (w : WfH h0) (va vb : Value) (la lb : List Nat) (ra : RdL h0 va 1 e16 la) (rb : RdL h0 vb 1 eU lb) (hla : la.length ≤ 9223372036854775807) (hlb : lb.length ≤ 9223372036854775807) (h16 : ∀ i, i < la.length → la.getD i default < 65536) (h8 : ∀ i, i < lb.length → lb.getD i default < 256) :
    Fn Tryz.prog Xh 5 [va, vb] h0 (fun v _ => v = .bool true) := by
  have S := Hs.start w
  refine Fn_K rfl Tryz.func5 rfl rfl ?_
  all_goals (repeat' (first | refine K_seq ?_ | refine k_cond rfl ?_ | refine K_skip ?_ | refine K_exit ?_ | refine k_block ?_ | refine K_scope ?_ | refine K_label ?_ | (refine K_region (id := 0) ?_; refine mv ?_; refine KO_nil ?_) | (refine K_region (id := 1) ?_; refine mv ?_; refine mv ?_)))
  (refine KO_fn rfl rfl rfl rfl rfl ((made_ok w va vb la lb ra rb hla hlb h16 h8).mono ?_); rintro _ h ⟨⟨vg, vt, gs⟩, r, rfl, HR, H, hM, x⟩) <;> (replace S := S.join0 x; clear x; have w0 := w; have w := S.wf; have S := Hs.start w; (refine al S ?_; clear S; intro b h S); (first | (refine sB S rfl rfl ?_; clear S; intro h S) | (refine sE2 S rfl rfl ?_; clear S; intro h S)); refine KO_nil ?_)
  obtain ⟨b5, hnm⟩ : ∃ x, x = b := ⟨_, rfl⟩; subst hnm
  all_goals (repeat' (first | refine K_seq ?_ | refine k_cond rfl ?_ | refine K_skip ?_ | refine K_exit ?_ | refine k_block ?_ | refine K_scope ?_ | refine K_label ?_ | (refine K_region (id := 2) ?_; (first | refine lB S rfl rfl ?_ | refine lES2 S rfl rfl ?_ | refine lEB S ?_ | refine lH S ?_))))
  (refine KO_fn rfl rfl rfl rfl rfl ((book_ok S.wf ⟨vg, vt, gs⟩ r (HR.ext w S.ext) H).mono ?_); rintro _ h ⟨p, rfl, x⟩) <;> (replace S := S.join1 x; clear x; refine mv ?_; refine vl ?_; refine vl ?_; refine mv ?_; refine mv ?_; refine KO_nil ?_)
  all_goals (repeat' (first | refine K_seq ?_ | refine k_cond rfl ?_ | refine K_skip ?_ | refine K_exit ?_ | refine k_block ?_ | refine K_scope ?_ | refine K_label ?_ | (refine K_region (id := 3) ?_; refine mv ?_; refine vl ?_; refine KO_nil ?_) | (refine K_region (id := 4) ?_; refine mv ?_; refine KO_nil ?_) | (refine K_region (id := 5) ?_; refine mv ?_)))
  (refine KO_fn rfl rfl rfl rfl rfl ((circles_ok S.wf S.bkRd H).mono ?_); rintro un h ⟨cs, x, C, hall, hcl⟩) <;> (replace S := S.join2 x; clear x; refine mv ?_; refine KO_nil ?_)
  have hbk := Hs.bkRd (S.pick : Hs _ h [bookR p r])
  have hb5 : h.get b5 = some (.cells [vg.val, vt.val] 32 none false) := blk_get S (.there (.there (.there .here)))
  have hun := Rd.of_sl S .here
  obtain ⟨fp, hws⟩ := Hs.anyP (p := WdsOk cs) S (.there .here)
  have hw : ∀ i, i < cs.length → RdL h (cs.getD i default).sv.val 1 eS (cs.getD i default).ws := fun i hi => hws.rd hi
  have hrg := HR.rg.ext w S.ext
  have hgl := HR.len
  have w2 := w
  clear w
  have w := S.wf
  replace S := Hs.start w
  have hM12 := hM.1
  have htle := C.tot_le H
  have hlen : ∀ i, i < cs.length → (cs.getD i default).ws.length ≤ 12 := fun i hi => by
    have h1 := htle (i + 1)
    rw [tot_succ hi] at h1; omega
  obtain ⟨hB, hnm⟩ : ∃ x, x = h := ⟨_, rfl⟩; subst hnm
  all_goals (repeat' (first | refine K_seq ?_ | refine k_cond rfl ?_ | refine K_skip ?_ | refine K_exit ?_ | refine k_block ?_ | refine K_scope ?_ | refine K_label ?_ | (refine K_region (id := 6) ?_; refine mv ?_; refine KO_nil ?_) | (refine K_region (id := 7) ?_; refine mv ?_; refine KO_nil ?_)))
  refine k_loop (σ := Nat) (fun i h' => Hs hB h' [] ∧ i ≤ cs.length) (fun i => cs.length - i) (fun i => [(5, .pointer (some ⟨b5, 0, none⟩)), (6, .pointer (some ⟨p, 0, none⟩)), (8, un), (9, .int .i64 (tot cs i)), (10, .int .i64 i)]) 0 (by repeat (first | exact Ks.le_nil _ | refine Ks.le_cons rfl ?_ | refine Ks.le_int ?_)) ?_ ?_
  · exact ⟨S, Nat.zero_le _⟩
  clear S
  rintro i h2 ⟨S, g1⟩
  all_goals (repeat' (first | refine K_seq ?_ | refine k_cond rfl ?_ | refine K_skip ?_ | refine K_exit ?_ | refine k_block ?_ | refine K_scope ?_ | refine K_label ?_ | (refine K_region (id := 8) ?_; refine mv ?_; refine mv ?_; (first | refine lnB S ?_ | refine lnS S rfl rfl ?_); (first | refine cT ?_ | refine cF ?_ | (refine cS ?_ ?_ <;> intro hc)) <;> (refine KO_nil ?_))))
  · have hil : i < cs.length := by omega
    have hwi := hw (i : Int).toNat (by omega)
    have hwj := hw ((i : Int) - 1).toNat (by omega)
    have hli := hlen (i : Int).toNat (by omega)
    have hlj := hlen ((i : Int) - 1).toNat (by omega)
    have htl := htle (i + 1)
    have hts := tot_succ hil
    obtain ⟨c1, c2, c3⟩ := C.ss _ (mem_getD hil)
    have hne : 0 < (cs.getD i default).ws.length := List.length_pos_iff.2 c2
    have hne2 : 0 < (cs.getD ((i : Int) - 1).toNat default).ws.length := List.length_pos_iff.2 (C.ss _ (mem_getD (by omega))).2.1
    have htlI := htle i
    all_goals (repeat' (first | refine K_seq ?_ | refine k_cond rfl ?_ | refine K_skip ?_ | refine K_exit ?_ | refine k_block ?_ | refine K_scope ?_ | refine K_label ?_ | (refine K_region (id := 10) ?_; refine mv ?_; refine mv ?_; refine mv ?_; (first | refine ixB S ?_ | refine ixS2 S rfl rfl ?_); (first | refine lB S rfl rfl ?_ | refine lES2 S rfl rfl ?_ | refine lEB S ?_ | refine lH S ?_); (first | refine lnB S ?_ | refine lnS S rfl rfl ?_); (first | refine ad ?_ | refine vl ?_); refine mv ?_; refine KO_nil ?_)))
    simp only [Int.toNat_natCast]
    (repeat (refine K_seq ?_)); first | refine K_joinR (σ := Unit) (fun _ h' => Hs hB h' []) (fun _ => [(5, .pointer (some ⟨b5, 0, none⟩)), (6, .pointer (some ⟨p, 0, none⟩)), (8, un), (9, .int .i64 (tot cs (i + 1))), (10, .int .i64 i)]) ?_ ?_ | refine K_join (σ := Unit) (fun _ h' => Hs hB h' []) (fun _ => [(5, .pointer (some ⟨b5, 0, none⟩)), (6, .pointer (some ⟨p, 0, none⟩)), (8, un), (9, .int .i64 (tot cs (i + 1))), (10, .int .i64 i)]) ?_ ?_
    · have hprev : 0 < i → sLt ((cs.getD ((i : Int) - 1).toNat default).ws.getD 0 default) ((cs.getD i default).ws.getD 0 default) := fun q => by
        rw [show ((i : Int) - 1).toNat = i - 1 by omega]; exact C.hd (i - 1) i (by omega) hil
      all_goals (repeat' (first | refine K_seq ?_ | refine k_cond rfl ?_ | refine K_skip ?_ | refine K_exit ?_ | refine k_block ?_ | refine K_scope ?_ | refine K_label ?_ | (refine K_draw (id := 11) ?_; refine mv ?_; refine mv ?_; (first | refine ixB S ?_ | refine ixS2 S rfl rfl ?_); (first | refine lB S rfl rfl ?_ | refine lES2 S rfl rfl ?_ | refine lEB S ?_ | refine lH S ?_); (first | refine lnB S ?_ | refine lnS S rfl rfl ?_); (first | refine cT ?_ | refine cF ?_ | (refine cS ?_ ?_ <;> intro hc)) <;> (refine mv ?_; (first | refine off ?_ | refine mv ?_); (first | refine off ?_ | (first | refine cT ?_ | refine cF ?_ | (refine cS ?_ ?_ <;> intro hc))) <;> ((first | refine off ?_ | refine mv ?_); (first | refine off ?_ | refine mv ?_); (first | refine off ?_ | refine mv ?_); (first | refine off ?_ | (first | refine ixB S ?_ | refine ixS2 S rfl rfl ?_)); (first | refine off ?_ | (first | refine lB S rfl rfl ?_ | refine lES2 S rfl rfl ?_ | refine lEB S ?_ | refine lH S ?_)); (first | refine off ?_ | (first | refine ixB S ?_ | refine ixS2 S rfl rfl ?_)); (first | refine off ?_ | (first | refine lB S rfl rfl ?_ | refine lES2 S rfl rfl ?_ | refine lEB S ?_ | refine lH S ?_)); (first | refine off ?_ | refine mv ?_); (first | refine off ?_ | refine mv ?_); (first | refine off ?_ | (first | refine sb ?_ | refine vl ?_)); (first | refine off ?_ | (first | refine ixB S ?_ | refine ixS2 S rfl rfl ?_)); (first | refine off ?_ | (first | refine lB S rfl rfl ?_ | refine lES2 S rfl rfl ?_ | refine lEB S ?_ | refine lH S ?_)); (first | refine off ?_ | (first | refine ixB S ?_ | refine ixS2 S rfl rfl ?_)); (first | refine off ?_ | (first | refine lB S rfl rfl ?_ | refine lES2 S rfl rfl ?_ | refine lEB S ?_ | refine lH S ?_)); (first | refine off ?_ | (refine tO ?_ ?_ <;> intro hc)) <;> ((first | refine off ?_ | refine vl ?_); refine vl ?_; refine KO_nil ?_)))) | (refine K_region (id := 12) ?_; refine mv ?_; refine KO_nil ?_)))
      all_goals simp only [Int.toNat_natCast] at *
      all_goals first
        | exact ⟨(), S, ((by repeat (first | exact Ks.le_nil _ | refine Ks.le_cons rfl ?_ | refine Ks.le_int ?_)))⟩
        | (exfalso; omega)
        | exact absurd (hprev (by omega)) (by assumption)
        | (exfalso; exact absurd (hprev (by omega)) (by assumption))
    · clear S
      rintro - h3 S
      skip
      all_goals (repeat' (first | refine K_seq ?_ | refine k_cond rfl ?_ | refine K_skip ?_ | refine K_exit ?_ | refine k_block ?_ | refine K_scope ?_ | refine K_label ?_ | (refine K_region (id := 13) ?_; refine mv ?_; refine KO_nil ?_)))
      refine k_loop (σ := Nat) (fun k h' => Hs hB h' [] ∧ k ≤ (cs.getD i default).ws.length) (fun k => (cs.getD i default).ws.length - k) (fun k => [(5, .pointer (some ⟨b5, 0, none⟩)), (6, .pointer (some ⟨p, 0, none⟩)), (8, un), (9, .int .i64 (tot cs (i + 1))), (10, .int .i64 i), (11, .int .i64 k)]) 0 (by repeat (first | exact Ks.le_nil _ | refine Ks.le_cons rfl ?_ | refine Ks.le_int ?_)) ?_ ?_
      · exact ⟨S, Nat.zero_le _⟩
      clear S
      rintro k h3 ⟨S, k1⟩
      all_goals (repeat' (first | refine K_seq ?_ | refine k_cond rfl ?_ | refine K_skip ?_ | refine K_exit ?_ | refine k_block ?_ | refine K_scope ?_ | refine K_label ?_ | (refine K_region (id := 14) ?_; refine mv ?_; refine mv ?_; refine mv ?_; (first | refine ixB S ?_ | refine ixS2 S rfl rfl ?_); (first | refine lB S rfl rfl ?_ | refine lES2 S rfl rfl ?_ | refine lEB S ?_ | refine lH S ?_); (first | refine lnB S ?_ | refine lnS S rfl rfl ?_); (first | refine cT ?_ | refine cF ?_ | (refine cS ?_ ?_ <;> intro hc)) <;> (refine KO_nil ?_))))
      · have hkl : k < (cs.getD i default).ws.length := by simp only [Int.toNat_natCast] at hc; omega
        all_goals (repeat' (first | refine K_seq ?_ | refine k_cond rfl ?_ | refine K_skip ?_ | refine K_exit ?_ | refine k_block ?_ | refine K_scope ?_ | refine K_label ?_ | (refine K_region (id := 16) ?_; refine mv ?_; refine mv ?_; refine mv ?_; (first | refine ixB S ?_ | refine ixS2 S rfl rfl ?_); (first | refine lB S rfl rfl ?_ | refine lES2 S rfl rfl ?_ | refine lEB S ?_ | refine lH S ?_); refine mv ?_; (first | refine ixB S ?_ | refine ixS2 S rfl rfl ?_); (first | refine lB S rfl rfl ?_ | refine lES2 S rfl rfl ?_ | refine lEB S ?_ | refine lH S ?_))))
        simp only [Int.toNat_natCast]
        obtain ⟨kk, krc⟩ := (c3 _).1 (mem_getD hkl)
        have hkn := krc.known H kk
        (refine KO_fn rfl rfl rfl rfl rfl ((findK_ok S.wf (hbk.ext w S.ext) H ((cs.getD i default).ws.getD k default) hkn).mono ?_); rintro _ h3 ⟨⟨g, rfl⟩, x⟩) <;> (replace S := S.join0 x; clear x; refine mv ?_; refine vl ?_; refine vl ?_; (refine al S ?_; clear S; intro b h S); (first | (refine sB S rfl rfl ?_; clear S; intro h S) | (refine sE2 S rfl rfl ?_; clear S; intro h S)); refine mv ?_; refine KO_nil ?_)
        have S := S.drop
        (repeat (refine K_seq ?_)); first | refine K_joinR (σ := Unit) (fun _ h' => Hs hB h' []) (fun _ => [(5, .pointer (some ⟨b5, 0, none⟩)), (6, .pointer (some ⟨p, 0, none⟩)), (8, un), (9, .int .i64 (tot cs (i + 1))), (10, .int .i64 i), (11, .int .i64 k)]) ?_ ?_ | refine K_join (σ := Unit) (fun _ h' => Hs hB h' []) (fun _ => [(5, .pointer (some ⟨b5, 0, none⟩)), (6, .pointer (some ⟨p, 0, none⟩)), (8, un), (9, .int .i64 (tot cs (i + 1))), (10, .int .i64 i), (11, .int .i64 k)]) ?_ ?_
        · have hprev : 0 < k → sLt ((cs.getD i default).ws.getD ((k : Int) - 1).toNat default) ((cs.getD i default).ws.getD k default) := fun q => by
            rw [show ((k : Int) - 1).toNat = k - 1 by omega]; exact c1 (k - 1) k (by omega) hkl
          all_goals (repeat' (first | refine K_seq ?_ | refine k_cond rfl ?_ | refine K_skip ?_ | refine K_exit ?_ | refine k_block ?_ | refine K_scope ?_ | refine K_label ?_ | (refine K_draw (id := 17) ?_; refine mv ?_; refine vl ?_; refine mv ?_; (first | refine off ?_ | refine mv ?_); (first | refine off ?_ | (first | refine cT ?_ | refine cF ?_ | (refine cS ?_ ?_ <;> intro hc))) <;> ((first | refine off ?_ | refine mv ?_); (first | refine off ?_ | refine mv ?_); (first | refine off ?_ | refine mv ?_); (first | refine off ?_ | (first | refine ixB S ?_ | refine ixS2 S rfl rfl ?_)); (first | refine off ?_ | (first | refine lB S rfl rfl ?_ | refine lES2 S rfl rfl ?_ | refine lEB S ?_ | refine lH S ?_)); (first | refine off ?_ | refine mv ?_); (first | refine off ?_ | (first | refine ixB S ?_ | refine ixS2 S rfl rfl ?_)); (first | refine off ?_ | (first | refine lB S rfl rfl ?_ | refine lES2 S rfl rfl ?_ | refine lEB S ?_ | refine lH S ?_)); (first | refine off ?_ | refine mv ?_); (first | refine off ?_ | refine mv ?_); (first | refine off ?_ | (first | refine ixB S ?_ | refine ixS2 S rfl rfl ?_)); (first | refine off ?_ | (first | refine lB S rfl rfl ?_ | refine lES2 S rfl rfl ?_ | refine lEB S ?_ | refine lH S ?_)); (first | refine off ?_ | refine mv ?_); (first | refine off ?_ | (first | refine sb ?_ | refine vl ?_)); (first | refine off ?_ | (first | refine ixB S ?_ | refine ixS2 S rfl rfl ?_)); (first | refine off ?_ | (first | refine lB S rfl rfl ?_ | refine lES2 S rfl rfl ?_ | refine lEB S ?_ | refine lH S ?_)); (first | refine off ?_ | (refine tO ?_ ?_ <;> intro hc)) <;> ((first | refine off ?_ | refine vl ?_); refine vl ?_; refine KO_nil ?_))) | (refine K_region (id := 18) ?_; refine mv ?_; refine KO_nil ?_)))
          all_goals simp only [Int.toNat_natCast] at *
          all_goals first
            | exact ⟨(), S, ((by repeat (first | exact Ks.le_nil _ | refine Ks.le_cons rfl ?_ | refine Ks.le_int ?_)))⟩
            | exact absurd (hprev (by omega)) (by assumption)
        · clear S
          rintro - h4 S
          skip
          all_goals (repeat' (first | refine K_seq ?_ | refine k_cond rfl ?_ | refine K_skip ?_ | refine K_exit ?_ | refine k_block ?_ | refine K_scope ?_ | refine K_label ?_ | (refine K_region (id := 19) ?_; refine mv ?_; refine mv ?_; refine mv ?_; (first | refine ixB S ?_ | refine ixS2 S rfl rfl ?_); (first | refine lB S rfl rfl ?_ | refine lES2 S rfl rfl ?_ | refine lEB S ?_ | refine lH S ?_); refine mv ?_; (first | refine ixB S ?_ | refine ixS2 S rfl rfl ?_); (first | refine lB S rfl rfl ?_ | refine lES2 S rfl rfl ?_ | refine lEB S ?_ | refine lH S ?_))))
          simp only [Int.toNat_natCast]
          (refine KO_fn rfl rfl rfl rfl rfl ((with_ok S.wf (hbk.ext w S.ext) H ((cs.getD i default).ws.getD k default) 1).mono ?_); rintro uf h4 ⟨lf, x, l1, l2, l3⟩) <;> (replace S := S.join1 x; clear x; refine mv ?_; refine KO_nil ?_)
          have hcirc : ∀ j, j < lf.length → lf.getD j default ∈ (cs.getD i default).ws := fun j hj => (c3 _).2 ⟨kk, krc.step ((l2 _).1 (mem_getD hj))⟩
          have hsome : 1 < (cs.getD i default).ws.length → 0 < lf.length := fun q => by
            apply Classical.byContradiction
            intro hz
            have hno : ∀ y, ¬ adj r 1 ((cs.getD i default).ws.getD k default) y := fun y hy => by
              have := List.length_pos_of_mem ((l2 y).2 hy); omega
            have hall : ∀ j, j < (cs.getD i default).ws.length → (cs.getD i default).ws.getD j default = (cs.getD i default).ws.getD k default := fun j hj => (krc.symm.trans ((c3 _).1 (mem_getD hj)).2).alone hno
            have h01 := c1 0 1 (by omega) q
            rw [hall 0 (by omega), hall 1 q] at h01
            exact sLt_irr _ h01
          (repeat (refine K_seq ?_)); first | refine K_joinR (σ := Unit) (fun _ h' => Hs hB h' [.sl uf 9 1 eS lf]) (fun _ => [(5, .pointer (some ⟨b5, 0, none⟩)), (6, .pointer (some ⟨p, 0, none⟩)), (8, un), (9, .int .i64 (tot cs (i + 1))), (10, .int .i64 i), (11, .int .i64 k), (14, uf)]) ?_ ?_ | refine K_join (σ := Unit) (fun _ h' => Hs hB h' [.sl uf 9 1 eS lf]) (fun _ => [(5, .pointer (some ⟨b5, 0, none⟩)), (6, .pointer (some ⟨p, 0, none⟩)), (8, un), (9, .int .i64 (tot cs (i + 1))), (10, .int .i64 i), (11, .int .i64 k), (14, uf)]) ?_ ?_
          · all_goals (repeat' (first | refine K_seq ?_ | refine k_cond rfl ?_ | refine K_skip ?_ | refine K_exit ?_ | refine k_block ?_ | refine K_scope ?_ | refine K_label ?_ | (refine K_region (id := 20) ?_; refine mv ?_; refine mv ?_; (first | refine ixB S ?_ | refine ixS2 S rfl rfl ?_); (first | refine lB S rfl rfl ?_ | refine lES2 S rfl rfl ?_ | refine lEB S ?_ | refine lH S ?_); (first | refine lnB S ?_ | refine lnS S rfl rfl ?_); (first | refine cT ?_ | refine cF ?_ | (refine cS ?_ ?_ <;> intro hc)) <;> (refine mv ?_; (first | refine off ?_ | refine mv ?_); (first | refine off ?_ | (first | refine lnB S ?_ | refine lnS S rfl rfl ?_)); (first | refine off ?_ | (first | refine cT ?_ | refine cF ?_ | (refine cS ?_ ?_ <;> intro hc))) <;> (refine vl ?_; refine KO_nil ?_))) | (refine K_region (id := 21) ?_; refine mv ?_; refine KO_nil ?_)))
            all_goals simp only [Int.toNat_natCast] at *
            all_goals first
              | exact ⟨(), S, ((by repeat (first | exact Ks.le_nil _ | refine Ks.le_cons rfl ?_ | refine Ks.le_int ?_)))⟩
              | (exfalso; omega)
          · clear S
            rintro - h5 S
            skip
            all_goals (repeat' (first | refine K_seq ?_ | refine k_cond rfl ?_ | refine K_skip ?_ | refine K_exit ?_ | refine k_block ?_ | refine K_scope ?_ | refine K_label ?_ | (refine K_region (id := 22) ?_; refine mv ?_; refine KO_nil ?_)))
            refine k_loop (σ := Nat) (fun j h' => Hs hB h' [.sl uf 9 1 eS lf] ∧ j ≤ lf.length) (fun j => lf.length - j) (fun j => [(5, .pointer (some ⟨b5, 0, none⟩)), (6, .pointer (some ⟨p, 0, none⟩)), (8, un), (9, .int .i64 (tot cs (i + 1))), (10, .int .i64 i), (11, .int .i64 k), (14, uf), (15, .int .i64 j)]) 0 (by repeat (first | exact Ks.le_nil _ | refine Ks.le_cons rfl ?_ | refine Ks.le_int ?_)) ?_ ?_
            · exact ⟨S, Nat.zero_le _⟩
            clear S
            rintro j h5 ⟨S, j1⟩
            all_goals (repeat' (first | refine K_seq ?_ | refine k_cond rfl ?_ | refine K_skip ?_ | refine K_exit ?_ | refine k_block ?_ | refine K_scope ?_ | refine K_label ?_ | (refine K_region (id := 23) ?_; refine mv ?_; refine mv ?_; (first | refine lnB S ?_ | refine lnS S rfl rfl ?_); (first | refine cT ?_ | refine cF ?_ | (refine cS ?_ ?_ <;> intro hc)) <;> (refine KO_nil ?_))))
            · all_goals (repeat' (first | refine K_seq ?_ | refine k_cond rfl ?_ | refine K_skip ?_ | refine K_exit ?_ | refine k_block ?_ | refine K_scope ?_ | refine K_label ?_ | (refine K_draw (id := 25) ?_; refine mv ?_; refine mv ?_; (first | refine ixB S ?_ | refine ixS2 S rfl rfl ?_); (first | refine lB S rfl rfl ?_ | refine lES2 S rfl rfl ?_ | refine lEB S ?_ | refine lH S ?_); refine mv ?_; refine mv ?_; (first | refine ixB S ?_ | refine ixS2 S rfl rfl ?_); (first | refine lB S rfl rfl ?_ | refine lES2 S rfl rfl ?_ | refine lEB S ?_ | refine lH S ?_))))
              have hjl : j < lf.length := by omega
              simp only [Int.toNat_natCast]
              (refine KO_fn rfl rfl rfl rfl rfl ((in_ok S.wf (cs.getD i default).sv.val (cs.getD i default).ws ((hw i hil).ext w S.ext) (Nat.le_trans (hlen i hil) (by decide)) (lf.getD j default)).mono ?_); rintro _ h5 ⟨⟨rfl, z⟩ | ⟨rfl, z⟩, x⟩) <;> (replace S := S.join0 x; clear x; refine vl ?_; refine KO_nil ?_)
              · all_goals (repeat' (first | refine K_seq ?_ | refine k_cond rfl ?_ | refine K_skip ?_ | refine K_exit ?_ | refine k_block ?_ | refine K_scope ?_ | refine K_label ?_ | (refine K_region (id := 24) ?_; refine mv ?_; (first | refine ad ?_ | refine vl ?_); refine mv ?_; refine KO_nil ?_) | (refine K_draw (id := 25) ?_; refine mv ?_; refine mv ?_; (first | refine ixB S ?_ | refine ixS2 S rfl rfl ?_); (first | refine lB S rfl rfl ?_ | refine lES2 S rfl rfl ?_ | refine lEB S ?_ | refine lH S ?_); refine mv ?_; refine mv ?_; (first | refine ixB S ?_ | refine ixS2 S rfl rfl ?_); (first | refine lB S rfl rfl ?_ | refine lES2 S rfl rfl ?_ | refine lEB S ?_ | refine lH S ?_))))
                refine ⟨j + 1, ?_, ?_, (by repeat (first | exact Ks.le_nil _ | refine Ks.le_cons rfl ?_ | refine Ks.le_int ?_))⟩
                · show lf.length - (j + 1) < lf.length - j; omega
                · exact ⟨S, by omega⟩
              · exact absurd (hcirc j hjl) z
            · all_goals (repeat' (first | refine K_seq ?_ | refine k_cond rfl ?_ | refine K_skip ?_ | refine K_exit ?_ | refine k_block ?_ | refine K_scope ?_ | refine K_label ?_ | (refine K_region (id := 15) ?_; refine mv ?_; (first | refine ad ?_ | refine vl ?_); refine mv ?_; refine KO_nil ?_)))
              refine ⟨k + 1, ?_, ?_, (by repeat (first | exact Ks.le_nil _ | refine Ks.le_cons rfl ?_ | refine Ks.le_int ?_))⟩
              · show (cs.getD i default).ws.length - (k + 1) < (cs.getD i default).ws.length - k; omega
              · exact ⟨S.drop, by omega⟩
      · all_goals (repeat' (first | refine K_seq ?_ | refine k_cond rfl ?_ | refine K_skip ?_ | refine K_exit ?_ | refine k_block ?_ | refine K_scope ?_ | refine K_label ?_ | (refine K_region (id := 9) ?_; refine mv ?_; (first | refine ad ?_ | refine vl ?_); refine mv ?_; refine KO_nil ?_) | (refine K_region (id := 15) ?_; refine mv ?_; (first | refine ad ?_ | refine vl ?_); refine mv ?_; refine KO_nil ?_)))
        refine ⟨i + 1, ?_, ?_, (by repeat (first | exact Ks.le_nil _ | refine Ks.le_cons rfl ?_ | refine Ks.le_int ?_))⟩
        · show cs.length - (i + 1) < cs.length - i; omega
        · exact ⟨S, by omega⟩
  · obtain rfl : i = cs.length := by omega
    rw [C.tot H hall]
    skip
    all_goals (repeat' (first | refine K_seq ?_ | refine k_cond rfl ?_ | refine K_skip ?_ | refine K_exit ?_ | refine k_block ?_ | refine K_scope ?_ | refine K_label ?_ | (refine K_region (id := 27) ?_; refine mv ?_; (first | refine vl ?_ | refine fB S ?_ | refine fS S rfl rfl ?_ | refine fA ?_); (first | refine lB S rfl rfl ?_ | refine lES2 S rfl rfl ?_ | refine lEB S ?_ | refine lH S ?_); (first | refine lnB S ?_ | refine lnS S rfl rfl ?_); (first | refine cT ?_ | refine cF ?_ | (refine cS ?_ ?_ <;> intro hc)) <;> (refine mv ?_; (first | (refine off ?_; refine vl ?_; refine mv ?_; refine KO_nil ?_) | skip)))))
    (refine KO_fn rfl rfl rfl rfl rfl ((awake_okS S.wf).mono ?_); rintro _ h ⟨rfl, x⟩) <;> (replace S := S.join0 x; clear x; refine vl ?_; refine mv ?_; refine KO_nil ?_)
    all_goals (repeat' (first | refine K_seq ?_ | refine k_cond rfl ?_ | refine K_skip ?_ | refine K_exit ?_ | refine k_block ?_ | refine K_scope ?_ | refine K_label ?_))
    refine K_ret ⟨_, rfl, ?_⟩
    rfl
end Go.Proofs.Xx

/-
  Numbers among the arguments; cores of the laws of rolls of numbers.
-/
namespace Go.Proofs.Xx
open Go Go.Proofs
set_option linter.unusedSimpArgs false
set_option linter.unusedVariables false
set_option linter.unusedSectionVars false
set_option maxRecDepth 100000

theorem AR.e16s {h : AH} {n : Nat} {r : List Value} (a : AR Tryz.prog h n 37 r) : ∃ v l, r = [v] ∧ RdL h v 1 e16 l ∧ l.length ≤ maxLen ∧ CapOk v ∧ ∀ i, i < l.length → l.getD i default < 65536 :=
  AR.slice1 (e := 107) (z := 1) e16 (fun x => x < 65536) a (by kernel_rfl) (by kernel_rfl) (fun n cs q => by
    obtain ⟨x, hx, hw⟩ := q.int1 (k := .u16) (by kernel_rfl)
    have : 0 ≤ x ∧ x < 65536 := by
      simp [Lit.wf, IntKind.min, IntKind.max, IntKind.signed, IntKind.bits] at hw
      omega
    refine ⟨x.toNat, ?_, by omega⟩
    rw [hx]; unfold e16; rw [Int.toNat_of_nonneg this.1])
theorem AR.e8s {h : AH} {n : Nat} {r : List Value} (a : AR Tryz.prog h n 38 r) : ∃ v l, r = [v] ∧ RdL h v 1 eU l ∧ l.length ≤ maxLen ∧ CapOk v ∧ ∀ i, i < l.length → l.getD i default < 256 :=
  AR.bytes1 (e := 5) a (by kernel_rfl) (by kernel_rfl) (by kernel_rfl)
theorem bookCircles_core [Flag] (h : AH) (us : List Value) (w : WfH h) (a : ArgsR Tryz.prog h Tryz.f5.params.toList us) : Fn Tryz.prog Xh 5 us h (fun x _ => x = .bool true) := by
  rw [show Tryz.f5.params.toList = [37, 38] by kernel_rfl] at a
  obtain ⟨n0, r0, us, rfl, a0, a⟩ := a.cons_inv
  obtain ⟨n1, r1, us, rfl, a1, a⟩ := a.cons_inv
  obtain rfl := a.nil_inv
  obtain ⟨va, la, rfl, ra, la1, -, la2⟩ := a0.e16s
  obtain ⟨vb, lb, rfl, rb, lb1, -, lb2⟩ := a1.e8s
  unfold maxLen at la1 lb1
  exact bookCircles_true w va vb la lb ra rb (by omega) (by omega) la2 lb2
end Go.Proofs.Xx

/-
  What lies in every world that fits: a number for the longest needle of a quick search; the functions that are known.
-/
namespace Go.Proofs.Xx
open Go Go.RowKit Go.Proofs
theorem Xh_none [Flag] (f : FuncId) (h1 : f ≠ 19) (h2 : f ≠ 203) (h3 : f ≠ 182) (h4 : f ≠ 222) (h5 : f ≠ 184) (h6 : f ≠ 194) (h7 : f ≠ 135) (h8 : f ≠ 187) (h9 : f ≠ 88) (us : List Value) (h : AH) : Xh f us h = none := by
  have e : ∀ n, f ≠ n → Nat.beq f n = false := fun n q => by rw [Bool.eq_false_iff]; intro q'; exact q (Nat.eq_of_beq_eq_true q')
  unfold Xh withDigits withKnown Xd withIns X0 withIdx withOvl withCmp withBytes externNoEscape
  simp only [e _ h1, e _ h2, e _ h3, e _ h4, e _ h5, e _ h6, e _ h7, e _ h8, e _ h9]
theorem max_there {W : World} (h : W.ShapedOpen Tryz.prog) : 1 < W.heap.size ∧ ∃ m el fr, W.heap[0]? = some (.cells #[.int .i64 m] el fr) := by
  have h0 : ((begin Tryz.prog (fun _ _ => 0) default).world.heap[0]?).bind Obj.row? = some (#[.int .i64 0], 3) := by kernel_rfl
  obtain ⟨m, hm⟩ := cell_of_shapedOpen_int h (g := 0) (t := 3) (of_decide_eq_true (by kernel_rfl)) h0 rfl (by kernel_rfl) (by kernel_rfl) Tryz.underlying3
  obtain ⟨cs, hh, hs, -⟩ := h.1 0 _ 3 (of_decide_eq_true (by kernel_rfl)) h0
  refine ⟨?_, m, 3, (0, 0), ?_⟩
  · have h1 : (((begin Tryz.prog (fun _ _ => 0) default).world.heap[1]?).bind Obj.row?).isSome = true := by kernel_rfl
    obtain ⟨⟨z, t⟩, h1⟩ := Option.isSome_iff_exists.1 h1
    obtain ⟨cs, hh, -⟩ := h.1 1 z t (of_decide_eq_true (by kernel_rfl)) h1
    exact (Array.getElem?_eq_some_iff.1 hh).1
  · rw [hh]
    have : cs = #[.int .i64 m] := by
      simp only [World.cell?, hh] at hm
      obtain ⟨l⟩ := cs
      match l, hs, hm with
      | [x], _, hm => simp at hm; rw [hm]
      | [], hs, _ => cases hs
      | _ :: _ :: _, hs, _ => simp at hs
    rw [this]
theorem cells_there {W : World} (h : W.ShapedOpen Tryz.prog) : ∃ (k : Nat) (cc : Array Value) (el : TypeId) (fr : Nat × Nat), W.heap[k]? = some (.cells cc el fr) := by
  obtain ⟨-, m, el, fr, q⟩ := max_there h
  exact ⟨0, _, el, fr, q⟩
theorem glob_there [Flag] (hf : Flag.b = false) {W : World} (h : W.ShapedOpen Tryz.prog) : Glob.ok W.heap.size W.heap :=
  ⟨(max_there h).1, (max_there h).2, fun q => (by rw [hf] at q; cases q)⟩
end Go.Proofs.Xx
