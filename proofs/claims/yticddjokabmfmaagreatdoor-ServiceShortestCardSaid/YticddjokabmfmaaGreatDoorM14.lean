/-
  Pairs of small numbers, among the arguments; the core of ServiceShortest.
-/
import Derived.Test.YticddjokabmfmaaGreatDoorM13
import Derived.Test.YticddjokabmfmaaGreatDoorM7
import Derived.Test.YticddjokabmfmaaGreatDoorRows
import Derived.Lib.LaidTab
import Derived.Stop.LaidErr
import Derived.Shelf.Vars

namespace Go.Proofs.Xx
open Go Go.RowKit Go.Proofs
set_option linter.unusedSimpArgs false
set_option linter.unusedVariables false
set_option linter.unusedSectionVars false
set_option maxRecDepth 100000
theorem AR.pairs1 {h : AH} {n : Nat} {r : List Value} (a : AR Tryz.prog h n 44 r) : ∃ v l, r = [v] ∧ RdL h v 2 e82 l ∧ l.length ≤ maxLen ∧ CapOk v ∧ ∀ i, i < l.length → (l.getD i default).1 < 256 ∧ (l.getD i default).2 < 256 :=
  AR.slice1 (e := 86) (z := 2) e82 (fun x => x.1 < 256 ∧ x.2 < 256) a (by kernel_rfl) (by kernel_rfl) (fun n cs q => by
    obtain ⟨n', hl, hk⟩ := q.array1 (k := 2) (e := 5) (z := 2) (by kernel_rfl) (by kernel_rfl)
    match cs, hl with
    | [x0, x1], _ =>
      obtain ⟨a0, e0, b0⟩ := AR.u8n (show AR Tryz.prog h n' 5 [x0] from hk 0 (by omega))
      obtain ⟨a1, e1, b1⟩ := AR.u8n (show AR Tryz.prog h n' 5 [x1] from hk 1 (by omega))
      cases e0; cases e1
      exact ⟨(a0, a1), rfl, b0, b1⟩)
theorem AR.intsN {h : AH} {n : Nat} {r : List Value} (a : AR Tryz.prog h n 30 r) : ∃ v l, r = [v] ∧ RdL h v 1 eI l ∧ l.length ≤ maxLen ∧ CapOk v :=
  by
    obtain ⟨v, l, h1, h2, h3, h4⟩ := a.ints1 (e := 3) (by kernel_rfl) (by kernel_rfl) (by kernel_rfl)
    exact ⟨v, l, h1, h2, h3, h4⟩
theorem serviceShortest_core (h : AH) (us : List Value) (w : WfH h) (a : ArgsR Tryz.prog h Tryz.f7.params.toList us) : Fn Tryz.prog Xh 7 us h (fun x _ => x = .bool true) := by
  rw [show Tryz.f7.params.toList = [26, 23, 30, 44] by kernel_rfl] at a
  obtain ⟨n0, r0, us, rfl, a0, a⟩ := a.cons_inv
  obtain ⟨n1, r1, us, rfl, a1, a⟩ := a.cons_inv
  obtain ⟨n2, r2, us, rfl, a2, a⟩ := a.cons_inv
  obtain ⟨n3, r3, us, rfl, a3, a⟩ := a.cons_inv
  obtain rfl := a.nil_inv
  obtain ⟨v, na, nb, nc, nd, rfl, H⟩ := a0.nums1
  obtain ⟨va, la, rfl, ra, la1, ca, la2⟩ := a1.e16s
  obtain ⟨vb, lb, rfl, rb, lb1, cb⟩ := a2.intsN
  obtain ⟨vc, lc, rfl, rc, lc1, cc, lc2⟩ := a3.pairs1
  unfold maxLen at la1 lb1 lc1
  exact serviceShortest_true w v na nb nc nd H va la ra ca (by omega) la2 vb lb rb (by omega) vc lc rc cc (by omega) lc2
end Go.Proofs.Xx

/-
  What lies in every world that fits: a number for the longest needle of a quick search; the functions that are known.
-/
namespace Go.Proofs.Xx
set_option linter.unusedSectionVars false
set_option linter.unusedVariables false
set_option linter.unusedSimpArgs false
open Go Go.RowKit Go.Proofs
def KN : List Nat := [12, 218, 164, 244, 227, 191, 176]
theorem Xh_none (f : FuncId) (hk : KN.all (fun n => !Nat.beq f n) = true) (us : List Value) (h : AH) : Xh f us h = none := by
  have e : ∀ n, n ∈ KN → Nat.beq f n = false := fun n q => by have := List.all_eq_true.1 hk n q; simpa using this
  unfold Xh withKnown Xa withGrow withDigits Xd withIns X0 withOvl withCmp externNoEscape
  simp only [e 12 (by decide), e 218 (by decide), e 164 (by decide), e 244 (by decide), e 227 (by decide), e 191 (by decide), e 176 (by decide)]
theorem max_there {W : World} (h : W.ShapedOpen Tryz.prog) : 1 < W.heap.size ∧ ∃ m el fr, W.heap[0]? = some (.cells #[.int .i64 m] el fr) := by
  have h0 : ((begin Tryz.prog (fun _ _ => 0) default).world.heap[0]?).bind Obj.row? = some (#[.int .i64 0], 3) := by kernel_rfl
  obtain ⟨m, hm⟩ := cell_of_shapedOpen_int h (g := 0) (t := 3) (of_decide_eq_true (by kernel_rfl)) h0 rfl (by kernel_rfl) (by kernel_rfl) Tryz.underlying3
  obtain ⟨cs, hh, hs, -⟩ := h.1 0 _ 3 (of_decide_eq_true (by kernel_rfl)) h0
  refine ⟨?_, m, 3, (0, 0), ?_⟩
  · have h1 : (((begin Tryz.prog (fun _ _ => 0) default).world.heap[1]?).bind Obj.row?).isSome = true := by kernel_rfl
    obtain ⟨⟨z, t⟩, h1⟩ := Option.isSome_iff_exists.1 h1
    obtain ⟨cs, hh, -⟩ := h.1 1 z t (of_decide_eq_true (by kernel_rfl)) h1
    exact (Array.getElem?_eq_some_iff.1 hh).1
  · rw [hh]
    have : cs = #[.int .i64 m] := by
      simp only [World.cell?, hh] at hm
      obtain ⟨l⟩ := cs
      match l, hs, hm with
      | [x], _, hm => simp at hm; rw [hm]
      | [], hs, _ => cases hs
      | _ :: _ :: _, hs, _ => simp at hs
    rw [this]
theorem cells_there {W : World} (h : W.ShapedOpen Tryz.prog) : ∃ (k : Nat) (cc : Array Value) (el : TypeId) (fr : Nat × Nat), W.heap[k]? = some (.cells cc el fr) := by
  obtain ⟨-, m, el, fr, q⟩ := max_there h
  exact ⟨0, _, el, fr, q⟩
end Go.Proofs.Xx

/-
  The table of powers, where a row lists it.
-/
namespace Go.Proofs.Xx
set_option linter.unusedSectionVars false
set_option linter.unusedVariables false
set_option linter.unusedSimpArgs false
open Go Go.RowKit Go.Proofs
theorem gPowType : (Tryz.prog.globals[1]?).map (·.type) = some 254 := by kernel_rfl
theorem glob_pow [Flag] {W : World} {x y : String × DataW Unit} {rest : List (String × DataW Unit)} (h : laidMet Tryz.prog (x :: y :: ("internal/strconv.uint64pow10", YticddjokabmfmaaGreatDoor.Rows.laid_internal_strconv_uint64pow10) :: rest) W) (hS : W.ShapedOpen Tryz.prog) :
    Glob.ok W.heap.size W.heap := by
  refine ⟨(max_there hS).1, (max_there hS).2, fun _ => ?_⟩
  have t : Lib.TabIs Tryz.prog W "internal/strconv.uint64pow10" .u64 Lib.pow10Tab :=
    Lib.tabIs_of_head gPow gPowType (n := 20) (e := 147) (by kernel_rfl) (by kernel_rfl) (by kernel_rfl) (by kernel_rfl) (laidMet.tail (laidMet.tail h))
  unfold Lib.TabIs World.var? at t
  rw [gPow] at t
  simp only [Option.bind_some] at t
  split at t
  · rename_i cs el fr hc
    cases t
    exact ⟨el, fr, hc⟩
  · cases t
end Go.Proofs.Xx
