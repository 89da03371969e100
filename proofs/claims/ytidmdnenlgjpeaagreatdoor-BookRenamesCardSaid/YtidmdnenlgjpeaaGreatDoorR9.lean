/-
  THE ROW AND THE CARD OF BookRenames, out of its contract over the checked run.
-/
import Derived.Test.YtidmdnenlgjpeaaGreatDoorM16
import Derived.Test.YtidmdnenlgjpeaaGreatDoorM9
import Derived.Test.YtidmdnenlgjpeaaGreatDoorCards
import Derived.Test.YtidmdnenlgjpeaaGreatDoorTie
import Derived.WalkKit
import Derived.ProofKit
import Derived.OpenShut
import Derived.Below
import Derived.ChangeSame
import Derived.Deep.DeepHandedRow
import Derived.Lib.LaidTab

namespace Go.Proofs.YtidmdnenlgjpeaaGreatDoor.bookRenames
open Go.ChangeShapes Go.WideShapes Go.ChangeAt Go.RowKit Go.Proofs.Xx

instance rowFlag : Flag := ⟨false⟩
theorem own : ownKnob Tryz.prog.godebug = none := by kernel_rfl
theorem paramsOk : Tryz.f9.params.toList.all (plainT Tryz.prog 20) = true := by kernel_rfl
theorem bodyOf : ∃ b, Tryz.f9.body = some b := ⟨_, rfl⟩
theorem paramsLen : Tryz.f9.params.toList.length = 4 := by kernel_rfl
theorem resultsOf : Tryz.f9.resultTypes.toList = [4] := by kernel_rfl

set_option maxRecDepth 100000 in
/-- WHAT THE CHECKED RUN GIVES, FOR EVERY ARGUMENT AND EVERY WORLD THAT HOLDS THE TABLES. -/
theorem contract (H : Type) (enc : TypeId × Value → H) (W : World) (base : Nat) (args : Array Value) (ds gs : List (DataW H)) (before : List MemPlace)
    (hval : ∀ (j : Nat) t v, Tryz.f9.params[j]? = some t → args[j]? = some v → Value.okWide Tryz.prog W .any base t v)
    (hW : DataW.Whole enc Tryz.prog Tryz.f9.params.toList Rows.bookRenamesSpec.vars false W args.toList ds gs before) (_ : laidMetH Tryz.prog Rows.bookRenamesRow.laid W) (hS : W.ShapedOpen Tryz.prog) :
    Calls Tryz.prog 9 args W fun e W' => ∃ v, e = .returned v ∧ Rows.bookRenamesSpec.post enc Tryz.prog Tryz.f9 false true false false W args v W' := by
  have hW' := hW
  obtain ⟨p, q, hA0, hV, rfl, hfz, hnd⟩ := hW
  have hA : DataW.TrodAll enc Tryz.prog W 0 (fun _ => true) true Tryz.f9.params.toList args.toList ds p := hA0
  obtain ⟨rfl, rfl⟩ := trodVars_none hV
  have hlen := trodAll_length hA
  rw [paramsLen] at hlen
  obtain ⟨body, hbody⟩ := bodyOf
  refine (law_calls (X := Xh) follows Xh_ok noNumG Tryz.func9 hbody (fun us h => Xh_none 9 (by decide) (by decide) (by decide) (by decide) (by decide) (by decide) (by decide) (by decide) (by decide) us h) paramsOk bookRenames_core (glob_there rfl hS) (cells_there hS) hval hA).mono fun e W' ⟨he, hb⟩ => ?_
  subst he
  match ds, hlen with
  | [d0, d1, d2, d3], _ =>
    exact ⟨_, rfl, post_of_below (pa := p) (pv := []) hW' (fun _ _ _ => by rw [resultsOf]; exact trodAll_cons_mk (shut_bool Tryz.underlying4 _) trodAll_mk0)
      (fun sp hsp => trodAll_keep hb.block _ _ _ _ paramsOk hA (fun x hx => hsp x (by simp [hx]))) (fun _ _ => rfl) rfl hb (ok_one (by kernel_rfl) rfl (okWide_bool_mk Tryz.underlying4 _))⟩

/-- A WORLD FOR THE WITNESS: the settled one, the listed variables holding what their initialisers lay. -/
noncomputable def laidWorld (os : Os) : World :=
  { World.holding Tryz.prog os ⟨#[], #[], []⟩ with heap := (((World.holding Tryz.prog os ⟨#[], #[], []⟩).heap.modify 4 fun
      | .cells _ t fz => .cells ((Go.Pinned.utf8FirstZ.map fun n : Nat => Value.int .u8 (Int.ofNat n)).toArray) t fz
      | o => o).modify 5 fun
      | .cells _ t fz => .cells #[.int .u8 128, .int .u8 191, .int .u8 160, .int .u8 191, .int .u8 128, .int .u8 159, .int .u8 144, .int .u8 191, .int .u8 128, .int .u8 143, .int .u8 0, .int .u8 0, .int .u8 0, .int .u8 0, .int .u8 0, .int .u8 0, .int .u8 0, .int .u8 0, .int .u8 0, .int .u8 0, .int .u8 0, .int .u8 0, .int .u8 0, .int .u8 0, .int .u8 0, .int .u8 0, .int .u8 0, .int .u8 0, .int .u8 0, .int .u8 0, .int .u8 0, .int .u8 0] t fz
      | o => o) }
theorem laid_met (os : Os) : laidMet Tryz.prog Rows.bookRenamesRow.laid ((laidWorld os).forCall (fun _ _ => 0) ⟨#[], #[.slice none 0 0, .slice none 0 0, .int .u8 0, .int .u8 0], []⟩).memory :=
  laidMet_of_run' 8 (by kernel_rfl) (by kernel_rfl)
theorem reads (os : Os) {H : Type} (enc : TypeId × Value → H) : ∃ places, DataW.whole enc Tryz.prog ((laidWorld os).forCall (fun _ _ => 0) ⟨#[], #[.slice none 0 0, .slice none 0 0, .int .u8 0, .int .u8 0], []⟩).memory Tryz.f9.params.toList Rows.bookRenamesSpec.vars false (#[.slice none 0 0, .slice none 0 0, .int .u8 0, .int .u8 0] : Array Value).toList 8 = some ([.nil, .nil, .lit (.int .u8 0), .lit (.int .u8 0)], [], places) :=
  ⟨[], by kernel_rfl⟩

set_option maxRecDepth 100000 in
theorem lifted (os : Os) (started : os.Started) (H : Type) (enc : TypeId × Value → H) (F : Stop.Interp) :
    ReturnsInHanded {} Tryz.checked os 9 .any ((OpenSpec.ofChange Rows.bookRenamesSpec).preRow enc Tryz.prog Tryz.f9 Rows.bookRenamesRow.domain false Rows.bookRenamesRow.laid) (((OpenSpec.ofChange Rows.bookRenamesSpec).at F).post enc Tryz.prog Tryz.f9 false true false false) := by
  obtain ⟨places, hx⟩ := reads os enc
  refine returnsInHanded_of_row (C := Tryz.checked) (s := OpenSpec.ofChange Rows.bookRenamesSpec) own started (by kernel_rfl) Tryz.func9
    (witness_row_at (enc := enc) (C := Tryz.checked) false (laidWorld os) #[.slice none 0 0, .slice none 0 0, .int .u8 0, .int .u8 0] rfl (by kernel_rfl) (by kernel_rfl) (by kernel_rfl)
      (OpenSpec.preRow_of_cond 8 hx (by kernel_rfl) (fun k hk => by cases hk) (by kernel_rfl) (laid_met os))) ?_
  intro W base args ds gs before hval hW _ _ _ hL hS _
  exact contract H enc W base args ds gs before hval hW hL hS

set_option maxHeartbeats 8000000 in
theorem closed : joinedFacts Tryz.prog 9 Tryz.f9 (OpenSpec.ofChange Rows.bookRenamesSpec).bare Rows.bookRenamesRow = true := by
  unfold joinedFacts
  simp only [Bool.and_eq_true]
  and_intros
  all_goals (as_aux_lemma => kernel_rfl)
theorem named : Tryz.pinned.checked.prog.funcNamed Rows.bookRenamesRow.func = some 9 := by kernel_rfl
theorem funcAt : Tryz.pinned.checked.prog.funcs[9]? = some Tryz.f9 := Tryz.func9
theorem inst : Tryz.f9.isInstance Tryz.pinned.checked.prog Rows.bookRenamesRow.origin Rows.bookRenamesRow.targs := of_decide_eq_true (by kernel_rfl)
theorem wrap : Tryz.f9.isWrapper Tryz.pinned.checked.prog Rows.bookRenamesRow.wrapper Rows.bookRenamesRow.mainSum := by
  unfold Func.isWrapper; first | (rw [if_pos (by decide +kernel)]; kernel_rfl) | (rw [if_neg (by decide +kernel)]; exact ⟨rfl, rfl⟩)
theorem every : ∀ os : Os, os.Started → ∀ (H : Type) (enc : TypeId × Value → H), (∀ a b, enc a = enc b → a = b) → ∀ F : Stop.Interp,
      ReturnsInHanded Rows.bookRenamesRow.assume Tryz.pinned.checked os 9 .any (Rows.bookRenamesRow.pre enc Tryz.pinned.checked.prog Tryz.f9 (OpenSpec.ofChange Rows.bookRenamesSpec)) (((OpenSpec.ofChange Rows.bookRenamesSpec).at F).post enc Tryz.pinned.checked.prog Tryz.f9 Rows.bookRenamesRow.apart Rows.bookRenamesRow.fresh Rows.bookRenamesRow.handsOn Rows.bookRenamesRow.again) :=
  fun os started H enc _ F => by rw [OpenClaim.pre_eq_preRow]; exact lifted os started H enc F
theorem closedAt : joinedFacts Tryz.pinned.checked.prog 9 Tryz.f9 (OpenSpec.ofChange Rows.bookRenamesSpec).bare Rows.bookRenamesRow = true := closed
theorem said : Rows.BookRenamesSaid :=
  OpenClaim.holds_of_cond 9 Tryz.f9 rfl rfl rfl rfl rfl rfl rfl ⟨rfl, rfl, rfl, rfl, rfl⟩ rfl rfl rfl rfl rfl named funcAt closedAt inst wrap every

theorem wantsNone : Tryz.f9.params.toList.all (fun t => !Tryz.prog.wantsStandIn t) = true := by kernel_rfl
theorem plain (f : FuncId) (fn : Func) (hf : Tryz.pinned.checked.prog.funcNamed "trestle/trestlelaw02.BookRenames" = some f) (hfn : Tryz.pinned.checked.prog.funcs[f]? = some fn) :
    false = Tryz.pinned.checked.prog.looks [] ∧ ∀ (j : Nat) t, fn.params[j]? = some t → Tryz.pinned.checked.prog.wantsStandIn t = false := by
  obtain rfl : f = 9 := Option.some.inj ((show Tryz.prog.funcNamed "trestle/trestlelaw02.BookRenames" = some 9 by kernel_rfl).symm.trans hf) |>.symm
  obtain rfl : fn = Tryz.f9 := (Option.some.inj (Tryz.func9.symm.trans hfn)).symm
  refine ⟨by kernel_rfl, fun j t ht => ?_⟩
  have := List.all_eq_true.1 wantsNone t (by simpa using Array.mem_of_getElem? ht)
  exact (show Tryz.prog.wantsStandIn t = false by simpa using this)

theorem wfText : Rows.bookRenamesRow.wfByText (OpenSpec.ofChange Rows.bookRenamesSpec) = true := by kernel_rfl
theorem mainIs : Tryz.pinned.checked.prog.mainIs = some (Rows.bookRenamesCard.stood.harness.1, Rows.bookRenamesCard.stood.harness.2.toList) := by kernel_rfl
theorem goes : false = Rows.bookRenamesRow.goesBy Tryz.pinned.checked.prog := by kernel_rfl
/-- THE CARD -/
theorem card : Rows.BookRenamesCardSaid :=
  Claim7.holds_tied_plain_at .later [] _ _ _ _ said (fun _ h => by cases h) wfText (fun _ h => by cases h) bookRenames_row_tie rfl ⟨rfl, rfl⟩ mainIs rfl plain goes
end Go.Proofs.YtidmdnenlgjpeaaGreatDoor.bookRenames
