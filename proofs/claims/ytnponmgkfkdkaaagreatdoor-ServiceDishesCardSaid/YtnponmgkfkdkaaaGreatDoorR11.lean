/-
  THE ROW AND THE CARD OF ServiceDishes,out of its contract over the checked run.
-/
import Derived.Test.YtnponmgkfkdkaaaGreatDoorM18
import Derived.Test.YtnponmgkfkdkaaaGreatDoorM4
import Derived.Test.YtnponmgkfkdkaaaGreatDoorM5
import Derived.Test.YtnponmgkfkdkaaaGreatDoorCards
import Derived.Test.YtnponmgkfkdkaaaGreatDoorTie
import Derived.WalkKit
import Derived.ProofKit
import Derived.OpenShut
import Derived.Below
import Derived.ChangeSame
import Derived.Deep.DeepHandedRow
import Derived.Lib.LaidTab
namespace Go.Proofs.YtnponmgkfkdkaaaGreatDoor.serviceDishes
open Go.ChangeShapes Go.WideShapes Go.ChangeAt Go.RowKit Go.Proofs.Xx
instance rowFlag:Flag:=⟨true⟩
theorem own:ownKnob Tryz.prog.godebug=none:=by kernel_rfl
theorem Po:Tryz.f3.params.toList.all (Zc Tryz.prog 20)=true:=by kernel_rfl
theorem qhM:∃ b,Tryz.f3.body=some b:=⟨_,rfl⟩
theorem qcJ:Tryz.f3.params.toList.length=2:=by kernel_rfl
theorem qcz:Tryz.f3.resultTypes.toList=[4]:=by kernel_rfl
set_option maxRecDepth 100000 in
theorem contract (H:Type) (enc:TypeId×Value→H) (W:World) (base:Nat) (args:Array Value) (ds gs:List (DataW H)) (before:List MemPlace)
 (hval:∀ (j:Nat) t v,Tryz.f3.params[j]? = some t→args[j]? = some v→Value.okWide Tryz.prog W .any base t v)
 {us:List TypeId} (hz:(DataW.weightsEach Tryz.prog (Tryz.f3.params.toList ++ us) (ds ++ gs)).all (·≤reachBytes)=true)
 (hW:DataW.Whole enc Tryz.prog Tryz.f3.params.toList Rows.serviceDishesSpec.vars false W args.toList ds gs before) (hL:laidMetH Tryz.prog Rows.serviceDishesRow.laid W) (hS:W.ShapedOpen Tryz.prog) :
 Calls Tryz.prog 3 args W fun e W'=>∃ v,e = .returned v∧Rows.serviceDishesSpec.post enc Tryz.prog Tryz.f3 false true false false W args v W':=by
 have hW':=hW;obtain ⟨p,q,hA0,hV,rfl,hfz,hnd⟩:=hW;have hA:DataW.TrodAll enc Tryz.prog W 0 (fun _=>true) true Tryz.f3.params.toList args.toList ds p:=hA0;obtain ⟨rfl,rfl⟩:=trodVars_none hV;have hlen:=trodAll_length hA;rw [qcJ] at hlen;obtain ⟨body,hbody⟩:=qhM;refine (qa9 follows Jt Tryz.func3 hbody Po YE (qey hL hS) (qad hS) hval hA (wX hz)).mono fun e W' ⟨he,hb⟩=>?_;subst he;match ds,hlen with
 | [d0,d1],_ =>
  exact ⟨_,rfl,vU (pa:=p) (pv:=[]) hW' (fun _ _ _=>by rw [qcz];exact trodAll_cons_mk (shut_bool Tryz.underlying4 _) trodAll_mk0)
   (fun sp hsp=>YV hb.block _ _ _ _ Po hA (fun x hx=>hsp x (by simp [hx]))) (fun _ _=>rfl) rfl hb (ok_one (by kernel_rfl) rfl (okWide_bool_mk Tryz.underlying4 _))⟩
noncomputable def laidWorld (os:Os):World :=
 { World.holding Tryz.prog os ⟨#[],#[],[]⟩ with heap:=((((World.holding Tryz.prog os ⟨#[],#[],[]⟩).heap.modify 1 fun
  | .cells _ t fz=>.cells #[.int .u64 1,.int .u64 10,.int .u64 100,.int .u64 1000,.int .u64 10000,.int .u64 100000,.int .u64 1000000,.int .u64 10000000,.int .u64 100000000,.int .u64 1000000000,.int .u64 10000000000,.int .u64 100000000000,.int .u64 1000000000000,.int .u64 10000000000000,.int .u64 100000000000000,.int .u64 1000000000000000,.int .u64 10000000000000000,.int .u64 100000000000000000,.int .u64 1000000000000000000,.int .u64 10000000000000000000] t fz
  | o=>o).modify 2 fun
  | .cells _ t fz=>.cells #[.int .u8 0,.int .u8 1,.int .u8 28,.int .u8 2,.int .u8 29,.int .u8 14,.int .u8 24,.int .u8 3,.int .u8 30,.int .u8 22,.int .u8 20,.int .u8 15,.int .u8 25,.int .u8 17,.int .u8 4,.int .u8 8,.int .u8 31,.int .u8 27,.int .u8 13,.int .u8 23,.int .u8 21,.int .u8 19,.int .u8 16,.int .u8 7,.int .u8 26,.int .u8 12,.int .u8 18,.int .u8 6,.int .u8 11,.int .u8 5,.int .u8 10,.int .u8 9] t fz
  | o=>o).modify 3 fun
  | .cells _ t fz=>.cells #[.int .u8 0,.int .u8 1,.int .u8 56,.int .u8 2,.int .u8 57,.int .u8 49,.int .u8 28,.int .u8 3,.int .u8 61,.int .u8 58,.int .u8 42,.int .u8 50,.int .u8 38,.int .u8 29,.int .u8 17,.int .u8 4,.int .u8 62,.int .u8 47,.int .u8 59,.int .u8 36,.int .u8 45,.int .u8 43,.int .u8 51,.int .u8 22,.int .u8 53,.int .u8 39,.int .u8 33,.int .u8 30,.int .u8 24,.int .u8 18,.int .u8 12,.int .u8 5,.int .u8 63,.int .u8 55,.int .u8 48,.int .u8 27,.int .u8 60,.int .u8 41,.int .u8 37,.int .u8 16,.int .u8 46,.int .u8 35,.int .u8 44,.int .u8 21,.int .u8 52,.int .u8 32,.int .u8 23,.int .u8 11,.int .u8 54,.int .u8 26,.int .u8 40,.int .u8 15,.int .u8 34,.int .u8 20,.int .u8 31,.int .u8 10,.int .u8 25,.int .u8 14,.int .u8 19,.int .u8 9,.int .u8 13,.int .u8 8,.int .u8 7,.int .u8 6] t fz
  | o=>o) }
theorem laid_met (os:Os):laidMet Tryz.prog Rows.serviceDishesRow.laid ((laidWorld os).forCall (fun _ _=>0) ⟨#[],#[.agg #[.slice none 0 0,.slice none 0 0,.slice none 0 0,.slice none 0 0,.slice none 0 0],.slice none 0 0],[]⟩).memory :=
 laidMet_of_run' 8 (by kernel_rfl) (by kernel_rfl)
theorem reads (os:Os) {H:Type} (enc:TypeId×Value→H):∃ places,DataW.whole enc Tryz.prog ((laidWorld os).forCall (fun _ _=>0) ⟨#[],#[.agg #[.slice none 0 0,.slice none 0 0,.slice none 0 0,.slice none 0 0,.slice none 0 0],.slice none 0 0],[]⟩).memory Tryz.f3.params.toList Rows.serviceDishesSpec.vars false (#[.agg #[.slice none 0 0,.slice none 0 0,.slice none 0 0,.slice none 0 0,.slice none 0 0],.slice none 0 0]:Array Value).toList 8=some ([.agg [.nil,.nil,.nil,.nil,.nil],.nil],[],places) :=
 ⟨[],by kernel_rfl⟩
set_option maxRecDepth 100000 in
theorem lifted (os:Os) (started:os.Started) (H:Type) (enc:TypeId×Value→H) (F:Stop.Interp) :
 ReturnsInHanded {} Tryz.checked os 3 .any ((OpenSpec.ofChange Rows.serviceDishesSpec).preRow enc Tryz.prog Tryz.f3 Rows.serviceDishesRow.domain false Rows.serviceDishesRow.laid) (((OpenSpec.ofChange Rows.serviceDishesSpec).at F).post enc Tryz.prog Tryz.f3 false true false false):=by
 obtain ⟨places,hx⟩:=reads os enc;refine returnsInHanded_of_row (C:=Tryz.checked) (s:=OpenSpec.ofChange Rows.serviceDishesSpec) own started (by kernel_rfl) Tryz.func3
  (witness_row_at (enc:=enc) (C:=Tryz.checked) false (laidWorld os) #[.agg #[.slice none 0 0,.slice none 0 0,.slice none 0 0,.slice none 0 0,.slice none 0 0],.slice none 0 0] rfl (by kernel_rfl) (by kernel_rfl) (by kernel_rfl)
   (OpenSpec.preRow_of_cond 8 hx (by kernel_rfl) (fun k hk=>by cases hk) (by kernel_rfl) (laid_met os))) ?_
 intro W base args ds gs before hval hW _ _ hz hL hS _;exact contract H enc W base args ds gs before hval hz hW hL hS
set_option maxHeartbeats 8000000 in
theorem closed:joinedFacts Tryz.prog 3 Tryz.f3 (OpenSpec.ofChange Rows.serviceDishesSpec).bare Rows.serviceDishesRow=true:=by
 unfold joinedFacts;simp only [zA8];and_intros
 all_goals (as_aux_lemma=>kernel_rfl)
theorem named:Tryz.pinned.checked.prog.funcNamed Rows.serviceDishesRow.func=some 3:=by kernel_rfl
theorem funcAt:Tryz.pinned.checked.prog.funcs[3]? = some Tryz.f3:=Tryz.func3
theorem inst:Tryz.f3.isInstance Tryz.pinned.checked.prog Rows.serviceDishesRow.origin Rows.serviceDishesRow.targs:=of_decide_eq_true (by kernel_rfl)
theorem wrap:Tryz.f3.isWrapper Tryz.pinned.checked.prog Rows.serviceDishesRow.wrapper Rows.serviceDishesRow.mainSum:=by
 unfold Func.isWrapper;first|(rw [if_pos (by decide +kernel)];kernel_rfl)|(rw [if_neg (by decide +kernel)];exact ⟨rfl,rfl⟩)
theorem every:∀ os:Os,os.Started→∀ (H:Type) (enc:TypeId×Value→H),(∀ a b,enc a=enc b→a=b)→∀ F:Stop.Interp,
 ReturnsInHanded Rows.serviceDishesRow.assume Tryz.pinned.checked os 3 .any (Rows.serviceDishesRow.pre enc Tryz.pinned.checked.prog Tryz.f3 (OpenSpec.ofChange Rows.serviceDishesSpec)) (((OpenSpec.ofChange Rows.serviceDishesSpec).at F).post enc Tryz.pinned.checked.prog Tryz.f3 Rows.serviceDishesRow.apart Rows.serviceDishesRow.fresh Rows.serviceDishesRow.handsOn Rows.serviceDishesRow.again) :=
 fun os started H enc _ F=>by rw [OpenClaim.pre_eq_preRow];exact lifted os started H enc F
theorem qeV:joinedFacts Tryz.pinned.checked.prog 3 Tryz.f3 (OpenSpec.ofChange Rows.serviceDishesSpec).bare Rows.serviceDishesRow=true:=closed
theorem said:Rows.ServiceDishesSaid :=
 OpenClaim.holds_of_cond 3 Tryz.f3 rfl rfl rfl rfl rfl rfl rfl ⟨rfl,rfl,rfl,rfl,rfl⟩ rfl rfl rfl rfl rfl named funcAt qeV inst wrap every
theorem qcj:Tryz.f3.params.toList.all (fun t=>!Tryz.prog.wantsStandIn t)=true:=by kernel_rfl
theorem plain (f:FuncId) (fn:Func) (hf:Tryz.pinned.checked.prog.funcNamed "trestle/trestlelaw11.ServiceDishes" = some f) (hfn:Tryz.pinned.checked.prog.funcs[f]? = some fn) :
 false=Tryz.pinned.checked.prog.looks []∧∀ (j:Nat) t,fn.params[j]? = some t→Tryz.pinned.checked.prog.wantsStandIn t=false:=by
 obtain rfl:f=3:=Option.some.inj ((show Tryz.prog.funcNamed "trestle/trestlelaw11.ServiceDishes" = some 3 by kernel_rfl).symm.trans hf) |>.symm
 obtain rfl:fn=Tryz.f3:=(Option.some.inj (Tryz.func3.symm.trans hfn)).symm;refine ⟨by kernel_rfl,fun j t ht=>?_⟩;have:=zC8.1 qcj t (by simpa using Array.mem_of_getElem? ht);exact (show Tryz.prog.wantsStandIn t=false by simpa using this)
theorem qgX:Rows.serviceDishesRow.wfByText (OpenSpec.ofChange Rows.serviceDishesSpec)=true:=by kernel_rfl
theorem mainIs:Tryz.pinned.checked.prog.mainIs=some (Rows.serviceDishesCard.stood.harness.1,Rows.serviceDishesCard.stood.harness.2.toList):=by kernel_rfl
theorem goes:false=Rows.serviceDishesRow.goesBy Tryz.pinned.checked.prog:=by kernel_rfl
theorem card:Rows.ServiceDishesCardSaid :=
 Claim7.holds_tied_plain_at .later [] _ _ _ _ said (fun _ h=>by cases h) qgX (fun _ h=>by cases h) serviceDishes_row_tie rfl ⟨rfl,rfl⟩ mainIs rfl plain goes
end Go.Proofs.YtnponmgkfkdkaaaGreatDoor.serviceDishes
