/-
  THE ROW AND THE CARD OF ServiceCards,out of its contract over the checked run.
-/
import Derived.Test.YtnponmgkfkdkaaaGreatDoorM18
import Derived.Test.YtnponmgkfkdkaaaGreatDoorM4
import Derived.Test.YtnponmgkfkdkaaaGreatDoorCards
import Derived.Test.YtnponmgkfkdkaaaGreatDoorTie
import Derived.WalkKit
import Derived.ProofKit
import Derived.OpenShut
import Derived.Below
import Derived.ChangeSame
import Derived.Deep.DeepHandedRow
import Derived.Lib.LaidTab
namespace Go.Proofs.YtnponmgkfkdkaaaGreatDoor.serviceCards
open Go.ChangeShapes Go.WideShapes Go.ChangeAt Go.RowKit Go.Proofs.Xx
instance rowFlag:Flag:=⟨true⟩
theorem own:ownKnob Tryz.prog.godebug=none:=by kernel_rfl
theorem Ph:Tryz.f4.params.toList.all (QZ Tryz.prog 20)=true:=by kernel_rfl
theorem qhf:∃ b,Tryz.f4.body=some b:=⟨_,rfl⟩
theorem qcv:Tryz.f4.params.toList.length=4:=by kernel_rfl
theorem qcm:Tryz.f4.resultTypes.toList=[4]:=by kernel_rfl
set_option maxRecDepth 100000 in
theorem contract (H:Type) (enc:TypeId×Value→H) (W:World) (base:Nat) (args:Array Value) (ds gs:List (DataW H)) (before:List MemPlace)
 (hval:∀ (j:Nat) t v,Tryz.f4.params[j]? = some t→args[j]? = some v→Value.okWide Tryz.prog W .any base t v)
 {us:List TypeId} (hz:(DataW.weightsEach Tryz.prog (Tryz.f4.params.toList ++ us) (ds ++ gs)).all (·≤reachBytes)=true)
 (hW:DataW.Whole enc Tryz.prog Tryz.f4.params.toList Rows.serviceCardsSpec.vars false W args.toList ds gs before) (hL:laidMetH Tryz.prog Rows.serviceCardsRow.laid W) (hS:W.ShapedOpen Tryz.prog) :
 Calls Tryz.prog 4 args W fun e W'=>∃ v,e = .returned v∧Rows.serviceCardsSpec.post enc Tryz.prog Tryz.f4 false true false false W args v W':=by
 have hW':=hW;obtain ⟨p,q,hA0,hV,rfl,hfz,hnd⟩:=hW;have hA:DataW.TrodAll enc Tryz.prog W 0 (fun _=>true) true Tryz.f4.params.toList args.toList ds p:=hA0;obtain ⟨rfl,rfl⟩:=trodVars_none hV;have hlen:=trodAll_length hA;rw [qcv] at hlen;obtain ⟨body,hbody⟩:=qhf;refine (qcF (X:=Xh) follows qiT Yn Tryz.func4 hbody (fun us h=>qfM 4 (by decide) us h) Ph (YP rfl) (qee hL hS) (PX hS) hval hA (wZ hz)).mono fun e W' ⟨he,hb⟩=>?_;subst he;match ds,hlen with
 | [d0,d1,d2,d3],_ =>
  exact ⟨_,rfl,vS (pa:=p) (pv:=[]) hW' (fun _ _ _=>by rw [qcm];exact trodAll_cons_mk (shut_bool Tryz.underlying4 _) trodAll_mk0)
   (fun sp hsp=>YI hb.block _ _ _ _ Ph hA (fun x hx=>hsp x (by simp [hx]))) (fun _ _=>rfl) rfl hb (ok_one (by kernel_rfl) rfl (okWide_bool_mk Tryz.underlying4 _))⟩
noncomputable def laidWorld (os:Os):World :=
 { World.holding Tryz.prog os ⟨#[],#[],[]⟩ with heap:=((((World.holding Tryz.prog os ⟨#[],#[],[]⟩).heap.modify 1 fun
  | .cells _ t fz=>.cells #[.int .u64 1,.int .u64 10,.int .u64 100,.int .u64 1000,.int .u64 10000,.int .u64 100000,.int .u64 1000000,.int .u64 10000000,.int .u64 100000000,.int .u64 1000000000,.int .u64 10000000000,.int .u64 100000000000,.int .u64 1000000000000,.int .u64 10000000000000,.int .u64 100000000000000,.int .u64 1000000000000000,.int .u64 10000000000000000,.int .u64 100000000000000000,.int .u64 1000000000000000000,.int .u64 10000000000000000000] t fz
  | o=>o).modify 2 fun
  | .cells _ t fz=>.cells #[.int .u8 0,.int .u8 1,.int .u8 28,.int .u8 2,.int .u8 29,.int .u8 14,.int .u8 24,.int .u8 3,.int .u8 30,.int .u8 22,.int .u8 20,.int .u8 15,.int .u8 25,.int .u8 17,.int .u8 4,.int .u8 8,.int .u8 31,.int .u8 27,.int .u8 13,.int .u8 23,.int .u8 21,.int .u8 19,.int .u8 16,.int .u8 7,.int .u8 26,.int .u8 12,.int .u8 18,.int .u8 6,.int .u8 11,.int .u8 5,.int .u8 10,.int .u8 9] t fz
  | o=>o).modify 3 fun
  | .cells _ t fz=>.cells #[.int .u8 0,.int .u8 1,.int .u8 56,.int .u8 2,.int .u8 57,.int .u8 49,.int .u8 28,.int .u8 3,.int .u8 61,.int .u8 58,.int .u8 42,.int .u8 50,.int .u8 38,.int .u8 29,.int .u8 17,.int .u8 4,.int .u8 62,.int .u8 47,.int .u8 59,.int .u8 36,.int .u8 45,.int .u8 43,.int .u8 51,.int .u8 22,.int .u8 53,.int .u8 39,.int .u8 33,.int .u8 30,.int .u8 24,.int .u8 18,.int .u8 12,.int .u8 5,.int .u8 63,.int .u8 55,.int .u8 48,.int .u8 27,.int .u8 60,.int .u8 41,.int .u8 37,.int .u8 16,.int .u8 46,.int .u8 35,.int .u8 44,.int .u8 21,.int .u8 52,.int .u8 32,.int .u8 23,.int .u8 11,.int .u8 54,.int .u8 26,.int .u8 40,.int .u8 15,.int .u8 34,.int .u8 20,.int .u8 31,.int .u8 10,.int .u8 25,.int .u8 14,.int .u8 19,.int .u8 9,.int .u8 13,.int .u8 8,.int .u8 7,.int .u8 6] t fz
  | o=>o) }
theorem laid_met (os:Os):laidMet Tryz.prog Rows.serviceCardsRow.laid ((laidWorld os).forCall (fun _ _=>0) ⟨#[],#[.agg #[.slice none 0 0,.slice none 0 0,.slice none 0 0,.slice none 0 0,.slice none 0 0],.slice none 0 0,.int .i64 0,.int .i64 0],[]⟩).memory :=
 laidMet_of_run' 8 (by kernel_rfl) (by kernel_rfl)
theorem reads (os:Os) {H:Type} (enc:TypeId×Value→H):∃ places,DataW.whole enc Tryz.prog ((laidWorld os).forCall (fun _ _=>0) ⟨#[],#[.agg #[.slice none 0 0,.slice none 0 0,.slice none 0 0,.slice none 0 0,.slice none 0 0],.slice none 0 0,.int .i64 0,.int .i64 0],[]⟩).memory Tryz.f4.params.toList Rows.serviceCardsSpec.vars false (#[.agg #[.slice none 0 0,.slice none 0 0,.slice none 0 0,.slice none 0 0,.slice none 0 0],.slice none 0 0,.int .i64 0,.int .i64 0]:Array Value).toList 8=some ([.agg [.nil,.nil,.nil,.nil,.nil],.nil,.lit (.int .i64 0),.lit (.int .i64 0)],[],places) :=
 ⟨[],by kernel_rfl⟩
set_option maxRecDepth 100000 in
theorem lifted (os:Os) (started:os.Started) (H:Type) (enc:TypeId×Value→H) (F:Stop.Interp) :
 ReturnsInHanded {} Tryz.checked os 4 .any ((OpenSpec.ofChange Rows.serviceCardsSpec).preRow enc Tryz.prog Tryz.f4 Rows.serviceCardsRow.domain false Rows.serviceCardsRow.laid) (((OpenSpec.ofChange Rows.serviceCardsSpec).at F).post enc Tryz.prog Tryz.f4 false true false false):=by
 obtain ⟨places,hx⟩:=reads os enc;refine returnsInHanded_of_row (C:=Tryz.checked) (s:=OpenSpec.ofChange Rows.serviceCardsSpec) own started (by kernel_rfl) Tryz.func4
  (witness_row_at (enc:=enc) (C:=Tryz.checked) false (laidWorld os) #[.agg #[.slice none 0 0,.slice none 0 0,.slice none 0 0,.slice none 0 0,.slice none 0 0],.slice none 0 0,.int .i64 0,.int .i64 0] rfl (by kernel_rfl) (by kernel_rfl) (by kernel_rfl)
   (OpenSpec.preRow_of_cond 8 hx (by kernel_rfl) (fun k hk=>by cases hk) (by kernel_rfl) (laid_met os))) ?_
 intro W base args ds gs before hval hW _ _ hz hL hS _;exact contract H enc W base args ds gs before hval hz hW hL hS
set_option maxHeartbeats 8000000 in
theorem closed:joinedFacts Tryz.prog 4 Tryz.f4 (OpenSpec.ofChange Rows.serviceCardsSpec).bare Rows.serviceCardsRow=true:=by
 unfold joinedFacts;simp only [zA8];and_intros
 all_goals (as_aux_lemma=>kernel_rfl)
theorem named:Tryz.pinned.checked.prog.funcNamed Rows.serviceCardsRow.func=some 4:=by kernel_rfl
theorem funcAt:Tryz.pinned.checked.prog.funcs[4]? = some Tryz.f4:=Tryz.func4
theorem inst:Tryz.f4.isInstance Tryz.pinned.checked.prog Rows.serviceCardsRow.origin Rows.serviceCardsRow.targs:=of_decide_eq_true (by kernel_rfl)
theorem wrap:Tryz.f4.isWrapper Tryz.pinned.checked.prog Rows.serviceCardsRow.wrapper Rows.serviceCardsRow.mainSum:=by
 unfold Func.isWrapper;first|(rw [if_pos (by decide +kernel)];kernel_rfl)|(rw [if_neg (by decide +kernel)];exact ⟨rfl,rfl⟩)
theorem every:∀ os:Os,os.Started→∀ (H:Type) (enc:TypeId×Value→H),(∀ a b,enc a=enc b→a=b)→∀ F:Stop.Interp,
 ReturnsInHanded Rows.serviceCardsRow.assume Tryz.pinned.checked os 4 .any (Rows.serviceCardsRow.pre enc Tryz.pinned.checked.prog Tryz.f4 (OpenSpec.ofChange Rows.serviceCardsSpec)) (((OpenSpec.ofChange Rows.serviceCardsSpec).at F).post enc Tryz.pinned.checked.prog Tryz.f4 Rows.serviceCardsRow.apart Rows.serviceCardsRow.fresh Rows.serviceCardsRow.handsOn Rows.serviceCardsRow.again) :=
 fun os started H enc _ F=>by rw [OpenClaim.pre_eq_preRow];exact lifted os started H enc F
theorem qeq:joinedFacts Tryz.pinned.checked.prog 4 Tryz.f4 (OpenSpec.ofChange Rows.serviceCardsSpec).bare Rows.serviceCardsRow=true:=closed
theorem said:Rows.ServiceCardsSaid :=
 OpenClaim.holds_of_cond 4 Tryz.f4 rfl rfl rfl rfl rfl rfl rfl ⟨rfl,rfl,rfl,rfl,rfl⟩ rfl rfl rfl rfl rfl named funcAt qeq inst wrap every
theorem qb3:Tryz.f4.params.toList.all (fun t=>!Tryz.prog.wantsStandIn t)=true:=by kernel_rfl
theorem plain (f:FuncId) (fn:Func) (hf:Tryz.pinned.checked.prog.funcNamed "trestle/trestlelaw11.ServiceCards" = some f) (hfn:Tryz.pinned.checked.prog.funcs[f]? = some fn) :
 false=Tryz.pinned.checked.prog.looks []∧∀ (j:Nat) t,fn.params[j]? = some t→Tryz.pinned.checked.prog.wantsStandIn t=false:=by
 obtain rfl:f=4:=Option.some.inj ((show Tryz.prog.funcNamed "trestle/trestlelaw11.ServiceCards" = some 4 by kernel_rfl).symm.trans hf) |>.symm
 obtain rfl:fn=Tryz.f4:=(Option.some.inj (Tryz.func4.symm.trans hfn)).symm;refine ⟨by kernel_rfl,fun j t ht=>?_⟩;have:=zC8.1 qb3 t (by simpa using Array.mem_of_getElem? ht);exact (show Tryz.prog.wantsStandIn t=false by simpa using this)
theorem qgl:Rows.serviceCardsRow.wfByText (OpenSpec.ofChange Rows.serviceCardsSpec)=true:=by kernel_rfl
theorem mainIs:Tryz.pinned.checked.prog.mainIs=some (Rows.serviceCardsCard.stood.harness.1,Rows.serviceCardsCard.stood.harness.2.toList):=by kernel_rfl
theorem goes:false=Rows.serviceCardsRow.goesBy Tryz.pinned.checked.prog:=by kernel_rfl
theorem card:Rows.ServiceCardsCardSaid :=
 Claim7.holds_tied_plain_at .later [] _ _ _ _ said (fun _ h=>by cases h) qgl (fun _ h=>by cases h) serviceCards_row_tie rfl ⟨rfl,rfl⟩ mainIs rfl plain goes
end Go.Proofs.YtnponmgkfkdkaaaGreatDoor.serviceCards
