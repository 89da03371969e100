/-
  THE ROW AND THE CARD OF BookPlays,out of its contract over the checked run.
-/
import Derived.Test.YtidmdnenlgjpeaaGreatDoorM20
import Derived.Test.YtidmdnenlgjpeaaGreatDoorCards
import Derived.Test.YtidmdnenlgjpeaaGreatDoorTie
import Derived.WalkKit
import Derived.ProofKit
import Derived.OpenShut
import Derived.Below
import Derived.ChangeSame
import Derived.Deep.DeepHandedRow
import Derived.Lib.LaidTab
namespace Go.Proofs.YtidmdnenlgjpeaaGreatDoor.bookPlays
open Go.ChangeShapes Go.WideShapes Go.ChangeAt Go.RowKit Go.Proofs.Xx
instance rowFlag:Flag:=⟨false⟩
theorem own:ownKnob Tryz.prog.godebug=none:=by kernel_rfl
theorem Gj:Tryz.f13.params.toList.all (Zv Tryz.prog 20)=true:=by kernel_rfl
theorem qeJ:∃ b,Tryz.f13.body=some b:=⟨_,rfl⟩
theorem qaS:Tryz.f13.params.toList.length=1:=by kernel_rfl
theorem qaN:Tryz.f13.resultTypes.toList=[4]:=by kernel_rfl
set_option maxRecDepth 100000 in
theorem contract (H:Type) (enc:TypeId×Value→H) (W:World) (base:Nat) (args:Array Value) (ds gs:List (DataW H)) (before:List MemPlace)
 (hval:∀ (j:Nat) t v,Tryz.f13.params[j]? = some t→args[j]? = some v→Value.okWide Tryz.prog W .any base t v)
 {us:List TypeId} (hz:(DataW.weightsEach Tryz.prog (Tryz.f13.params.toList ++ us) (ds ++ gs)).all (·≤reachBytes)=true)
 (hW:DataW.Whole enc Tryz.prog Tryz.f13.params.toList Rows.bookPlaysSpec.vars false W args.toList ds gs before) (_:laidMetH Tryz.prog Rows.bookPlaysRow.laid W) (hS:W.ShapedOpen Tryz.prog) :
 Calls Tryz.prog 13 args W fun e W'=>∃ v,e = .returned v∧Rows.bookPlaysSpec.post enc Tryz.prog Tryz.f13 false true false false W args v W':=by
 have hW':=hW;obtain ⟨p,q,hA0,hV,rfl,hfz,hnd⟩:=hW;have hA:DataW.TrodAll enc Tryz.prog W 0 (fun _=>true) true Tryz.f13.params.toList args.toList ds p:=hA0;obtain ⟨rfl,rfl⟩:=trodVars_none hV;have hlen:=trodAll_length hA;rw [qaS] at hlen;obtain ⟨body,hbody⟩:=qeJ;refine (qaY (X:=Xh) follows qfX Px Tryz.func13 hbody (fun us h=>qdA 13 (by decide) (by decide) (by decide) (by decide) (by decide) (by decide) (by decide) (by decide) (by decide) us h) Gj yE (PH rfl hS) (GZ hS) hval hA (wF hz)).mono fun e W' ⟨he,hb⟩=>?_;subst he;match ds,hlen with
 | [d0],_ =>
  exact ⟨_,rfl,yU (pa:=p) (pv:=[]) hW' (fun _ _ _=>by rw [qaN];exact trodAll_cons_mk (shut_bool Tryz.underlying4 _) trodAll_mk0)
   (fun sp hsp=>YR hb.block _ _ _ _ Gj hA (fun x hx=>hsp x (by simp [hx]))) (fun _ _=>rfl) rfl hb (ok_one (by kernel_rfl) rfl (okWide_bool_mk Tryz.underlying4 _))⟩
noncomputable def laidWorld (os:Os):World :=
 { World.holding Tryz.prog os ⟨#[],#[],[]⟩ with heap:=(((World.holding Tryz.prog os ⟨#[],#[],[]⟩).heap.modify 4 fun
  | .cells _ t fz=>.cells ((Go.Pinned.utf8FirstZ.map fun n:Nat=>Value.int .u8 (Int.ofNat n)).toArray) t fz
  | o=>o).modify 5 fun
  | .cells _ t fz=>.cells #[.int .u8 128,.int .u8 191,.int .u8 160,.int .u8 191,.int .u8 128,.int .u8 159,.int .u8 144,.int .u8 191,.int .u8 128,.int .u8 143,.int .u8 0,.int .u8 0,.int .u8 0,.int .u8 0,.int .u8 0,.int .u8 0,.int .u8 0,.int .u8 0,.int .u8 0,.int .u8 0,.int .u8 0,.int .u8 0,.int .u8 0,.int .u8 0,.int .u8 0,.int .u8 0,.int .u8 0,.int .u8 0,.int .u8 0,.int .u8 0,.int .u8 0,.int .u8 0] t fz
  | o=>o) }
theorem laid_met (os:Os):laidMet Tryz.prog Rows.bookPlaysRow.laid ((laidWorld os).forCall (fun _ _=>0) ⟨#[],#[.slice none 0 0],[]⟩).memory :=
 laidMet_of_run' 8 (by kernel_rfl) (by kernel_rfl)
theorem reads (os:Os) {H:Type} (enc:TypeId×Value→H):∃ places,DataW.whole enc Tryz.prog ((laidWorld os).forCall (fun _ _=>0) ⟨#[],#[.slice none 0 0],[]⟩).memory Tryz.f13.params.toList Rows.bookPlaysSpec.vars false (#[.slice none 0 0]:Array Value).toList 8=some ([.nil],[],places) :=
 ⟨[],by kernel_rfl⟩
set_option maxRecDepth 100000 in
theorem lifted (os:Os) (started:os.Started) (H:Type) (enc:TypeId×Value→H) (F:Stop.Interp) :
 ReturnsInHanded {} Tryz.checked os 13 .any ((OpenSpec.ofChange Rows.bookPlaysSpec).preRow enc Tryz.prog Tryz.f13 Rows.bookPlaysRow.domain false Rows.bookPlaysRow.laid) (((OpenSpec.ofChange Rows.bookPlaysSpec).at F).post enc Tryz.prog Tryz.f13 false true false false):=by
 obtain ⟨places,hx⟩:=reads os enc;refine returnsInHanded_of_row (C:=Tryz.checked) (s:=OpenSpec.ofChange Rows.bookPlaysSpec) own started (by kernel_rfl) Tryz.func13
  (witness_row_at (enc:=enc) (C:=Tryz.checked) false (laidWorld os) #[.slice none 0 0] rfl (by kernel_rfl) (by kernel_rfl) (by kernel_rfl)
   (OpenSpec.preRow_of_cond 8 hx (by kernel_rfl) (fun k hk=>by cases hk) (by kernel_rfl) (laid_met os))) ?_
 intro W base args ds gs before hval hW _ _ hz hL hS _;exact contract H enc W base args ds gs before hval hz hW hL hS
set_option maxHeartbeats 8000000 in
theorem closed:joinedFacts Tryz.prog 13 Tryz.f13 (OpenSpec.ofChange Rows.bookPlaysSpec).bare Rows.bookPlaysRow=true:=by
 unfold joinedFacts;simp only [zA8];and_intros
 all_goals (as_aux_lemma=>kernel_rfl)
theorem named:Tryz.pinned.checked.prog.funcNamed Rows.bookPlaysRow.func=some 13:=by kernel_rfl
theorem funcAt:Tryz.pinned.checked.prog.funcs[13]? = some Tryz.f13:=Tryz.func13
theorem inst:Tryz.f13.isInstance Tryz.pinned.checked.prog Rows.bookPlaysRow.origin Rows.bookPlaysRow.targs:=of_decide_eq_true (by kernel_rfl)
theorem wrap:Tryz.f13.isWrapper Tryz.pinned.checked.prog Rows.bookPlaysRow.wrapper Rows.bookPlaysRow.mainSum:=by
 unfold Func.isWrapper;first|(rw [if_pos (by decide +kernel)];kernel_rfl)|(rw [if_neg (by decide +kernel)];exact ⟨rfl,rfl⟩)
theorem every:∀ os:Os,os.Started→∀ (H:Type) (enc:TypeId×Value→H),(∀ a b,enc a=enc b→a=b)→∀ F:Stop.Interp,
 ReturnsInHanded Rows.bookPlaysRow.assume Tryz.pinned.checked os 13 .any (Rows.bookPlaysRow.pre enc Tryz.pinned.checked.prog Tryz.f13 (OpenSpec.ofChange Rows.bookPlaysSpec)) (((OpenSpec.ofChange Rows.bookPlaysSpec).at F).post enc Tryz.pinned.checked.prog Tryz.f13 Rows.bookPlaysRow.apart Rows.bookPlaysRow.fresh Rows.bookPlaysRow.handsOn Rows.bookPlaysRow.again) :=
 fun os started H enc _ F=>by rw [OpenClaim.pre_eq_preRow];exact lifted os started H enc F
theorem qca:joinedFacts Tryz.pinned.checked.prog 13 Tryz.f13 (OpenSpec.ofChange Rows.bookPlaysSpec).bare Rows.bookPlaysRow=true:=closed
theorem said:Rows.BookPlaysSaid :=
 OpenClaim.holds_of_cond 13 Tryz.f13 rfl rfl rfl rfl rfl rfl rfl ⟨rfl,rfl,rfl,rfl,rfl⟩ rfl rfl rfl rfl rfl named funcAt qca inst wrap every
theorem qaA:Tryz.f13.params.toList.all (fun t=>!Tryz.prog.wantsStandIn t)=true:=by kernel_rfl
theorem plain (f:FuncId) (fn:Func) (hf:Tryz.pinned.checked.prog.funcNamed "trestle/trestlelaw02.BookPlays" = some f) (hfn:Tryz.pinned.checked.prog.funcs[f]? = some fn) :
 false=Tryz.pinned.checked.prog.looks []∧∀ (j:Nat) t,fn.params[j]? = some t→Tryz.pinned.checked.prog.wantsStandIn t=false:=by
 obtain rfl:f=13:=Option.some.inj ((show Tryz.prog.funcNamed "trestle/trestlelaw02.BookPlays" = some 13 by kernel_rfl).symm.trans hf) |>.symm
 obtain rfl:fn=Tryz.f13:=(Option.some.inj (Tryz.func13.symm.trans hfn)).symm;refine ⟨by kernel_rfl,fun j t ht=>?_⟩;have:=zC8.1 qaA t (by simpa using Array.mem_of_getElem? ht);exact (show Tryz.prog.wantsStandIn t=false by simpa using this)
theorem qd2:Rows.bookPlaysRow.wfByText (OpenSpec.ofChange Rows.bookPlaysSpec)=true:=by kernel_rfl
theorem mainIs:Tryz.pinned.checked.prog.mainIs=some (Rows.bookPlaysCard.stood.harness.1,Rows.bookPlaysCard.stood.harness.2.toList):=by kernel_rfl
theorem goes:false=Rows.bookPlaysRow.goesBy Tryz.pinned.checked.prog:=by kernel_rfl
theorem card:Rows.BookPlaysCardSaid :=
 Claim7.holds_tied_plain_at .later [] _ _ _ _ said (fun _ h=>by cases h) qd2 (fun _ h=>by cases h) bookPlays_row_tie rfl ⟨rfl,rfl⟩ mainIs rfl plain goes
end Go.Proofs.YtidmdnenlgjpeaaGreatDoor.bookPlays
