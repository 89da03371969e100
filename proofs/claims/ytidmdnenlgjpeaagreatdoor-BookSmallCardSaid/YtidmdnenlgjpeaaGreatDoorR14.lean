/-
  THE ROW AND THE CARD OF BookSmall,out of its contract over the checked run.
-/
import Derived.Test.YtidmdnenlgjpeaaGreatDoorM18
import Derived.Test.YtidmdnenlgjpeaaGreatDoorCards
import Derived.Test.YtidmdnenlgjpeaaGreatDoorTie
import Derived.WalkKit
import Derived.ProofKit
import Derived.OpenShut
import Derived.Below
import Derived.ChangeSame
import Derived.Deep.DeepHandedRow
import Derived.Lib.LaidTab
namespace Go.Proofs.YtidmdnenlgjpeaaGreatDoor.bookSmall
open Go.ChangeShapes Go.WideShapes Go.ChangeAt Go.RowKit Go.Proofs.Xx
instance rowFlag:Flag:=⟨false⟩
theorem own:ownKnob Tryz.prog.godebug=none:=by kernel_rfl
theorem kR:Tryz.f14.params.toList.all (QR Tryz.prog 20)=true:=by kernel_rfl
theorem qdR:∃ b,Tryz.f14.body=some b:=⟨_,rfl⟩
theorem qae:Tryz.f14.params.toList.length=0:=by kernel_rfl
theorem qac:Tryz.f14.resultTypes.toList=[4]:=by kernel_rfl
set_option maxRecDepth 100000 in
theorem contract (H:Type) (enc:TypeId×Value→H) (W:World) (base:Nat) (args:Array Value) (ds gs:List (DataW H)) (before:List MemPlace)
 (hval:∀ (j:Nat) t v,Tryz.f14.params[j]? = some t→args[j]? = some v→Value.okWide Tryz.prog W .any base t v)
 {us:List TypeId} (hz:(DataW.weightsEach Tryz.prog (Tryz.f14.params.toList ++ us) (ds ++ gs)).all (·≤reachBytes)=true)
 (hW:DataW.Whole enc Tryz.prog Tryz.f14.params.toList Rows.bookSmallSpec.vars false W args.toList ds gs before) (_:laidMetH Tryz.prog Rows.bookSmallRow.laid W) (hS:W.ShapedOpen Tryz.prog) :
 Calls Tryz.prog 14 args W fun e W'=>∃ v,e = .returned v∧Rows.bookSmallSpec.post enc Tryz.prog Tryz.f14 false true false false W args v W':=by
 have hW':=hW;obtain ⟨p,q,hA0,hV,rfl,hfz,hnd⟩:=hW;have hA:DataW.TrodAll enc Tryz.prog W 0 (fun _=>true) true Tryz.f14.params.toList args.toList ds p:=hA0;obtain ⟨rfl,rfl⟩:=trodVars_none hV;have hlen:=trodAll_length hA;rw [qae] at hlen;obtain ⟨body,hbody⟩:=qdR;refine (qao (X:=Xh) follows qeY Gy Tryz.func14 hbody (fun us h=>qcF 14 (by decide) (by decide) (by decide) (by decide) (by decide) (by decide) (by decide) (by decide) (by decide) us h) kR xe (GU rfl hS) (Ky hS) hval hA (yD hz)).mono fun e W' ⟨he,hb⟩=>?_;subst he;match ds,hlen with
 | [],_ =>
  exact ⟨_,rfl,xH (pa:=p) (pv:=[]) hW' (fun _ _ _=>by rw [qac];exact trodAll_cons_mk (shut_bool Tryz.underlying4 _) trodAll_mk0)
   (fun sp hsp=>Ya hb.block _ _ _ _ kR hA (fun x hx=>hsp x (by simp [hx]))) (fun _ _=>rfl) rfl hb (ok_one (by kernel_rfl) rfl (okWide_bool_mk Tryz.underlying4 _))⟩
noncomputable def laidWorld (os:Os):World :=
 { World.holding Tryz.prog os ⟨#[],#[],[]⟩ with heap:=(((World.holding Tryz.prog os ⟨#[],#[],[]⟩).heap.modify 4 fun
  | .cells _ t fz=>.cells ((Go.Pinned.utf8FirstZ.map fun n:Nat=>Value.int .u8 (Int.ofNat n)).toArray) t fz
  | o=>o).modify 5 fun
  | .cells _ t fz=>.cells #[.int .u8 128,.int .u8 191,.int .u8 160,.int .u8 191,.int .u8 128,.int .u8 159,.int .u8 144,.int .u8 191,.int .u8 128,.int .u8 143,.int .u8 0,.int .u8 0,.int .u8 0,.int .u8 0,.int .u8 0,.int .u8 0,.int .u8 0,.int .u8 0,.int .u8 0,.int .u8 0,.int .u8 0,.int .u8 0,.int .u8 0,.int .u8 0,.int .u8 0,.int .u8 0,.int .u8 0,.int .u8 0,.int .u8 0,.int .u8 0,.int .u8 0,.int .u8 0] t fz
  | o=>o) }
theorem laid_met (os:Os):laidMet Tryz.prog Rows.bookSmallRow.laid ((laidWorld os).forCall (fun _ _=>0) ⟨#[],#[],[]⟩).memory :=
 laidMet_of_run' 8 (by kernel_rfl) (by kernel_rfl)
theorem reads (os:Os) {H:Type} (enc:TypeId×Value→H):∃ places,DataW.whole enc Tryz.prog ((laidWorld os).forCall (fun _ _=>0) ⟨#[],#[],[]⟩).memory Tryz.f14.params.toList Rows.bookSmallSpec.vars false (#[]:Array Value).toList 8=some ([],[],places) :=
 ⟨[],by kernel_rfl⟩
set_option maxRecDepth 100000 in
theorem lifted (os:Os) (started:os.Started) (H:Type) (enc:TypeId×Value→H) (F:Stop.Interp) :
 ReturnsInHanded {} Tryz.checked os 14 .any ((OpenSpec.ofChange Rows.bookSmallSpec).preRow enc Tryz.prog Tryz.f14 Rows.bookSmallRow.domain false Rows.bookSmallRow.laid) (((OpenSpec.ofChange Rows.bookSmallSpec).at F).post enc Tryz.prog Tryz.f14 false true false false):=by
 obtain ⟨places,hx⟩:=reads os enc;refine returnsInHanded_of_row (C:=Tryz.checked) (s:=OpenSpec.ofChange Rows.bookSmallSpec) own started (by kernel_rfl) Tryz.func14
  (witness_row_at (enc:=enc) (C:=Tryz.checked) false (laidWorld os) #[] rfl (by kernel_rfl) (by kernel_rfl) (by kernel_rfl)
   (OpenSpec.preRow_of_cond 8 hx (by kernel_rfl) (fun k hk=>by cases hk) (by kernel_rfl) (laid_met os))) ?_
 intro W base args ds gs before hval hW _ _ hz hL hS _;exact contract H enc W base args ds gs before hval hz hW hL hS
set_option maxHeartbeats 8000000 in
theorem closed:joinedFacts Tryz.prog 14 Tryz.f14 (OpenSpec.ofChange Rows.bookSmallSpec).bare Rows.bookSmallRow=true:=by
 unfold joinedFacts;simp only [zA8];and_intros
 all_goals (as_aux_lemma=>kernel_rfl)
theorem named:Tryz.pinned.checked.prog.funcNamed Rows.bookSmallRow.func=some 14:=by kernel_rfl
theorem funcAt:Tryz.pinned.checked.prog.funcs[14]? = some Tryz.f14:=Tryz.func14
theorem inst:Tryz.f14.isInstance Tryz.pinned.checked.prog Rows.bookSmallRow.origin Rows.bookSmallRow.targs:=of_decide_eq_true (by kernel_rfl)
theorem wrap:Tryz.f14.isWrapper Tryz.pinned.checked.prog Rows.bookSmallRow.wrapper Rows.bookSmallRow.mainSum:=by
 unfold Func.isWrapper;first|(rw [if_pos (by decide +kernel)];kernel_rfl)|(rw [if_neg (by decide +kernel)];exact ⟨rfl,rfl⟩)
theorem every:∀ os:Os,os.Started→∀ (H:Type) (enc:TypeId×Value→H),(∀ a b,enc a=enc b→a=b)→∀ F:Stop.Interp,
 ReturnsInHanded Rows.bookSmallRow.assume Tryz.pinned.checked os 14 .any (Rows.bookSmallRow.pre enc Tryz.pinned.checked.prog Tryz.f14 (OpenSpec.ofChange Rows.bookSmallSpec)) (((OpenSpec.ofChange Rows.bookSmallSpec).at F).post enc Tryz.pinned.checked.prog Tryz.f14 Rows.bookSmallRow.apart Rows.bookSmallRow.fresh Rows.bookSmallRow.handsOn Rows.bookSmallRow.again) :=
 fun os started H enc _ F=>by rw [OpenClaim.pre_eq_preRow];exact lifted os started H enc F
theorem qby:joinedFacts Tryz.pinned.checked.prog 14 Tryz.f14 (OpenSpec.ofChange Rows.bookSmallSpec).bare Rows.bookSmallRow=true:=closed
theorem said:Rows.BookSmallSaid :=
 OpenClaim.holds_of_cond 14 Tryz.f14 rfl rfl rfl rfl rfl rfl rfl ⟨rfl,rfl,rfl,rfl,rfl⟩ rfl rfl rfl rfl rfl named funcAt qby inst wrap every
theorem PV:Tryz.f14.params.toList.all (fun t=>!Tryz.prog.wantsStandIn t)=true:=by kernel_rfl
theorem plain (f:FuncId) (fn:Func) (hf:Tryz.pinned.checked.prog.funcNamed "trestle/trestlelaw02.BookSmall" = some f) (hfn:Tryz.pinned.checked.prog.funcs[f]? = some fn) :
 false=Tryz.pinned.checked.prog.looks []∧∀ (j:Nat) t,fn.params[j]? = some t→Tryz.pinned.checked.prog.wantsStandIn t=false:=by
 obtain rfl:f=14:=Option.some.inj ((show Tryz.prog.funcNamed "trestle/trestlelaw02.BookSmall" = some 14 by kernel_rfl).symm.trans hf) |>.symm
 obtain rfl:fn=Tryz.f14:=(Option.some.inj (Tryz.func14.symm.trans hfn)).symm;refine ⟨by kernel_rfl,fun j t ht=>?_⟩;have:=zC8.1 PV t (by simpa using Array.mem_of_getElem? ht);exact (show Tryz.prog.wantsStandIn t=false by simpa using this)
theorem qc8:Rows.bookSmallRow.wfByText (OpenSpec.ofChange Rows.bookSmallSpec)=true:=by kernel_rfl
theorem mainIs:Tryz.pinned.checked.prog.mainIs=some (Rows.bookSmallCard.stood.harness.1,Rows.bookSmallCard.stood.harness.2.toList):=by kernel_rfl
theorem goes:false=Rows.bookSmallRow.goesBy Tryz.pinned.checked.prog:=by kernel_rfl
theorem card:Rows.BookSmallCardSaid :=
 Claim7.holds_tied_plain_at .later [] _ _ _ _ said (fun _ h=>by cases h) qc8 (fun _ h=>by cases h) bookSmall_row_tie rfl ⟨rfl,rfl⟩ mainIs rfl plain goes
end Go.Proofs.YtidmdnenlgjpeaaGreatDoor.bookSmall
