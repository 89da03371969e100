/-
  THE ROW AND THE CARD OF BookLoads,out of its contract over the checked run.
-/
import Derived.Test.YtidmdnenlgjpeaaGreatDoorM18
import Derived.Test.YtidmdnenlgjpeaaGreatDoorCards
import Derived.Test.YtidmdnenlgjpeaaGreatDoorTie
import Derived.WalkKit
import Derived.ProofKit
import Derived.OpenShut
import Derived.Below
import Derived.ChangeSame
import Derived.Deep.DeepHandedRow
import Derived.Lib.LaidTab
namespace Go.Proofs.YtidmdnenlgjpeaaGreatDoor.bookLoads
open Go.ChangeShapes Go.WideShapes Go.ChangeAt Go.RowKit Go.Proofs.Xx
instance rowFlag:Flag:=⟨false⟩
theorem own:ownKnob Tryz.prog.godebug=none:=by kernel_rfl
theorem wJ:Tryz.f12.params.toList.all (QL Tryz.prog 20)=true:=by kernel_rfl
theorem qcC:∃ b,Tryz.f12.body=some b:=⟨_,rfl⟩
theorem pO:Tryz.f12.params.toList.length=1:=by kernel_rfl
theorem pK:Tryz.f12.resultTypes.toList=[4]:=by kernel_rfl
set_option maxRecDepth 100000 in
theorem contract (H:Type) (enc:TypeId×Value→H) (W:World) (base:Nat) (args:Array Value) (ds gs:List (DataW H)) (before:List MemPlace)
 (hval:∀ (j:Nat) t v,Tryz.f12.params[j]? = some t→args[j]? = some v→Value.okWide Tryz.prog W .any base t v)
 {us:List TypeId} (hz:(DataW.weightsEach Tryz.prog (Tryz.f12.params.toList ++ us) (ds ++ gs)).all (·≤reachBytes)=true)
 (hW:DataW.Whole enc Tryz.prog Tryz.f12.params.toList Rows.bookLoadsSpec.vars false W args.toList ds gs before) (_:laidMetH Tryz.prog Rows.bookLoadsRow.laid W) (hS:W.ShapedOpen Tryz.prog) :
 Calls Tryz.prog 12 args W fun e W'=>∃ v,e = .returned v∧Rows.bookLoadsSpec.post enc Tryz.prog Tryz.f12 false true false false W args v W':=by
 have hW':=hW
 obtain ⟨p,q,hA0,hV,rfl,hfz,hnd⟩:=hW
 have hA:DataW.TrodAll enc Tryz.prog W 0 (fun _=>true) true Tryz.f12.params.toList args.toList ds p:=hA0
 obtain ⟨rfl,rfl⟩:=trodVars_none hV
 have hlen:=trodAll_length hA
 rw [pO] at hlen
 obtain ⟨body,hbody⟩:=qcC
 refine (pY (X:=Xh) follows qdM Kv Tryz.func12 hbody (fun us h=>qbA 12 (by decide) (by decide) (by decide) (by decide) (by decide) (by decide) (by decide) (by decide) (by decide) us h) wJ Wv (KE rfl hS) (kJ hS) hval hA (xP hz)).mono fun e W' ⟨he,hb⟩=>?_
 subst he
 match ds,hlen with
 | [d0],_ =>
  exact ⟨_,rfl,WQ (pa:=p) (pv:=[]) hW' (fun _ _ _=>by rw [pK];exact trodAll_cons_mk (shut_bool Tryz.underlying4 _) trodAll_mk0)
   (fun sp hsp=>XW hb.block _ _ _ _ wJ hA (fun x hx=>hsp x (by simp [hx]))) (fun _ _=>rfl) rfl hb (ok_one (by kernel_rfl) rfl (okWide_bool_mk Tryz.underlying4 _))⟩
noncomputable def laidWorld (os:Os):World :=
 { World.holding Tryz.prog os ⟨#[],#[],[]⟩ with heap:=(((World.holding Tryz.prog os ⟨#[],#[],[]⟩).heap.modify 4 fun
  | .cells _ t fz=>.cells ((Go.Pinned.utf8FirstZ.map fun n:Nat=>Value.int .u8 (Int.ofNat n)).toArray) t fz
  | o=>o).modify 5 fun
  | .cells _ t fz=>.cells #[.int .u8 128,.int .u8 191,.int .u8 160,.int .u8 191,.int .u8 128,.int .u8 159,.int .u8 144,.int .u8 191,.int .u8 128,.int .u8 143,.int .u8 0,.int .u8 0,.int .u8 0,.int .u8 0,.int .u8 0,.int .u8 0,.int .u8 0,.int .u8 0,.int .u8 0,.int .u8 0,.int .u8 0,.int .u8 0,.int .u8 0,.int .u8 0,.int .u8 0,.int .u8 0,.int .u8 0,.int .u8 0,.int .u8 0,.int .u8 0,.int .u8 0,.int .u8 0] t fz
  | o=>o) }
theorem laid_met (os:Os):laidMet Tryz.prog Rows.bookLoadsRow.laid ((laidWorld os).forCall (fun _ _=>0) ⟨#[],#[.agg #[.slice none 0 0,.slice none 0 0]],[]⟩).memory :=
 laidMet_of_run' 8 (by kernel_rfl) (by kernel_rfl)
theorem reads (os:Os) {H:Type} (enc:TypeId×Value→H):∃ places,DataW.whole enc Tryz.prog ((laidWorld os).forCall (fun _ _=>0) ⟨#[],#[.agg #[.slice none 0 0,.slice none 0 0]],[]⟩).memory Tryz.f12.params.toList Rows.bookLoadsSpec.vars false (#[.agg #[.slice none 0 0,.slice none 0 0]]:Array Value).toList 8=some ([.agg [.nil,.nil]],[],places) :=
 ⟨[],by kernel_rfl⟩
set_option maxRecDepth 100000 in
theorem lifted (os:Os) (started:os.Started) (H:Type) (enc:TypeId×Value→H) (F:Stop.Interp) :
 ReturnsInHanded {} Tryz.checked os 12 .any ((OpenSpec.ofChange Rows.bookLoadsSpec).preRow enc Tryz.prog Tryz.f12 Rows.bookLoadsRow.domain false Rows.bookLoadsRow.laid) (((OpenSpec.ofChange Rows.bookLoadsSpec).at F).post enc Tryz.prog Tryz.f12 false true false false):=by
 obtain ⟨places,hx⟩:=reads os enc
 refine returnsInHanded_of_row (C:=Tryz.checked) (s:=OpenSpec.ofChange Rows.bookLoadsSpec) own started (by kernel_rfl) Tryz.func12
  (witness_row_at (enc:=enc) (C:=Tryz.checked) false (laidWorld os) #[.agg #[.slice none 0 0,.slice none 0 0]] rfl (by kernel_rfl) (by kernel_rfl) (by kernel_rfl)
   (OpenSpec.preRow_of_cond 8 hx (by kernel_rfl) (fun k hk=>by cases hk) (by kernel_rfl) (laid_met os))) ?_
 intro W base args ds gs before hval hW _ _ hz hL hS _
 exact contract H enc W base args ds gs before hval hz hW hL hS
set_option maxHeartbeats 8000000 in
theorem closed:joinedFacts Tryz.prog 12 Tryz.f12 (OpenSpec.ofChange Rows.bookLoadsSpec).bare Rows.bookLoadsRow=true:=by
 unfold joinedFacts
 simp only [Bool.and_eq_true]
 and_intros
 all_goals (as_aux_lemma=>kernel_rfl)
theorem named:Tryz.pinned.checked.prog.funcNamed Rows.bookLoadsRow.func=some 12:=by kernel_rfl
theorem funcAt:Tryz.pinned.checked.prog.funcs[12]? = some Tryz.f12:=Tryz.func12
theorem inst:Tryz.f12.isInstance Tryz.pinned.checked.prog Rows.bookLoadsRow.origin Rows.bookLoadsRow.targs:=of_decide_eq_true (by kernel_rfl)
theorem wrap:Tryz.f12.isWrapper Tryz.pinned.checked.prog Rows.bookLoadsRow.wrapper Rows.bookLoadsRow.mainSum:=by
 unfold Func.isWrapper;first|(rw [if_pos (by decide +kernel)];kernel_rfl)|(rw [if_neg (by decide +kernel)];exact ⟨rfl,rfl⟩)
theorem every:∀ os:Os,os.Started→∀ (H:Type) (enc:TypeId×Value→H),(∀ a b,enc a=enc b→a=b)→∀ F:Stop.Interp,
 ReturnsInHanded Rows.bookLoadsRow.assume Tryz.pinned.checked os 12 .any (Rows.bookLoadsRow.pre enc Tryz.pinned.checked.prog Tryz.f12 (OpenSpec.ofChange Rows.bookLoadsSpec)) (((OpenSpec.ofChange Rows.bookLoadsSpec).at F).post enc Tryz.pinned.checked.prog Tryz.f12 Rows.bookLoadsRow.apart Rows.bookLoadsRow.fresh Rows.bookLoadsRow.handsOn Rows.bookLoadsRow.again) :=
 fun os started H enc _ F=>by rw [OpenClaim.pre_eq_preRow];exact lifted os started H enc F
theorem qaB:joinedFacts Tryz.pinned.checked.prog 12 Tryz.f12 (OpenSpec.ofChange Rows.bookLoadsSpec).bare Rows.bookLoadsRow=true:=closed
theorem said:Rows.BookLoadsSaid :=
 OpenClaim.holds_of_cond 12 Tryz.f12 rfl rfl rfl rfl rfl rfl rfl ⟨rfl,rfl,rfl,rfl,rfl⟩ rfl rfl rfl rfl rfl named funcAt qaB inst wrap every
theorem G6:Tryz.f12.params.toList.all (fun t=>!Tryz.prog.wantsStandIn t)=true:=by kernel_rfl
theorem plain (f:FuncId) (fn:Func) (hf:Tryz.pinned.checked.prog.funcNamed "trestle/trestlelaw02.BookLoads" = some f) (hfn:Tryz.pinned.checked.prog.funcs[f]? = some fn) :
 false=Tryz.pinned.checked.prog.looks []∧∀ (j:Nat) t,fn.params[j]? = some t→Tryz.pinned.checked.prog.wantsStandIn t=false:=by
 obtain rfl:f=12:=Option.some.inj ((show Tryz.prog.funcNamed "trestle/trestlelaw02.BookLoads" = some 12 by kernel_rfl).symm.trans hf) |>.symm
 obtain rfl:fn=Tryz.f12:=(Option.some.inj (Tryz.func12.symm.trans hfn)).symm
 refine ⟨by kernel_rfl,fun j t ht=>?_⟩
 have:=List.all_eq_true.1 G6 t (by simpa using Array.mem_of_getElem? ht)
 exact (show Tryz.prog.wantsStandIn t=false by simpa using this)
theorem qbY:Rows.bookLoadsRow.wfByText (OpenSpec.ofChange Rows.bookLoadsSpec)=true:=by kernel_rfl
theorem mainIs:Tryz.pinned.checked.prog.mainIs=some (Rows.bookLoadsCard.stood.harness.1,Rows.bookLoadsCard.stood.harness.2.toList):=by kernel_rfl
theorem goes:false=Rows.bookLoadsRow.goesBy Tryz.pinned.checked.prog:=by kernel_rfl
theorem card:Rows.BookLoadsCardSaid :=
 Claim7.holds_tied_plain_at .later [] _ _ _ _ said (fun _ h=>by cases h) qbY (fun _ h=>by cases h) bookLoads_row_tie rfl ⟨rfl,rfl⟩ mainIs rfl plain goes
end Go.Proofs.YtidmdnenlgjpeaaGreatDoor.bookLoads
