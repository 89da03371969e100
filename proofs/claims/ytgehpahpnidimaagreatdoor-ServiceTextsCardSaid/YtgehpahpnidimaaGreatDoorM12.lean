/-
  The reference's check of a rule.
-/
import Derived.Test.YtgehpahpnidimaaGreatDoorM11
import Derived.Test.YtgehpahpnidimaaGreatDoorM9
import Derived.Test.YtgehpahpnidimaaGreatDoorM10
import Derived.Test.YtgehpahpnidimaaGreatDoorM6
import Derived.Test.YtgehpahpnidimaaGreatDoorM4
import Derived.Test.YtgehpahpnidimaaGreatDoorM8
set_option linter.unusedSimpArgs false
set_option linter.unusedVariables false
set_option linter.unusedSectionVars false
set_option maxRecDepth 100000
set_option maxHeartbeats 4000000
namespace Go.Proofs.Xx
open Go Go.Proofs
theorem qgo {k:Int} (h:1≤k∧k≤18):k=1∨k=2∨k=3∨k=4∨k=5∨k=6∨k=7∨k=8∨k=9∨k=10∨k=11∨k=12∨k=13∨k=14∨k=15∨k=16∨k=17∨k=18:=by omega
theorem Pi {k:Int} (h:1≤k∧k≤18):((Qr k).b=true↔1≤k∧k≤5)∧((Qr k).a=103↔1≤k∧k≤7)∧((Qr k).a=101↔k=10)∧((Qr k).a=100↔k=17)∧((Qr k).a≠0↔(1≤k∧k≤7)∨k=10∨k=17) ∧
 ((Qr k).t=116↔k=6∨k=7∨k=17)∧((Qr k).t=101↔¬ (1≤k∧k≤7)∧k≠10∧k≠17)∧((Qr k).t≠0↔¬ (1≤k∧k≤5)∧k≠10)∧((Qr k).n=true↔k=1∨k=4∨k=7∨k=15∨k=16)∧((Qr k).lo=if k=4 then 1 else 0)∧((Qr k).seat=true↔k=7):=by
 rcases qgo h with rfl|rfl|rfl|rfl|rfl|rfl|rfl|rfl|rfl|rfl|rfl|rfl|rfl|rfl|rfl|rfl|rfl|rfl<;>decide
theorem xZ {r:Ru} (h:1≤r.k∧r.k≤18):(Qr r.k).plain r↔(((1≤r.k∧r.k≤7)∨r.k=10∨r.k=17)∨r.a=[])∧((1≤r.k∧r.k≤5)∨r.b=[])∧((¬ (1≤r.k∧r.k≤5)∧r.k≠10)∨r.t=[])∧((r.k=1∨r.k=4∨r.k=7∨r.k=15∨r.k=16)∨r.n=0):=by
 obtain ⟨e1,e2,e3,e4,e5,e6,e7,e8,e9,e10,e11⟩:=Pi h;unfold Kd.plain;rw [e1,e5,e8,e9]
theorem yH {us:List Gu} {r:Ru} (h:1≤r.k∧r.k≤18):(Qr r.k).unk us r↔((1≤r.k∧r.k≤7)∧gI us r.a<0)∨(r.k=10∧r.a≠[]∧gI us r.a<0)∨((1≤r.k∧r.k≤5)∧gI us r.b<0):=by
 obtain ⟨e1,e2,e3,e4,e5,e6,e7,e8,e9,e10,e11⟩:=Pi h;unfold Kd.unk;rw [e1,e2,e3,Q3,Q3]
theorem KG {l:List Tab} {r:Ru} (h:1≤r.k∧r.k≤18):(Qr r.k).ut l r↔((r.k=6∨r.k=7∨r.k=17)∧¬ QI l r.t)∨((¬ (1≤r.k∧r.k≤7)∧r.k≠10∧r.k≠17)∧r.t≠[]∧¬ QI l r.t):=by
 obtain ⟨e1,e2,e3,e4,e5,e6,e7,e8,e9,e10,e11⟩:=Pi h;unfold Kd.ut;rw [e6,e7]
theorem qaM {l:List Tab} {n:List UInt8} (h:QI l n):tix l n<l.length:=by
 obtain ⟨j,hj,e⟩:=h;refine List.findIdx_lt_length_of_exists ⟨tb l j,qL hj,?_⟩;simpa using e
def wdL:List (List UInt8):=[] :: kwL
theorem qeW:∀ i,i<19→(wdL.getD i default=[]↔i=0):=by decide
variable [Flag]
theorem qa6 {h0:AH} (w:WfH h0) (k:Int) (hk:0≤k∧k≤255):Fn Tryz.prog Xh 205 [.int .u8 k] h0 (fun u h'=>∃ s,u=str s∧(s=[]↔¬ (1≤k∧k≤18))∧Hs h0 h' []):=by
 have l19:wdL.length=19:=rfl;have S:=Hs.start w;refine qF (by first|rfl) Tryz.func205 rfl rfl ?_;all_goals (repeat' (first|refine qg ?_|(refine qc 0 ?_;refine mv ?_;refine qf ?_)|(refine qc 1 ?_;skip)))
 refine bsn (α:=List UInt8) (z:=1) eS wdL S ?_;clear S;intro u5 h S;(refine mv ?_;refine qf ?_);all_goals (repeat' (first|refine qg ?_|refine qh rfl ?_|refine qj ?_|(refine qc 2 ?_;refine mv ?_;refine cI ?_;refine mv ?_;refine wM S rfl rfl ?_;(first|(refine cS ?_ ?_<;>intro hc))<;>(refine qf ?_))|(refine qc 3 ?_;refine mv ?_;refine qf ?_)|(refine qc 4 ?_;refine mv ?_;refine mv ?_;refine Xc S rfl rfl ?_;refine XD S rfl rfl ?_;refine mv ?_;refine qf ?_)))
 ·refine qi ⟨_,rfl,?_⟩;exact ⟨[],rfl,⟨fun _=>by omega,fun _=>rfl⟩,S.drop⟩
 ·refine qi ⟨_,rfl,?_⟩;have:=qeW k.toNat (by omega);exact ⟨wdL.getD k.toNat default,rfl,by rw [this];omega,S.drop⟩
theorem qbh {h0:AH} (w:WfH h0) (v:PbV) (p:Pb) (H:PbOk h0 v p) (n:List UInt8):Fn Tryz.prog Xh 210 [v.vg.val,str n] h0 (fun u h'=>u = .int .i64 (gI p.us n)∧Hs h0 h' []):=by
 have hu:v.gs.map (·.toGu)=p.us:=H.rol.us;have hl:=H.rol.len;have hlg:v.gs.length≤9223372036854775807:=by rw [hl];exact H.rol.lg
 refine (Yb w v.vg.val v.gs H.rol.rg hlg n).mono ?_;rintro u h ⟨⟨i,h1,-,rfl⟩|⟨h1,rfl⟩,x⟩;all_goals (refine ⟨?_,x⟩;rw [hu] at h1;unfold gI;rw [h1])
theorem Gq {h0:AH} (w:WfH h0) (v:PbV) (p:Pb) (H:PbOk h0 v p) (r:Ru) (hk:0≤r.k∧r.k≤255) :
 Fn Tryz.prog Xh 145 [v.val,ruV r] h0 (fun u h'=>u = .int .i64 (xX p r)∧Hs h0 h' []):=by
 have S:=Hs.start w;have hr:=H.tab.rd;have hl:=H.tab.len;unfold ruV JL PbV.val;refine qF (by first|rfl) Tryz.func145 rfl rfl ?_;all_goals (repeat' (first|refine qg ?_|(refine qc 0 ?_;(refine bx S ?_;clear S;intro b h S);(refine bx S ?_;clear S;intro b h S);refine mv ?_;refine qf ?_)))
 rename_i b2 h2
 replace S:Hs h0 h [.blk b (JL r) 155,.blk b2 v.cs 28]:=S;all_goals (repeat' (first|refine qg ?_|(refine qc 1 ?_;refine vl ?_;refine lB S rfl rfl ?_;refine mv ?_;refine qf ?_)|(refine qc 2 ?_;refine mv ?_)))
 (refine qo rfl rfl rfl rfl rfl ((qa6 S.wf r.k hk).mono ?_);rintro _ h ⟨wd,rfl,hwd,x⟩)<;>(replace S:=S.join0 x;clear x;(refine tS ?_ ?_<;>intro hc)<;>(refine qf ?_))
 all_goals (repeat' (first|refine qg ?_|refine qh rfl ?_|refine qj ?_|(refine qc 3 ?_;refine mv ?_;refine qf ?_)))
 ·refine qi ⟨_,rfl,?_⟩;refine ⟨?_,S.drop⟩;unfold xX;rw [if_neg (hwd.1 hc)];rfl
 have h18:1≤r.k∧r.k≤18:=zF2.1 fun q=>hc (hwd.2 q);have heq:xX p r=(Qr r.k).err p r:=by unfold xX;rw [if_pos h18]
 rw [heq];clear hwd hc;all_goals (repeat' (first|refine qg ?_|refine qh rfl ?_|refine qj ?_|(refine qc 4 ?_;refine vl ?_;refine lB S rfl rfl ?_;(first|(refine cS ?_ ?_<;>intro hc))<;>(refine mv ?_;(first|refine off ?_|(refine vl ?_));(first|refine off ?_|(refine lB S rfl rfl ?_));(first|refine off ?_|(first|(refine cS ?_ ?_<;>intro hc)))<;>(refine vl ?_;refine qf ?_)))|(refine qc 5 ?_;refine mv ?_;refine qf ?_)))
 ·refine qi ⟨_,rfl,?_⟩;exact ⟨by rw [Kd.err41 (.inl hc)];rfl,S.drop⟩
 ·refine qi ⟨_,rfl,?_⟩;exact ⟨by rw [Kd.err41 (.inr (by omega))];rfl,S.drop⟩
 have hw:¬ (r.w<0∨1000<r.w):=by omega
 clear hc;(repeat (refine qg ?_));first|refine zL (σ:=Unit) (fun _ h'=>Hs h0 h' [.blk b (JL r) 155,.blk b2 v.cs 28]∧(Qr r.k).plain r) (fun _=>[(2,.pointer (some ⟨b2,0,none⟩)),(3,.pointer (some ⟨b,0,none⟩)),(4,.int .i64 0),(5,.int .u8 r.k)]) ?_ ?_
 ·all_goals (repeat' (first|refine qh rfl ?_|refine qj ?_|(refine qc 6 ?_;refine vl ?_;refine lB S rfl rfl ?_;(refine tS ?_ ?_<;>intro hc)<;>(refine mv ?_;(first|refine off ?_|refine mv ?_);(first|(refine off ?_;refine off ?_;refine vl ?_;refine mv ?_;refine off ?_;(first|(refine off ?_;refine off ?_;refine vl ?_;refine mv ?_;refine off ?_;(refine off ?_)<;>(refine vl ?_;refine mv ?_;(first|(refine vl ?_));(first|(refine lB S rfl rfl ?_));(first|(refine tS ?_ ?_<;>intro hc))<;>((refine mv ?_);(first|refine off ?_|refine mv ?_);(first|(refine off ?_;refine off ?_;refine vl ?_;refine vl ?_;refine mv ?_;(first|(refine vl ?_));(first|(refine lB S rfl rfl ?_));(first|(refine tS ?_ ?_<;>intro hc))<;>((refine mv ?_);(first|refine off ?_|refine mv ?_);(first|(refine off ?_;(refine off ?_)<;>((refine vl ?_);refine vl ?_;refine mv ?_;(first|(refine vl ?_));(first|(refine lB S rfl rfl ?_));(first|(first|(refine cS ?_ ?_<;>intro hc)))<;>((refine mv ?_);(first|refine off ?_|refine mv ?_);(first|(refine off ?_;refine off ?_;refine vl ?_;refine vl ?_;refine qf ?_)|skip))))|skip)))|skip))))))|skip)))))
  all_goals (try ((refine qo rfl rfl rfl rfl rfl ((JW S.wf r.k).mono ?_);rintro _ h ⟨⟨rfl,z1⟩|⟨rfl,z1⟩,x⟩)<;>(replace S:=S.join0 x;clear x;refine vl ?_;refine vl ?_;refine mv ?_;(first|refine off ?_|refine mv ?_);(first|(refine off ?_;refine off ?_;refine vl ?_;refine mv ?_;refine off ?_;(refine off ?_)<;>(refine vl ?_;refine mv ?_;(first|(refine vl ?_));(first|(refine lB S rfl rfl ?_));(first|(refine tS ?_ ?_<;>intro hc))<;>((refine mv ?_);(first|refine off ?_|refine mv ?_);(first|(refine off ?_;refine off ?_;refine vl ?_;refine vl ?_;refine mv ?_;(first|(refine vl ?_));(first|(refine lB S rfl rfl ?_));(first|(refine tS ?_ ?_<;>intro hc))<;>((refine mv ?_);(first|refine off ?_|refine mv ?_);(first|(refine off ?_;(refine off ?_)<;>((refine vl ?_);refine vl ?_;refine mv ?_;(first|(refine vl ?_));(first|(refine lB S rfl rfl ?_));(first|(first|(refine cS ?_ ?_<;>intro hc)))<;>((refine mv ?_);(first|refine off ?_|refine mv ?_);(first|(refine off ?_;refine off ?_;refine vl ?_;refine vl ?_;refine qf ?_)|skip))))|skip)))|skip))))|skip))))
  all_goals (try ((refine qo rfl rfl rfl rfl rfl ((pU S.wf r.k).mono ?_);rintro _ h ⟨⟨rfl,z2⟩|⟨rfl,z2⟩,x⟩)<;>(replace S:=S.join0 x;clear x;refine vl ?_;refine vl ?_;refine mv ?_;(first|refine off ?_|refine mv ?_);(first|refine off ?_|(first|(refine cS ?_ ?_<;>intro hc)))<;>(refine vl ?_;refine mv ?_;(first|refine off ?_|(refine vl ?_));(first|refine off ?_|(refine lB S rfl rfl ?_));(first|refine off ?_|(refine tS ?_ ?_<;>intro hc))<;>((first|refine off ?_|refine mv ?_);(first|refine off ?_|refine mv ?_);(first|(refine off ?_;refine off ?_;(first|refine off ?_|refine vl ?_);refine vl ?_;refine mv ?_;(first|refine off ?_|(refine vl ?_));(first|refine off ?_|(refine lB S rfl rfl ?_));(first|refine off ?_|(refine tS ?_ ?_<;>intro hc))<;>((first|refine off ?_|refine mv ?_);(first|refine off ?_|refine mv ?_);(first|(refine off ?_;(refine off ?_)<;>((first|refine off ?_|refine vl ?_);refine vl ?_;refine mv ?_;(first|refine off ?_|(refine vl ?_));(first|refine off ?_|(refine lB S rfl rfl ?_));(first|refine off ?_|(first|(refine cS ?_ ?_<;>intro hc)))<;>((first|refine off ?_|refine mv ?_);(first|refine off ?_|refine mv ?_);(first|(refine off ?_;refine off ?_;(first|refine off ?_|refine vl ?_);refine vl ?_;refine qf ?_)|skip))))|skip)))|skip))))))
  all_goals (try ((refine qo rfl rfl rfl rfl rfl ((JW S.wf r.k).mono ?_);rintro _ h ⟨⟨rfl,z3⟩|⟨rfl,z3⟩,x⟩)<;>(replace S:=S.join0 x;clear x;refine vl ?_;refine vl ?_;refine vl ?_;refine mv ?_;(first|refine off ?_|(refine vl ?_));(first|refine off ?_|(refine lB S rfl rfl ?_));(first|refine off ?_|(refine tS ?_ ?_<;>intro hc))<;>((first|refine off ?_|refine mv ?_);(first|refine off ?_|refine mv ?_);(first|(refine off ?_;(refine off ?_)<;>((first|refine off ?_|refine vl ?_);refine vl ?_;refine mv ?_;(first|refine off ?_|(refine vl ?_));(first|refine off ?_|(refine lB S rfl rfl ?_));(first|refine off ?_|(first|refine cT ?_|(refine cS ?_ ?_<;>intro hc)))<;>((first|refine off ?_|refine mv ?_);(first|refine off ?_|refine mv ?_);(first|(refine off ?_;refine off ?_;(first|refine off ?_|refine vl ?_);refine vl ?_;refine qf ?_)|skip))))|skip)))))
  all_goals (try ((refine qo rfl rfl rfl rfl rfl ((Xz S.wf r.k).mono ?_);rintro _ h ⟨n4,rfl,z4,x⟩)<;>(replace S:=S.join0 x;clear x;(first|(first|refine cT ?_|refine cF ?_|(refine cS ?_ ?_<;>intro hc)))<;>((refine vl ?_);refine vl ?_;refine mv ?_;(first|refine off ?_|(refine vl ?_));(first|refine off ?_|(refine lB S rfl rfl ?_));(first|refine off ?_|(first|(refine cS ?_ ?_<;>intro hc)))<;>((first|refine off ?_|refine mv ?_);(first|refine off ?_|refine mv ?_);(first|(refine off ?_;refine off ?_;(first|refine off ?_|refine vl ?_);refine vl ?_;refine qf ?_)|skip))))))
  all_goals (try ((refine qo rfl rfl rfl rfl rfl ((VX S.wf r.k).mono ?_);rintro _ h ⟨⟨rfl,z5⟩|⟨rfl,z5⟩,x⟩)<;>(replace S:=S.join0 x;clear x;refine vl ?_;refine vl ?_;refine vl ?_;refine qf ?_)))
  all_goals (all_goals (repeat' (first|refine qg ?_|refine qh rfl ?_|refine qj ?_|(refine qc 7 ?_;refine mv ?_;refine qf ?_))))
  all_goals first
   | exact ⟨(),⟨S,by rw [xZ h18];grind⟩,(qw)⟩
   | (refine qi ⟨_,rfl,?_⟩;exact ⟨by rw [Kd.err43 hw (by rw [xZ h18];grind)];rfl,S.drop⟩)
 clear S;rintro _ h ⟨S,hpl⟩;(repeat (refine qg ?_));first|refine zL (σ:=Unit) (fun _ h'=>Hs h0 h' [.blk b (JL r) 155,.blk b2 v.cs 28]∧¬ (((1≤r.k∧r.k≤7)∧gI p.us r.a<0)∨(r.k=10∧r.a≠[]∧gI p.us r.a<0))) (fun _=>[(2,.pointer (some ⟨b2,0,none⟩)),(3,.pointer (some ⟨b,0,none⟩)),(4,.int .i64 0),(5,.int .u8 r.k)]) ?_ ?_
 ·all_goals (repeat' (first|(refine qc 8 ?_;refine mv ?_)))
  (refine qo rfl rfl rfl rfl rfl ((JW S.wf r.k).mono ?_);rintro _ h ⟨⟨rfl,z1⟩|⟨rfl,z1⟩,x⟩)<;>(replace S:=S.join0 x;clear x;refine mv ?_;(first|refine off ?_|refine mv ?_);(first|(refine off ?_;refine vl ?_;refine mv ?_;refine mv ?_;(first|(refine cF ?_))<;>((refine mv ?_);refine off ?_;refine off ?_;(refine off ?_)<;>((refine vl ?_);refine vl ?_;refine vl ?_;refine mv ?_;(first|(refine vl ?_));(first|(refine lB S rfl rfl ?_));(first|(refine vl ?_));(first|(refine lB S rfl rfl ?_));(skip))))|skip))
  all_goals (try ((refine qo rfl rfl rfl rfl rfl ((pU S.wf r.k).mono ?_);rintro _ h ⟨⟨rfl,z2⟩|⟨rfl,z2⟩,x⟩)<;>(replace S:=S.join0 x;clear x;refine vl ?_;refine mv ?_;(first|refine off ?_|refine mv ?_);(first|refine off ?_|(first|(refine cS ?_ ?_<;>intro hc)))<;>((first|refine off ?_|refine mv ?_);(first|refine off ?_|(refine vl ?_));(first|refine off ?_|(refine lB S rfl rfl ?_));(first|refine off ?_|(refine tS ?_ ?_<;>intro hc))<;>((first|refine off ?_|refine vl ?_);(first|refine off ?_|refine vl ?_);refine vl ?_;refine mv ?_;(first|refine off ?_|(refine vl ?_));(first|refine off ?_|(refine lB S rfl rfl ?_));(first|refine off ?_|(refine vl ?_));(first|refine off ?_|(refine lB S rfl rfl ?_));(first|(refine off ?_;(refine off ?_)<;>(refine vl ?_;refine qf ?_))|skip))))))
  all_goals (try ((refine qo rfl rfl rfl rfl rfl ((qbh S.wf v p (H.ext w S.ext) r.a).mono ?_);rintro _ h ⟨rfl,x⟩)<;>(replace S:=S.join0 x;clear x;(first|(first|(refine cS ?_ ?_<;>intro hc)))<;>(refine vl ?_;refine qf ?_))))
  all_goals (all_goals (repeat' (first|refine qg ?_|refine qh rfl ?_|refine qj ?_|(refine qc 9 ?_;refine mv ?_;refine qf ?_))))
  all_goals first
   | exact ⟨(),⟨S,by grind⟩,(qw)⟩
   | (refine qi ⟨_,rfl,?_⟩;exact ⟨by rw [Kd.err6 hw hpl (by rw [yH h18];grind)];rfl,S.drop⟩)
 clear S;rintro _ h ⟨S,hua⟩;(repeat (refine qg ?_));first|refine zL (σ:=Unit) (fun _ h'=>Hs h0 h' [.blk b (JL r) 155,.blk b2 v.cs 28]∧¬ (Qr r.k).unk p.us r) (fun _=>[(2,.pointer (some ⟨b2,0,none⟩)),(3,.pointer (some ⟨b,0,none⟩)),(4,.int .i64 0),(5,.int .u8 r.k)]) ?_ ?_
 ·all_goals (repeat' (first|(refine qc 10 ?_;refine mv ?_)))
  all_goals (try ((refine qo rfl rfl rfl rfl rfl ((JW S.wf r.k).mono ?_);rintro _ h ⟨⟨rfl,z3⟩|⟨rfl,z3⟩,x⟩)<;>(replace S:=S.join0 x;clear x;refine mv ?_;(first|refine off ?_|(refine vl ?_));(first|refine off ?_|(refine lB S rfl rfl ?_));(first|refine off ?_|(refine vl ?_));(first|refine off ?_|(refine lB S rfl rfl ?_));(first|(refine off ?_;(refine off ?_)<;>(refine vl ?_;refine qf ?_))|skip))))
  all_goals (try ((refine qo rfl rfl rfl rfl rfl ((qbh S.wf v p (H.ext w S.ext) r.b).mono ?_);rintro _ h ⟨rfl,x⟩)<;>(replace S:=S.join0 x;clear x;(first|(first|(refine cS ?_ ?_<;>intro hc)))<;>(refine vl ?_;refine qf ?_))))
  all_goals (all_goals (repeat' (first|refine qg ?_|refine qh rfl ?_|refine qj ?_|(refine qc 11 ?_;refine mv ?_;refine qf ?_))))
  all_goals first
   | exact ⟨(),⟨S,by rw [yH h18];grind⟩,(qw)⟩
   | (refine qi ⟨_,rfl,?_⟩;exact ⟨by rw [Kd.err6 hw hpl (by rw [yH h18];grind)];rfl,S.drop⟩)
 clear S;rintro _ h ⟨S,hun⟩;obtain ⟨e1,e2,e3,e4,e5,e6,e7,e8,e9,e10,e11⟩:=Pi h18;(repeat (refine qg ?_));first|refine zL (σ:=Unit) (fun _ h'=>Hs h0 h' [.blk b (JL r) 155,.blk b2 v.cs 28]∧(Qr r.k).one p r) (fun _=>[(2,.pointer (some ⟨b2,0,none⟩)),(3,.pointer (some ⟨b,0,none⟩)),(4,.int .i64 0),(5,.int .u8 r.k)]) ?_ ?_
 ·all_goals (repeat' (first|refine qh rfl ?_|refine qj ?_|(refine qc 12 ?_;refine mv ?_;(first|(refine cS ?_ ?_<;>intro hc))<;>(refine mv ?_;(first|refine off ?_|(refine vl ?_));(first|refine off ?_|(refine lB S rfl rfl ?_));(first|(refine off ?_;refine off ?_;refine vl ?_;refine qf ?_)|skip)))))
  all_goals (try ((refine qo rfl rfl rfl rfl rfl ((Qx r.a).mono ?_);rintro _ _ ⟨⟨rfl,hn⟩|⟨rfl,hn⟩,rfl⟩)<;>((refine vl ?_);refine vl ?_;refine qf ?_)))
  all_goals (all_goals (repeat' (first|refine qg ?_|refine qh rfl ?_|refine qj ?_|(refine qc 13 ?_;refine mv ?_;refine qf ?_))))
  all_goals first
   | exact ⟨(),⟨S,⟨hw,hpl,hun,by rw [e4];grind⟩⟩,(qw)⟩
   | (refine qi ⟨_,rfl,?_⟩;exact ⟨by rw [Kd.err4 hw hpl hun (by rw [e4];grind)];rfl,S.drop⟩)
 clear S;rintro _ h ⟨S,hone⟩;(repeat (refine qg ?_));first|refine zL (σ:=Unit) (fun _ h'=>Hs h0 h' [.blk b (JL r) 155,.blk b2 v.cs 28]∧¬ ((Qr r.k).b=true∧r.a=r.b)) (fun _=>[(2,.pointer (some ⟨b2,0,none⟩)),(3,.pointer (some ⟨b,0,none⟩)),(4,.int .i64 0),(5,.int .u8 r.k)]) ?_ ?_
 ·all_goals (repeat' (first|(refine qc 14 ?_;refine mv ?_)))
  all_goals (try ((refine qo rfl rfl rfl rfl rfl ((JW S.wf r.k).mono ?_);rintro _ h ⟨⟨rfl,z3⟩|⟨rfl,z3⟩,x⟩)<;>(replace S:=S.join0 x;clear x;refine mv ?_;(first|refine off ?_|(refine vl ?_));(first|refine off ?_|(refine lB S rfl rfl ?_));(first|refine off ?_|(refine vl ?_));(first|refine off ?_|(refine lB S rfl rfl ?_));(first|refine off ?_|(refine tS ?_ ?_<;>intro hc))<;>(refine vl ?_;refine qf ?_))))
  all_goals (all_goals (repeat' (first|refine qg ?_|refine qh rfl ?_|refine qj ?_|(refine qc 15 ?_;refine mv ?_;refine qf ?_))))
  all_goals first
   | exact ⟨(),⟨S,by rw [e1];grind⟩,(qw)⟩
   | (refine qi ⟨_,rfl,?_⟩;exact ⟨by rw [Kd.err5 hone (by rw [e1];grind)];rfl,S.drop⟩)
 clear S;rintro _ h ⟨S,h5⟩;rw [Kd.errR hone h5];(repeat (refine qg ?_));first|refine wH (σ:=Int) (fun i h'=>Hs h0 h' [.blk b (JL r) 155,.blk b2 v.cs 28]∧((QI p.tabs r.t∧i=tix p.tabs r.t)∨(¬ QI p.tabs r.t∧i = -1))) (fun i=>[(2,.pointer (some ⟨b2,0,none⟩)),(3,.pointer (some ⟨b,0,none⟩)),(4,.int .i64 0),(5,.int .u8 r.k),(6,.int .i64 i)]) ?_ ?_
 ·all_goals (repeat' (first|(refine qc 16 ?_;refine vl ?_;refine lB S rfl rfl ?_;refine vl ?_;refine lB S rfl rfl ?_)))
  (refine qo rfl rfl rfl rfl rfl ((kG S.wf v.vt.val p.tabs (hr.ext w S.ext) (by omega) r.t).mono ?_);rintro _ h ⟨⟨rfl,z⟩|⟨rfl,z⟩,x⟩)<;>(replace S:=S.join0 x;clear x;refine mv ?_;refine qf ?_)
  all_goals (all_goals (repeat' (fail)))
  ·exact ⟨_,⟨S,.inl ⟨z,rfl⟩⟩,(qw)⟩
  ·exact ⟨_,⟨S,.inr ⟨z,rfl⟩⟩,(qw)⟩
 clear S;rintro i h ⟨S,hi⟩;have hib:(0≤i↔QI p.tabs r.t)∧i≤1000∧-1≤i:=by
  rcases hi with ⟨z,rfl⟩|⟨z,rfl⟩
  ·have:=qaM z;exact ⟨⟨fun _=>z,fun _=>by omega⟩,by omega,by omega⟩
  ·exact ⟨⟨fun q=>by omega,fun q=>absurd q z⟩,by omega,by omega⟩
 (repeat (refine qg ?_));first|refine zL (σ:=Unit) (fun _ h'=>Hs h0 h' [.blk b (JL r) 155,.blk b2 v.cs 28]∧¬ (Qr r.k).ut p.tabs r) (fun _=>[(2,.pointer (some ⟨b2,0,none⟩)),(3,.pointer (some ⟨b,0,none⟩)),(4,.int .i64 0),(5,.int .u8 r.k),(6,.int .i64 i)]) ?_ ?_
 ·all_goals (repeat' (first|(refine qc 17 ?_;refine mv ?_)))
  (refine qo rfl rfl rfl rfl rfl ((Xz S.wf r.k).mono ?_);rintro _ h ⟨n4,rfl,z4,x⟩)<;>(replace S:=S.join0 x;clear x;(first|(refine cS ?_ ?_<;>intro hc))<;>(refine mv ?_;(first|refine off ?_|refine mv ?_);(first|refine off ?_|(first|(refine cS ?_ ?_<;>intro hc)))<;>(refine vl ?_;refine mv ?_;(first|refine off ?_|refine mv ?_);(first|(refine off ?_;(refine off ?_)<;>((refine off ?_);refine off ?_;refine off ?_;(refine off ?_)<;>((refine off ?_);refine off ?_;refine off ?_;(refine off ?_)<;>((refine off ?_);refine vl ?_;refine qf ?_))))|skip))))
  all_goals (try ((refine qo rfl rfl rfl rfl rfl ((Xz S.wf r.k).mono ?_);rintro _ h ⟨n5,rfl,z5,x⟩)<;>(replace S:=S.join0 x;clear x;(first|(first|refine cF ?_|(refine cS ?_ ?_<;>intro hc)))<;>((refine mv ?_);(first|refine off ?_|(refine vl ?_));(first|refine off ?_|(refine lB S rfl rfl ?_));(first|refine off ?_|(refine tS ?_ ?_<;>intro hc))<;>((refine vl ?_);refine mv ?_;(first|refine off ?_|refine mv ?_);(first|refine off ?_|(first|(refine cS ?_ ?_<;>intro hc)))<;>((refine vl ?_);refine vl ?_;refine qf ?_))))))
  all_goals (all_goals (repeat' (first|refine qg ?_|refine qh rfl ?_|refine qj ?_|(refine qc 18 ?_;refine mv ?_;refine qf ?_))))
  all_goals first
   | exact ⟨(),⟨S,by rw [KG h18];grind⟩,(qw)⟩
   | (refine qi ⟨_,rfl,?_⟩;exact ⟨by rw [if_pos (by rw [KG h18];grind)];rfl,S.drop⟩)
 clear S;rintro _ h ⟨S,hut⟩;rw [if_neg hut];all_goals (repeat' (first|refine qg ?_|(refine qc 19 ?_;refine mv ?_;refine qf ?_)|(refine qc 20 ?_;refine mv ?_;refine qf ?_)))
 (repeat (refine qg ?_));first|refine zL (σ:=Int) (fun lo h'=>Hs h0 h' [.blk b (JL r) 155,.blk b2 v.cs 28]∧lo=(Qr r.k).lo) (fun lo=>[(2,.pointer (some ⟨b2,0,none⟩)),(3,.pointer (some ⟨b,0,none⟩)),(4,.int .i64 0),(5,.int .u8 r.k),(6,.int .i64 i),(7,.int .i64 lo),(8,.int .i64 24)]) ?_ ?_
 ·all_goals (repeat' (first|refine qh rfl ?_|refine qj ?_|(refine qc 21 ?_;refine mv ?_;(first|(refine cS ?_ ?_<;>intro hc))<;>(refine qf ?_))|(refine qc 22 ?_;refine mv ?_;refine qf ?_)))
  ·exact ⟨1,⟨S,by rw [e10,if_pos (by assumption)]⟩,(qw)⟩
  ·exact ⟨0,⟨S,by rw [e10,if_neg (by assumption)]⟩,(qw)⟩
 clear S;rintro lo h ⟨S,rfl⟩;(repeat (refine qg ?_));first|refine zL (σ:=Unit) (fun _ h'=>Hs h0 h' [.blk b (JL r) 155,.blk b2 v.cs 28]) (fun _=>[(2,.pointer (some ⟨b2,0,none⟩)),(3,.pointer (some ⟨b,0,none⟩)),(4,.int .i64 0),(5,.int .u8 r.k),(7,.int .i64 (Qr r.k).lo),(8,.int .i64 ((Qr r.k).most p.tabs r))]) ?_ ?_
 ·all_goals (repeat' (first|refine qh rfl ?_|refine qj ?_|(refine qc 23 ?_;refine mv ?_;(first|(refine cS ?_ ?_<;>intro hc))<;>(refine qf ?_))))
  ·have h7:r.k=7:=by assumption
   have hT:QI p.tabs r.t:=zF2.1 fun q=>hut ((KG h18).2 (.inl ⟨by omega,q⟩));have hlt:=qaM hT;have hit:i=tix p.tabs r.t:=by
    rcases hi with ⟨z,e⟩|⟨z,e⟩
    ·exact e
    ·exact absurd hT z
   subst hit;have b1:=QH (tb p.tabs (tix p.tabs r.t));all_goals (repeat' (first|(refine qc 24 ?_;refine vl ?_;refine lB S rfl rfl ?_;refine mv ?_;refine jB S ?_;refine jA S ?_)))
   simp only [zA0];(refine qo rfl rfl rfl rfl rfl ((XA S.wf (tb p.tabs (tix p.tabs r.t))).mono ?_);rintro _ h ⟨rfl,x⟩)<;>(replace S:=S.join0 x;clear x;refine sb ?_;refine mv ?_;refine qf ?_)
   all_goals (repeat' (fail))
   exact ⟨(),S,by unfold Kd.most;rw [if_pos (e11.2 h7)];exact (qw)⟩
  ·exact ⟨(),S,by unfold Kd.most;rw [if_neg (fun q=>(by assumption:¬ r.k=7) (e11.1 q))];exact (qw)⟩
 clear S;rintro _ h S;all_goals (repeat' (first|refine qg ?_|(refine qc 25 ?_;refine mv ?_)))
 (refine qo rfl rfl rfl rfl rfl ((VX S.wf r.k).mono ?_);rintro _ h ⟨⟨rfl,z5⟩|⟨rfl,z5⟩,x⟩)<;>(replace S:=S.join0 x;clear x;refine mv ?_;(first|refine off ?_|(refine vl ?_));(first|refine off ?_|(refine lB S rfl rfl ?_));(first|refine off ?_|refine mv ?_);(first|refine off ?_|(first|(refine cS ?_ ?_<;>intro hc)))<;>((first|refine off ?_|refine mv ?_);(first|refine off ?_|(refine vl ?_));(first|refine off ?_|(refine lB S rfl rfl ?_));(first|refine off ?_|refine mv ?_);(first|refine off ?_|(first|(refine cS ?_ ?_<;>intro hc)))<;>((first|refine off ?_|refine vl ?_);refine vl ?_;refine qf ?_)))
 all_goals (all_goals (repeat' (first|refine qg ?_|refine qh rfl ?_|refine qj ?_|(refine qc 26 ?_;refine mv ?_;refine qf ?_)|(refine qc 27 ?_;refine mv ?_;refine qf ?_))))
 all_goals (refine qi ⟨_,rfl,?_⟩)
 all_goals first
  | exact ⟨by rw [if_pos ⟨e9.2 z5,.inl (by omega)⟩];rfl,S.drop⟩
  | exact ⟨by rw [if_pos ⟨e9.2 z5,.inr (by omega)⟩];rfl,S.drop⟩
  | exact ⟨by rw [if_neg (fun q=>by have:=q.2;omega)];rfl,S.drop⟩
  | exact ⟨by rw [if_neg (fun q=>z5 (e9.1 q.1))];rfl,S.drop⟩
end Go.Proofs.Xx
namespace Go.Proofs.Xx
open Go Go.Proofs
variable [Flag]
structure PbM (v:PbV) (p:Pb):Prop where
 cg:Qu v.vg.val
 few:p.us.length≤200∧p.ts.length≤600
 ru:∀ r∈p.ru,0≤r.k∧r.k≤255
theorem qab {h0:AH} (w:WfH h0) (v:PbV) (p:Pb) (H:PbOk h0 v p) (M:PbM v p):Fn Tryz.prog Xh 144 [v.val] h0 (fun u h'=>∃ i e,u = .tuple #[.int .i64 i,.int .i64 e]∧BasP p i e∧Hs h0 h' []):=by
 have S:=Hs.start w;have hr:=H.rol.rg;have hl:=H.rol.len;have hlg:=H.rol.lg;have hcr:=H.cl;have hcl:=H.lc;have hl':v.gs.length=p.us.length:=hl;have hlg':p.us.length≤9223372036854775807:=hlg;have htab:=H.tab.rd;have htl:=H.tab.len;unfold PbV.val;refine qF (by first|rfl) Tryz.func144 rfl rfl ?_;all_goals (repeat' (first|refine qg ?_|(refine qc 0 ?_;(refine bx S ?_;clear S;intro b h S);refine mv ?_;refine mv ?_;refine qf ?_)))
 obtain ⟨bp,hnm⟩:∃ x,x=b:=⟨_,rfl⟩;subst hnm;all_goals (repeat' (first|(refine qc 1 ?_;refine vl ?_;refine lB S rfl rfl ?_)))
 (refine qo rfl rfl rfl rfl rfl ((VZ S.wf v.vt.val p.tabs (H.tab.ext w S.ext)).mono ?_);rintro _ h ⟨i,e,rfl,hk,x⟩)<;>(replace S:=S.join0 x;clear x;refine mv ?_;refine vl ?_;refine vl ?_;refine mv ?_;refine mv ?_;refine qf ?_)
 all_goals (repeat' (first|refine qg ?_|refine qh rfl ?_|refine qj ?_|(refine qc 2 ?_;refine mv ?_;(first|(refine cS ?_ ?_<;>intro hc))<;>(refine qf ?_))|(refine qc 3 ?_;(iterate 4 refine mv ?_);refine qf ?_)))
 ·refine qi ⟨_,rfl,?_⟩;exact ⟨i,e,rfl,.inl ⟨by assumption,hk⟩,S.drop⟩
 have hv:ValidL p.tabs:=hk.valid.1 (by omega);all_goals (repeat' (first|(refine qc 4 ?_;refine vl ?_;refine lB S rfl rfl ?_;refine vl ?_;refine lB S rfl rfl ?_;refine vl ?_)))
 (refine qo rfl rfl rfl rfl rfl ((qaa S.wf v.rl p.rl (H.rol.ext w S.ext) M.cg M.few).mono ?_);rintro _ h ⟨⟨rfl,hq⟩|⟨i2,e2,rfl,hq⟩,x⟩)<;>(replace S:=S.join0 x;clear x;refine mv ?_;refine vl ?_;refine vl ?_;refine mv ?_;refine mv ?_;refine qf ?_)
 rotate_left
 ·all_goals (repeat' (first|refine qg ?_|refine qh rfl ?_|refine qj ?_|(refine qc 5 ?_;refine mv ?_;(first|(refine cS ?_ ?_<;>intro hc))<;>(refine qf ?_))|(refine qc 6 ?_;(iterate 4 refine mv ?_);refine qf ?_)))
  ·refine qi ⟨_,rfl,?_⟩;exact ⟨i2,e2,rfl,.inr (.inl ⟨hv,hq⟩),S.drop⟩
  ·exact absurd (by omega) hq.1
 have ho:RO p.rl:=Yt.1 hq;all_goals (repeat' (first|refine qg ?_|refine qh rfl ?_|refine qj ?_|(refine qc 5 ?_;refine mv ?_;(refine cF ?_)<;>(refine qf ?_))))
 (repeat (refine qg ?_));first|refine zL (σ:=Unit) (fun _ h'=>Hs h0 h' [.blk bp v.cs 28]∧(p.cl.length=0∨p.cl.length=p.us.length)) (fun _=>[(1,.pointer (some ⟨bp,0,none⟩))]) ?_ ?_
 ·have hl2:v.rl.gs.length=p.us.length:=hl;all_goals (repeat' (first|refine qg ?_|refine qh rfl ?_|refine qj ?_|(refine qc 7 ?_;refine vl ?_;refine lB S rfl rfl ?_;refine zT S ?_;(first|(refine cS ?_ ?_<;>intro hc))<;>(refine mv ?_;(first|refine off ?_|(refine vl ?_));(first|refine off ?_|(refine lB S rfl rfl ?_));(first|refine off ?_|(refine zT S ?_));(first|refine off ?_|(refine vl ?_));(first|refine off ?_|(refine lB S rfl rfl ?_));(first|refine off ?_|(refine zT S ?_));(first|refine off ?_|(first|(refine cS ?_ ?_<;>intro hc)))<;>(refine vl ?_;refine qf ?_)))|(refine qc 8 ?_;refine mv ?_;refine mv ?_;refine qf ?_)))
  ·refine qi ⟨_,rfl,?_⟩;exact ⟨0,44,rfl,.inr (.inr ⟨hv,ho,.inl ⟨fun q=>by have:=q.1;omega,rfl,rfl⟩⟩),S.drop⟩
  ·exact ⟨(),⟨S,by omega⟩,(qw)⟩
  ·exact ⟨(),⟨S,by omega⟩,(qw)⟩
 clear S;rintro _ h ⟨S,h1⟩;all_goals (repeat' (first|refine qg ?_|refine ql ?_|(refine qc 9 ?_;refine mv ?_;refine qf ?_)))
 refine qG (σ:=Nat) (fun i h'=>Hs h0 h' [.blk bp v.cs 28]∧i≤p.cl.length∧∀ j,j<i→0≤p.cl.getD j default∧p.cl.getD j default<64) (fun i=>p.cl.length - i) (fun i=>[(1,.pointer (some ⟨bp,0,none⟩)),(7,.int .i64 i)]) 0 qw ?_ ?_
 ·exact ⟨S,zB0 _,fun j hj=>absurd hj (zB7 _)⟩
 clear S;rintro i h ⟨S,k1,k2⟩;all_goals (repeat' (first|refine qg ?_|refine qh rfl ?_|refine qj ?_|refine qx ?_|refine ql ?_|(refine qc 10 ?_;refine mv ?_;refine vl ?_;refine lB S rfl rfl ?_;refine zT S ?_;(first|(refine cS ?_ ?_<;>intro hc))<;>(refine qf ?_))|(refine qc 12 ?_;refine vl ?_;refine lB S rfl rfl ?_;refine mv ?_;refine jB S ?_;refine jA S ?_;(first|(refine cS ?_ ?_<;>intro hc))<;>(refine mv ?_;(first|refine off ?_|(refine vl ?_));(first|refine off ?_|(refine lB S rfl rfl ?_));(first|refine off ?_|refine mv ?_);(first|refine off ?_|(refine jB S ?_));(first|refine off ?_|(refine jA S ?_));(first|refine off ?_|(first|(refine cS ?_ ?_<;>intro hc)))<;>(refine vl ?_;refine qf ?_)))|(refine qc 13 ?_;refine mv ?_;refine mv ?_;refine qf ?_)))
 ·refine qi ⟨_,rfl,?_⟩;exact ⟨0,44,rfl,.inr (.inr ⟨hv,ho,.inl ⟨fun q=>by have:=(q.2 _ (qL (show i<p.cl.length by omega))).1;simp only [zA0] at *;omega,rfl,rfl⟩⟩),S.drop⟩
 ·refine qi ⟨_,rfl,?_⟩;exact ⟨0,44,rfl,.inr (.inr ⟨hv,ho,.inl ⟨fun q=>by have:=(q.2 _ (qL (show i<p.cl.length by omega))).2;simp only [zA0] at *;omega,rfl,rfl⟩⟩),S.drop⟩
 ·(try simp only [zA0] at *)
  all_goals (repeat' (first|(refine qc 11 ?_;refine mv ?_;refine ad ?_;refine mv ?_;refine qf ?_)))
  refine ⟨i+1,?_,?_,qw⟩
  ·show p.cl.length - (i+1)<p.cl.length - i;omega
  ·exact ⟨S,by omega,jr k2 ⟨by omega,by omega⟩⟩
 have hco:(p.cl.length=0∨p.cl.length=p.us.length)∧∀ c∈p.cl,0≤c∧c<64:=⟨h1,fun c hc2=>by
  obtain ⟨j,hj,rfl⟩:=qR.1 hc2;exact k2 j (by omega)⟩
 have hs:=Zk p.tabs p.tabs.length;have hl2:v.rl.gs.length=p.us.length:=hl;(repeat (refine qg ?_));refine Zy (id:=14) [(1,(0,1))] [some (bp)] ?_;refine qp ?_;(first|(refine vl ?_<;>refine qf ⟨⟨by (first|exact True.intro),rfl⟩,?_⟩));refine qp ?_;(first|(refine lB S rfl rfl ?_<;>refine qf ⟨⟨by (first|exact Or.inr rfl),rfl⟩,?_⟩));refine qp ?_;(first|(refine zT S ?_<;>refine qf ⟨⟨by (first|exact True.intro),rfl⟩,?_⟩));refine qp ?_;(first|(refine vl ?_<;>refine qf ⟨⟨by (first|exact True.intro),rfl⟩,?_⟩));refine qp ?_;(first|(refine lB S rfl rfl ?_<;>refine qf ⟨⟨by (first|exact True.intro),rfl⟩,?_⟩));((refine qp ?_;first|refine qo rfl rfl rfl rfl rfl ((qad S.wf v.vt.val p.tabs (htab.ext w S.ext) htl).mono ?_));rintro _ h ⟨rfl,x⟩)<;>((refine qf ⟨⟨True.intro,?_⟩,?_⟩;(focus ((show keepsX _ _ _ _ _;simp only [keepsX];(repeat' (first|exact True.intro|refine And.intro ?_ ?_));all_goals (intro hw;first|exact x.ext.old _ S.bB)))));replace S:=S.join0 x;clear x;refine qp ?_;(first|((refine cS ?_ ?_<;>intro hc)<;>refine qf ⟨⟨by (first|exact True.intro),rfl⟩,?_⟩))<;>(refine Ji ?_))
 all_goals (all_goals (repeat' (first|refine qg ?_|refine qh rfl ?_|refine qj ?_|(refine qc 15 ?_;refine mv ?_;refine mv ?_;refine qf ?_))))
 ·refine qi ⟨_,rfl,?_⟩;exact ⟨0,45,rfl,.inr (.inr ⟨hv,ho,.inr ⟨hco,.inl ⟨by omega,rfl,rfl⟩⟩⟩),S.drop⟩
 ·all_goals (repeat' (first|(refine qc 16 ?_;refine mv ?_;refine mv ?_;refine qf ?_)))
  refine qi ⟨_,rfl,?_⟩;exact ⟨0,0,rfl,.inr (.inr ⟨hv,ho,.inr ⟨hco,.inr ⟨by omega,rfl,rfl⟩⟩⟩),S.drop⟩
theorem V4 {h0:AH} (w:WfH h0) (v:PbV) (p:Pb) (H:PbOk h0 v p) (M:PbM v p):Fn Tryz.prog Xh 100 [v.val] h0 (fun u h'=>∃ i e,u = .tuple #[.int .i64 i,.int .i64 e]∧CkP p i e∧Hs h0 h' []):=by
 have S:=Hs.start w;have hr:=H.ru;have hlr:=H.lr;unfold PbV.val;refine qF (by first|rfl) Tryz.func100 rfl rfl ?_;all_goals (repeat' (first|refine qg ?_|(refine qc 0 ?_;(refine bx S ?_;clear S;intro b h S);refine mv ?_;refine mv ?_;refine qf ?_)|(refine qc 1 ?_;refine lB S rfl rfl ?_)))
 obtain ⟨bp,hnm⟩:∃ x,x=b:=⟨_,rfl⟩;subst hnm;(refine qo rfl rfl rfl rfl rfl ((qab S.wf v p (H.ext w S.ext) M).mono ?_);rintro _ h ⟨i,e,rfl,hk,x⟩)<;>(replace S:=S.join0 x;clear x;refine mv ?_;refine vl ?_;refine vl ?_;refine mv ?_;refine mv ?_;refine qf ?_)
 all_goals (repeat' (first|refine qg ?_|refine qh rfl ?_|refine qj ?_|(refine qc 2 ?_;refine mv ?_;(first|(refine cS ?_ ?_<;>intro hc))<;>(refine qf ?_))|(refine qc 3 ?_;(iterate 4 refine mv ?_);refine qf ?_)))
 ·refine qi ⟨_,rfl,?_⟩;exact ⟨i,e,rfl,.inl ⟨by assumption,hk⟩,S.drop⟩
 have he:e=0:=by omega
 subst he;obtain ⟨hb,rfl⟩:=hk.bo;all_goals (repeat' (first|refine ql ?_|(refine qc 4 ?_;refine mv ?_;refine qf ?_)))
 refine qG (σ:=Nat) (fun i h'=>Hs h0 h' [.blk bp v.cs 28]∧i≤p.ru.length∧i≤64∧∀ j,j<i→xX p (p.ru.getD j default)=0) (fun i=>p.ru.length - i) (fun i=>[(1,.pointer (some ⟨bp,0,none⟩)),(6,.int .i64 i)]) 0 qw ?_ ?_
 ·exact ⟨S,zB0 _,zB0 _,fun j hj=>absurd hj (zB7 _)⟩
 clear S;rintro i h ⟨S,k1,k3,k2⟩;all_goals (repeat' (first|refine qg ?_|refine qh rfl ?_|refine qj ?_|refine qx ?_|refine ql ?_|(refine qc 5 ?_;refine mv ?_;refine vl ?_;refine lB S rfl rfl ?_;refine zT S ?_;(first|(refine cS ?_ ?_<;>intro hc))<;>(refine qf ?_))))
 ·have hi:i<p.ru.length:=by omega
  all_goals (repeat' (first|(refine qQ 7 ?_;refine lB S rfl rfl ?_;refine vl ?_;refine lB S rfl rfl ?_;refine mv ?_;refine jB S ?_;refine jA S ?_)))
  (try simp only [zA0] at *)
  obtain ⟨r,hre⟩:∃ r,p.ru.getD i default=r:=⟨_,rfl⟩
  have hrk:=M.ru r (by rw [← hre];exact qL hi);rw [hre];(refine qo rfl rfl rfl rfl rfl ((Gq S.wf v p (H.ext w S.ext) r hrk).mono ?_);rintro _ h ⟨rfl,x⟩)<;>(replace S:=S.join0 x;clear x;refine mv ?_;refine qf ?_)
  all_goals (repeat' (first|refine qg ?_|refine qh rfl ?_|refine qj ?_|(refine qc 8 ?_;refine mv ?_;(first|(refine cS ?_ ?_<;>intro hc))<;>(refine qf ?_))|(refine qc 9 ?_;(iterate 4 refine mv ?_);refine qf ?_)|(refine qc 10 ?_;refine mv ?_;(first|(refine cS ?_ ?_<;>intro hc))<;>(refine qf ?_))|(refine qc 11 ?_;(iterate 3 refine mv ?_);refine qf ?_)))
  ·refine qi ⟨_,rfl,?_⟩;exact ⟨i,_,rfl,.inr ⟨hb,.inl ⟨i,hi,rfl,k3,k2,.inl ⟨by rw [hre];assumption,by rw [hre]⟩⟩⟩,S.drop⟩
  ·refine qi ⟨_,rfl,?_⟩;exact ⟨i,7,rfl,.inr ⟨hb,.inl ⟨i,hi,rfl,k3,k2,.inr ⟨by rw [hre];omega,by omega,rfl⟩⟩⟩,S.drop⟩
  ·all_goals (repeat' (first|(refine qc 6 ?_;refine mv ?_;refine ad ?_;refine mv ?_;refine qf ?_)))
   refine ⟨i+1,?_,?_,qw⟩
   ·show p.ru.length - (i+1)<p.ru.length - i;omega
   ·exact ⟨S,by omega,by omega,jr k2 (by rw [hre];omega)⟩
 ·all_goals (repeat' (first|(refine qc 12 ?_;refine mv ?_;refine mv ?_;refine qf ?_)))
  refine qi ⟨_,rfl,?_⟩;exact ⟨0,0,rfl,.inr ⟨hb,.inr ⟨by omega,fun j hj=>k2 j (by omega),rfl,rfl⟩⟩,S.drop⟩
end Go.Proofs.Xx
namespace Go.Proofs.Xx
open Go Go.Proofs
variable [Flag]
structure qdH (h:AH) (v:PbV) (p:Pb):Prop where
 ok:PbOk h v p
 op:∀ i,i<p.tabs.length→(p.tabs.getD i default).opn.length*8≤140737488351232
 tg:∀ i,i<v.gs.length→(v.gs.getD i default).tg.length≤8796093021952
 few:p.tabs.length≤1000∧p.us.length≤1000∧p.ts.length≤1000∧p.cl.length≤1000∧p.ru.length≤1000
abbrev pbL (v:PbV) (p:Pb):List Rs:=[.sl v.vt.val 84 7 eT p.tabs,zY Vo p.tabs,.sl v.vg.val 125 9 eG v.gs,tgO v.gs,.sl v.vi.val 174 3 Qa p.ts,.sl v.vc.val 3 1 eI p.cl,.sl v.vr.val 155 6 JL p.ru]
theorem qes {h0:AH} (w:WfH h0) (v:PbV) (p:Pb) (H:qdH h0 v p):Fn Tryz.prog Xh 23 [v.val] h0 (fun u h'=>∃ (v':PbV) (tabs:List Tab),u=v'.val∧tabs.map (·.toC)=p.tabs.map (·.toC)∧v'.gs.map (·.toGu)=p.us∧Hs h0 h' (pbL v' { p with tabs:=tabs })):=by
 have S:=Hs.start w;obtain ⟨f1,f2,f3,f4,f5⟩:=H.few;have hgl:v.gs.length=p.us.length:=by have e:=congrArg List.length H.ok.rol.us;simpa using e
 unfold PbV.val;refine qF (by first|rfl) Tryz.func23 rfl rfl ?_;all_goals (repeat' (first|refine qg ?_|(refine qc 0 ?_;(refine bx S ?_;clear S;intro b h S);(refine al S ?_;clear S;intro b h S);refine qf ?_)))
 obtain ⟨b2,hnm⟩:∃ x,x=b:=⟨_,rfl⟩;subst hnm;obtain ⟨b1,hnm⟩:∃ x,x=b:=⟨_,rfl⟩;subst hnm;(repeat (refine qg ?_));refine Zy (id:=1) [(4,(0,1)),(7,(0,2)),(10,(0,3)),(13,(0,4))] [some (b1),some (b1),some (b1),some (b1)] ?_;refine qp ?_;(first|(refine vl ?_<;>refine qf ⟨⟨by (first|exact True.intro),rfl⟩,?_⟩));refine qp ?_;(first|(refine lB S rfl rfl ?_<;>refine qf ⟨⟨by (first|exact True.intro),rfl⟩,?_⟩));((refine qp ?_;first|refine qo rfl rfl rfl rfl rfl ((qbQ S.wf v.vt.val p.tabs (H.ok.tab.rd.ext w S.ext) (fun i hi=>⟨(H.ok.tab.tab i hi).1.ext w S.ext,H.op i hi⟩) (by omega)).mono ?_));rintro _ h ⟨vt,tabs,rfl,g1,x⟩)<;>((refine qf ⟨⟨True.intro,?_⟩,?_⟩;(focus ((show keepsX _ _ _ _ _;simp only [keepsX];(repeat' (first|exact True.intro|refine And.intro ?_ ?_));all_goals (intro hw;first|exact x.ext.old _ S.bB)))));replace S:=S.join2 x;clear x;refine qp ?_;(first|(refine vl ?_<;>refine qf ⟨⟨by (first|exact True.intro),rfl⟩,?_⟩));refine qp ?_;(first|(refine lB S rfl rfl ?_<;>refine qf ⟨⟨by (first|exact Or.inr rfl),rfl⟩,?_⟩)))
 ((refine qp ?_;first|refine qo rfl rfl rfl rfl rfl ((qc0 S.wf v.vg.val v.gs (H.ok.rol.rg.ext w S.ext) (fun i hi=>⟨(H.ok.rol.tg i hi).1.ext w S.ext,H.tg i hi⟩) (by omega)).mono ?_));rintro _ h ⟨vg,gs,rfl,g2,x⟩)<;>((refine qf ⟨⟨True.intro,?_⟩,?_⟩;(focus ((show keepsX _ _ _ _ _;simp only [keepsX];(repeat' (first|exact True.intro|refine And.intro ?_ ?_));all_goals (intro hw;first|exact absurd hw (by decide +kernel)|exact x.ext.old _ S.bB)))));replace S:=S.join2 x;clear x;refine qp ?_;(first|(refine vl ?_<;>refine qf ⟨⟨by (first|exact True.intro),rfl⟩,?_⟩));refine qp ?_;(first|(refine lB S rfl rfl ?_<;>refine qf ⟨⟨by (first|exact Or.inr rfl),rfl⟩,?_⟩)))
 ((refine qp ?_;first|refine qo rfl rfl rfl rfl rfl ((qer S.wf v.vi.val p.ts (H.ok.rol.rt.ext w S.ext) (by omega)).mono ?_));rintro u h x)<;>((refine qf ⟨⟨True.intro,?_⟩,?_⟩;(focus ((show keepsX _ _ _ _ _;simp only [keepsX];(repeat' (first|exact True.intro|refine And.intro ?_ ?_));all_goals (intro hw;first|exact absurd hw (by decide +kernel)|exact x.ext.old _ S.bB)))));replace S:=S.join1 x;clear x;obtain ⟨vi,rfl⟩:=S.sV u;refine qp ?_;(first|(refine vl ?_<;>refine qf ⟨⟨by (first|exact True.intro),rfl⟩,?_⟩));refine qp ?_;(first|(refine lB S rfl rfl ?_<;>refine qf ⟨⟨by (first|exact Or.inr rfl),rfl⟩,?_⟩)))
 ((refine qp ?_;first|refine qo rfl rfl rfl rfl rfl ((qbR S.wf v.vc.val p.cl (H.ok.cl.ext w S.ext) (by omega)).mono ?_));rintro u h x)<;>((refine qf ⟨⟨True.intro,?_⟩,?_⟩;(focus ((show keepsX _ _ _ _ _;simp only [keepsX];(repeat' (first|exact True.intro|refine And.intro ?_ ?_));all_goals (intro hw;first|exact absurd hw (by decide +kernel)|exact x.ext.old _ S.bB)))));replace S:=S.join1 x;clear x;obtain ⟨vc,rfl⟩:=S.sV u;refine qp ?_;(first|(refine vl ?_<;>refine qf ⟨⟨by (first|exact True.intro),rfl⟩,?_⟩));refine qp ?_;(first|(refine lB S rfl rfl ?_<;>refine qf ⟨⟨by (first|exact Or.inr rfl),rfl⟩,?_⟩)))
 ((refine qp ?_;first|refine qo rfl rfl rfl rfl rfl ((qcZ S.wf v.vr.val p.ru (H.ok.ru.ext w S.ext) (by omega)).mono ?_));rintro u h x)<;>((refine qf ⟨⟨True.intro,?_⟩,?_⟩;(focus ((show keepsX _ _ _ _ _;simp only [keepsX];(repeat' (first|exact True.intro|refine And.intro ?_ ?_));all_goals (intro hw;first|exact absurd hw (by decide +kernel))))));replace S:=S.join1 x;clear x;obtain ⟨vr,rfl⟩:=S.sV u;refine qp ?_;(first|(refine vl ?_<;>refine qf ⟨⟨by (first|exact True.intro),rfl⟩,?_⟩));refine qp ?_;(first|((refine sB S rfl rfl ?_;have S0:=S;clear S;intro h S);refine qf ⟨⟨True.intro,?_⟩,?_⟩;(focus ((show keepsX _ _ _ _ _;simp only [keepsX];(repeat' (first|exact True.intro|refine And.intro ?_ ?_));all_goals (intro hw;first|exact absurd hw (by decide +kernel)))));clear S0));refine Ji ?_)
 all_goals (repeat' (fail))
 refine qi ⟨_,jE S rfl (by first|exact .there (.there (.there (.there (.there (.there (.there .here))))))) (by exact rfl) (by exact rfl),?_⟩;refine ⟨⟨vt,vg,vi,vc,vr,gs⟩,tabs,rfl,g1,g2.trans H.ok.rol.us,?_⟩;exact (show Hs h0 h [.sl vt.val 84 7 eT tabs,zY Vo tabs,.sl vg.val 125 9 eG gs,tgO gs,.sl vi.val 174 3 Qa p.ts,.sl vc.val 3 1 eI p.cl,.sl vr.val 155 6 JL p.ru] from S.pick)
end Go.Proofs.Xx
namespace Go.Proofs.Xx
open Go Go.Proofs
variable [Flag]
def qeL (p q:Pb):Prop:=p.tabs.map (·.toC)=q.tabs.map (·.toC)∧p.us=q.us∧p.ts=q.ts∧p.cl=q.cl∧p.ru=q.ru
theorem PV {h0:AH} (w:WfH h0) (v u:PbV) (p q:Pb) (H:PbOk h0 v p) (K:PbOk h0 u q):Fn Tryz.prog Xh 48 [v.val,u.val] h0 (fun x h'=>qI x (qeL p q)∧Hs h0 h' []):=by
 have S:=Hs.start w;have e1:=H.rol.len;have e2:=K.rol.len;have l1:=H.rol.lg;have l2:=K.rol.lg;have us1:v.gs.map (·.toGu)=p.us:=H.rol.us;have us2:u.gs.map (·.toGu)=q.us:=K.rol.us;have g1:v.gs.length≤9223372036854775807:=zD0 (Nat.le_of_eq H.rol.len) H.rol.lg;have g2:u.gs.length≤9223372036854775807:=zD0 (Nat.le_of_eq K.rol.len) K.rol.lg;have k1:=H.tab.len;have k2:=K.tab.len;have m1:=H.lc;have m2:=K.lc;have n1:=H.lr;have n2:=K.lr;have t1:p.ts.length≤9223372036854775807:=H.rol.lt;have t2:q.ts.length≤9223372036854775807:=K.rol.lt;unfold PbV.val;refine qF (by first|rfl) Tryz.func48 rfl rfl ?_;all_goals (repeat' (first|refine qg ?_|(refine qc 0 ?_;(refine bx S ?_;clear S;intro b h S);(refine bx S ?_;clear S;intro b h S);refine mv ?_;refine qf ?_)|(refine qc 1 ?_;refine vl ?_;refine lB S rfl rfl ?_;refine vl ?_;refine lB S rfl rfl ?_)))
 (refine qo rfl rfl rfl rfl rfl ((Gh S.wf v.vt.val u.vt.val p.tabs q.tabs (H.tab.rd.ext w S.ext) (K.tab.rd.ext w S.ext) (fun i hi=>⟨(H.tab.tab i hi).1.ext w S.ext,(H.tab.tab i hi).2.2⟩) (fun i hi=>⟨(K.tab.tab i hi).1.ext w S.ext,(K.tab.tab i hi).2.2⟩) (by omega) (by omega)).mono ?_);rintro _ h ⟨⟨rfl,z1⟩|⟨rfl,z1⟩,x⟩)<;>(replace S:=S.join0 x;clear x;refine mv ?_;(first|refine off ?_|(refine vl ?_));(first|refine off ?_|(refine lB S rfl rfl ?_));(first|refine off ?_|(refine vl ?_));(first|refine off ?_|(refine lB S rfl rfl ?_));(first|(refine off ?_;refine vl ?_;refine mv ?_;refine off ?_;refine off ?_;refine off ?_;refine off ?_;(first|(refine off ?_;refine vl ?_;refine mv ?_;refine off ?_;refine off ?_;refine off ?_;refine off ?_;(first|(refine off ?_;refine vl ?_;refine mv ?_;refine off ?_;refine off ?_;refine off ?_;refine off ?_;(first|(refine off ?_;refine vl ?_;refine mv ?_;refine qf ?_)))))))|skip))
 rotate_left
 ·all_goals (repeat' (fail))
  refine qi ⟨_,rfl,?_⟩;exact ⟨.inr ⟨rfl,fun e=>z1 e.1⟩,S.drop⟩
 (refine qo rfl rfl rfl rfl rfl ((xm S.wf v.vg.val u.vg.val v.gs u.gs (H.rol.rg.ext w S.ext) (K.rol.rg.ext w S.ext) (fun i hi=>⟨(H.rol.tg i hi).1.ext w S.ext,(H.rol.tg i hi).2⟩) (fun i hi=>⟨(K.rol.tg i hi).1.ext w S.ext,(K.rol.tg i hi).2⟩) g1 g2).mono ?_);rintro _ h ⟨⟨rfl,z2⟩|⟨rfl,z2⟩,x⟩)<;>(replace S:=S.join0 x;clear x;refine vl ?_;refine mv ?_;(first|refine off ?_|(refine vl ?_));(first|refine off ?_|(refine lB S rfl rfl ?_));(first|refine off ?_|(refine vl ?_));(first|refine off ?_|(refine lB S rfl rfl ?_));(first|(refine off ?_;refine vl ?_;refine mv ?_;refine off ?_;refine off ?_;refine off ?_;refine off ?_;(first|(refine off ?_;refine vl ?_;refine mv ?_;refine off ?_;refine off ?_;refine off ?_;refine off ?_;(first|(refine off ?_;refine vl ?_;refine mv ?_;refine qf ?_)))))|skip))
 rotate_left
 ·all_goals (repeat' (fail))
  refine qi ⟨_,rfl,?_⟩;exact ⟨.inr ⟨rfl,fun e=>z2 (by rw [us1,us2];exact e.2.1)⟩,S.drop⟩
 (refine qo rfl rfl rfl rfl rfl ((kC S.wf v.vi.val u.vi.val p.ts q.ts (H.rol.rt.ext w S.ext) (K.rol.rt.ext w S.ext) t1 t2).mono ?_);rintro _ h ⟨⟨rfl,z3⟩|⟨rfl,z3⟩,x⟩)<;>(replace S:=S.join0 x;clear x;refine vl ?_;refine mv ?_;(first|refine off ?_|(refine vl ?_));(first|refine off ?_|(refine lB S rfl rfl ?_));(first|refine off ?_|(refine vl ?_));(first|refine off ?_|(refine lB S rfl rfl ?_));(first|(refine off ?_;refine vl ?_;refine mv ?_;refine off ?_;refine off ?_;refine off ?_;refine off ?_;(first|(refine off ?_;refine vl ?_;refine mv ?_;refine qf ?_)))|skip))
 rotate_left
 ·all_goals (repeat' (fail))
  refine qi ⟨_,rfl,?_⟩;exact ⟨.inr ⟨rfl,fun e=>z3 e.2.2.1⟩,S.drop⟩
 (refine qo rfl rfl rfl rfl rfl ((Y8 S.wf v.vc.val u.vc.val p.cl q.cl (H.cl.ext w S.ext) (K.cl.ext w S.ext) (by omega) (by omega)).mono ?_);rintro _ h ⟨⟨rfl,z4⟩|⟨rfl,z4⟩,x⟩)<;>(replace S:=S.join0 x;clear x;refine vl ?_;refine mv ?_;(first|refine off ?_|(refine vl ?_));(first|refine off ?_|(refine lB S rfl rfl ?_));(first|refine off ?_|(refine vl ?_));(first|refine off ?_|(refine lB S rfl rfl ?_));(first|(refine off ?_;refine vl ?_;refine mv ?_;refine qf ?_)|skip))
 rotate_left
 ·all_goals (repeat' (fail))
  refine qi ⟨_,rfl,?_⟩;exact ⟨.inr ⟨rfl,fun e=>z4 e.2.2.2.1⟩,S.drop⟩
 (refine qo rfl rfl rfl rfl rfl ((yX S.wf v.vr.val u.vr.val p.ru q.ru (H.ru.ext w S.ext) (K.ru.ext w S.ext) (by omega) (by omega)).mono ?_);rintro _ h ⟨⟨rfl,z5⟩|⟨rfl,z5⟩,x⟩)<;>(replace S:=S.join0 x;clear x;refine vl ?_;refine mv ?_;refine qf ?_)
 rotate_left
 ·all_goals (repeat' (fail))
  refine qi ⟨_,rfl,?_⟩;exact ⟨.inr ⟨rfl,fun e=>z5 e.2.2.2.2⟩,S.drop⟩
 all_goals (repeat' (fail))
 refine qi ⟨_,rfl,?_⟩;exact ⟨.inl ⟨rfl,z1,by rw [← us1,← us2];exact z2,z3,z4,z5⟩,S.drop⟩
end Go.Proofs.Xx
namespace Go.Proofs.Xx
open Go Go.Proofs
variable [Flag]
structure PbZ (h:AH) (v:PbV) (p:Pb):Prop where
 tr:qY h v.vt.val 7 eT p.tabs
 tt:∀ i,i<p.tabs.length→TabR h (tb p.tabs i)
 tc:Qu v.vt.val
 op:∀ i,i<p.tabs.length→(p.tabs.getD i default).opn.length*8≤140737488351232
 rol:RlOk h v.rl p.rl
 gc:Qu v.vg.val
 tg:∀ i,i<v.gs.length→(v.gs.getD i default).tg.length≤8796093021952
 cl:qY h v.vc.val 1 eI p.cl
 ru:qY h v.vr.val 6 JL p.ru
 rk:∀ r∈p.ru,0≤r.k∧r.k≤255
 lt:p.tabs.length≤9223372036854775807
 lc:p.cl.length≤9223372036854775807
 lr:p.ru.length≤9223372036854775807
theorem PbZ.ext {h h':AH} {v:PbV} {p:Pb} (a:PbZ h v p) (w:WfH h) (x:Ext h h'):PbZ h' v p:=⟨a.tr.ext w x,fun i hi=>(a.tt i hi).ext w x,a.tc,a.op,a.rol.ext w x,a.gc,a.tg,a.cl.ext w x,a.ru.ext w x,a.rk,a.lt,a.lc,a.lr⟩
def Ky (p:Pb) (n:Nat):Prop:=p.tabs.length≤n∧p.us.length≤n∧p.ts.length≤n∧p.cl.length≤n∧p.ru.length≤n
theorem PbZ.ok {h:AH} {v:PbV} {p:Pb} (a:PbZ h v p) (f:Ky p 20):PbOk h v p:=⟨⟨a.tr,a.tt,by have:=f.1;omega,a.tc⟩,a.rol,a.cl,a.ru,by have:=f.2.2.2.1;omega,by have:=f.2.2.2.2;omega⟩
theorem PbZ.fit {h:AH} {v:PbV} {p:Pb} (a:PbZ h v p) (f:Ky p 20):qdH h v p:=⟨a.ok f,a.op,a.tg,by obtain ⟨f1,f2,f3,f4,f5⟩:=f;omega⟩
theorem PbZ.m {h:AH} {v:PbV} {p:Pb} (a:PbZ h v p) (f:Ky p 20):PbM v p:=⟨a.gc,by obtain ⟨f1,f2,f3,f4,f5⟩:=f;omega,a.rk⟩
theorem qcE {h0:AH} (w:WfH h0) (pv:PbV) (p:Pb) (H:PbZ h0 pv p) (n:Nat) :
 Fn Tryz.prog Xh 20 [pv.val,.int .i64 n] h0 (fun u h'=>qI u (Ky p n)∧Hs h0 h' []):=by
 have S:=Hs.start w;have h1:=H.tr;have h2:=H.rol.rg;have h3:qY h0 pv.vi.val 3 Qa p.ts:=H.rol.rt;have h4:=H.cl;have h5:=H.ru;have e:pv.gs.length=p.us.length:=H.rol.len;have e2:pv.rl.gs.length=p.us.length:=H.rol.len;unfold PbV.val;refine qF (by first|rfl) Tryz.func20 rfl rfl ?_;all_goals (repeat' (first|refine qg ?_|(refine qc 0 ?_;(refine bx S ?_;clear S;intro b h S);refine mv ?_;refine qf ?_)|(refine qc 1 ?_;refine vl ?_;refine lB S rfl rfl ?_;refine zT S ?_;refine mv ?_;(first|(refine cS ?_ ?_<;>intro hc))<;>(refine mv ?_;(first|refine off ?_|(refine vl ?_));(first|refine off ?_|(refine lB S rfl rfl ?_));(first|refine off ?_|(refine zT S ?_));(first|refine off ?_|refine mv ?_);(first|refine off ?_|(first|(refine cS ?_ ?_<;>intro hc)))<;>(refine vl ?_;refine mv ?_;(first|refine off ?_|(refine vl ?_));(first|refine off ?_|(refine lB S rfl rfl ?_));(first|refine off ?_|(refine zT S ?_));(first|refine off ?_|refine mv ?_);(first|refine off ?_|(first|(refine cS ?_ ?_<;>intro hc)))<;>(refine vl ?_;refine mv ?_;(first|refine off ?_|(refine vl ?_));(first|refine off ?_|(refine lB S rfl rfl ?_));(first|refine off ?_|(refine zT S ?_));(first|refine off ?_|refine mv ?_);(first|refine off ?_|(first|(refine cS ?_ ?_<;>intro hc)))<;>(refine vl ?_;refine mv ?_;(first|refine off ?_|(refine vl ?_));(first|refine off ?_|(refine lB S rfl rfl ?_));(first|refine off ?_|(refine zT S ?_));(first|refine off ?_|refine mv ?_);(first|refine off ?_|(first|(refine cS ?_ ?_<;>intro hc)))<;>(refine vl ?_;refine mv ?_;refine qf ?_))))))))
 all_goals (refine qi ⟨_,rfl,?_⟩)
 all_goals (refine ⟨?_,S.drop⟩;unfold qI Ky)
 all_goals first|exact .inl ⟨rfl,by omega⟩|exact .inr ⟨rfl,by omega⟩
theorem qcR {h0:AH} (w:WfH h0) (v:Value) (l:List Int) (r:qY h0 v 1 eI l):Fn Tryz.prog Xh 22 [v] h0 (fun u h'=>qI u (30<l.length)∧Hs h0 h' []):=by
 have S:=Hs.start w;refine qF (by first|rfl) Tryz.func22 rfl rfl ?_;all_goals (repeat' (first|refine qg ?_|(refine qc 0 ?_;refine mv ?_;refine qf ?_)|(refine qc 1 ?_;refine mv ?_;refine zT S ?_;(first|(refine cS ?_ ?_<;>intro hc))<;>(refine mv ?_;refine qf ?_))))
 all_goals (refine qi ⟨_,rfl,?_⟩)
 all_goals (refine ⟨?_,S.drop⟩;unfold qI)
 all_goals first|exact .inl ⟨rfl,by omega⟩|exact .inr ⟨rfl,by omega⟩
theorem qdf {h0:AH} (w:WfH h0) (v:Value) (rows:List qaF) (r:qY h0 v 1 qen rows) (rr:∀ i,i<rows.length→qY h0 (rows.getD i default).sv.val 1 eI (rows.getD i default).r) (hl:rows.length≤1000) :
 Fn Tryz.prog Xh 69 [v,.func (.func 22) #[] #[]] h0 (fun u h'=>Kw u (fun i=>30<(rows.getD i default).r.length) rows.length∧Hs h0 h' []):=by
 have S:=Hs.start w;refine qF (by first|rfl) Tryz.func69 rfl rfl ?_;all_goals (repeat' (first|refine qg ?_|refine ql ?_|(refine qc 0 ?_;refine mv ?_;refine qf ?_)|(refine qc 1 ?_;refine mv ?_;refine zT S ?_;refine mv ?_;refine qf ?_)))
 refine qG (σ:=Nat) (fun i h'=>Hs h0 h' []∧i≤rows.length∧(∀ j,j<i→¬ 30<(rows.getD j default).r.length)) (fun i=>rows.length - i) (fun i=>[(0,v),(1,.func (.func 22) #[] #[]),(7,.int .i64 rows.length),(8,.int .i64 i)]) 0 qw ?_ ?_
 ·exact ⟨S,zB0 _,fun j hj=>absurd hj (zB7 _)⟩
 clear S;rintro i h ⟨S,g1,g2⟩;all_goals (repeat' (first|refine qg ?_|refine qh rfl ?_|refine qj ?_|refine qx ?_|refine ql ?_|(refine qc 2 ?_;(first|(refine cS ?_ ?_<;>intro hc))<;>(refine qf ?_))))
 ·have hi:i<rows.length:=by omega
  have ri:=(rr i hi).ext w S.ext;all_goals (repeat' (first|refine qg ?_|(refine qc 3 ?_;refine mv ?_;refine mv ?_;refine qf ?_)|(refine qc 4 ?_;(iterate 3 refine mv ?_);refine jB S ?_;refine jA S ?_)))
  simp only [zA0];(refine jX rfl rfl rfl rfl ((qcR S.wf (rows.getD i default).sv.val (rows.getD i default).r ri).mono ?_);rintro _ h ⟨⟨rfl,z⟩|⟨rfl,z⟩,x⟩)<;>(replace S:=S.join0 x;clear x;refine qf ?_)
  ·all_goals (repeat' (first|refine qg ?_|refine qh rfl ?_|(refine qc 5 ?_;refine mv ?_;refine mv ?_;refine qf ?_)))
   refine qi ⟨_,rfl,?_⟩;exact ⟨.inl ⟨i,hi,rfl,z,g2⟩,S⟩
  ·all_goals (repeat' (first|refine qh rfl ?_|refine qj ?_|(refine qc 6 ?_;refine ad ?_;refine mv ?_;refine qf ?_)))
   refine ⟨i+1,?_,?_,qw⟩
   ·show rows.length - (i+1)<rows.length - i;omega
   ·exact ⟨S,by omega,jr g2 z⟩
 ·all_goals (repeat' (first|(refine qc 7 ?_;refine mv ?_;refine qf ?_)))
  refine qi ⟨_,rfl,?_⟩;exact ⟨.inr ⟨rfl,fun j hj=>g2 j (by omega)⟩,S⟩
theorem qdg {h0:AH} (w:WfH h0) (v:Value) (rows:List qaF) (r:qY h0 v 1 qen rows) (rr:∀ i,i<rows.length→qY h0 (rows.getD i default).sv.val 1 eI (rows.getD i default).r) (hl:rows.length≤1000) :
 Fn Tryz.prog Xh 21 [v,.func (.func 22) #[] #[]] h0 (fun u h'=>qI u (∃ i,i<rows.length∧30<(rows.getD i default).r.length)∧Hs h0 h' []):=by
 have S:=Hs.start w;refine qF (by first|rfl) Tryz.func21 rfl rfl ?_;all_goals (repeat' (first|refine qg ?_|(refine qc 0 ?_;refine mv ?_;refine qf ?_)|(refine qc 1 ?_;refine mv ?_;refine mv ?_)))
 (refine qo rfl rfl rfl rfl rfl ((qdf S.wf v rows r rr hl).mono ?_);rintro _ h ⟨⟨i,hi,rfl,z,-⟩|⟨rfl,z⟩,x⟩)<;>(replace S:=S.join0 x;clear x;(first|refine cT ?_|refine cF ?_)<;>(refine mv ?_;refine qf ?_))
 all_goals (all_goals (repeat' (fail)))
 all_goals (refine qi ⟨_,rfl,?_⟩)
 all_goals (refine ⟨?_,S.drop⟩;unfold qI)
 ·exact .inl ⟨rfl,i,hi,z⟩
 ·exact .inr ⟨rfl,fun ⟨j,hj,z2⟩=>z j hj z2⟩
theorem qcD {h0:AH} (w:WfH h0) (pv:PbV) (p:Pb) (H:PbZ h0 pv p) (v:Value) (rows:List qaF) (r:qY h0 v 1 qen rows) (rr:∀ i,i<rows.length→qY h0 (rows.getD i default).sv.val 1 eI (rows.getD i default).r) (hl:rows.length≤1000) :
 Fn Tryz.prog Xh 6 [pv.val,v] h0 (fun u h'=>qI u (p.tabs.length≤5∧Ky p 20∧∀ i,i<rows.length→(rows.getD i default).r.length≤30)∧Hs h0 h' []):=by
 have S:=Hs.start w;have h1:=H.tr;unfold PbV.val;refine qF (by first|rfl) Tryz.func6 rfl rfl ?_;all_goals (repeat' (first|refine qg ?_|(refine qc 0 ?_;(refine bx S ?_;clear S;intro b h S);refine mv ?_;refine qf ?_)|(refine qc 1 ?_;refine vl ?_;refine lB S rfl rfl ?_;refine zT S ?_;(first|(refine cS ?_ ?_<;>intro hc))<;>(refine mv ?_;(first|refine off ?_|(refine lB S rfl rfl ?_));(first|(refine off ?_;refine vl ?_;refine mv ?_;refine off ?_;(first|(refine off ?_;refine off ?_;refine vl ?_;refine mv ?_;refine qf ?_)))|skip)))))
 all_goals (try ((refine qo rfl rfl rfl rfl rfl ((qcE S.wf pv p (H.ext w S.ext) 20).mono ?_);rintro _ h ⟨⟨rfl,z1⟩|⟨rfl,z1⟩,x⟩)<;>(replace S:=S.join0 x;clear x;refine vl ?_;refine mv ?_;(first|refine off ?_|refine mv ?_);(first|(refine off ?_;refine off ?_;refine vl ?_;refine mv ?_;refine qf ?_)|skip))))
 all_goals (try ((refine qo rfl rfl rfl rfl rfl ((qdg S.wf v rows (r.ext w S.ext) (fun i hi=>(rr i hi).ext w S.ext) hl).mono ?_);rintro _ h ⟨⟨rfl,z2⟩|⟨rfl,z2⟩,x⟩)<;>(replace S:=S.join0 x;clear x;refine vl ?_;refine vl ?_;refine mv ?_;refine qf ?_)))
 all_goals (all_goals (repeat' (fail)))
 all_goals (refine qi ⟨_,rfl,?_⟩)
 all_goals (refine ⟨?_,S.drop⟩;unfold qI)
 all_goals first
  | exact .inl ⟨rfl,by omega,z1,fun i hi=>Nat.le_of_not_lt fun q=>z2 ⟨i,hi,q⟩⟩
  | exact .inr ⟨rfl,fun q=>z1 q.2.1⟩
  | exact .inr ⟨rfl,fun q=>by obtain ⟨i,hi,h3⟩:=z2;have:=q.2.2 i hi;omega⟩
  | exact .inr ⟨rfl,fun q=>by have:=q.1;omega⟩
theorem BasP.uniq {p:Pb} {i e i' e':Int} (a:BasP p i e) (b:BasP p i' e'):e=e':=by
 by_cases hb:BO p
 ·rw [(hb.basP a).2,(hb.basP b).2]
 rcases a with ⟨h1,h2⟩|⟨h1,h2⟩|⟨h1,h2,h3⟩<;>rcases b with ⟨g1,g2⟩|⟨g1,g2⟩|⟨g1,g2,g3⟩
 ·exact (h2.uniq g2).2
 ·exact absurd (h2.valid.2 g1) h1
 ·exact absurd (h2.valid.2 g1) h1
 ·exact absurd (g2.valid.2 h1) g1
 ·exact (h2.uniq g2).2
 ·exact absurd (Yt.2 g2) h2.not
 ·exact absurd (g2.valid.2 h1) g1
 ·exact absurd (Yt.2 h2) g2.not
 ·rcases h3 with ⟨h3,h4,h5⟩|⟨h3,h4⟩<;>rcases g3 with ⟨g3,g4,g5⟩|⟨g3,g4⟩
  ·omega
  ·exact absurd g3 h3
  ·exact absurd h3 g3
  ·omega
theorem CkP.uniq {p:Pb} {i e i' e':Int} (a:CkP p i e) (b:CkP p i' e'):e=e':=by
 rcases a with ⟨h1,h2⟩|⟨h1,h2⟩<;>rcases b with ⟨g1,g2⟩|⟨g1,g2⟩
 ·exact h2.uniq g2
 ·exact absurd (g1.basP h2).2 h1
 ·exact absurd (h1.basP g2).2 g1
 ·rcases h2 with ⟨j,k1,k2,k3,k4,k5⟩|⟨k1,k2,k3,k4⟩<;>rcases g2 with ⟨m,l1,l2,l3,l4,l5⟩|⟨l1,l2,l3,l4⟩
  ·have hjm:j=m:=by
    rcases zE6 j m with r|r|r
    ·exfalso
     rcases k5 with ⟨k5,-⟩|⟨-,k5,-⟩
     ·exact k5 (l4 j r)
     ·omega
    ·exact r
    ·exfalso
     rcases l5 with ⟨l5,-⟩|⟨-,l5,-⟩
     ·exact l5 (k4 m r)
     ·omega
   subst hjm;rcases k5 with ⟨k5,k6⟩|⟨k5,k6,k7⟩<;>rcases l5 with ⟨l5,l6⟩|⟨l5,l6,l7⟩
   ·omega
   ·exact absurd l5 k5
   ·exact absurd k5 l5
   ·omega
  ·exfalso
   rcases k5 with ⟨k5,-⟩|⟨-,k5,-⟩
   ·exact k5 (l2 j k1)
   ·omega
  ·exfalso
   rcases l5 with ⟨l5,-⟩|⟨-,l5,-⟩
   ·exact l5 (k2 m l1)
   ·omega
  ·omega
theorem PaE.uniq {N n:Nat} {q:List Int} {wh:Bool} {i e i' e':Int} (a:PaE N q n wh i e) (b:PaE N q n wh i' e'):e=e':=by
 have bad:∀ {g:Nat} {e:Int},((wh=true∧q.getD g default = -1∧e=52)∨((q.getD g default < -1∨(N:Int)≤q.getD g default)∧e=50)∨(0≤q.getD g default∧q.getD g default<N∧(∃ j,j<g∧q.getD j default=q.getD g default)∧e=51))→∀ m,g<m→PaI N q m→(wh=true→∀ j,j<m→q.getD j default≠-1)→False:=by
  rintro g e (⟨h1,h2,-⟩|⟨h1,-⟩|⟨h1,h2,⟨j,h3,h4⟩,-⟩) m hm k1 k2
  ·exact k2 h1 g hm h2
  ·have:=k1.1 g hm;omega
  ·exact k1.2 j g h3 hm (by omega) h4
 rcases a with ⟨h1,-,h2⟩|⟨h1,⟨g,h2,h3,h4,h5,h6⟩|⟨h2,h3,h4,h5⟩⟩<;>rcases b with ⟨g1,-,g2⟩|⟨g1,⟨m,l2,l3,l4,l5,l6⟩|⟨l2,l3,l4,l5⟩⟩
 ·omega
 ·exact absurd g1 h1
 ·exact absurd g1 h1
 ·exact absurd h1 g1
 ·have hgm:g=m:=by
   rcases zE6 g m with r|r|r
   ·exact (bad h6 m r l4 l5).elim
   ·exact r
   ·exact (bad l6 g r h4 h5).elim
  subst hgm;rcases h6 with ⟨a1,a2,a3⟩|⟨a1,a2⟩|⟨a1,a2,a3,a4⟩<;>rcases l6 with ⟨b1,b2,b3⟩|⟨b1,b2⟩|⟨b1,b2,b3,b4⟩<;>omega
 ·exact (bad h6 n h2 l2 l3).elim
 ·exact absurd h1 g1
 ·exact (bad l6 n l2 h2 h3).elim
 ·omega
theorem PaC.uniq {p:Pb} {q:List Int} {wh:Bool} {i e i' e':Int} (a:PaC p q wh i e) (b:PaC p q wh i' e'):e=e':=by
 rcases a with ⟨h1,-,-,j,h2⟩|⟨h1,h2⟩<;>rcases b with ⟨g1,-,-,m,g2⟩|⟨g1,g2⟩
 ·exact h2.uniq g2
 ·exact absurd g1 h1
 ·exact absurd h1 g1
 ·exact h2.uniq g2
end Go.Proofs.Xx
namespace Go.Proofs.Xx
open Go Go.Proofs
abbrev Pb.wt (p:Pb) (tabs:List Tab):Pb:=⟨tabs,p.us,p.ts,p.cl,p.ru⟩
theorem qd0 {h0 h hA:AH} {rs:List Rs} {v u:PbV} {p:Pb} {tabs:List Tab} (S:Hs h0 h (pbL v (p.wt tabs) ++ rs)) (e:tabs.map (·.toC)=p.tabs.map (·.toC)) (hu:v.gs.map (·.toGu)=p.us) (K:PbZ hA u p) (F:Ky p 20):PbOk h v (p.wt tabs):=by
 have hl:=Xl e;obtain ⟨f1,f2,f3,f4,f5⟩:=F;have K2:u.gs.map (·.toGu)=p.us:=K.rol.us;refine ⟨⟨Rd.of_sl S .here,fun i hi=>?_,by show tabs.length≤_;omega,S.capS .here⟩,⟨Rd.of_sl S (.there (.there .here)),Rd.of_sl S (.there (.there (.there (.there .here)))),fun i hi=>⟨?_,?_⟩,hu,by show p.us.length≤_;omega,by show p.ts.length≤_;omega⟩,Rd.of_sl S (.there (.there (.there (.there (.there .here))))),Rd.of_sl S (.there (.there (.there (.there (.there (.there .here)))))),by show p.cl.length≤_;omega,by show p.ru.length≤_;omega⟩
 ·have hi':i<p.tabs.length:=by have:i<tabs.length:=hi;omega
  obtain ⟨fp,k⟩:=Hs.anyP (p:=fun h fp=>Star h (tabs.map Vo) fp) S (.there .here);obtain ⟨fq,q⟩:=Star.get_ (r:=Vo (tabs.getD i default)) k (zF0.2 ⟨_,qL hi,rfl⟩);refine ⟨yT q,?_,?_⟩
  ·have e1:(tb tabs i).name=(tb p.tabs i).name:=Wl e i;show (tb tabs i).name.length≤_
   rw [e1];exact (K.tt i hi').2.1
  ·have e1:(tb tabs i).opn=(tb p.tabs i).opn:=congrArg TabC.opn (wU e i);show (tb tabs i).opn.length≤_
   rw [e1];exact (K.tt i hi').2.2
 ·obtain ⟨fp,k⟩:=Hs.anyP (p:=fun h fp=>Star h (v.gs.map qct) fp) S (.there (.there (.there .here)));obtain ⟨fq,q⟩:=Star.get_ (r:=qct (v.gs.getD i default)) k (zF0.2 ⟨_,qL hi,rfl⟩);exact yT q
 ·have hgl:v.gs.length=u.gs.length:=by rw [← K2] at hu;have:=congrArg List.length hu;simpa using this
  have hi':i<u.gs.length:=by have:i<v.gs.length:=hi;omega
  have e1:(v.gs.getD i default).toGu=(u.gs.getD i default).toGu:=by
   rw [← zn (f:=fun g:Zf=>g.toGu) (show i<v.gs.length from hi),← zn (f:=fun g:Zf=>g.toGu) hi',hu,K2]
  have e2:(v.gs.getD i default).tg=(u.gs.getD i default).tg:=congrArg Gu.tg e1;show (v.gs.getD i default).tg.length≤_
  rw [e2];exact (K.rol.tg i hi').2
section
variable {l m:List Tab} (h:l.map (·.toC)=m.map (·.toC))
include h
theorem qfH {us:List Gu} {ts:List Ti} {cl:List Int} {ru:List Ru} {i e:Int}:CkP ⟨l,us,ts,cl,ru⟩ i e↔CkP ⟨m,us,ts,cl,ru⟩ i e:=by
 have hb:BO ⟨l,us,ts,cl,ru⟩↔BO ⟨m,us,ts,cl,ru⟩:=by
  constructor
  ·rintro ⟨h1,h2,h3,h4⟩;exact ⟨(Jt h).1 h1,h2,h3,by have:=h4;simp only [VO h,Xl h] at this;exact this⟩
  ·rintro ⟨h1,h2,h3,h4⟩;exact ⟨(Jt h).2 h1,h2,h3,by simp only [VO h,Xl h];exact h4⟩
 unfold CkP;rw [hb,qez h];simp only [qa7 h]
end
variable [Flag]
end Go.Proofs.Xx
namespace Go.Proofs.Xx
open Go Go.RowKit Go.Proofs
structure GstA (h:AH) (g:Zf):Prop where
 rd:qY h g.tv.val 1 eS g.tg
 cap:Qu g.tv.val
 len:g.tg.length≤maxLen
 l1:g.name.length≤maxLen
 l2:g.rank.length≤maxLen
 l3:g.court.length≤maxLen
 l4:g.diet.length≤maxLen
 l5:∀ i,i<g.tg.length→(g.tg.getD i default).length≤maxLen
 wt:g.tg.length*16≤reachBytes
 i64:(-9223372036854775808≤g.since∧g.since≤9223372036854775807)∧(-9223372036854775808≤g.side∧g.side≤9223372036854775807)
theorem GstA.ext {h h':AH} {g:Zf} (a:GstA h g) (w:WfH h) (x:Ext h h'):GstA h' g:=⟨a.rd.ext w x,a.cap,a.len,a.l1,a.l2,a.l3,a.l4,a.l5,a.wt,a.i64⟩
theorem GstA.r {h:AH} {g:Zf} (a:GstA h g):qeQ h g:=⟨a.rd,by have:=a.len;unfold maxLen at this;omega⟩
theorem qbD {x:Int} (h:(Lit.int .i64 x).wf=true) : -9223372036854775808≤x∧x≤9223372036854775807:=by
 simp [Lit.wf,IntKind.min,IntKind.max,IntKind.signed,IntKind.bits] at h
 omega
theorem AR.bool1 {P:Program} {h:AH} {n:Nat} {t:TypeId} {r:List Value} (a:AR P h n t r) (hu:P.underlying t=some .bool):∃ b:Bool,r=[.bool b]:=by
 cases n with
 | zero=>exact a.elim
 | succ n =>
  unfold AR at a;rw [hu] at a;split at a
  all_goals (first|exact a.elim|(rename_i q _;cases q;done)|(rename_i q;cases q;done)|skip)
  all_goals exact ⟨_,rfl⟩
theorem AR.strs1 {h:AH} {n:Nat} {r:List Value} (a:AR Tryz.prog h n 123 r):∃ v l,r=[v]∧qY h v 1 eS l∧(l.length≤maxLen∧l.length*Tryz.prog.bytesOf 9≤reachBytes)∧Qu v∧∀ i,i<l.length→(l.getD i default).length≤maxLen :=
 AR.slice1w (e:=9) (z:=1) eS (fun s=>s.length≤maxLen) a (by kernel_rfl) (by kernel_rfl) (fun n cs q=>by
  obtain ⟨s,hs,hl⟩:=q.str1 (by kernel_rfl);exact ⟨s,hs,hl⟩)
theorem AR.gst1 {h:AH} {n:Nat} {r:List Value} (a:AR Tryz.prog h n 125 r):∃ g,r=eG g∧GstA h g:=by
 obtain ⟨n',hl,hk⟩:=a.struct1 (m:=[(0,9),(1,9),(2,9),(3,3),(4,3),(5,9),(6,4),(7,4),(8,123)]) (z:=9) rfl (by kernel_rfl) (by kernel_rfl);match r,hl with
 | [x0,x1,x2,x3,x4,x5,x6,x7,x8],_ =>
  obtain ⟨s0,e0,h0⟩:=AR.str1 (show AR Tryz.prog h n' 9 [x0] from hk (0,9) (by simp)) (by kernel_rfl);obtain ⟨s1,e1,h1⟩:=AR.str1 (show AR Tryz.prog h n' 9 [x1] from hk (1,9) (by simp)) (by kernel_rfl);obtain ⟨s2,e2,h2⟩:=AR.str1 (show AR Tryz.prog h n' 9 [x2] from hk (2,9) (by simp)) (by kernel_rfl);obtain ⟨y3,e3,h3⟩:=AR.int1 (k:=.i64) (show AR Tryz.prog h n' 3 [x3] from hk (3,3) (by simp)) (by kernel_rfl);obtain ⟨y4,e4,h4⟩:=AR.int1 (k:=.i64) (show AR Tryz.prog h n' 3 [x4] from hk (4,3) (by simp)) (by kernel_rfl);obtain ⟨s5,e5,h5⟩:=AR.str1 (show AR Tryz.prog h n' 9 [x5] from hk (5,9) (by simp)) (by kernel_rfl);obtain ⟨b6,e6⟩:=AR.bool1 (show AR Tryz.prog h n' 4 [x6] from hk (6,4) (by simp)) (by kernel_rfl);obtain ⟨b7,e7⟩:=AR.bool1 (show AR Tryz.prog h n' 4 [x7] from hk (7,4) (by simp)) (by kernel_rfl);obtain ⟨v,l,e8,g1,g2,g3,g4⟩:=AR.strs1 (show AR Tryz.prog h n' 123 [x8] from hk (8,123) (by simp));cases e0;cases e1;cases e2;cases e3;cases e4;cases e5;cases e6;cases e7
  obtain ⟨sv,rfl⟩:=g1.isSl;cases e8
  exact ⟨⟨⟨s0,s1,s2,y3,y4,s5,b6,b7,l⟩,sv⟩,rfl,g1,g3,g2.1,h0,h1,h2,h5,g4,(show Tryz.prog.bytesOf 9=16 by kernel_rfl) ▸ g2.2,qbD h3,qbD h4⟩
theorem AR.tie1 {h:AH} {n:Nat} {r:List Value} (a:AR Tryz.prog h n 174 r):∃ t:Ti,r=Qa t∧0≤t.k∧t.k<256:=by
 obtain ⟨n',hl,hk⟩:=a.struct1 (m:=[(0,9),(1,9),(2,172)]) (z:=3) rfl (by kernel_rfl) (by kernel_rfl);match r,hl with
 | [x0,x1,x2],_ =>
  obtain ⟨s0,e0,-⟩:=AR.str1 (show AR Tryz.prog h n' 9 [x0] from hk (0,9) (by simp)) (by kernel_rfl);obtain ⟨s1,e1,-⟩:=AR.str1 (show AR Tryz.prog h n' 9 [x1] from hk (1,9) (by simp)) (by kernel_rfl);obtain ⟨y2,e2,h2⟩:=AR.int1 (k:=.u8) (show AR Tryz.prog h n' 172 [x2] from hk (2,172) (by simp)) (by kernel_rfl);cases e0;cases e1;cases e2
  have:0≤y2∧y2<256:=by
   simp [Lit.wf,IntKind.min,IntKind.max,IntKind.signed,IntKind.bits] at h2
   omega
  exact ⟨⟨s0,s1,y2⟩,rfl,this⟩
structure qf3 (h:AH) (t:Tab):Prop where
 rd:qY h t.ov 1 eI t.opn
 name:t.name.length≤maxLen
 opn:t.opn.length≤maxLen
 w8:t.opn.length*8≤reachBytes
theorem AR.tab1 {h:AH} {n:Nat} {r:List Value} (a:AR Tryz.prog h n 84 r):∃ t,r=eT t∧qf3 h t:=by
 obtain ⟨n',hl,hk⟩:=a.struct1 (m:=[(0,9),(1,82),(2,3),(3,3),(4,25),(5,3),(6,3)]) (z:=7) rfl (by kernel_rfl) (by kernel_rfl);match r,hl with
 | [x0,x1,x2,x3,x4,x5,x6],_ =>
  obtain ⟨s,e0,h0⟩:=AR.str1 (show AR Tryz.prog h n' 9 [x0] from hk (0,9) (by simp)) (by kernel_rfl);obtain ⟨y1,e1,-⟩:=AR.int1 (k:=.u8) (show AR Tryz.prog h n' 82 [x1] from hk (1,82) (by simp)) (by kernel_rfl);obtain ⟨y2,e2,-⟩:=AR.int1 (k:=.i64) (show AR Tryz.prog h n' 3 [x2] from hk (2,3) (by simp)) (by kernel_rfl);obtain ⟨y3,e3,-⟩:=AR.int1 (k:=.i64) (show AR Tryz.prog h n' 3 [x3] from hk (3,3) (by simp)) (by kernel_rfl);obtain ⟨v,l,e4,h1,h2,h3,-⟩:=AR.slice1w (e:=3) (z:=1) eI (fun _=>True) (show AR Tryz.prog h n' 25 [x4] from hk (4,25) (by simp)) (by kernel_rfl) (by kernel_rfl) (fun n cs q=>by
   obtain ⟨x,e,-⟩:=AR.int1 (k:=.i64) q (by kernel_rfl);exact ⟨x,e,trivial⟩)
  obtain ⟨y5,e5,-⟩:=AR.int1 (k:=.i64) (show AR Tryz.prog h n' 3 [x5] from hk (5,3) (by simp)) (by kernel_rfl);obtain ⟨y6,e6,-⟩:=AR.int1 (k:=.i64) (show AR Tryz.prog h n' 3 [x6] from hk (6,3) (by simp)) (by kernel_rfl);cases e0;cases e1;cases e2;cases e3;cases e5;cases e6
  obtain ⟨sv,rfl⟩:=h1.isSl;cases e4
  have w1:l.length*8≤reachBytes:=(show Tryz.prog.bytesOf 3=8 by kernel_rfl) ▸ h2.2;exact ⟨⟨s,y1,y2,y3,sv,l,y5,y6⟩,rfl,h1,h0,h2.1,w1⟩
theorem AR.ru1 {h:AH} {n:Nat} {r:List Value} (a:AR Tryz.prog h n 155 r):∃ x:Ru,r=JL x∧0≤x.k∧x.k≤255:=by
 obtain ⟨n',hl,hk⟩:=a.struct1 (m:=[(0,153),(1,3),(2,9),(3,9),(4,9),(5,3)]) (z:=6) rfl (by kernel_rfl) (by kernel_rfl);match r,hl with
 | [x0,x1,x2,x3,x4,x5],_ =>
  obtain ⟨y0,e0,h0⟩:=AR.int1 (k:=.u8) (show AR Tryz.prog h n' 153 [x0] from hk (0,153) (by simp)) (by kernel_rfl);obtain ⟨y1,e1,-⟩:=AR.int1 (k:=.i64) (show AR Tryz.prog h n' 3 [x1] from hk (1,3) (by simp)) (by kernel_rfl);obtain ⟨s2,e2,-⟩:=AR.str1 (show AR Tryz.prog h n' 9 [x2] from hk (2,9) (by simp)) (by kernel_rfl);obtain ⟨s3,e3,-⟩:=AR.str1 (show AR Tryz.prog h n' 9 [x3] from hk (3,9) (by simp)) (by kernel_rfl);obtain ⟨s4,e4,-⟩:=AR.str1 (show AR Tryz.prog h n' 9 [x4] from hk (4,9) (by simp)) (by kernel_rfl);obtain ⟨y5,e5,-⟩:=AR.int1 (k:=.i64) (show AR Tryz.prog h n' 3 [x5] from hk (5,3) (by simp)) (by kernel_rfl);cases e0;cases e1;cases e2;cases e3;cases e4;cases e5
  have:0≤y0∧y0≤255:=by
   simp [Lit.wf,IntKind.min,IntKind.max,IntKind.signed,IntKind.bits] at h0
   omega
  exact ⟨⟨y0,y1,s2,s3,s4,y5⟩,rfl,this⟩
theorem AR.int64 {h:AH} {n:Nat} {r:List Value} (a:AR Tryz.prog h n 3 r):∃ x:Int,r=[.int .i64 x]∧-9223372036854775808≤x∧x≤9223372036854775807:=by
 obtain ⟨x,e,h⟩:=a.int1 (k:=.i64) (by kernel_rfl);refine ⟨x,e,?_⟩;simp [Lit.wf,IntKind.min,IntKind.max,IntKind.signed,IntKind.bits] at h
 omega
theorem AR.intsM {h:AH} {n:Nat} {r:List Value} (a:AR Tryz.prog h n 25 r):∃ (sv:SlV) (l:List Int),r=[sv.val]∧qY h sv.val 1 eI l∧l.length≤maxLen∧Qu sv.val∧∀ x∈l,-9223372036854775808≤x∧x≤9223372036854775807:=by
 obtain ⟨v,l,e,h1,h2,h3,h4⟩:=AR.slice1w (e:=3) (z:=1) eI (fun x=>-9223372036854775808≤x∧x≤9223372036854775807) a (by kernel_rfl) (by kernel_rfl) (fun n cs q=>by
  obtain ⟨x,e,h⟩:=AR.int64 q;exact ⟨x,e,h⟩)
 obtain ⟨sv,rfl⟩:=h1.isSl;refine ⟨sv,l,e,h1,h2.1,h3,fun x hx=>?_⟩;obtain ⟨j,hj,rfl⟩:=qR.1 hx;exact h4 j hj
theorem AR.prob1 {h:AH} {n:Nat} {r:List Value} (a:AR Tryz.prog h n 28 r):∃ (v:PbV) (p:Pb),r=v.cs∧PbZ h v p:=by
 obtain ⟨n',hl,hk⟩:=a.struct1 (m:=[(0,22),(1,23),(2,24),(3,25),(4,26)]) (z:=5) rfl (by kernel_rfl) (by kernel_rfl);match r,hl with
 | [x0,x1,x2,x3,x4],_ =>
  obtain ⟨v0,tabs,e0,a1,a2,a3,a4⟩:=AR.slice1w (e:=84) (z:=7) eT (qf3 h) (show AR Tryz.prog h n' 22 [x0] from hk (0,22) (by simp)) (by kernel_rfl) (by kernel_rfl) (fun n cs q=>q.tab1);obtain ⟨v1,gs,e1,g1,g2,g3,g4⟩:=AR.slice1w (e:=125) (z:=9) eG (fun g=>GstA h g) (show AR Tryz.prog h n' 23 [x1] from hk (1,23) (by simp)) (by kernel_rfl) (by kernel_rfl) (fun n cs q=>q.gst1);obtain ⟨v2,ts,e2,t1,t2,t3,t4⟩:=AR.slice1w (e:=174) (z:=3) Qa (fun t=>0≤t.k∧t.k<256) (show AR Tryz.prog h n' 24 [x2] from hk (2,24) (by simp)) (by kernel_rfl) (by kernel_rfl) (fun n cs q=>q.tie1);obtain ⟨sc,cl,e3,c1,c2,c3,c4⟩:=AR.intsM (show AR Tryz.prog h n' 25 [x3] from hk (3,25) (by simp));obtain ⟨v4,ru,e4,r1,r2,r3,r4⟩:=AR.slice1w (e:=155) (z:=6) JL (fun x=>0≤x.k∧x.k≤255) (show AR Tryz.prog h n' 26 [x4] from hk (4,26) (by simp)) (by kernel_rfl) (by kernel_rfl) (fun n cs q=>q.ru1);obtain ⟨st,rfl⟩:=a1.isSl;obtain ⟨sg,rfl⟩:=g1.isSl;obtain ⟨si,rfl⟩:=t1.isSl;obtain ⟨sr,rfl⟩:=r1.isSl;cases e0;cases e1;cases e2;cases e3;cases e4
  have m1:=g2.1;have m2:=t2.1;have m3:=a2.1;have m5:=r2.1;have e:reachBytes=140737488351232:=rfl;unfold maxLen at m1 m2 m3 m5 c2;refine ⟨⟨st,sg,si,sc,sr,gs⟩,⟨tabs,gs.map (·.toGu),ts,cl,ru⟩,rfl,a1,fun i hi=>⟨(a4 i hi).rd,?_,?_⟩,a3,fun i hi=>?_,⟨g1,t1,fun i hi=>(g4 i hi).r,rfl,by rw [zC5];omega,by show ts.length≤_;omega⟩,g3,fun i hi=>?_,c1,r1,fun x hx=>?_,by show tabs.length≤_;omega,by show cl.length≤_;omega,by show ru.length≤_;omega⟩
  ·have:=(a4 i hi).name;unfold maxLen at this;show (tabs.getD i default).name.length≤_;omega
  ·have:=(a4 i hi).opn;unfold maxLen at this;show (tabs.getD i default).opn.length≤_;omega
  ·have:=(a4 i hi).w8;rw [e] at this;exact this
  ·have:=(g4 i hi).wt;rw [e] at this;show (gs.getD i default).tg.length≤_;omega
  ·obtain ⟨j,hj,rfl⟩:=qR.1 hx;exact r4 j hj
def Yc (a:List UInt8):List (List UInt8)→List (List UInt8)
 | []=>[a]
 | w :: r=>(a ++ w) :: r
def ji (c:UInt8):List UInt8→List (List UInt8)
 | []=>[[]]
 | x :: s=>if x=c then [] :: ji c s else Yc [x] (ji c s)
theorem kM:∀ {l:List (List UInt8)},l≠[]→Yc [] l=l
 | [],h=>absurd rfl h
 | w :: r,_=>rfl
theorem qcw {a:List UInt8}:∀ {l:List (List UInt8)},Yc a l≠[]
 | []=>by simp [Yc]
 | _ :: _=>by simp [Yc]
theorem qae {a b:List UInt8}:∀ {l:List (List UInt8)},l≠[]→Yc a (Yc b l)=Yc (a ++ b) l
 | [],h=>absurd rfl h
 | w :: r,_=>by simp [Yc]
theorem qbj {a:List UInt8}:∀ {l:List (List UInt8)},l≠[]→(Yc a l).length=l.length
 | [],h=>absurd rfl h
 | w :: r,_=>rfl
theorem Z4 (c:UInt8):∀ s,ji c s≠[]
 | []=>by simp [ji]
 | x :: s=>by
  unfold ji;split
  ·simp
  ·exact qcw
theorem Ql (c:UInt8):∀ s,(ji c s).length=s.countP (· == c)+1
 | []=>rfl
 | x :: s=>by
  unfold ji;split
  ·rename_i h;subst h;simp [Ql x s]
  ·rename_i h;rw [qbj (Z4 c s),Ql c s,List.countP_cons_of_neg (by simpa using h)]
theorem X3 {c:UInt8}:∀ {s:List UInt8},c ∉ s→ji c s=[s]
 | [],_=>rfl
 | x :: s,h=>by
  have h1:x≠c:=fun e=>h (by simp [e]);have h2:c ∉ s:=fun q=>h (List.mem_cons_of_mem _ q);rw [ji,if_neg h1,X3 h2];rfl
theorem pM {c:UInt8}:∀ {a b:List UInt8},c ∉ a→ji c (a ++ c :: b)=a :: ji c b
 | [],b,_=>by simp [ji]
 | x :: a,b,h=>by
  have h1:x≠c:=fun e=>h (by simp [e]);have h2:c ∉ a:=fun q=>h (List.mem_cons_of_mem _ q);rw [zC6,ji,if_neg h1,pM h2];rfl
theorem qcr {c:UInt8} {s w:List UInt8} (h:ji c s=[w]):s=w∧c ∉ s:=by
 have hl:=Ql c s;rw [h] at hl;have h0:s.countP (· == c)=0:=by simpa using hl.symm
 have hn:c ∉ s:=fun q=>by
  have:=List.countP_eq_zero.1 h0 c q;simp at this
 rw [X3 hn] at h;exact ⟨by simpa using h,hn⟩
theorem XE {c:UInt8}:∀ {s:List UInt8},Qh c s=none↔c ∉ s
 | []=>by simp [Qh]
 | x :: s=>by
  unfold Qh;by_cases h:x=c
  ·simp [h]
  ·simp only [if_neg h,Option.map_eq_none_iff,XE,zE7,not_or];exact ⟨fun q=>⟨fun e=>h e.symm,q⟩,fun q=>q.2⟩
theorem Zb {c:UInt8}:∀ {s:List UInt8} {m:Nat},Qh c s=some m→m<s.length∧c ∉ s.take m∧s=s.take m ++ c :: s.drop (m+1)
 | [],m,h=>by cases h
 | x :: s,m,h=>by
  unfold Qh at h;by_cases e:x=c
  ·rw [if_pos e] at h;cases h
   subst e;simp
  ·rw [if_neg e] at h;obtain ⟨k,hk,rfl⟩:=Option.map_eq_some_iff.1 h;obtain ⟨h1,h2,h3⟩:=Zb hk;refine ⟨by simpa using h1,?_,?_⟩
   ·simp only [List.take_succ_cons,zE7,not_or];exact ⟨fun q=>e q.symm,h2⟩
   ·simp only [List.take_succ_cons,List.drop_succ_cons,zC6];rw [← h3]
theorem wZ {c:UInt8} {s:List UInt8} {m:Nat} (h:Qh c s=some m):ji c s=s.take m :: ji c (s.drop (m+1)):=by
 obtain ⟨h1,h2,h3⟩:=Zb h;conv=>lhs;rw [h3]
 exact pM h2
def Xe (x:UInt8):Prop:=48≤x.toNat∧x.toNat≤57
instance (x:UInt8):Decidable (Xe x):=inferInstanceAs (Decidable (_∧_))
def zJ (s:List UInt8):Nat:=s.foldl (fun n x=>10*n+(x.toNat - 48)) 0
theorem PK (s:List UInt8) (x:UInt8):zJ (s ++ [x])=10*zJ s+(x.toNat - 48):=by simp [zJ]
theorem Yx {s:List UInt8} {i:Nat} (h:i<s.length):zJ (s.take (i+1))=10*zJ (s.take i)+((s.getD i default).toNat - 48):=by
 rw [← PK];congr 1
 rw [List.take_add_one,zA4 h];simp [List.getD,h]
def Vq (s:List UInt8):Prop:=1≤s.length∧s.length≤9∧(1<s.length→s.getD 0 default≠48)∧∀ i,i<s.length→Xe (s.getD i default)
section
variable {P:Program} {X:Extern} {inR:Bool} {sz:Nat} {L:Ks} {h h0:AH} {rs:List Rs} {ops:Array Oper} {os:List Oper} {o:Oper} {R:Ks→AH→Prop} {Q:KQ}
end
end Go.Proofs.Xx
