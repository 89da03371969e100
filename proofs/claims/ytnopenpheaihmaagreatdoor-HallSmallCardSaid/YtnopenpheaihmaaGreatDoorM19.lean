/-
  HallSmall: small tables of all shapes,texts with a word put in,seventeen tables,a long text.
-/
import Derived.Test.YtnopenpheaihmaaGreatDoorM17
import Derived.Test.YtnopenpheaihmaaGreatDoorM18
import Derived.Test.YtnopenpheaihmaaGreatDoorM7
import Derived.Test.YtnopenpheaihmaaGreatDoorRows
import Derived.Lib.LaidTab
import Derived.Stop.LaidErr
namespace Go.Proofs.Xx
open Go Go.Proofs
set_option linter.unusedSimpArgs false
set_option linter.unusedVariables false
set_option maxRecDepth 100000
set_option maxHeartbeats 4000000
def smText:List UInt8:=[116,97,98,108,101,32,115,117,110,32,114,111,117,110,100,32,54,32,48,32,51,32,52,32,48,32,53,10,116,97,98,108,101,32,109,111,111,110,32,108,111,110,103,32,50,32,49,32,48,32,49,48,48,48,10]
def smWords:List (List UInt8):=[[],[116,97,98,108,101],[115,117,110],[114,111,117,110,100],[114,111,119],[48],[48,48],[49,48,48,49],[50],[57,57,57,57,57,57,57,57,57],[49,48,48,48,48,48,48,48,48,48],[45,49],[83,117,110],[109,111,111,110,10,116,97,98,108,101]]
theorem Wl:smWords.length=14:=rfl
theorem qaN (j:Nat):(smWords.getD j default).length≤10:=by
 by_cases h:j<14
 ·have key:∀ j,j<14→(smWords.getD j default).length≤10:=by decide
  exact key j h
 ·rw [List.getD_eq_getElem?_getD,List.getElem?_eq_none (by rw [Wl];omega)];decide
def Xw (i:Nat):Tab:=⟨[116,UInt8.ofNat (97+i)],4,1+(i:Int),0,⟨none,0,0⟩,[],0,0⟩
def Q4 (i:Nat):List Tab:=(List.range i).map Xw
theorem ZZ (i:Nat):(Q4 i).length=i:=by simp [Q4]
theorem GX (i:Nat):Q4 i ++ [Xw i]=Q4 (i+1):=by simp [Q4,List.range_succ]
theorem wE {i k:Nat} (h:k<i):tb (Q4 i) k=Xw k:=by
 unfold tb Q4
 rw [List.getD_eq_getElem?_getD,List.getElem?_map,List.getElem?_range h];rfl
theorem qeH (h:AH) (i:Nat):TabR h (Xw i):=⟨Rd.none_ h 1,by simp [Xw],by simp [Xw]⟩
theorem qeI (i:Nat) (hi:i<17):FmtOk (Xw i):=by
 refine ⟨.inr (.inr (.inr rfl)),by simp [Xw],by simp [Xw],fun k hk=>?_⟩
 have hk4:k<4:=by simpa [numsOf,Xw] using hk
 match k,hk4 with
 | 0,_=>exact ⟨by show (0:Int)≤1+i;omega,by show (1+i:Int)≤1000;omega⟩
 | 1,_=>exact ⟨by show (0:Int)≤0;omega,by show (0:Int)≤1000;omega⟩
 | 2,_=>exact ⟨by show (0:Int)≤0;omega,by show (0:Int)≤1000;omega⟩
 | 3,_=>exact ⟨by show (0:Int)≤0;omega,by show (0:Int)≤1000;omega⟩
theorem qdp {i:Nat} (hi:i≤17):∀ k,k<(Q4 i).length→FmtOk (tb (Q4 i) k):=fun k hk=>by
 rw [ZZ] at hk
 rw [wE hk];exact qeI k (by omega)
theorem qea {h0 h:AH} {rs:List Rs} {u:Value} {i:Nat} (S:Hs h0 h rs) (a:At rs (.sl u 25 7 eT (Q4 i))) (hi:i≤17):HallR h u (Q4 i) :=
 ⟨Rd.zo S a,fun k hk=>by
  rw [ZZ] at hk
  rw [wE hk];exact qeH h k,by rw [ZZ];omega,S.qcZ a⟩
def kZ (s a b:Int):Tab:=⟨[120],max s 0,a,b,⟨none,0,0⟩,[],0,0⟩
theorem qfV (h:AH) (s a b:Int):TabR h (kZ s a b):=⟨Rd.none_ h 1,by simp [kZ],by simp [kZ]⟩
theorem qcL {h0 h:AH} {rs:List Rs} {u:Value} {s a b:Int} (S:Hs h0 h rs) (q:At rs (.sl u 25 7 KZ [eT (kZ s a b)])):HallR h u [kZ s a b] :=
 ⟨(
  by have k:=Rd.zo S q;exact k),fun i hi=>by
  match i,hi with
  | 0,_=>exact qfV h s a b,by simp,S.qcZ q⟩
set_option maxHeartbeats 8000000 in
theorem yG {h0:AH} (w:WfH h0):Fn Tryz.prog Xh 15 [] h0 (fun x _=>x = .bool true):=by
 have S:=Hs.start w
 refine qF rfl Tryz.func15 rfl rfl ?_
 skip
 all_goals (repeat' (first|refine qi ?_|refine qm ?_|(refine qf 0 ?_;refine mv ?_;refine qg ?_)|(refine qf 1 ?_;refine mv ?_;refine qg ?_)))
 refine qE (σ:=Int) (fun s h'=>Hs h0 h' []∧-1≤s∧s≤6) (fun s=>(6 - s).toNat) (fun s=>[(1,.int .i64 s)]) (-1) (by repeat (first|exact Ks.le_nil _|refine Ks.qh rfl ?_)) ?_ ?_
 ·exact ⟨S,by omega,by omega⟩
 clear S
 rintro s h ⟨S,hs0,hs1⟩
 all_goals (repeat' (first|refine qi ?_|refine ql rfl ?_|refine qo ?_|refine qA ?_|refine qm ?_|(refine qf 2 ?_;refine mv ?_;(first|(refine cS ?_ ?_<;>intro hc))<;>(refine qg ?_))|(refine qf 4 ?_;refine mv ?_;refine qg ?_)))
 ·have hs:s≤5:=by omega
  refine qE (σ:=Int) (fun a h'=>Hs h0 h' []∧-1≤a∧a≤26) (fun a=>(26 - a).toNat) (fun a=>[(1,.int .i64 s),(2,.int .i64 a)]) (-1) (by repeat (first|exact Ks.le_nil _|refine Ks.qh rfl ?_)) ?_ ?_
  ·exact ⟨S,by omega,by omega⟩
  clear S
  rintro a h ⟨S,ha0,ha1⟩
  all_goals (repeat' (first|refine qi ?_|refine ql rfl ?_|refine qo ?_|refine qA ?_|refine qm ?_|(refine qf 5 ?_;refine mv ?_;(first|(refine cS ?_ ?_<;>intro hc))<;>(refine qg ?_))|(refine qf 7 ?_;refine mv ?_;refine qg ?_)))
  ·have ha:a≤25:=by omega
   refine qE (σ:=Int) (fun b h'=>Hs h0 h' []∧-1≤b∧b≤26) (fun b=>(26 - b).toNat) (fun b=>[(1,.int .i64 s),(2,.int .i64 a),(3,.int .i64 b)]) (-1) (by repeat (first|exact Ks.le_nil _|refine Ks.qh rfl ?_)) ?_ ?_
   ·exact ⟨S,by omega,by omega⟩
   clear S
   rintro yb h ⟨S,hb0,hb1⟩
   all_goals (repeat' (first|refine qi ?_|refine ql rfl ?_|refine qo ?_|refine qA ?_|refine qm ?_|(refine qf 8 ?_;refine mv ?_;(first|(refine cS ?_ ?_<;>intro hc))<;>(refine qg ?_))))
   ·have hb:yb≤25:=by omega
    skip
    all_goals (repeat' (first|refine qi ?_|(refine qf 10 ?_;refine mv ?_;refine mx ?_;refine cU ?_;refine mv ?_;refine mv ?_;refine vl ?_;(refine al S ?_;clear S;intro b h S);(first|(refine sB S rfl rfl ?_;clear S;intro h S));refine qg ?_)|(refine qf 11 ?_;refine lB S rfl rfl ?_)))
    (refine qw rfl rfl rfl rfl rfl ((jc S.wf (kZ s a yb)).mono ?_);rintro _ h ⟨rfl,x⟩)<;>(replace S:=S.qy x;clear x;refine mv ?_;refine qg ?_)
    (repeat (refine qi ?_));first|refine Vu (σ:=Unit) (fun _ h'=>Hs h0 h' []) (fun _=>[(1,.int .i64 s),(2,.int .i64 a),(3,.int .i64 yb),(52,.bool false)]) ?_ ?_
    ·all_goals (repeat' (first|(refine qf 12 ?_;refine lB S rfl rfl ?_;(refine one 7 S ?_;clear S;intro u h S))))
     have H:=qcL (s:=s) (a:=a) (b:=yb) S .here
     (refine qw rfl rfl rfl rfl rfl ((kR S.wf _ _ H [120] 0).mono ?_);rintro _ h ⟨rfl,x⟩)<;>(replace S:=S.qy x;clear x;refine vl ?_;refine mv ?_;refine mv ?_;(first|(first|(refine cS ?_ ?_<;>intro hc)))<;>((refine mv ?_);(first|refine off ?_|refine mv ?_);(first|refine off ?_|(first|(refine cS ?_ ?_<;>intro hc)))<;>((refine vl ?_);refine mv ?_;(first|refine off ?_|(refine lB S rfl rfl ?_));(first|refine off ?_|refine mv ?_);(first|(refine off ?_;refine off ?_;refine vl ?_;refine vl ?_;refine qg ?_)|skip))))
     ·(refine qw rfl rfl rfl rfl rfl ((qdz S.wf (kZ s a yb) (by simp [kZ]) (qC (kZ s a yb)) (by omega)).mono ?_);rintro _ h ⟨rfl,x⟩)<;>(replace S:=S.qy x;clear x;refine vl ?_;refine vl ?_;refine vl ?_;refine qg ?_)
      exact ⟨(),S.drop.drop,((by repeat (first|exact Ks.le_nil _|refine Ks.qh rfl ?_)))⟩
     ·exact ⟨(),S.drop.drop,((by repeat (first|exact Ks.le_nil _|refine Ks.qh rfl ?_)))⟩
     ·exact ⟨(),S.drop.drop,((by repeat (first|exact Ks.le_nil _|refine Ks.qh rfl ?_)))⟩
    clear S
    rintro - h S
    all_goals (repeat' (first|refine ql rfl ?_|refine qo ?_|(refine qf 9 ?_;refine mv ?_;refine ad ?_;refine mv ?_;refine qg ?_)))
    refine ⟨yb+1,?_,?_,(by repeat (first|exact Ks.le_nil _|refine Ks.qh rfl ?_))⟩
    ·show (26 - (yb+1)).toNat<(26 - yb).toNat;omega
    ·exact ⟨S,by omega,by omega⟩
   ·skip
    all_goals (repeat' (first|(refine qf 6 ?_;refine mv ?_;refine ad ?_;refine mv ?_;refine qg ?_)))
    refine ⟨a+1,?_,?_,(by repeat (first|exact Ks.le_nil _|refine Ks.qh rfl ?_))⟩
    ·show (26 - (a+1)).toNat<(26 - a).toNat;omega
    ·exact ⟨S,by omega,by omega⟩
  ·skip
   all_goals (repeat' (first|(refine qf 3 ?_;refine mv ?_;refine ad ?_;refine mv ?_;refine qg ?_)))
   refine ⟨s+1,?_,?_,(by repeat (first|exact Ks.le_nil _|refine Ks.qh rfl ?_))⟩
   ·show (6 - (s+1)).toNat<(6 - s).toNat;omega
   ·exact ⟨S,by omega,by omega⟩
 skip
 all_goals (repeat' (first|refine qi ?_|(refine qf 14 ?_;refine mv ?_;refine qg ?_)|(refine qf 15 ?_;skip)))
 refine Gj (z:=1) eS smWords S ?_;clear S;intro uw h S
 refine mv ?_;refine qg ?_
 all_goals (repeat' (first|refine qi ?_|refine qm ?_|(refine qf 16 ?_;refine mv ?_;refine qg ?_)))
 have htl:smText.length=55:=rfl
 refine qE (σ:=Nat) (fun i h'=>Hs h0 h' [.sl uw 9 1 eS smWords]∧i≤56) (fun i=>56 - i) (fun i=>[(6,str smText),(7,uw),(8,.int .i64 i)]) 0 (by repeat (first|exact Ks.le_nil _|refine Ks.qh rfl ?_)) ?_ ?_
 ·exact ⟨S,by omega⟩
 clear S
 rintro i h ⟨S,hi⟩
 all_goals (repeat' (first|refine qi ?_|refine ql rfl ?_|refine qo ?_|refine qA ?_|refine qm ?_|(refine qf 17 ?_;refine mv ?_;refine mv ?_;refine tl ?_;(first|(refine cS ?_ ?_<;>intro hc))<;>(refine qg ?_))))
 ·have hi5:i≤55:=by omega
  skip
  all_goals (repeat' (first|refine qm ?_|(refine qf 19 ?_;refine mv ?_;refine ZC S rfl rfl ?_;refine mv ?_;refine qg ?_)))
  refine qE (σ:=Nat) (fun j h'=>Hs h0 h' [.sl uw 9 1 eS smWords]∧j≤14) (fun j=>14 - j) (fun j=>[(6,str smText),(7,uw),(8,.int .i64 i),(60,uw),(61,.int .i64 14),(62,.int .i64 j)]) 0 (by repeat (first|exact Ks.le_nil _|refine Ks.qh rfl ?_)) ?_ ?_
  ·exact ⟨S,by omega⟩
  clear S
  rintro j h ⟨S,hj⟩
  all_goals (repeat' (first|refine qi ?_|refine ql rfl ?_|refine qo ?_|refine qA ?_|refine qm ?_|(refine qf 20 ?_;(first|(refine cS ?_ ?_<;>intro hc))<;>(refine qg ?_))))
  ·have hj4:j<smWords.length:=by rw [Wl];omega
   skip
   all_goals (repeat' (first|refine qi ?_|(refine qf 21 ?_;refine qH S rfl rfl ?_;refine qI S rfl rfl ?_;refine mv ?_;refine qg ?_)))
   have hwl:=qaN j
   (try simp only [Int.toNat_natCast])
   generalize smWords.getD j default=wd at hwl
   obtain ⟨m,hmin,hm1⟩:∃ m:Nat,min ((i:Int)+1) (smText.length:Int)=m∧m≤55:=⟨min (i+1) 55,by rw [htl];omega,by omega⟩
   all_goals (repeat' (first|(refine qO 22 ?_;refine mv ?_;refine mv ?_;refine tsl ?_;refine mv ?_;refine tc ?_;refine mv ?_;refine mv ?_;refine tsl ?_;refine tc ?_)))
   (refine qw rfl rfl rfl rfl rfl ((Za S.wf _).mono ?_);rintro _ h ⟨rfl,x⟩)<;>(replace S:=S.qy x;clear x;refine vl ?_;(iterate 3 refine mv ?_);(first|(refine tsl ?_));refine mv ?_;refine tc ?_;refine mv ?_;refine mv ?_;(first|(refine ad ?_));refine mv ?_;refine tl ?_;refine mn ?_;(first|(first|(simp only [hmin];refine tsl ?_)));refine tc ?_;(skip))
   (refine qw rfl rfl rfl rfl rfl ((Za S.wf _).mono ?_);rintro _ h ⟨rfl,x⟩)<;>(replace S:=S.qy x;clear x;refine vl ?_;refine vl ?_;(iterate 3 refine mv ?_);(first|(refine tsl ?_));(skip))
   (refine qw rfl rfl rfl rfl rfl ((Za S.wf _).mono ?_);rintro _ h ⟨rfl,x⟩)<;>(replace S:=S.qy x;clear x;refine vl ?_;refine vl ?_;refine qg ?_)
   all_goals (repeat' (first|refine ql rfl ?_|refine qo ?_|(refine qf 24 ?_;refine ad ?_;refine mv ?_;refine qg ?_)))
   refine ⟨j+1,?_,?_,(by repeat (first|exact Ks.le_nil _|refine Ks.qh rfl ?_))⟩
   ·show 14 - (j+1)<14 - j;omega
   ·exact ⟨S,by omega⟩
  ·skip
   all_goals (repeat' (first|(refine qf 18 ?_;refine mv ?_;refine ad ?_;refine mv ?_;refine qg ?_)))
   refine ⟨i+1,?_,?_,(by repeat (first|exact Ks.le_nil _|refine Ks.qh rfl ?_))⟩
   ·show 56 - (i+1)<56 - i;omega
   ·exact ⟨S,by omega⟩
 clear hi
 skip
 all_goals (repeat' (first|refine qi ?_|refine qm ?_|(refine qf 25 ?_;refine mv ?_;refine qg ?_)|(refine qf 26 ?_;refine mv ?_;refine qg ?_)))
 replace S:=S.drop.jP (e:=25) (z:=7) (enc:=eT)
 refine qE (σ:=Nat×Value) (fun (i,v) h'=>Hs h0 h' [.sl v 25 7 eT (Q4 i)]∧i≤17) (fun (i,v)=>17 - i) (fun (i,v)=>[(11,v),(102,.int .i64 i)]) (0,.slice none 0 0) (by repeat (first|exact Ks.le_nil _|refine Ks.qh rfl ?_)) ?_ ?_
 ·exact ⟨S,by omega⟩
 clear S
 rintro ⟨i,v⟩ h ⟨S,hi⟩
 all_goals (repeat' (first|refine qi ?_|refine ql rfl ?_|refine qo ?_|refine qA ?_|refine qm ?_|(refine qf 27 ?_;(first|(refine cS ?_ ?_<;>intro hc))<;>(refine qg ?_))))
 ·have hi5:i≤16:=by omega
  skip
  all_goals (repeat' (first|refine qi ?_|(refine qf 28 ?_;refine mv ?_;refine mv ?_;refine qg ?_)|(refine qf 29 ?_;refine mv ?_;refine mv ?_;refine ad ?_)))
  refine qhY ?_
  obtain ⟨k,hk⟩:∃ k:Nat,(97:Int)+(i:Int)=k:=⟨97+i,by omega⟩
  have hk2:k=97+i:=by omega
  simp only [hk]
  refine cR (n:=k) ?_ (by omega)
  subst hk2
  refine tc ?_;refine mv ?_;refine ad ?_;refine vl ?_;(refine one 7 S ?_;clear S;intro u h S)
  have hl:=ZZ i
  refine app (y0:=Xw i) S rfl rfl ?_;clear S;intro v h S;rw [GX] at S;refine mv ?_;refine qg ?_
  have H:=qea S .here (by omega)
  have hl1:=ZZ (i+1)
  have hl17:(Q4 (i+1)).length≤17:=by omega
  all_goals (repeat' (first|refine qi ?_|(refine qf 30 ?_;refine mv ?_;refine mv ?_)))
  (refine qw rfl rfl rfl rfl rfl ((kR S.wf _ _ H [116,99] i).mono ?_);rintro _ h ⟨rfl,x⟩)<;>(replace H:=H.ext S.wf x.ext;replace S:=S.qy x;clear x;refine vl ?_;refine mv ?_;refine mv ?_;(skip))
  (refine qw rfl rfl rfl rfl rfl ((yI S.wf _ _ H).mono ?_);rintro _ h ⟨rfl,x⟩)<;>(replace H:=H.ext S.wf x.ext;replace S:=S.qy x;clear x;refine vl ?_;refine vl ?_;refine mv ?_;refine mv ?_;(first|(first|(refine cS ?_ ?_<;>intro hc)))<;>((refine mv ?_);(first|refine off ?_|refine mv ?_);(first|(refine off ?_;(first|(refine off ?_;refine off ?_;refine vl ?_;refine vl ?_;refine qg ?_)))|skip)))
  ·(refine qw rfl rfl rfl rfl rfl ((Yr S.wf _ _ H hl17 (qdp (by omega))).mono ?_);rintro _ h ⟨rfl,x⟩)<;>(replace S:=S.qy x;clear x;(skip))
   (refine qw rfl rfl rfl rfl rfl ((Za S.wf _).mono ?_);rintro _ h ⟨rfl,x⟩)<;>(replace S:=S.qy x;clear x;refine vl ?_;refine vl ?_;refine vl ?_;refine qg ?_)
   all_goals (repeat' (first|refine ql rfl ?_|refine qo ?_|(refine qf 32 ?_;refine ad ?_;refine mv ?_;refine qg ?_)))
   refine ⟨(i+1,_),?_,?_,(by repeat (first|exact Ks.le_nil _|refine Ks.qh rfl ?_))⟩
   ·show 17 - (i+1)<17 - i;omega
   ·exact ⟨S,by omega⟩
  ·all_goals (repeat' (first|refine ql rfl ?_|refine qo ?_|(refine qf 32 ?_;refine ad ?_;refine mv ?_;refine qg ?_)))
   refine ⟨(i+1,_),?_,?_,(by repeat (first|exact Ks.le_nil _|refine Ks.qh rfl ?_))⟩
   ·show 17 - (i+1)<17 - i;omega
   ·exact ⟨S,by omega⟩
 clear hi
 skip
 all_goals (repeat' (first|(refine qf 33 ?_;skip)))
 refine VJ (z:=1) (by_:=1) (enc:=eU) (y0:=0) S rfl rfl rfl rfl rfl rfl rfl rfl rfl (by intro _;rfl) (by first|omega) rfl rfl ?_;clear S;intro v h S;obtain ⟨bs,hbs⟩:∃ l,l=List.replicate (65537:Int).toNat 0:=⟨_,rfl⟩;rw [← hbs] at S;refine mv ?_;refine qg ?_
 have hbl:bs.length=65537:=by rw [hbs,List.length_replicate];rfl
 clear hbs
 obtain ⟨vb,hnm⟩:∃ x,x=v:=⟨_,rfl⟩;subst hnm
 all_goals (repeat' (first|refine qi ?_|refine qm ?_|(refine qf 34 ?_;refine mv ?_;refine ZC S rfl rfl ?_;refine mv ?_;refine qg ?_)))
 rw [hbl]
 replace S:=S.only .here
 refine qE (σ:=Nat×List Nat) (fun (j,l) h'=>Hs h0 h' [.sl vb 5 1 eU l]∧l.length=65537∧j≤65537) (fun (j,l)=>65537 - j) (fun (j,l)=>[(13,vb),(138,.int .i64 ((65537:Nat):Int)),(139,.int .i64 j)]) (0,bs) (by repeat (first|exact Ks.le_nil _|refine Ks.qh rfl ?_)) ?_ ?_
 ·exact ⟨S,hbl,by omega⟩
 clear S
 rintro ⟨j,l⟩ h ⟨S,hll,hj⟩
 clear hbl
 all_goals (repeat' (first|refine qi ?_|refine ql rfl ?_|refine qo ?_|refine qA ?_|refine qm ?_|(refine qf 35 ?_;(first|(refine cS ?_ ?_<;>intro hc))<;>(refine qg ?_))))
 ·have hj5:j<l.length:=by omega
  skip
  all_goals (repeat' (first|(refine qf 36 ?_;refine mv ?_;refine mv ?_;refine qg ?_)|(refine qf 37 ?_;refine mv ?_;refine mv ?_;refine qH S rfl rfl ?_;(first|(refine ZK S rfl rfl ?_;clear S;intro h S));refine qg ?_)))
  all_goals (repeat' (first|(refine qf 38 ?_;refine ad ?_;refine mv ?_;refine qg ?_)))
  refine ⟨(j+1,l.set j 10),?_,?_,(by repeat (first|exact Ks.le_nil _|refine Ks.qh rfl ?_))⟩
  ·show 65537 - (j+1)<65537 - j;omega
  ·exact ⟨S,by rw [List.length_set];exact hll,by omega⟩
 skip
 all_goals (repeat' (first|(refine qf 39 ?_;refine mv ?_)))
 refine bS (Rd.zo S .here) ?_
 skip
 (refine qw rfl rfl rfl rfl rfl ((Za S.wf _).mono ?_);rintro _ h ⟨rfl,x⟩)<;>(replace S:=S.qy x;clear x;refine mv ?_;refine mv ?_;(first|(refine dr S rfl rfl ?_;clear S;intro vq S));(skip))
 refine bS (Rd.zo S .here) ?_
 (skip)
 (refine qw rfl rfl rfl rfl rfl ((Za S.wf _).mono ?_);rintro _ h ⟨rfl,x⟩)<;>(replace S:=S.qy x;clear x;refine vl ?_;refine mv ?_;(skip))
 (refine qw rfl rfl rfl rfl rfl ((Za S.wf _).mono ?_);rintro _ h ⟨rfl,x⟩)<;>(replace S:=S.qy x;clear x;refine vl ?_;refine mv ?_;(skip))
 (refine qw rfl rfl rfl rfl rfl ((qeo).mono ?_);rintro _ h ⟨rfl,rfl⟩)<;>(refine vl ?_;refine mv ?_;refine qg ?_)
 all_goals (repeat' (fail))
 refine qx ⟨_,rfl,?_⟩
 rfl
theorem yH (h:AH) (us:List Value) (w:WfH h) (a:ArgsR Tryz.prog h Tryz.f15.params.toList us):Fn Tryz.prog Xh 15 us h (fun x _=>x = .bool true):=by
 rw [show Tryz.f15.params.toList=[] by kernel_rfl] at a
 obtain rfl:=a.QK
 exact yG w
end Go.Proofs.Xx
namespace Go.Proofs.Xx
open Go Go.RowKit Go.Proofs
theorem qfy (f:FuncId) (h1:f≠21) (h2:f≠200) (h3:f≠224) (h4:f≠111) (h5:f≠108) (h6:f≠121) (h7:f≠228) (us:List Value) (h:AH):Xh f us h=none:=by
 have e:∀ n,f≠n→Nat.beq f n=false:=fun n q=>by rw [Bool.eq_false_iff];intro q';exact q (Nat.eq_of_beq_eq_true q')
 unfold Xh YS ZX XT withBytes zU
 simp only [e _ h1,e _ h2,e _ h3,e _ h4,e _ h5,e _ h6,e _ h7]
theorem gDe:Tryz.prog.globalNamed "math/bits.deBruijn32tab" = some 2:=by kernel_rfl
theorem qfm:(Tryz.prog.globals[2]?).map (·.type)=some 211:=by kernel_rfl
theorem qbk {W:World} {b o:Nat} {v:Value} (h:W.cell? ⟨b,o,none⟩=some v):∃ (k:Nat) (cc:Array Value) (el:TypeId) (fr:Nat×Nat),W.heap[k]? = some (.cells cc el fr):=by
 unfold World.cell? at h
 split at h
 ·rename_i c e f hc;exact ⟨b,c,e,f,hc⟩
 ·cases h
theorem qaw {W:World} {rest:List (String×DataW Unit)} (h:laidMet Tryz.prog (("math/bits.deBruijn32tab", YtnopenpheaihmaaGreatDoor.Rows.laid_math_bits_deBruijn32tab) :: rest) W) :
 ∃ (k:Nat) (cc:Array Value) (el:TypeId) (fr:Nat×Nat),W.heap[k]? = some (.cells cc el fr):=by
 have t:Lib.TabIs Tryz.prog W "math/bits.deBruijn32tab" .u8 [0,1,28,2,29,14,24,3,30,22,20,15,25,17,4,8,31,27,13,23,21,19,16,7,26,12,18,6,11,5,10,9] :=
  Lib.tabIs_of_head gDe qfm (n:=32) (e:=5) (by kernel_rfl) (by kernel_rfl) (by kernel_rfl) (by kernel_rfl) h
 exact qbk (t.cell gDe 0 (by decide))
theorem qeb:(Tryz.prog.globals[1]?).map (·.type)=some 206:=by kernel_rfl
theorem PU {W:World} {x y:String×DataW Unit} {rest:List (String×DataW Unit)} (h:laidMet Tryz.prog (x :: y :: ("internal/strconv.uint64pow10", YtnopenpheaihmaaGreatDoor.Rows.laid_internal_strconv_uint64pow10) :: rest) W) :
 Glob.ok W.heap.size W.heap:=by
 have t:Lib.TabIs Tryz.prog W "internal/strconv.uint64pow10" .u64 Lib.pow10Tab :=
  Lib.tabIs_of_head qgo qeb (n:=20) (e:=177) (by kernel_rfl) (by kernel_rfl) (by kernel_rfl) (by kernel_rfl) (laidMet.tail (laidMet.tail h))
 unfold Lib.TabIs World.var? at t
 rw [qgo] at t
 simp only [Option.bind_some] at t
 split at t
 ·rename_i cs el fr hc
  cases t
  exact ⟨(Array.getElem?_eq_some_iff.1 hc).1,el,fr,hc⟩
 ·cases t
end Go.Proofs.Xx
